/- Part 6 of what the proofs of these rest on: Pages, None, Open. -/
import Derived.Test.YtihpkgmfkbkffaaGreatZA
import Derived.Test.YtihpkgmfkbkffaaGreatChecked
import Derived.Test.YtihpkgmfkbkffaaGreatZC
import Derived.Test.YtihpkgmfkbkffaaGreatZB
set_option linter.unusedVariables false
set_option linter.unusedSimpArgs false
set_option linter.unusedSectionVars false
section
namespace Go.Proofs.YtihpkgmfkbkffaaGreat.Sx
open Go Go.Sx
def VH:aE:=[
 (1,.one (.func #[] #[] false)),
 (2,.one (.int .i64)),
 (3,.one (.int .i64)),
 (4,.one .bool),
 (5,.one (.int .u8)),
 (6,.one (.int .u8)),
 (7,.struct [(0,1),(1,1),(2,1),(3,1)] 4),
 (8,.struct [(0,1),(1,1),(2,1),(3,1)] 4),
 (9,.one .string),
 (10,.one .string),
 (11,.one .string),
 (12,.one (.int .u64)),
 (13,.struct [(0,1),(1,1)] 2),
 (14,.struct [(0,1),(1,1)] 2),
 (15,.one (.pointer 283)),
 (16,.one (.pointer 286)),
 (17,.one (.pointer 295)),
 (18,.struct [(0,1)] 1),
 (19,.struct [(0,1)] 1),
 (20,.one (.interface #[])),
 (21,.one (.int .i32)),
 (22,.slice 3 1),
 (23,.one (.func #[] #[4] false)),
 (24,.one (.pointer 110)),
 (25,.one (.func #[107] #[24] false)),
 (26,.one (.pointer 30)),
 (27,.slice 5 1),
 (28,.arr 96 27 1),
 (29,.struct [(0,96),(96,1)] 97),
 (30,.struct [(0,96),(96,1)] 97),
 (31,.one (.int .i64)),
 (32,.one (.func #[24,2,9,36] #[31] false)),
 (33,.one (.func #[3] #[9] false)),
 (34,.one (.float .f64)),
 (35,.struct [(0,1),(1,1),(2,1)] 3),
 (36,.struct [(0,1),(1,1),(2,1)] 3),
 (38,.one (.func #[24,2] #[3,31] false)),
 (39,.slice 60 4),
 (41,.one (.func #[107,2,9,9] #[39,31] false)),
 (43,.one (.func #[107,2,9] #[36,31] false)),
 (45,.one (.func #[39,9] #[36,4] false)),
 (46,.one (.func #[36,36] #[4] false)),
 (47,.one (.func #[22,22,3] #[4] false)),
 (48,.one (.func #[22] #[4] false)),
 (49,.one (.int .u64)),
 (50,.one (.func #[24] #[3,31] false)),
 (51,.one (.func #[39,39] #[4] false)),
 (52,.one (.func #[22,22] #[4] false)),
 (53,.slice 56 7),
 (54,.one (.func #[9,3] #[9] false)),
 (55,.struct [(0,1),(1,1),(2,1),(3,1),(4,3)] 7),
 (56,.struct [(0,1),(1,1),(2,1),(3,1),(4,3)] 7),
 (57,.one (.func #[36] #[36] false)),
 (58,.one (.func #[53,53,4] #[4] false)),
 (59,.struct [(0,1),(1,3)] 4),
 (60,.struct [(0,1),(1,3)] 4),
 (61,.one (.func #[3,4] #[4] false)),
 (62,.one (.pointer 65)),
 (63,.slice 70 5),
 (64,.struct [(0,1),(1,1)] 2),
 (65,.struct [(0,1),(1,1)] 2),
 (66,.one (.func #[9] #[3] false)),
 (67,.one (.func #[9] #[4] false)),
 (68,.one (.func #[36] #[4] false)),
 (69,.struct [(0,1),(1,1),(2,3)] 5),
 (70,.struct [(0,1),(1,1),(2,3)] 5),
 (71,.one (.func #[56] #[] false)),
 (72,.one (.func #[2] #[39] false)),
 (73,.one (.func #[39,9,9] #[39] false)),
 (74,.one (.func #[2,4] #[3] false)),
 (75,.one (.func #[107] #[4] false)),
 (76,.one (.func #[53] #[4] false)),
 (77,.one (.func #[39,9,36] #[39] false)),
 (78,.one (.func #[2,4] #[] false)),
 (79,.one (.func #[22,22,4,4,4] #[4] false)),
 (80,.one (.func #[27] #[27] false)),
 (81,.arr 32 3 1),
 (82,.struct [(0,1),(1,1),(2,1),(3,32)] 35),
 (83,.struct [(0,1),(1,1),(2,1),(3,32)] 35),
 (84,.one (.pointer 134)),
 (85,.one (.func #[107,83] #[84] false)),
 (87,.one (.func #[3] #[27,31] false)),
 (88,.one (.func #[22,27] #[4] false)),
 (90,.one (.func #[107,9] #[84,31] false)),
 (91,.slice 9 1),
 (92,.slice 83 35),
 (93,.struct [(0,1),(1,1)] 2),
 (94,.struct [(0,1),(1,1)] 2),
 (96,.one (.func #[94,9] #[94,31] false)),
 (97,.one (.func #[94] #[27,31] false)),
 (98,.one (.func #[94,9] #[3] false)),
 (99,.one (.func #[91,3,9] #[4] false)),
 (100,.one (.func #[101] #[] false)),
 (101,.slice 143 2),
 (102,.one (.func #[] #[101] false)),
 (104,.one (.func #[107,101] #[101,31] false)),
 (105,.one (.func #[53,53] #[4] false)),
 (106,.one (.interface #[("Page",87)])),
 (107,.one (.interface #[("Page",87)])),
 (108,.one (.map 3 9)),
 (109,.struct [(0,1),(1,1)] 2),
 (110,.struct [(0,1),(1,1)] 2),
 (111,.one (.func #[2] #[4] false)),
 (112,.struct [(0,1),(1,3),(4,1),(5,3)] 8),
 (113,.struct [(0,1),(1,3),(4,1),(5,3)] 8),
 (115,.one (.func #[107,9] #[113,4,31] false)),
 (116,.one (.func #[24,113] #[31] false)),
 (117,.one (.func #[113,2,36] #[113] false)),
 (119,.one (.func #[24,9] #[4,31] false)),
 (120,.one (.func #[24,111,121] #[3,31] false)),
 (121,.one (.func #[113] #[113,4] false)),
 (122,.slice 113 8),
 (124,.one (.func #[107,9,9] #[122,31] false)),
 (125,.one (.func #[113,2] #[36] false)),
 (126,.one (.func #[34] #[2] false)),
 (127,.one (.int .u64)),
 (128,.one (.func #[34] #[127] false)),
 (129,.one (.func #[34,34] #[4] false)),
 (130,.one (.func #[34] #[34] false)),
 (131,.one (.func #[9,9,9] #[4] false)),
 (132,.one (.func #[107] #[31] false)),
 (133,.struct [(0,1),(1,35)] 36),
 (134,.struct [(0,1),(1,35)] 36),
 (135,.one (.func #[27] #[94,31] false)),
 (136,.one (.func #[92] #[92] false)),
 (137,.one (.func #[94] #[4] false)),
 (138,.one (.func #[27,2] #[27] false)),
 (139,.one (.func #[27,9] #[27] false)),
 (140,.one (.func #[92,141] #[3] false)),
 (141,.one (.func #[83] #[4] false)),
 (142,.struct [(0,1),(1,1)] 2),
 (143,.struct [(0,1),(1,1)] 2),
 (144,.one (.func #[146] #[22] false)),
 (145,.one (.func #[196] #[] false)),
 (146,.one (.func #[196] #[] false)),
 (147,.one (.func #[108] #[146] false)),
 (148,.one (.func #[101] #[4] false)),
 (149,.one (.func #[1] #[31] false)),
 (150,.one (.pointer 154)),
 (151,.one (.func #[107] #[94] false)),
 (152,.one (.map 3 27)),
 (153,.struct [(0,1),(1,2),(3,1)] 4),
 (154,.struct [(0,1),(1,2),(3,1)] 4),
 (155,.one (.func #[2] #[] false)),
 (156,.one (.func #[34] #[4] false)),
 (157,.one (.func #[107] #[3] false)),
 (158,.struct [(0,1),(1,1),(2,1),(3,1)] 4),
 (159,.struct [(0,1),(1,1),(2,1),(3,1)] 4),
 (160,.one (.func #[107,3] #[159] false)),
 (162,.one (.func #[159,9] #[3,4] false)),
 (163,.one (.func #[159,9] #[3] false)),
 (164,.one (.func #[31] #[] false)),
 (165,.one (.func #[113] #[4] false)),
 (166,.one (.func #[24,173] #[31] false)),
 (167,.one (.func #[24] #[3] false)),
 (168,.one (.func #[24,3] #[] false)),
 (169,.one (.func #[24,3,159] #[] false)),
 (170,.struct [(0,1),(1,1)] 2),
 (171,.struct [(0,1),(1,1)] 2),
 (172,.one (.func #[24,3,113,3] #[171] false)),
 (173,.one (.func #[24] #[] false)),
 (175,.one (.func #[24,3,9,3] #[4,4] false)),
 (177,.one (.func #[3,27] #[31] false)),
 (178,.one (.pointer 182)),
 (180,.one (.func #[107] #[178,31] false)),
 (181,.struct [(0,1),(1,1),(2,1)] 3),
 (182,.struct [(0,1),(1,1),(2,1)] 3),
 (183,.one (.func #[127] #[34] false)),
 (184,.one (.func #[107,3,186,4] #[3] false)),
 (185,.struct [(0,1),(1,1)] 2),
 (186,.struct [(0,1),(1,1)] 2),
 (187,.one (.func #[107,3] #[4,31] false)),
 (188,.one (.func #[4,31] #[] false)),
 (189,.one (.func #[22,3] #[4] false)),
 (191,.one (.func #[27] #[2,3,31] false)),
 (193,.one (.func #[27] #[83,3] false)),
 (194,.one (.func #[27,27] #[4] false)),
 (195,.one (.func #[22] #[] false)),
 (196,.one (.func #[3] #[4] false)),
 (197,.struct [(0,1)] 1),
 (198,.struct [(0,1)] 1),
 (199,.one (.func #[107,3] #[27] false)),
 (201,.one (.func #[3,22] #[] false)),
 (202,.one (.func #[107] #[3,31] false)),
 (204,.one (.func #[27] #[159,31] false)),
 (205,.one (.func #[122,9,207] #[3,4] false)),
 (206,.one (.func #[9,9] #[3] false)),
 (207,.one (.func #[113,9] #[3] false)),
 (208,.one (.func #[159] #[4] false)),
 (209,.one (.func #[91,9] #[3,4] false)),
 (210,.one (.func #[24,3] #[31] false)),
 (211,.one (.func #[159] #[27,31] false)),
 (212,.one (.func #[122,3,122] #[122] true)),
 (213,.one (.func #[24,3,159] #[171] false)),
 (214,.one (.func #[91,3,91] #[91] true)),
 (215,.one (.func #[22,3,22] #[22] true)),
 (216,.one (.func #[122,3,3] #[122] false)),
 (217,.one (.func #[24,3,159,3] #[4] false)),
 (218,.one (.func #[22,3,3] #[22] false)),
 (219,.one (.func #[91,3,3] #[91] false)),
 (220,.one (.func #[3] #[31] false)),
 (221,.one (.func #[3] #[] false)),
 (222,.one (.func #[107] #[27,31] false)),
 (223,.one (.func #[27,3] #[4] false)),
 (224,.one (.func #[22,3] #[3] false)),
 (226,.one (.func #[27] #[9,3,31] false)),
 (227,.one (.func #[22,146] #[22] false)),
 (228,.one (.func #[22,3,3,3] #[] false)),
 (229,.one (.func #[49] #[3] false)),
 (230,.one (.func #[83,3] #[4] false)),
 (231,.one (.func #[94] #[3,4] false)),
 (232,.one (.pointer 234)),
 (233,.struct [(0,1),(1,1)] 2),
 (234,.struct [(0,1),(1,1)] 2),
 (235,.one (.func #[] #[2] false)),
 (237,.one (.func #[27] #[113,3,31] false)),
 (238,.one (.func #[3,31] #[] false)),
 (239,.one (.func #[9,9] #[4] false)),
 (240,.one (.func #[159] #[27] false)),
 (241,.one (.func #[122,122] #[4] false)),
 (242,.one (.func #[122,3] #[] false)),
 (244,.one (.func #[159,3] #[159,159,9] false)),
 (245,.one (.func #[159] #[3] false)),
 (246,.one (.func #[91,91] #[4] false)),
 (247,.one (.func #[91,3] #[] false)),
 (248,.one (.func #[22,3] #[] false)),
 (249,.one (.func #[22,3,3] #[] false)),
 (250,.one (.int .i64)),
 (252,.one (.func #[22,3,3] #[3,250] false)),
 (253,.one (.func #[22,3,3] #[4] false)),
 (254,.one (.func #[3,3] #[4] false)),
 (255,.one (.func #[22,3,3,3] #[3] false)),
 (256,.one (.func #[22,3,3,3] #[3,4] false)),
 (257,.one (.func #[258] #[3] false)),
 (258,.one (.int .u32)),
 (259,.one (.func #[127] #[3] false)),
 (260,.one (.func #[94] #[22] false)),
 (262,.one (.func #[27] #[36,3,31] false)),
 (263,.one (.func #[27,113] #[27] false)),
 (264,.one (.func #[9,9] #[9] false)),
 (265,.one (.int .u64)),
 (266,.one (.func #[3] #[49] false)),
 (267,.one (.func #[] #[127] false)),
 (268,.one (.func #[22,3,269] #[3] false)),
 (269,.one (.pointer 3)),
 (270,.one (.func #[22,3,3,3,269] #[3] false)),
 (272,.one (.func #[27] #[34,4] false)),
 (273,.one (.func #[27,36] #[27] false)),
 (274,.one (.func #[122] #[] false)),
 (275,.one (.func #[91] #[] false)),
 (276,.one (.pointer 265)),
 (278,.one (.func #[22,3,3,269] #[3,3] false)),
 (279,.one (.func #[] #[34] false)),
 (280,.one (.func #[34] #[27] false)),
 (281,.one (.func #[] #[9] false)),
 (282,.struct [(0,1),(1,1),(2,1),(3,1)] 4),
 (283,.struct [(0,1),(1,1),(2,1),(3,1)] 4),
 (284,.arr 0 16 1),
 (287,.one (.func #[] #[3] false)),
 (288,.one (.int .u8)),
 (289,.one (.int .u8)),
 (290,.one (.func #[297,297] #[4] false)),
 (291,.one (.pointer 5)),
 (292,.one (.int .i32)),
 (293,.one (.int .i32)),
 (294,.struct [(0,1),(1,1),(2,1),(3,1),(4,1),(5,1),(6,1),(7,1),(8,1),(9,1),(10,1)] 11),
 (295,.struct [(0,1),(1,1),(2,1),(3,1),(4,1),(5,1),(6,1),(7,1),(8,1),(9,1),(10,1)] 11),
 (297,.one .unsafePointer)]
set_option maxRecDepth 100000 in
theorem hT:VH.ok Tryz.prog:=
 aE.ok.cons (d:=_) (T:=_) ⟨Tryz.underlying1,Tryz.isAgg1,Tryz.sizeOf1⟩<|
 aE.ok.cons (d:=_) (T:=_) ⟨Tryz.underlying2,Tryz.isAgg2,Tryz.sizeOf2⟩<|
 aE.ok.cons (d:=_) (T:=_) ⟨Tryz.underlying3,Tryz.isAgg3,Tryz.sizeOf3⟩<|
 aE.ok.cons (d:=_) (T:=_) ⟨Tryz.underlying4,Tryz.isAgg4,Tryz.sizeOf4⟩<|
 aE.ok.cons (d:=_) (T:=_) ⟨Tryz.underlying5,Tryz.isAgg5,Tryz.sizeOf5⟩<|
 aE.ok.cons (d:=_) (T:=_) ⟨Tryz.underlying6,Tryz.isAgg6,Tryz.sizeOf6⟩<|
 aE.ok.cons (d:=_) (T:=_) ⟨⟨_,Tryz.underlying7,(.cons rfl Tryz.sizeOf2 (.cons rfl Tryz.sizeOf3 (.cons rfl Tryz.sizeOf4 (.cons rfl Tryz.sizeOf6 .nil))))⟩,Tryz.isAgg7,Tryz.sizeOf7⟩<|
 aE.ok.cons (d:=_) (T:=_) ⟨⟨_,Tryz.underlying8,(.cons rfl Tryz.sizeOf2 (.cons rfl Tryz.sizeOf3 (.cons rfl Tryz.sizeOf4 (.cons rfl Tryz.sizeOf6 .nil))))⟩,Tryz.isAgg8,Tryz.sizeOf8⟩<|
 aE.ok.cons (d:=_) (T:=_) ⟨Tryz.underlying9,Tryz.isAgg9,Tryz.sizeOf9⟩<|
 aE.ok.cons (d:=_) (T:=_) ⟨Tryz.underlying10,Tryz.isAgg10,Tryz.sizeOf10⟩<|
 aE.ok.cons (d:=_) (T:=_) ⟨Tryz.underlying11,Tryz.isAgg11,Tryz.sizeOf11⟩<|
 aE.ok.cons (d:=_) (T:=_) ⟨Tryz.underlying12,Tryz.isAgg12,Tryz.sizeOf12⟩<|
 aE.ok.cons (d:=_) (T:=_) ⟨⟨_,Tryz.underlying13,(.cons rfl Tryz.sizeOf9 (.cons rfl Tryz.sizeOf12 .nil))⟩,Tryz.isAgg13,Tryz.sizeOf13⟩<|
 aE.ok.cons (d:=_) (T:=_) ⟨⟨_,Tryz.underlying14,(.cons rfl Tryz.sizeOf9 (.cons rfl Tryz.sizeOf12 .nil))⟩,Tryz.isAgg14,Tryz.sizeOf14⟩<|
 aE.ok.cons (d:=_) (T:=_) ⟨Tryz.underlying15,Tryz.isAgg15,Tryz.sizeOf15⟩<|
 aE.ok.cons (d:=_) (T:=_) ⟨Tryz.underlying16,Tryz.isAgg16,Tryz.sizeOf16⟩<|
 aE.ok.cons (d:=_) (T:=_) ⟨Tryz.underlying17,Tryz.isAgg17,Tryz.sizeOf17⟩<|
 aE.ok.cons (d:=_) (T:=_) ⟨⟨_,Tryz.underlying18,(.cons rfl Tryz.sizeOf17 .nil)⟩,Tryz.isAgg18,Tryz.sizeOf18⟩<|
 aE.ok.cons (d:=_) (T:=_) ⟨⟨_,Tryz.underlying19,(.cons rfl Tryz.sizeOf17 .nil)⟩,Tryz.isAgg19,Tryz.sizeOf19⟩<|
 aE.ok.cons (d:=_) (T:=_) ⟨Tryz.underlying20,Tryz.isAgg20,Tryz.sizeOf20⟩<|
 aE.ok.cons (d:=_) (T:=_) ⟨Tryz.underlying21,Tryz.isAgg21,Tryz.sizeOf21⟩<|
 aE.ok.cons (d:=_) (T:=_) ⟨Tryz.underlying22,Tryz.sizeOf3,Tryz.isAgg22,Tryz.sizeOf22⟩<|
 aE.ok.cons (d:=_) (T:=_) ⟨Tryz.underlying23,Tryz.isAgg23,Tryz.sizeOf23⟩<|
 aE.ok.cons (d:=_) (T:=_) ⟨Tryz.underlying24,Tryz.isAgg24,Tryz.sizeOf24⟩<|
 aE.ok.cons (d:=_) (T:=_) ⟨Tryz.underlying25,Tryz.isAgg25,Tryz.sizeOf25⟩<|
 aE.ok.cons (d:=_) (T:=_) ⟨Tryz.underlying26,Tryz.isAgg26,Tryz.sizeOf26⟩<|
 aE.ok.cons (d:=_) (T:=_) ⟨Tryz.underlying27,Tryz.sizeOf5,Tryz.isAgg27,Tryz.sizeOf27⟩<|
 aE.ok.cons (d:=_) (T:=_) ⟨Tryz.underlying28,Tryz.sizeOf27,Tryz.isAgg28,Tryz.sizeOf28⟩<|
 aE.ok.cons (d:=_) (T:=_) ⟨⟨_,Tryz.underlying29,(.cons rfl Tryz.sizeOf28 (.cons rfl Tryz.sizeOf3 .nil))⟩,Tryz.isAgg29,Tryz.sizeOf29⟩<|
 aE.ok.cons (d:=_) (T:=_) ⟨⟨_,Tryz.underlying30,(.cons rfl Tryz.sizeOf28 (.cons rfl Tryz.sizeOf3 .nil))⟩,Tryz.isAgg30,Tryz.sizeOf30⟩<|
 aE.ok.cons (d:=_) (T:=_) ⟨Tryz.underlying31,Tryz.isAgg31,Tryz.sizeOf31⟩<|
 aE.ok.cons (d:=_) (T:=_) ⟨Tryz.underlying32,Tryz.isAgg32,Tryz.sizeOf32⟩<|
 aE.ok.cons (d:=_) (T:=_) ⟨Tryz.underlying33,Tryz.isAgg33,Tryz.sizeOf33⟩<|
 aE.ok.cons (d:=_) (T:=_) ⟨Tryz.underlying34,Tryz.isAgg34,Tryz.sizeOf34⟩<|
 aE.ok.cons (d:=_) (T:=_) ⟨⟨_,Tryz.underlying35,(.cons rfl Tryz.sizeOf3 (.cons rfl Tryz.sizeOf34 (.cons rfl Tryz.sizeOf9 .nil)))⟩,Tryz.isAgg35,Tryz.sizeOf35⟩<|
 aE.ok.cons (d:=_) (T:=_) ⟨⟨_,Tryz.underlying36,(.cons rfl Tryz.sizeOf3 (.cons rfl Tryz.sizeOf34 (.cons rfl Tryz.sizeOf9 .nil)))⟩,Tryz.isAgg36,Tryz.sizeOf36⟩<|
 aE.ok.cons (d:=_) (T:=_) ⟨Tryz.underlying38,Tryz.isAgg38,Tryz.sizeOf38⟩<|
 aE.ok.cons (d:=_) (T:=_) ⟨Tryz.underlying39,Tryz.sizeOf60,Tryz.isAgg39,Tryz.sizeOf39⟩<|
 aE.ok.cons (d:=_) (T:=_) ⟨Tryz.underlying41,Tryz.isAgg41,Tryz.sizeOf41⟩<|
 aE.ok.cons (d:=_) (T:=_) ⟨Tryz.underlying43,Tryz.isAgg43,Tryz.sizeOf43⟩<|
 aE.ok.cons (d:=_) (T:=_) ⟨Tryz.underlying45,Tryz.isAgg45,Tryz.sizeOf45⟩<|
 aE.ok.cons (d:=_) (T:=_) ⟨Tryz.underlying46,Tryz.isAgg46,Tryz.sizeOf46⟩<|
 aE.ok.cons (d:=_) (T:=_) ⟨Tryz.underlying47,Tryz.isAgg47,Tryz.sizeOf47⟩<|
 aE.ok.cons (d:=_) (T:=_) ⟨Tryz.underlying48,Tryz.isAgg48,Tryz.sizeOf48⟩<|
 aE.ok.cons (d:=_) (T:=_) ⟨Tryz.underlying49,Tryz.isAgg49,Tryz.sizeOf49⟩<|
 aE.ok.cons (d:=_) (T:=_) ⟨Tryz.underlying50,Tryz.isAgg50,Tryz.sizeOf50⟩<|
 aE.ok.cons (d:=_) (T:=_) ⟨Tryz.underlying51,Tryz.isAgg51,Tryz.sizeOf51⟩<|
 aE.ok.cons (d:=_) (T:=_) ⟨Tryz.underlying52,Tryz.isAgg52,Tryz.sizeOf52⟩<|
 aE.ok.cons (d:=_) (T:=_) ⟨Tryz.underlying53,Tryz.sizeOf56,Tryz.isAgg53,Tryz.sizeOf53⟩<|
 aE.ok.cons (d:=_) (T:=_) ⟨Tryz.underlying54,Tryz.isAgg54,Tryz.sizeOf54⟩<|
 aE.ok.cons (d:=_) (T:=_) ⟨⟨_,Tryz.underlying55,(.cons rfl Tryz.sizeOf3 (.cons rfl Tryz.sizeOf2 (.cons rfl Tryz.sizeOf9 (.cons rfl Tryz.sizeOf9 (.cons rfl Tryz.sizeOf36 .nil)))))⟩,Tryz.isAgg55,Tryz.sizeOf55⟩<|
 aE.ok.cons (d:=_) (T:=_) ⟨⟨_,Tryz.underlying56,(.cons rfl Tryz.sizeOf3 (.cons rfl Tryz.sizeOf2 (.cons rfl Tryz.sizeOf9 (.cons rfl Tryz.sizeOf9 (.cons rfl Tryz.sizeOf36 .nil)))))⟩,Tryz.isAgg56,Tryz.sizeOf56⟩<|
 aE.ok.cons (d:=_) (T:=_) ⟨Tryz.underlying57,Tryz.isAgg57,Tryz.sizeOf57⟩<|
 aE.ok.cons (d:=_) (T:=_) ⟨Tryz.underlying58,Tryz.isAgg58,Tryz.sizeOf58⟩<|
 aE.ok.cons (d:=_) (T:=_) ⟨⟨_,Tryz.underlying59,(.cons rfl Tryz.sizeOf9 (.cons rfl Tryz.sizeOf36 .nil))⟩,Tryz.isAgg59,Tryz.sizeOf59⟩<|
 aE.ok.cons (d:=_) (T:=_) ⟨⟨_,Tryz.underlying60,(.cons rfl Tryz.sizeOf9 (.cons rfl Tryz.sizeOf36 .nil))⟩,Tryz.isAgg60,Tryz.sizeOf60⟩<|
 aE.ok.cons (d:=_) (T:=_) ⟨Tryz.underlying61,Tryz.isAgg61,Tryz.sizeOf61⟩<|
 aE.ok.cons (d:=_) (T:=_) ⟨Tryz.underlying62,Tryz.isAgg62,Tryz.sizeOf62⟩<|
 aE.ok.cons (d:=_) (T:=_) ⟨Tryz.underlying63,Tryz.sizeOf70,Tryz.isAgg63,Tryz.sizeOf63⟩<|
 aE.ok.cons (d:=_) (T:=_) ⟨⟨_,Tryz.underlying64,(.cons rfl Tryz.sizeOf39 (.cons rfl Tryz.sizeOf63 .nil))⟩,Tryz.isAgg64,Tryz.sizeOf64⟩<|
 aE.ok.cons (d:=_) (T:=_) ⟨⟨_,Tryz.underlying65,(.cons rfl Tryz.sizeOf39 (.cons rfl Tryz.sizeOf63 .nil))⟩,Tryz.isAgg65,Tryz.sizeOf65⟩<|
 aE.ok.cons (d:=_) (T:=_) ⟨Tryz.underlying66,Tryz.isAgg66,Tryz.sizeOf66⟩<|
 aE.ok.cons (d:=_) (T:=_) ⟨Tryz.underlying67,Tryz.isAgg67,Tryz.sizeOf67⟩<|
 aE.ok.cons (d:=_) (T:=_) ⟨Tryz.underlying68,Tryz.isAgg68,Tryz.sizeOf68⟩<|
 aE.ok.cons (d:=_) (T:=_) ⟨⟨_,Tryz.underlying69,(.cons rfl Tryz.sizeOf2 (.cons rfl Tryz.sizeOf9 (.cons rfl Tryz.sizeOf36 .nil)))⟩,Tryz.isAgg69,Tryz.sizeOf69⟩<|
 aE.ok.cons (d:=_) (T:=_) ⟨⟨_,Tryz.underlying70,(.cons rfl Tryz.sizeOf2 (.cons rfl Tryz.sizeOf9 (.cons rfl Tryz.sizeOf36 .nil)))⟩,Tryz.isAgg70,Tryz.sizeOf70⟩<|
 aE.ok.cons (d:=_) (T:=_) ⟨Tryz.underlying71,Tryz.isAgg71,Tryz.sizeOf71⟩<|
 aE.ok.cons (d:=_) (T:=_) ⟨Tryz.underlying72,Tryz.isAgg72,Tryz.sizeOf72⟩<|
 aE.ok.cons (d:=_) (T:=_) ⟨Tryz.underlying73,Tryz.isAgg73,Tryz.sizeOf73⟩<|
 aE.ok.cons (d:=_) (T:=_) ⟨Tryz.underlying74,Tryz.isAgg74,Tryz.sizeOf74⟩<|
 aE.ok.cons (d:=_) (T:=_) ⟨Tryz.underlying75,Tryz.isAgg75,Tryz.sizeOf75⟩<|
 aE.ok.cons (d:=_) (T:=_) ⟨Tryz.underlying76,Tryz.isAgg76,Tryz.sizeOf76⟩<|
 aE.ok.cons (d:=_) (T:=_) ⟨Tryz.underlying77,Tryz.isAgg77,Tryz.sizeOf77⟩<|
 aE.ok.cons (d:=_) (T:=_) ⟨Tryz.underlying78,Tryz.isAgg78,Tryz.sizeOf78⟩<|
 aE.ok.cons (d:=_) (T:=_) ⟨Tryz.underlying79,Tryz.isAgg79,Tryz.sizeOf79⟩<|
 aE.ok.cons (d:=_) (T:=_) ⟨Tryz.underlying80,Tryz.isAgg80,Tryz.sizeOf80⟩<|
 aE.ok.cons (d:=_) (T:=_) ⟨Tryz.underlying81,Tryz.sizeOf3,Tryz.isAgg81,Tryz.sizeOf81⟩<|
 aE.ok.cons (d:=_) (T:=_) ⟨⟨_,Tryz.underlying82,(.cons rfl Tryz.sizeOf9 (.cons rfl Tryz.sizeOf2 (.cons rfl Tryz.sizeOf4 (.cons rfl Tryz.sizeOf81 .nil))))⟩,Tryz.isAgg82,Tryz.sizeOf82⟩<|
 aE.ok.cons (d:=_) (T:=_) ⟨⟨_,Tryz.underlying83,(.cons rfl Tryz.sizeOf9 (.cons rfl Tryz.sizeOf2 (.cons rfl Tryz.sizeOf4 (.cons rfl Tryz.sizeOf81 .nil))))⟩,Tryz.isAgg83,Tryz.sizeOf83⟩<|
 aE.ok.cons (d:=_) (T:=_) ⟨Tryz.underlying84,Tryz.isAgg84,Tryz.sizeOf84⟩<|
 aE.ok.cons (d:=_) (T:=_) ⟨Tryz.underlying85,Tryz.isAgg85,Tryz.sizeOf85⟩<|
 aE.ok.cons (d:=_) (T:=_) ⟨Tryz.underlying87,Tryz.isAgg87,Tryz.sizeOf87⟩<|
 aE.ok.cons (d:=_) (T:=_) ⟨Tryz.underlying88,Tryz.isAgg88,Tryz.sizeOf88⟩<|
 aE.ok.cons (d:=_) (T:=_) ⟨Tryz.underlying90,Tryz.isAgg90,Tryz.sizeOf90⟩<|
 aE.ok.cons (d:=_) (T:=_) ⟨Tryz.underlying91,Tryz.sizeOf9,Tryz.isAgg91,Tryz.sizeOf91⟩<|
 aE.ok.cons (d:=_) (T:=_) ⟨Tryz.underlying92,Tryz.sizeOf83,Tryz.isAgg92,Tryz.sizeOf92⟩<|
 aE.ok.cons (d:=_) (T:=_) ⟨⟨_,Tryz.underlying93,(.cons rfl Tryz.sizeOf2 (.cons rfl Tryz.sizeOf92 .nil))⟩,Tryz.isAgg93,Tryz.sizeOf93⟩<|
 aE.ok.cons (d:=_) (T:=_) ⟨⟨_,Tryz.underlying94,(.cons rfl Tryz.sizeOf2 (.cons rfl Tryz.sizeOf92 .nil))⟩,Tryz.isAgg94,Tryz.sizeOf94⟩<|
 aE.ok.cons (d:=_) (T:=_) ⟨Tryz.underlying96,Tryz.isAgg96,Tryz.sizeOf96⟩<|
 aE.ok.cons (d:=_) (T:=_) ⟨Tryz.underlying97,Tryz.isAgg97,Tryz.sizeOf97⟩<|
 aE.ok.cons (d:=_) (T:=_) ⟨Tryz.underlying98,Tryz.isAgg98,Tryz.sizeOf98⟩<|
 aE.ok.cons (d:=_) (T:=_) ⟨Tryz.underlying99,Tryz.isAgg99,Tryz.sizeOf99⟩<|
 aE.ok.cons (d:=_) (T:=_) ⟨Tryz.underlying100,Tryz.isAgg100,Tryz.sizeOf100⟩<|
 aE.ok.cons (d:=_) (T:=_) ⟨Tryz.underlying101,Tryz.sizeOf143,Tryz.isAgg101,Tryz.sizeOf101⟩<|
 aE.ok.cons (d:=_) (T:=_) ⟨Tryz.underlying102,Tryz.isAgg102,Tryz.sizeOf102⟩<|
 aE.ok.cons (d:=_) (T:=_) ⟨Tryz.underlying104,Tryz.isAgg104,Tryz.sizeOf104⟩<|
 aE.ok.cons (d:=_) (T:=_) ⟨Tryz.underlying105,Tryz.isAgg105,Tryz.sizeOf105⟩<|
 aE.ok.cons (d:=_) (T:=_) ⟨Tryz.underlying106,Tryz.isAgg106,Tryz.sizeOf106⟩<|
 aE.ok.cons (d:=_) (T:=_) ⟨Tryz.underlying107,Tryz.isAgg107,Tryz.sizeOf107⟩<|
 aE.ok.cons (d:=_) (T:=_) ⟨Tryz.underlying108,Tryz.isAgg108,Tryz.sizeOf108⟩<|
 aE.ok.cons (d:=_) (T:=_) ⟨⟨_,Tryz.underlying109,(.cons rfl Tryz.sizeOf107 (.cons rfl Tryz.sizeOf108 .nil))⟩,Tryz.isAgg109,Tryz.sizeOf109⟩<|
 aE.ok.cons (d:=_) (T:=_) ⟨⟨_,Tryz.underlying110,(.cons rfl Tryz.sizeOf107 (.cons rfl Tryz.sizeOf108 .nil))⟩,Tryz.isAgg110,Tryz.sizeOf110⟩<|
 aE.ok.cons (d:=_) (T:=_) ⟨Tryz.underlying111,Tryz.isAgg111,Tryz.sizeOf111⟩<|
 aE.ok.cons (d:=_) (T:=_) ⟨⟨_,Tryz.underlying112,(.cons rfl Tryz.sizeOf9 (.cons rfl Tryz.sizeOf36 (.cons rfl Tryz.sizeOf2 (.cons rfl Tryz.sizeOf36 .nil))))⟩,Tryz.isAgg112,Tryz.sizeOf112⟩<|
 aE.ok.cons (d:=_) (T:=_) ⟨⟨_,Tryz.underlying113,(.cons rfl Tryz.sizeOf9 (.cons rfl Tryz.sizeOf36 (.cons rfl Tryz.sizeOf2 (.cons rfl Tryz.sizeOf36 .nil))))⟩,Tryz.isAgg113,Tryz.sizeOf113⟩<|
 aE.ok.cons (d:=_) (T:=_) ⟨Tryz.underlying115,Tryz.isAgg115,Tryz.sizeOf115⟩<|
 aE.ok.cons (d:=_) (T:=_) ⟨Tryz.underlying116,Tryz.isAgg116,Tryz.sizeOf116⟩<|
 aE.ok.cons (d:=_) (T:=_) ⟨Tryz.underlying117,Tryz.isAgg117,Tryz.sizeOf117⟩<|
 aE.ok.cons (d:=_) (T:=_) ⟨Tryz.underlying119,Tryz.isAgg119,Tryz.sizeOf119⟩<|
 aE.ok.cons (d:=_) (T:=_) ⟨Tryz.underlying120,Tryz.isAgg120,Tryz.sizeOf120⟩<|
 aE.ok.cons (d:=_) (T:=_) ⟨Tryz.underlying121,Tryz.isAgg121,Tryz.sizeOf121⟩<|
 aE.ok.cons (d:=_) (T:=_) ⟨Tryz.underlying122,Tryz.sizeOf113,Tryz.isAgg122,Tryz.sizeOf122⟩<|
 aE.ok.cons (d:=_) (T:=_) ⟨Tryz.underlying124,Tryz.isAgg124,Tryz.sizeOf124⟩<|
 aE.ok.cons (d:=_) (T:=_) ⟨Tryz.underlying125,Tryz.isAgg125,Tryz.sizeOf125⟩<|
 aE.ok.cons (d:=_) (T:=_) ⟨Tryz.underlying126,Tryz.isAgg126,Tryz.sizeOf126⟩<|
 aE.ok.cons (d:=_) (T:=_) ⟨Tryz.underlying127,Tryz.isAgg127,Tryz.sizeOf127⟩<|
 aE.ok.cons (d:=_) (T:=_) ⟨Tryz.underlying128,Tryz.isAgg128,Tryz.sizeOf128⟩<|
 aE.ok.cons (d:=_) (T:=_) ⟨Tryz.underlying129,Tryz.isAgg129,Tryz.sizeOf129⟩<|
 aE.ok.cons (d:=_) (T:=_) ⟨Tryz.underlying130,Tryz.isAgg130,Tryz.sizeOf130⟩<|
 aE.ok.cons (d:=_) (T:=_) ⟨Tryz.underlying131,Tryz.isAgg131,Tryz.sizeOf131⟩<|
 aE.ok.cons (d:=_) (T:=_) ⟨Tryz.underlying132,Tryz.isAgg132,Tryz.sizeOf132⟩<|
 aE.ok.cons (d:=_) (T:=_) ⟨⟨_,Tryz.underlying133,(.cons rfl Tryz.sizeOf107 (.cons rfl Tryz.sizeOf83 .nil))⟩,Tryz.isAgg133,Tryz.sizeOf133⟩<|
 aE.ok.cons (d:=_) (T:=_) ⟨⟨_,Tryz.underlying134,(.cons rfl Tryz.sizeOf107 (.cons rfl Tryz.sizeOf83 .nil))⟩,Tryz.isAgg134,Tryz.sizeOf134⟩<|
 aE.ok.cons (d:=_) (T:=_) ⟨Tryz.underlying135,Tryz.isAgg135,Tryz.sizeOf135⟩<|
 aE.ok.cons (d:=_) (T:=_) ⟨Tryz.underlying136,Tryz.isAgg136,Tryz.sizeOf136⟩<|
 aE.ok.cons (d:=_) (T:=_) ⟨Tryz.underlying137,Tryz.isAgg137,Tryz.sizeOf137⟩<|
 aE.ok.cons (d:=_) (T:=_) ⟨Tryz.underlying138,Tryz.isAgg138,Tryz.sizeOf138⟩<|
 aE.ok.cons (d:=_) (T:=_) ⟨Tryz.underlying139,Tryz.isAgg139,Tryz.sizeOf139⟩<|
 aE.ok.cons (d:=_) (T:=_) ⟨Tryz.underlying140,Tryz.isAgg140,Tryz.sizeOf140⟩<|
 aE.ok.cons (d:=_) (T:=_) ⟨Tryz.underlying141,Tryz.isAgg141,Tryz.sizeOf141⟩<|
 aE.ok.cons (d:=_) (T:=_) ⟨⟨_,Tryz.underlying142,(.cons rfl Tryz.sizeOf3 (.cons rfl Tryz.sizeOf27 .nil))⟩,Tryz.isAgg142,Tryz.sizeOf142⟩<|
 aE.ok.cons (d:=_) (T:=_) ⟨⟨_,Tryz.underlying143,(.cons rfl Tryz.sizeOf3 (.cons rfl Tryz.sizeOf27 .nil))⟩,Tryz.isAgg143,Tryz.sizeOf143⟩<|
 aE.ok.cons (d:=_) (T:=_) ⟨Tryz.underlying144,Tryz.isAgg144,Tryz.sizeOf144⟩<|
 aE.ok.cons (d:=_) (T:=_) ⟨Tryz.underlying145,Tryz.isAgg145,Tryz.sizeOf145⟩<|
 aE.ok.cons (d:=_) (T:=_) ⟨Tryz.underlying146,Tryz.isAgg146,Tryz.sizeOf146⟩<|
 aE.ok.cons (d:=_) (T:=_) ⟨Tryz.underlying147,Tryz.isAgg147,Tryz.sizeOf147⟩<|
 aE.ok.cons (d:=_) (T:=_) ⟨Tryz.underlying148,Tryz.isAgg148,Tryz.sizeOf148⟩<|
 aE.ok.cons (d:=_) (T:=_) ⟨Tryz.underlying149,Tryz.isAgg149,Tryz.sizeOf149⟩<|
 aE.ok.cons (d:=_) (T:=_) ⟨Tryz.underlying150,Tryz.isAgg150,Tryz.sizeOf150⟩<|
 aE.ok.cons (d:=_) (T:=_) ⟨Tryz.underlying151,Tryz.isAgg151,Tryz.sizeOf151⟩<|
 aE.ok.cons (d:=_) (T:=_) ⟨Tryz.underlying152,Tryz.isAgg152,Tryz.sizeOf152⟩<|
 aE.ok.cons (d:=_) (T:=_) ⟨⟨_,Tryz.underlying153,(.cons rfl Tryz.sizeOf107 (.cons rfl Tryz.sizeOf94 (.cons rfl Tryz.sizeOf152 .nil)))⟩,Tryz.isAgg153,Tryz.sizeOf153⟩<|
 aE.ok.cons (d:=_) (T:=_) ⟨⟨_,Tryz.underlying154,(.cons rfl Tryz.sizeOf107 (.cons rfl Tryz.sizeOf94 (.cons rfl Tryz.sizeOf152 .nil)))⟩,Tryz.isAgg154,Tryz.sizeOf154⟩<|
 aE.ok.cons (d:=_) (T:=_) ⟨Tryz.underlying155,Tryz.isAgg155,Tryz.sizeOf155⟩<|
 aE.ok.cons (d:=_) (T:=_) ⟨Tryz.underlying156,Tryz.isAgg156,Tryz.sizeOf156⟩<|
 aE.ok.cons (d:=_) (T:=_) ⟨Tryz.underlying157,Tryz.isAgg157,Tryz.sizeOf157⟩<|
 aE.ok.cons (d:=_) (T:=_) ⟨⟨_,Tryz.underlying158,(.cons rfl Tryz.sizeOf4 (.cons rfl Tryz.sizeOf122 (.cons rfl Tryz.sizeOf91 (.cons rfl Tryz.sizeOf22 .nil))))⟩,Tryz.isAgg158,Tryz.sizeOf158⟩<|
 aE.ok.cons (d:=_) (T:=_) ⟨⟨_,Tryz.underlying159,(.cons rfl Tryz.sizeOf4 (.cons rfl Tryz.sizeOf122 (.cons rfl Tryz.sizeOf91 (.cons rfl Tryz.sizeOf22 .nil))))⟩,Tryz.isAgg159,Tryz.sizeOf159⟩<|
 aE.ok.cons (d:=_) (T:=_) ⟨Tryz.underlying160,Tryz.isAgg160,Tryz.sizeOf160⟩<|
 aE.ok.cons (d:=_) (T:=_) ⟨Tryz.underlying162,Tryz.isAgg162,Tryz.sizeOf162⟩<|
 aE.ok.cons (d:=_) (T:=_) ⟨Tryz.underlying163,Tryz.isAgg163,Tryz.sizeOf163⟩<|
 aE.ok.cons (d:=_) (T:=_) ⟨Tryz.underlying164,Tryz.isAgg164,Tryz.sizeOf164⟩<|
 aE.ok.cons (d:=_) (T:=_) ⟨Tryz.underlying165,Tryz.isAgg165,Tryz.sizeOf165⟩<|
 aE.ok.cons (d:=_) (T:=_) ⟨Tryz.underlying166,Tryz.isAgg166,Tryz.sizeOf166⟩<|
 aE.ok.cons (d:=_) (T:=_) ⟨Tryz.underlying167,Tryz.isAgg167,Tryz.sizeOf167⟩<|
 aE.ok.cons (d:=_) (T:=_) ⟨Tryz.underlying168,Tryz.isAgg168,Tryz.sizeOf168⟩<|
 aE.ok.cons (d:=_) (T:=_) ⟨Tryz.underlying169,Tryz.isAgg169,Tryz.sizeOf169⟩<|
 aE.ok.cons (d:=_) (T:=_) ⟨⟨_,Tryz.underlying170,(.cons rfl Tryz.sizeOf9 (.cons rfl Tryz.sizeOf3 .nil))⟩,Tryz.isAgg170,Tryz.sizeOf170⟩<|
 aE.ok.cons (d:=_) (T:=_) ⟨⟨_,Tryz.underlying171,(.cons rfl Tryz.sizeOf9 (.cons rfl Tryz.sizeOf3 .nil))⟩,Tryz.isAgg171,Tryz.sizeOf171⟩<|
 aE.ok.cons (d:=_) (T:=_) ⟨Tryz.underlying172,Tryz.isAgg172,Tryz.sizeOf172⟩<|
 aE.ok.cons (d:=_) (T:=_) ⟨Tryz.underlying173,Tryz.isAgg173,Tryz.sizeOf173⟩<|
 aE.ok.cons (d:=_) (T:=_) ⟨Tryz.underlying175,Tryz.isAgg175,Tryz.sizeOf175⟩<|
 aE.ok.cons (d:=_) (T:=_) ⟨Tryz.underlying177,Tryz.isAgg177,Tryz.sizeOf177⟩<|
 aE.ok.cons (d:=_) (T:=_) ⟨Tryz.underlying178,Tryz.isAgg178,Tryz.sizeOf178⟩<|
 aE.ok.cons (d:=_) (T:=_) ⟨Tryz.underlying180,Tryz.isAgg180,Tryz.sizeOf180⟩<|
 aE.ok.cons (d:=_) (T:=_) ⟨⟨_,Tryz.underlying181,(.cons rfl Tryz.sizeOf107 (.cons rfl Tryz.sizeOf22 (.cons rfl Tryz.sizeOf122 .nil)))⟩,Tryz.isAgg181,Tryz.sizeOf181⟩<|
 aE.ok.cons (d:=_) (T:=_) ⟨⟨_,Tryz.underlying182,(.cons rfl Tryz.sizeOf107 (.cons rfl Tryz.sizeOf22 (.cons rfl Tryz.sizeOf122 .nil)))⟩,Tryz.isAgg182,Tryz.sizeOf182⟩<|
 aE.ok.cons (d:=_) (T:=_) ⟨Tryz.underlying183,Tryz.isAgg183,Tryz.sizeOf183⟩<|
 aE.ok.cons (d:=_) (T:=_) ⟨Tryz.underlying184,Tryz.isAgg184,Tryz.sizeOf184⟩<|
 aE.ok.cons (d:=_) (T:=_) ⟨⟨_,Tryz.underlying185,(.cons rfl Tryz.sizeOf9 (.cons rfl Tryz.sizeOf9 .nil))⟩,Tryz.isAgg185,Tryz.sizeOf185⟩<|
 aE.ok.cons (d:=_) (T:=_) ⟨⟨_,Tryz.underlying186,(.cons rfl Tryz.sizeOf9 (.cons rfl Tryz.sizeOf9 .nil))⟩,Tryz.isAgg186,Tryz.sizeOf186⟩<|
 aE.ok.cons (d:=_) (T:=_) ⟨Tryz.underlying187,Tryz.isAgg187,Tryz.sizeOf187⟩<|
 aE.ok.cons (d:=_) (T:=_) ⟨Tryz.underlying188,Tryz.isAgg188,Tryz.sizeOf188⟩<|
 aE.ok.cons (d:=_) (T:=_) ⟨Tryz.underlying189,Tryz.isAgg189,Tryz.sizeOf189⟩<|
 aE.ok.cons (d:=_) (T:=_) ⟨Tryz.underlying191,Tryz.isAgg191,Tryz.sizeOf191⟩<|
 aE.ok.cons (d:=_) (T:=_) ⟨Tryz.underlying193,Tryz.isAgg193,Tryz.sizeOf193⟩<|
 aE.ok.cons (d:=_) (T:=_) ⟨Tryz.underlying194,Tryz.isAgg194,Tryz.sizeOf194⟩<|
 aE.ok.cons (d:=_) (T:=_) ⟨Tryz.underlying195,Tryz.isAgg195,Tryz.sizeOf195⟩<|
 aE.ok.cons (d:=_) (T:=_) ⟨Tryz.underlying196,Tryz.isAgg196,Tryz.sizeOf196⟩<|
 aE.ok.cons (d:=_) (T:=_) ⟨⟨_,Tryz.underlying197,(.cons rfl Tryz.sizeOf31 .nil)⟩,Tryz.isAgg197,Tryz.sizeOf197⟩<|
 aE.ok.cons (d:=_) (T:=_) ⟨⟨_,Tryz.underlying198,(.cons rfl Tryz.sizeOf31 .nil)⟩,Tryz.isAgg198,Tryz.sizeOf198⟩<|
 aE.ok.cons (d:=_) (T:=_) ⟨Tryz.underlying199,Tryz.isAgg199,Tryz.sizeOf199⟩<|
 aE.ok.cons (d:=_) (T:=_) ⟨Tryz.underlying201,Tryz.isAgg201,Tryz.sizeOf201⟩<|
 aE.ok.cons (d:=_) (T:=_) ⟨Tryz.underlying202,Tryz.isAgg202,Tryz.sizeOf202⟩<|
 aE.ok.cons (d:=_) (T:=_) ⟨Tryz.underlying204,Tryz.isAgg204,Tryz.sizeOf204⟩<|
 aE.ok.cons (d:=_) (T:=_) ⟨Tryz.underlying205,Tryz.isAgg205,Tryz.sizeOf205⟩<|
 aE.ok.cons (d:=_) (T:=_) ⟨Tryz.underlying206,Tryz.isAgg206,Tryz.sizeOf206⟩<|
 aE.ok.cons (d:=_) (T:=_) ⟨Tryz.underlying207,Tryz.isAgg207,Tryz.sizeOf207⟩<|
 aE.ok.cons (d:=_) (T:=_) ⟨Tryz.underlying208,Tryz.isAgg208,Tryz.sizeOf208⟩<|
 aE.ok.cons (d:=_) (T:=_) ⟨Tryz.underlying209,Tryz.isAgg209,Tryz.sizeOf209⟩<|
 aE.ok.cons (d:=_) (T:=_) ⟨Tryz.underlying210,Tryz.isAgg210,Tryz.sizeOf210⟩<|
 aE.ok.cons (d:=_) (T:=_) ⟨Tryz.underlying211,Tryz.isAgg211,Tryz.sizeOf211⟩<|
 aE.ok.cons (d:=_) (T:=_) ⟨Tryz.underlying212,Tryz.isAgg212,Tryz.sizeOf212⟩<|
 aE.ok.cons (d:=_) (T:=_) ⟨Tryz.underlying213,Tryz.isAgg213,Tryz.sizeOf213⟩<|
 aE.ok.cons (d:=_) (T:=_) ⟨Tryz.underlying214,Tryz.isAgg214,Tryz.sizeOf214⟩<|
 aE.ok.cons (d:=_) (T:=_) ⟨Tryz.underlying215,Tryz.isAgg215,Tryz.sizeOf215⟩<|
 aE.ok.cons (d:=_) (T:=_) ⟨Tryz.underlying216,Tryz.isAgg216,Tryz.sizeOf216⟩<|
 aE.ok.cons (d:=_) (T:=_) ⟨Tryz.underlying217,Tryz.isAgg217,Tryz.sizeOf217⟩<|
 aE.ok.cons (d:=_) (T:=_) ⟨Tryz.underlying218,Tryz.isAgg218,Tryz.sizeOf218⟩<|
 aE.ok.cons (d:=_) (T:=_) ⟨Tryz.underlying219,Tryz.isAgg219,Tryz.sizeOf219⟩<|
 aE.ok.cons (d:=_) (T:=_) ⟨Tryz.underlying220,Tryz.isAgg220,Tryz.sizeOf220⟩<|
 aE.ok.cons (d:=_) (T:=_) ⟨Tryz.underlying221,Tryz.isAgg221,Tryz.sizeOf221⟩<|
 aE.ok.cons (d:=_) (T:=_) ⟨Tryz.underlying222,Tryz.isAgg222,Tryz.sizeOf222⟩<|
 aE.ok.cons (d:=_) (T:=_) ⟨Tryz.underlying223,Tryz.isAgg223,Tryz.sizeOf223⟩<|
 aE.ok.cons (d:=_) (T:=_) ⟨Tryz.underlying224,Tryz.isAgg224,Tryz.sizeOf224⟩<|
 aE.ok.cons (d:=_) (T:=_) ⟨Tryz.underlying226,Tryz.isAgg226,Tryz.sizeOf226⟩<|
 aE.ok.cons (d:=_) (T:=_) ⟨Tryz.underlying227,Tryz.isAgg227,Tryz.sizeOf227⟩<|
 aE.ok.cons (d:=_) (T:=_) ⟨Tryz.underlying228,Tryz.isAgg228,Tryz.sizeOf228⟩<|
 aE.ok.cons (d:=_) (T:=_) ⟨Tryz.underlying229,Tryz.isAgg229,Tryz.sizeOf229⟩<|
 aE.ok.cons (d:=_) (T:=_) ⟨Tryz.underlying230,Tryz.isAgg230,Tryz.sizeOf230⟩<|
 aE.ok.cons (d:=_) (T:=_) ⟨Tryz.underlying231,Tryz.isAgg231,Tryz.sizeOf231⟩<|
 aE.ok.cons (d:=_) (T:=_) ⟨Tryz.underlying232,Tryz.isAgg232,Tryz.sizeOf232⟩<|
 aE.ok.cons (d:=_) (T:=_) ⟨⟨_,Tryz.underlying233,(.cons rfl Tryz.sizeOf27 (.cons rfl Tryz.sizeOf4 .nil))⟩,Tryz.isAgg233,Tryz.sizeOf233⟩<|
 aE.ok.cons (d:=_) (T:=_) ⟨⟨_,Tryz.underlying234,(.cons rfl Tryz.sizeOf27 (.cons rfl Tryz.sizeOf4 .nil))⟩,Tryz.isAgg234,Tryz.sizeOf234⟩<|
 aE.ok.cons (d:=_) (T:=_) ⟨Tryz.underlying235,Tryz.isAgg235,Tryz.sizeOf235⟩<|
 aE.ok.cons (d:=_) (T:=_) ⟨Tryz.underlying237,Tryz.isAgg237,Tryz.sizeOf237⟩<|
 aE.ok.cons (d:=_) (T:=_) ⟨Tryz.underlying238,Tryz.isAgg238,Tryz.sizeOf238⟩<|
 aE.ok.cons (d:=_) (T:=_) ⟨Tryz.underlying239,Tryz.isAgg239,Tryz.sizeOf239⟩<|
 aE.ok.cons (d:=_) (T:=_) ⟨Tryz.underlying240,Tryz.isAgg240,Tryz.sizeOf240⟩<|
 aE.ok.cons (d:=_) (T:=_) ⟨Tryz.underlying241,Tryz.isAgg241,Tryz.sizeOf241⟩<|
 aE.ok.cons (d:=_) (T:=_) ⟨Tryz.underlying242,Tryz.isAgg242,Tryz.sizeOf242⟩<|
 aE.ok.cons (d:=_) (T:=_) ⟨Tryz.underlying244,Tryz.isAgg244,Tryz.sizeOf244⟩<|
 aE.ok.cons (d:=_) (T:=_) ⟨Tryz.underlying245,Tryz.isAgg245,Tryz.sizeOf245⟩<|
 aE.ok.cons (d:=_) (T:=_) ⟨Tryz.underlying246,Tryz.isAgg246,Tryz.sizeOf246⟩<|
 aE.ok.cons (d:=_) (T:=_) ⟨Tryz.underlying247,Tryz.isAgg247,Tryz.sizeOf247⟩<|
 aE.ok.cons (d:=_) (T:=_) ⟨Tryz.underlying248,Tryz.isAgg248,Tryz.sizeOf248⟩<|
 aE.ok.cons (d:=_) (T:=_) ⟨Tryz.underlying249,Tryz.isAgg249,Tryz.sizeOf249⟩<|
 aE.ok.cons (d:=_) (T:=_) ⟨Tryz.underlying250,Tryz.isAgg250,Tryz.sizeOf250⟩<|
 aE.ok.cons (d:=_) (T:=_) ⟨Tryz.underlying252,Tryz.isAgg252,Tryz.sizeOf252⟩<|
 aE.ok.cons (d:=_) (T:=_) ⟨Tryz.underlying253,Tryz.isAgg253,Tryz.sizeOf253⟩<|
 aE.ok.cons (d:=_) (T:=_) ⟨Tryz.underlying254,Tryz.isAgg254,Tryz.sizeOf254⟩<|
 aE.ok.cons (d:=_) (T:=_) ⟨Tryz.underlying255,Tryz.isAgg255,Tryz.sizeOf255⟩<|
 aE.ok.cons (d:=_) (T:=_) ⟨Tryz.underlying256,Tryz.isAgg256,Tryz.sizeOf256⟩<|
 aE.ok.cons (d:=_) (T:=_) ⟨Tryz.underlying257,Tryz.isAgg257,Tryz.sizeOf257⟩<|
 aE.ok.cons (d:=_) (T:=_) ⟨Tryz.underlying258,Tryz.isAgg258,Tryz.sizeOf258⟩<|
 aE.ok.cons (d:=_) (T:=_) ⟨Tryz.underlying259,Tryz.isAgg259,Tryz.sizeOf259⟩<|
 aE.ok.cons (d:=_) (T:=_) ⟨Tryz.underlying260,Tryz.isAgg260,Tryz.sizeOf260⟩<|
 aE.ok.cons (d:=_) (T:=_) ⟨Tryz.underlying262,Tryz.isAgg262,Tryz.sizeOf262⟩<|
 aE.ok.cons (d:=_) (T:=_) ⟨Tryz.underlying263,Tryz.isAgg263,Tryz.sizeOf263⟩<|
 aE.ok.cons (d:=_) (T:=_) ⟨Tryz.underlying264,Tryz.isAgg264,Tryz.sizeOf264⟩<|
 aE.ok.cons (d:=_) (T:=_) ⟨Tryz.underlying265,Tryz.isAgg265,Tryz.sizeOf265⟩<|
 aE.ok.cons (d:=_) (T:=_) ⟨Tryz.underlying266,Tryz.isAgg266,Tryz.sizeOf266⟩<|
 aE.ok.cons (d:=_) (T:=_) ⟨Tryz.underlying267,Tryz.isAgg267,Tryz.sizeOf267⟩<|
 aE.ok.cons (d:=_) (T:=_) ⟨Tryz.underlying268,Tryz.isAgg268,Tryz.sizeOf268⟩<|
 aE.ok.cons (d:=_) (T:=_) ⟨Tryz.underlying269,Tryz.isAgg269,Tryz.sizeOf269⟩<|
 aE.ok.cons (d:=_) (T:=_) ⟨Tryz.underlying270,Tryz.isAgg270,Tryz.sizeOf270⟩<|
 aE.ok.cons (d:=_) (T:=_) ⟨Tryz.underlying272,Tryz.isAgg272,Tryz.sizeOf272⟩<|
 aE.ok.cons (d:=_) (T:=_) ⟨Tryz.underlying273,Tryz.isAgg273,Tryz.sizeOf273⟩<|
 aE.ok.cons (d:=_) (T:=_) ⟨Tryz.underlying274,Tryz.isAgg274,Tryz.sizeOf274⟩<|
 aE.ok.cons (d:=_) (T:=_) ⟨Tryz.underlying275,Tryz.isAgg275,Tryz.sizeOf275⟩<|
 aE.ok.cons (d:=_) (T:=_) ⟨Tryz.underlying276,Tryz.isAgg276,Tryz.sizeOf276⟩<|
 aE.ok.cons (d:=_) (T:=_) ⟨Tryz.underlying278,Tryz.isAgg278,Tryz.sizeOf278⟩<|
 aE.ok.cons (d:=_) (T:=_) ⟨Tryz.underlying279,Tryz.isAgg279,Tryz.sizeOf279⟩<|
 aE.ok.cons (d:=_) (T:=_) ⟨Tryz.underlying280,Tryz.isAgg280,Tryz.sizeOf280⟩<|
 aE.ok.cons (d:=_) (T:=_) ⟨Tryz.underlying281,Tryz.isAgg281,Tryz.sizeOf281⟩<|
 aE.ok.cons (d:=_) (T:=_) ⟨⟨_,Tryz.underlying282,(.cons rfl Tryz.sizeOf17 (.cons rfl Tryz.sizeOf17 (.cons rfl Tryz.sizeOf17 (.cons rfl Tryz.sizeOf9 .nil))))⟩,Tryz.isAgg282,Tryz.sizeOf282⟩<|
 aE.ok.cons (d:=_) (T:=_) ⟨⟨_,Tryz.underlying283,(.cons rfl Tryz.sizeOf17 (.cons rfl Tryz.sizeOf17 (.cons rfl Tryz.sizeOf17 (.cons rfl Tryz.sizeOf9 .nil))))⟩,Tryz.isAgg283,Tryz.sizeOf283⟩<|
 aE.ok.cons (d:=_) (T:=_) ⟨Tryz.underlying284,Tryz.sizeOf16,Tryz.isAgg284,Tryz.sizeOf284⟩<|
 aE.ok.cons (d:=_) (T:=_) ⟨Tryz.underlying287,Tryz.isAgg287,Tryz.sizeOf287⟩<|
 aE.ok.cons (d:=_) (T:=_) ⟨Tryz.underlying288,Tryz.isAgg288,Tryz.sizeOf288⟩<|
 aE.ok.cons (d:=_) (T:=_) ⟨Tryz.underlying289,Tryz.isAgg289,Tryz.sizeOf289⟩<|
 aE.ok.cons (d:=_) (T:=_) ⟨Tryz.underlying290,Tryz.isAgg290,Tryz.sizeOf290⟩<|
 aE.ok.cons (d:=_) (T:=_) ⟨Tryz.underlying291,Tryz.isAgg291,Tryz.sizeOf291⟩<|
 aE.ok.cons (d:=_) (T:=_) ⟨Tryz.underlying292,Tryz.isAgg292,Tryz.sizeOf292⟩<|
 aE.ok.cons (d:=_) (T:=_) ⟨Tryz.underlying293,Tryz.isAgg293,Tryz.sizeOf293⟩<|
 aE.ok.cons (d:=_) (T:=_) ⟨⟨_,Tryz.underlying294,(.cons rfl Tryz.sizeOf12 (.cons rfl Tryz.sizeOf12 (.cons rfl Tryz.sizeOf258 (.cons rfl Tryz.sizeOf288 (.cons rfl Tryz.sizeOf5 (.cons rfl Tryz.sizeOf5 (.cons rfl Tryz.sizeOf289 (.cons rfl Tryz.sizeOf290 (.cons rfl Tryz.sizeOf291 (.cons rfl Tryz.sizeOf292 (.cons rfl Tryz.sizeOf293 .nil)))))))))))⟩,Tryz.isAgg294,Tryz.sizeOf294⟩<|
 aE.ok.cons (d:=_) (T:=_) ⟨⟨_,Tryz.underlying295,(.cons rfl Tryz.sizeOf12 (.cons rfl Tryz.sizeOf12 (.cons rfl Tryz.sizeOf258 (.cons rfl Tryz.sizeOf288 (.cons rfl Tryz.sizeOf5 (.cons rfl Tryz.sizeOf5 (.cons rfl Tryz.sizeOf289 (.cons rfl Tryz.sizeOf290 (.cons rfl Tryz.sizeOf291 (.cons rfl Tryz.sizeOf292 (.cons rfl Tryz.sizeOf293 .nil)))))))))))⟩,Tryz.isAgg295,Tryz.sizeOf295⟩<|
 aE.ok.cons (d:=_) (T:=_) ⟨Tryz.underlying297,Tryz.isAgg297,Tryz.sizeOf297⟩<|
 aE.ok.nil
theorem jw:Elem Tryz.prog 22 3 1:=⟨Tryz.underlying22,Tryz.sizeOf3,⟨Tryz.t3,Tryz.typeInfo3,by decide,by decide⟩,⟨_,Tryz.zeroValue3,rfl⟩⟩
theorem eW:Elem Tryz.prog 27 5 1:=⟨Tryz.underlying27,Tryz.sizeOf5,⟨Tryz.t5,Tryz.typeInfo5,by decide,by decide⟩,⟨_,Tryz.zeroValue5,rfl⟩⟩
theorem rI:Elem Tryz.prog 91 9 1:=⟨Tryz.underlying91,Tryz.sizeOf9,⟨Tryz.t9,Tryz.typeInfo9,by decide,by decide⟩,⟨_,Tryz.zeroValue9,rfl⟩⟩
theorem w7:Elem Tryz.prog 92 83 35:=⟨Tryz.underlying92,Tryz.sizeOf83,⟨Tryz.t83,Tryz.typeInfo83,by decide,by decide⟩,⟨_,Tryz.zeroValue83,rfl⟩⟩
theorem Bu:Elem Tryz.prog 101 143 2:=⟨Tryz.underlying101,Tryz.sizeOf143,⟨Tryz.t143,Tryz.typeInfo143,by decide,by decide⟩,⟨_,Tryz.zeroValue143,rfl⟩⟩
theorem jE:Elem Tryz.prog 122 113 8:=⟨Tryz.underlying122,Tryz.sizeOf113,⟨Tryz.t113,Tryz.typeInfo113,by decide,by decide⟩,⟨_,Tryz.zeroValue113,rfl⟩⟩
theorem mixed:Tryz.prog.follows .mixedOrders=true:=by kernel_rfl
end Go.Proofs.YtihpkgmfkbkffaaGreat.Sx
end
section
namespace Go.Proofs.YtihpkgmfkbkffaaGreat.Ro
open Go Go.Sx Go.ChangeShapes Go.WideShapes
theorem own:ownKnob Tryz.prog.godebug=none:=by kernel_rfl
theorem laid:laidOutB Tryz.prog=true:=by kernel_rfl
end Go.Proofs.YtihpkgmfkbkffaaGreat.Ro
end
section
namespace Go.Proofs.YtihpkgmfkbkffaaGreat.Sx
open Go Go.Sx Go.Pl
variable[au]
omit [au] in
def ta(e:Int):Value:= .iface 198 (.agg ⟨[.int .i64 e]⟩)
omit [au] in
def J2(e:Int):Int:=if e=0 then 8 else e
set_option maxHeartbeats 1000000 in
set_option maxRecDepth 100000 in
theorem lT{e:Int}{hs:List Chunk}:aN Tryz.prog 98 [.int .i64 e] hs (fun v' _=>False/\v'= .tuple ⟨[]⟩) (fun v' hs'=>v'=ta (J2 e)/\hs=hs'):=by
 refine aN.enter 7 Tryz.func98 rfl Tryz.ntmps98 rfl ?_
 refine TT.seq (.seq (.region (.U hT 2 rfl (.nil (.seq (.cond rfl (fun c3=> ?_) (fun c3=> ?_)))))))
 .
  have c3:e=0:=by simpa using c3
  refine TT.region (.U hT 1 rfl (.nil (.seq (.region (.U hT 1 rfl (.build hT rfl Tryz.zeroValue198 rfl rfl rfl rfl (.bO Tryz.underlying198 rfl rfl rfl rfl (.panic rfl rfl (PP.up ⟨by unfold J2;rw[if_pos c3];rfl,rfl⟩)))))))))
 .
  have c3:¬e=0:=by simpa using c3
  refine TT.skip (.seq (.region (.U hT 1 rfl (.build hT rfl Tryz.zeroValue198 rfl rfl rfl rfl (.bO Tryz.underlying198 rfl rfl rfl rfl (.panic rfl rfl (PP.up ⟨by unfold J2;rw[if_neg c3];rfl,rfl⟩)))))))
set_option maxHeartbeats 1000000 in
set_option maxRecDepth 100000 in
theorem dr{e:Int}{hs:List Chunk}:aA Tryz.prog 118 [.bool true,.int .i64 e] hs (fun v' hs'=>v'= .tuple ⟨[]⟩/\hs=hs'):=by
 refine aA.enter 8 Tryz.func118 rfl Tryz.ntmps118 rfl ?_
 refine TT.seq (.region (.U hT 2 rfl (.nil (.seq (.cond_false rfl (.skip (.of (rs:=[]) [] hs rfl .nil sl ?_)))))))
 try dsimp only[one]
 exact⟨rfl,rfl⟩
set_option maxHeartbeats 1000000 in
set_option maxRecDepth 100000 in
theorem gL{e:Int}{hs:List Chunk}:aN Tryz.prog 118 [.bool false,.int .i64 e] hs (fun v' _=>False/\v'= .tuple ⟨[]⟩) (fun v' hs'=>v'=ta (J2 e)/\hs=hs'):=by
 refine aN.enter 8 Tryz.func118 rfl Tryz.ntmps118 rfl ?_
 refine TT.seq (.region (.U hT 2 rfl (.nil (.seq (.cond_true rfl (.region (.U hT 1 rfl (.aY Tryz.call98 rfl rfl rfl rfl (lT) (fun _ _ h=>by obtain⟨rfl,rfl⟩:=h;exact PP.up ⟨rfl,rfl⟩) ?_))))))))
 rintro CV tD h
 refine OT.nil (.jm (rs:=[]) [] hs rfl .nil h.1.elim ?_)
 try dsimp only[one]
 exact h.1.elim
theorem bg{b:Bool}{e:Int}{hs:List Chunk}:aN Tryz.prog 118 [.bool b,.int .i64 e] hs (fun v' hs'=>b=true/\v'= .tuple ⟨[]⟩/\hs=hs') (fun v' hs'=>b=false/\v'=ta (J2 e)/\hs=hs'):=by
 cases b with
 |true=>exact(aN.of dr).mono (fun _ _ h=>⟨rfl,h⟩) fun _ _ h=>h
 |false=>exact gL.mono (fun _ _ h=>h.1.elim) fun _ _ h=>⟨rfl,h⟩
omit [au] in
theorem bJ{e:Int}(h:e≠0):J2 e=e:=by unfold J2;rw[if_neg h]
end Go.Proofs.YtihpkgmfkbkffaaGreat.Sx
end
section
namespace Go.Proofs.YtihpkgmfkbkffaaGreat.Sx
open Go Go.Sx Go.Pl
variable[au]
set_option maxRecDepth 100000 in
theorem ri{b:Nat}{e:Int}{fr:Nat×Nat}{hs:List Chunk}{w:World}(hm:Mem ([(b,blk [.int .i64 e] 31 fr)]::hs) w):CallsD Tryz.prog 127 ⟨[.pointer (some ⟨b,0,none⟩)]⟩ .returning w fun x u w'=>u= .returning/\∃v hs',x= .returned v/\hs'=[(b,blk [.int .i64 e] 31 fr)]::hs/\Mem hs' w':=by
 refine lZ (N:=fun v hs'=>hs'=[(b,blk [.int .i64 e] 31 fr)]::hs) (u:= .returning) (u':= .returning) (rv:= .nilIface) (n:=12) Tryz.func127 rfl rfl rfl rfl (fun c cs h=> .inr ⟨wF c cs h,rfl,rfl⟩) ?_ hm
 refine TT.block (.seq (.region ?_))
 refine OT.HR Tryz.underlying20 rfl rfl rfl (.nil (.seq (.cond_true rfl (.region (.U hT 1 rfl (.nil (.blk (.of (rs:=[]) [] _ rfl .nil (.refl _) ?_))))))))
 rfl
set_option maxRecDepth 100000 in
theorem rj{b:Nat}{e0 e:Int}{fr:Nat×Nat}{hs:List Chunk}{w:World}(hfr:fy [Value.int .i64 e0] fr)(hm:Mem ([(b,blk [.int .i64 e0] 31 fr)]::hs) w):CallsD Tryz.prog 127 ⟨[.pointer (some ⟨b,0,none⟩)]⟩ (.panicking [{v:=ta e,recovered:=false}]) w fun x u w'=>u= .panicking [{v:=ta e,recovered:=true}]/\∃v hs',x= .returned v/\hs'=[(b,blk [.int .i64 e] 31 fr)]::hs/\Mem hs' w':=by
 refine lZ (N:=fun v hs'=>hs'=[(b,blk [.int .i64 e] 31 fr)]::hs) (u:= .panicking [{v:=ta e,recovered:=false}]) (u':= .panicking [{v:=ta e,recovered:=true}]) (rv:=ta e) (n:=12) Tryz.func127 rfl rfl rfl rfl (fun c cs h=> .inl (wG (ta e) c cs h)) ?_ hm
 refine TT.block (.seq (.region (.U hT 1 rfl (.nil (.seq (.cond_false rfl ?_))))))
 refine TT.seq (.region ?_)
 refine OT.Da Tryz.underlying198 rfl rfl rfl rfl (.U hT 2 rfl (.nil (.seq (.cond_true rfl ?_))))
 refine TT.seq (.region (.alloc Tryz.zeroValue198 rfl rfl (fun b2=> ?_)))
 refine OT.ag hT rfl rfl rfl rfl .head rfl rfl rfl (.inl (Nat.le_refl _)) (.nil (.seq (.region (.U hT 1 rfl (.load rfl rfl (Ld.one hT rfl .one rfl) rfl ?_)))))
 refine OT.ag hT rfl rfl rfl rfl (.tail .head) rfl rfl rfl hfr (.nil (.blk (.of (rs:=[]) [] ([(b,blk [.int .i64 e] 31 fr)]::hs) rfl .nil sl ?_)))
 rfl
set_option maxRecDepth 100000 in
theorem mL{g:Nat}{caps:List Value}{hs:List Chunk}{N:Value->List Chunk->Prop}{E:Int->List Chunk->Prop}(hc:∀args w,(callFunc g args).run Tryz.prog w= .ok (.enter g args) w)(hF:∀A:Chunk,aN Tryz.prog g caps (A::hs) (fun v hs'=>∃dF,hs'=A::dF/\N v dF) (fun v hs'=>∃e dF,hs'=A::dF/\v=ta e/\E e dF)):aA Tryz.prog 84 [.func (.func g) ⟨[]⟩ ⟨caps⟩] hs (fun v' hs'=>(v'= .int .i64 0/\∃v,N v hs')\/∃e,v'= .int .i64 e/\E e hs'):=by
 intro w hm
 refine calls_of_wp_defers (R:=Post (fun v' hs'=>(v'= .int .i64 0/\∃v,N v hs')\/∃e,v'= .int .i64 e/\E e hs')) Tryz.func84 rfl ?_
 have ha:=Fits.start (fn:=Tryz.f84) (vs:=[.func (.func g) ⟨[]⟩ ⟨caps⟩]) (n:=8) rfl rfl
 refine B1 (X:=⟨Tryz.prog,Tryz.f84,8,Post (fun v' hs'=>(v'= .int .i64 0/\∃v,N v hs')\/∃e,v'= .int .i64 e/\E e hs')⟩) (ι:=Nat) (fun _=>True) (fun b=>[(2,.pointer (some ⟨b,0,none⟩)),(0,.func (.func g) ⟨[]⟩ ⟨caps⟩)]) (fun b=>[(b,blk [.int .i64 0] 31 (0,0))]::hs) ?_ ?_ ha hm
 . exact TT.region (.alloc Tryz.zeroValue31 rfl rfl (fun b=> .nil (.cut b trivial (aa.cons rfl (aa.cons rfl (aa.nil _))) (.refl _))))
 clear ha hm w
 intro b a w _ ha hm
 refine B1 (X:=⟨Tryz.prog,Tryz.f84,8,Post (fun v' hs'=>(v'= .int .i64 0/\∃v,N v hs')\/∃e,v'= .int .i64 e/\E e hs')⟩) (ι:=Unit) (fun _=>True) (fun _=>[(2,.pointer (some ⟨b,0,none⟩)),(0,.func (.func g) ⟨[]⟩ ⟨caps⟩)]) (fun _=>[(b,blk [.int .i64 0] 31 (0,0))]::hs) ?_ ?_ ha hm
 . exact TT.seq (.region (.U hT 2 rfl (.nil (.seq (.cond_false rfl (.skip (.cut () trivial (aa.cons rfl (aa.cons rfl (aa.nil _))) (.refl _))))))))
 clear ha hm w
 intro _ a w _ ha hm
 refine wp_seq (wp_region ?_)
 rw[jc]
 refine rV rfl (r:= .ok (.value (.func (.func 127) ⟨[]⟩ ⟨[.pointer (some ⟨b,0,none⟩)]⟩)) w) (by have h2:=ha.ev (x:= .tmp 2) rfl;simp[execOp,Instr.makeFunc,h2]) ?_
 rw[Oper.upon_value]
 have MU:=ha.put (d:=5) rfl (.func (.func 127) ⟨[]⟩ ⟨[.pointer (some ⟨b,0,none⟩)]⟩)
 generalize a.put (some 5) _=a5 at MU⊢
 refine rV rfl (r:= .ok (.defer ⟨.fn (.func 127) ⟨[.pointer (some ⟨b,0,none⟩)]⟩,#[]⟩) w) (by have h5:=MU.ev (x:= .tmp 5) rfl;simp[execOp,resolve,Deferred.ofValue,h5]) ?_
 rw[Oper.upon_defer,MU.defers]
 refine wp_seq (wp_region ?_)
 rw[jc]
 refine rV rfl (r:= .ok (.value (.func (.func g) ⟨[]⟩ ⟨caps⟩)) w) (by have h0:=MU.ev (x:= .tmp 0) rfl;exact congrArg (fun z=>Result.ok (Next.value z) w) h0) ?_
 rw[Oper.upon_value]
 have Qu:=MU.put (d:=6) rfl (.func (.func g) ⟨[]⟩ ⟨caps⟩)
 have h6:=Qu.ev (x:= .tmp 6) rfl
 refine rV rfl (r:= .ok (.enter g ⟨caps⟩) w) (Aw (x:= .tmp 6) h6 hc) ?_
 rw[Oper.upon_enter]
 refine(hF _ w hm).mono ?_
 rintro x w' (⟨v,hs',rfl,⟨dF,rfl,hN⟩,hM⟩|⟨v,hs',rfl,⟨e,dF,rfl,rfl,hE⟩,hM⟩)
 . refine wp_seq (wp_region ?_)
   rw[jc]
   obtain⟨w2,hr,hm2⟩:=oW (P:=Tryz.prog) (hT.ty (t:=31) rfl).sizeOf hM (o:=0) (v:= .int .i64 0) rfl (Nat.le_refl _) rfl (.inl (Nat.le_refl _))
   have Tp:=Qu.put (d:=7) rfl v
   have h2:=Tp.ev (x:= .tmp 2) rfl
   refine rV rfl (r:= .ok .skip w2) (Ax (x:= .tmp 2) (y:= .const (.int .i64 0)) h2 rfl hr) ?_
   rw[Oper.upon_skip]
   refine wp_ret ?_
   have hm2:Mem ([(b,blk [.int .i64 0] 31 (0,0))]::dF) w2:=hm2
   refine leaves_cons (f:=127) (args:=⟨[.pointer (some ⟨b,0,none⟩)]⟩) (by simp) (by simp[invoke,Tryz.call127]) ?_
   refine(ri hm2).mono ?_
   rintro x u w3 ⟨rfl,v',hs',rfl,rfl,MV⟩
   exact⟨.int .i64 0,zm.run Tp MV (rs:=[.cell 2 31]) (vs:=[.int .i64 0]) (.cell rfl (Ld.one hT rfl .one rfl) .nil) rfl,.int .i64 0,dF,rfl,.inl ⟨rfl,v,hN⟩,MV.drop⟩
 . show Leaves _ _ _ _ [_] (.panicking _) _
   refine leaves_cons (f:=127) (args:=⟨[.pointer (some ⟨b,0,none⟩)]⟩) (by simp) (by simp[invoke,Tryz.call127]) ?_
   refine(rj (.inl (Nat.le_refl _)) hM).mono ?_
   rintro x u w3 ⟨rfl,v',hs',rfl,rfl,MV⟩
   exact⟨.int .i64 e,zm.run Qu MV (rs:=[.cell 2 31]) (vs:=[.int .i64 e]) (.cell rfl (Ld.one hT rfl .one rfl) .nil) rfl,.int .i64 e,dF,rfl,.inr ⟨e,rfl,hE⟩,MV.drop⟩
end Go.Proofs.YtihpkgmfkbkffaaGreat.Sx
end
section
namespace Go.Proofs.YtihpkgmfkbkffaaGreat.Sx
open Go Go.Sx Go.Pl
variable[au]
set_option maxHeartbeats 1000000 in
set_option maxRecDepth 100000 in
theorem sC{no:Int}{hs:List Chunk}:aA Tryz.prog 166 [.int .i64 no] hs (fun v' hs'=>v'= .bool (decide (ay no))/\hs=hs'):=by
 refine aA.enter 9 Tryz.func166 rfl Tryz.ntmps166 rfl ?_
 refine TT.seq (.region (.U hT 1 rfl (.nil (.seq (.seq (.region (.U hT 3 rfl (.split 5 rfl (fun g5=> ?_) (fun g5=> ?_)))))))))
 .
  have g5:=of_decide_eq_true g5
  refine OT.U hT 4 rfl (.nil (.seq (.ret (.of (rs:=[.tmp 2]) [_] hs rfl (.tmp rfl .nil) sl ?_))))
  try dsimp only[one]
  exact⟨congrArg Value.bool (decide_eq_decide.2 ⟨fun h=>⟨by omega,h⟩,fun h=>h.2⟩),rfl⟩
 .
  have g5:=of_decide_eq_false g5
  refine OT.U hT 4 rfl (.nil (.seq (.ret (.of (rs:=[.tmp 2]) [_] hs rfl (.tmp rfl .nil) sl ?_))))
  try dsimp only[one]
  exact⟨congrArg Value.bool (decide_eq_false (fun h=>by have:=h.1;omega)).symm,rfl⟩
omit [au] in
set_option maxRecDepth 100000 in
theorem II:∀x:Fin 256,∀k:Fin 8,(IntKind.u8.wrap (BitVec.ofInt 8 (((x.val:Nat):Int).fdiv (2^(min k.val 8)))&&&BitVec.ofInt 8 1).toNat==1)=decide (x.val/2^k.val%2=1):=by decide+kernel
set_option maxHeartbeats 1000000 in
set_option maxRecDepth 100000 in
theorem qj{v:Value}{bs:List UInt8}{no:Int}{hs:List Chunk}(hr:Row Go.Sx.aB 1 hs v bs)(hl:bs.length=256):aA Tryz.prog 158 [v,.int .i64 no] hs (fun v' hs'=>v'= .bool (hasB bs no)/\hs=hs'):=by
 refine aA.enter 19 Tryz.func158 rfl Tryz.ntmps158 rfl ?_
 obtain⟨a0,c0,hv⟩:=hr.len
 subst hv
 refine TT.seq (.region (.U hT 1 rfl (.nil (.seq (.seq (.region (.U hT 1 rfl (.call Tryz.call166 rfl rfl rfl rfl (sC) ?_))))))))
 rintro Ms zE ⟨rfl,rfl⟩
 refine OT.U hT 1 rfl (.split 7 rfl (fun g7=> ?_) (fun g7=> ?_))
 .
  have g7:=of_decide_eq_true g7
  obtain⟨n,rfl⟩:∃n:Nat,no=n:=⟨no.toNat,by have:=g7.1;omega⟩
  have hn:=g7.2
  obtain⟨c,hc⟩:=nth (l:=bs) (i:=n/8) (by omega)
  refine OT.U hT 3 rfl (.eI 10 rfl (v:= .int .i64 ((n/8:Nat):Int)) (int_eq (by rw[Int.tdiv_eq_ediv_of_nonneg (by omega),wrap_i64 (by omega) (by omega)];omega)) (.index hT rfl rfl rfl rfl hr (by omega) (by rw[Int.toNat_natCast];exact hc) rfl (fun T5 LP=> ?_)))
  refine OT.load rfl rfl (LP.bL hT rfl rfl) rfl (.U hT 2 rfl (.eI 14 rfl (v:= .int .i64 ((n%8:Nat):Int)) (int_eq (by rw[Int.tmod_eq_emod_of_nonneg (by omega)];omega)) (.shr hT rfl rfl rfl (by omega) rfl (.U hT 4 rfl (.nil (.seq (.ret (.of (rs:=[.tmp 4]) [_] hs rfl (.tmp rfl .nil) sl ?_))))))))
  try dsimp only[one]
  refine⟨congrArg Value.bool ?_,rfl⟩
  have:=II ⟨c.toNat,c.toNat_lt⟩ ⟨n%8,Nat.mod_lt _ (by decide)⟩
  unfold hasB
  have e:bs.getD ((n:Int).toNat/8) 0=c:=by rw[Int.toNat_natCast,List.getD_eq_getElem?_getD,hc];rfl
  rw[decide_eq_true g7,Bool.true_and,e,show(n:Int).toNat%8=n%8 by rw[Int.toNat_natCast]]
  exact this
 .
  have g7:=of_decide_eq_false g7
  refine OT.U hT 12 rfl (.nil (.seq (.ret (.of (rs:=[.tmp 4]) [_] hs rfl (.tmp rfl .nil) sl ?_))))
  try dsimp only[one]
  exact⟨congrArg Value.bool (by unfold hasB;rw[decide_eq_false g7];rfl),rfl⟩
end Go.Proofs.YtihpkgmfkbkffaaGreat.Sx
end
section
namespace Go.Proofs.YtihpkgmfkbkffaaGreat.Sx
open Go Go.Sx Go.Pl
variable[au]
set_option maxHeartbeats 1000000 in
set_option maxRecDepth 100000 in
theorem nN{P:Value}{I:Chunk->Prop}{E:Int->Chunk->Prop}{pg:Int->Int×List UInt8}{H:Chunk}{r:List Chunk}(hP:ni Tryz.prog 5 P I E pg)(hI:I H):aA Tryz.prog 157 [P] (H::r) (fun v' hs'=>∃H' K w e bs,hs'=H'::K::r/\v'= .tuple ⟨[w,.int .i64 e]⟩/\Own Go.Sx.aB 1 5 w bs K/\mO I E (bn (pg 1)) e bs H'):=by
 refine aA.enter 22 Tryz.func157 rfl Tryz.ntmps157 rfl ?_
 obtain⟨ti,ui,rfl⟩:=hP.iface
 refine TT.seq (.region (.U hT 2 rfl (.nil (.seq (.seq (.seq (.region (.U hT 2 rfl (.nil (.seq (.cond_false rfl (.skip (.seq (.seq (.region (.U hT 1 rfl (.kS hP rfl rfl rfl rfl pl hI (by omega) (by omega) (fun w8 NB WA R3 Oy Bv Jy=> ?_))))))))))))))))))
 obtain⟨XM,en,rfl⟩:=(Bv.row (hs:=[])).len
 refine OT.U hT 5 rfl (.nil (.seq (.seq (.block (.seq (.region (.U hT 3 rfl (.nil (.seq (.cond rfl (fun gM=> ?_) (fun gM=> ?_)))))))))))
 .
  have gM:=bne_iff_ne.1 gM
  rcases Jy with⟨h,_⟩|⟨h,rfl,hq⟩
  . exact absurd h gM
  refine TT.seq (.region (.U hT 3 rfl (.nil (.seq (.ret (.of (rs:=[.tmp 2,.tmp 3]) [_,_] (w8::[]::r) rfl (.tmp rfl (.tmp rfl .nil)) sl ?_))))))
  try dsimp only[one]
  refine⟨w8,[],_,R3,[],rfl,rfl,Own.nil,.inr ⟨gM,rfl,?_⟩⟩
  rcases hq with⟨h1,h2⟩|h2
  . exact .inl ⟨by unfold bn;rw[if_pos (by rw[h1];exact gM)];exact h1,h2⟩
  . exact .inr h2
 .
  have gM:=bne_eq_false_iff_eq.1 gM
  rcases Jy with⟨rfl,hx,fX⟩|⟨h,_⟩
  rotate_left
  . exact absurd gM h
  refine TT.seq (.region (.U hT 4 rfl (.nil (.seq (.cond rfl (fun jn=> ?_) (fun jn=> ?_))))))
  .
   have jn:=bne_iff_ne.1 jn
   refine TT.seq (.region (.U hT 2 rfl (.nil (.seq (.ret (.of (rs:=[.tmp 2,.tmp 3]) [_,_] (w8::[]::r) rfl (.tmp rfl (.tmp rfl .nil)) sl ?_))))))
   try dsimp only[one]
   refine⟨w8,[],_,1,[],rfl,rfl,Own.nil,.inr ⟨by decide,rfl,.inl ⟨?_,fX⟩⟩⟩
   unfold bn
   rw[hx,if_neg (by simp),if_pos (by dsimp only;omega)]
  .
   have jn:=bne_eq_false_iff_eq.1 jn
   refine TT.skip (.blk (.seq (.seq (.region (.U hT 3 rfl (.nil (.seq (.ret (.of (rs:=[.tmp 2,.tmp 3]) [_,_] (w8::NB::r) rfl (.tmp rfl (.tmp rfl .nil)) sl ?_)))))))))
   try dsimp only[one]
   refine⟨w8,NB,_,0,Oy,rfl,rfl,Bv,.inl ⟨rfl,?_,fX⟩⟩
   unfold bn
   rw[hx,if_neg (by simp),if_neg (by dsimp only;omega)]
omit [au] in
def Oz(I:Chunk->Prop)(E:Int->Chunk->Prop)(x:Int×List UInt8)(no:Int)(b:Bool)(e:Int)(H:Chunk):Prop:=(e=0/\(bn x).1=0/\b=hasB (bn x).2 no/\I H)\/(e≠0/\b=false/\((bn x).1=e/\I H\/E e H))
omit [au] in
theorem vg{x:Int×List UInt8}{bs:List UInt8}(h:bn x=(0,bs)):bs.length=256:=by
 unfold bn at h
 split at h
 . rename_i h1;exact absurd (congrArg Prod.fst h) h1
 . split at h
   . exact absurd (congrArg Prod.fst h) (by simp)
   . rename_i h2;rw[h]at h2;exact Decidable.byContradiction h2
set_option maxHeartbeats 1000000 in
set_option maxRecDepth 100000 in
theorem A1{P:Value}{I:Chunk->Prop}{E:Int->Chunk->Prop}{pg:Int->Int×List UInt8}{H:Chunk}{r:List Chunk}(hP:ni Tryz.prog 5 P I E pg)(hI:I H){no:Int}:aA Tryz.prog 117 [P,.int .i64 no] (H::r) (fun v' hs'=>∃H' b e,hs'=H'::r/\v'= .tuple ⟨[.bool b,.int .i64 e]⟩/\Oz I E (pg 1) no b e H'):=by
 refine aA.enter 19 Tryz.func117 rfl Tryz.ntmps117 rfl ?_
 refine TT.seq (.region (.U hT 2 rfl (.nil (.seq (.seq (.region (.U hT 1 rfl (.call Tryz.call157 rfl rfl rfl rfl (nN hP hI) ?_))))))))
 rintro nZ jF ⟨H1,K1,w1,e1,pY,rfl,rfl,eJ,nh⟩
 refine OT.U hT 5 rfl (.nil (.seq (.seq (.seq (.region (.U hT 2 rfl (.nil (.seq (.cond rfl (fun nU=> ?_) (fun nU=> ?_))))))))))
 .
  have nU:=bne_iff_ne.1 nU
  rcases nh with⟨h,_⟩|⟨h,rfl,hq⟩
  . exact absurd h nU
  refine TT.seq (.region (.U hT 3 rfl (.nil (.seq (.ret (.of (rs:=[.tmp 4,.tmp 5]) [_,_] (H1::r) rfl (.tmp rfl (.tmp rfl .nil)) sl ?_))))))
  try dsimp only[one]
  exact⟨H1,false,e1,rfl,rfl,.inr ⟨nU,rfl,hq⟩⟩
 .
  have nU:=bne_eq_false_iff_eq.1 nU
  rcases nh with⟨rfl,hx,fX⟩|⟨h,_⟩
  rotate_left
  . exact absurd nU h
  refine TT.skip (.seq (.seq (.region (.U hT 2 rfl (.call Tryz.call158 rfl rfl rfl rfl (qj (eJ.row.there) (vg hx)) ?_)))))
  rintro EB ET ⟨rfl,rfl⟩
  refine OT.U hT 2 rfl (.nil (.seq (.ret (.of (rs:=[.tmp 4,.tmp 5]) [_,_] (H1::r) rfl (.tmp rfl (.tmp rfl .nil)) sl ?_))))
  try dsimp only[one]
  exact⟨H1,_,0,rfl,rfl,.inl ⟨rfl,by rw[hx],by rw[hx],fX⟩⟩
omit [au] in
theorem vj{P:Value}{s:az}(hp:P.cells.toList=[P])(fG:(aq s).length=35){zc:List Value}(hz:zc.length=36):iV [(0,1),(1,35)] zc [(0,P),(1,.agg ⟨aq s⟩)]=some (P::aq s):=by
 have h2:(Value.agg ⟨aq s⟩).cells.toList=aq s:=rfl
 obtain⟨z0,zr,rfl⟩:∃z0 zr,zc=z0::zr:=by cases zc with|nil=>simp at hz|cons a b=>exact⟨a,b,rfl⟩
 simp only[List.length_cons]at hz
 simp[iV,hp,h2,fG,splice,hz]
 rw[List.drop_eq_nil_of_le (by omega),List.append_nil]
 rfl
set_option maxHeartbeats 1000000 in
set_option maxRecDepth 100000 in
theorem oU{P:Value}{s:az}{hs:List Chunk}{t u}(hv:P= .iface t u)(fG:(aq s).length=35):aA Tryz.prog 40 [P,.agg ⟨aq s⟩] hs (fun v' hs'=>∃bv,v'= .pointer (some ⟨bv,0,none⟩)/\hs'=[(bv,blk (P::aq s) 134 (0,0))]::hs):=by
 refine aA.enter 9 Tryz.func40 rfl Tryz.ntmps40 rfl ?_
 subst hv
 refine TT.seq (.region (.box rfl rfl rfl (fun pG=> ?_)))
 refine OT.U hT 1 rfl (.nil (.seq (.seq (.region (.U hT 1 rfl (.load rfl rfl (Ld.af hT rfl hz (by exact fG)) rfl ?_))))))
 refine OT.build (cs:= .iface t u::aq s) hT rfl Tryz.zeroValue134 rfl rfl (vj rfl fG kr) rfl (.box rfl rfl rfl (fun fH=> ?_))
 refine OT.U hT 1 rfl (.nil (.seq (.ret (.of (rs:=[.tmp 4]) [_] ([(fH,blk (.iface t u::aq s) 134 (0,0))]::hs) rfl (.tmp rfl .nil) sl ?_))))
 try dsimp only[one]
 exact⟨fH,rfl,rfl⟩
end Go.Proofs.YtihpkgmfkbkffaaGreat.Sx
end
section
namespace Go.Proofs.YtihpkgmfkbkffaaGreat.Sx
open Go Go.Sx Go.Pl
variable[au]
set_option maxHeartbeats 1000000 in
set_option maxRecDepth 100000 in
theorem DL{b:Nat}{Q:ah}{H:Chunk}{r:List Chunk}(hB:eL 30 b Q H){no:Int}:aA Tryz.prog 235 [.pointer (some ⟨b,0,none⟩),.int .i64 no] (H::r) (fun v' hs'=>∃K w,hs'=H::K::r/\v'= .tuple ⟨[w,.int .i64 (aK Q no).1]⟩/\Own Go.Sx.aB 1 5 w (aK Q no).2 K):=by
 refine aA.enter 40 Tryz.func235 rfl Tryz.ntmps235 rfl ?_
 obtain⟨vs,G,hS,rfl⟩:=hB.is
 refine TT.split (.seq (.region (.U hT 2 rfl (.nil (.seq (.seq (.seq (.region (.U hT 3 rfl (.split 8 rfl (fun g8=> ?_) (fun g8=> ?_)))))))))))
 .
  have g8:=of_decide_eq_true g8
  refine OT.U hT 3 rfl (.nil (.seq (.cond_true rfl (.seq (.region (.U hT 2 rfl (.nil (.seq (.ret (.of (rs:=[.tmp 4,.tmp 5]) [_,_] (([(b,blk (aJ vs) 30 (0,0))]++G)::[]::r) rfl (.tmp rfl (.tmp rfl .nil)) sl ?_))))))))))
  try dsimp only[one]
  exact⟨[],_,rfl,by unfold aK;rw[if_neg (by unfold aD;omega)],by unfold aK;rw[if_neg (by unfold aD;omega)];exact Own.nil⟩
 .
  have g8:=of_decide_eq_false g8
  refine OT.U hT 3 rfl (.nil (.seq (.cond rfl (fun pH=> ?_) (fun pH=> ?_))))
  .
   have pH:=of_decide_eq_true pH
   refine TT.seq (.region (.U hT 2 rfl (.nil (.seq (.ret (.of (rs:=[.tmp 4,.tmp 5]) [_,_] (([(b,blk (aJ vs) 30 (0,0))]++G)::[]::r) rfl (.tmp rfl (.tmp rfl .nil)) sl ?_))))))
   try dsimp only[one]
   exact⟨[],_,rfl,by unfold aK;rw[if_neg (by unfold aD;omega)],by unfold aK;rw[if_neg (by unfold aD;omega)];exact Own.nil⟩
  .
   have pH:=of_decide_eq_false pH
   obtain⟨n,rfl⟩:∃n:Nat,no=n:=⟨no.toNat,by omega⟩
   have hm:aD (n:Nat):=by unfold aD;omega
   obtain⟨v,hv,Qv⟩:=hS.at_ n (by omega)
   have Ec:aK Q (n:Nat)=(0,Q (n:Nat)):=by unfold aK;rw[if_pos hm]
   have hlen:=Qv.len
   obtain⟨sp,sn,sc,rfl,VI,VJ⟩:=Qv.slice
   refine TT.skip (.seq (.seq (.seq (.region (.U hT 3 rfl (.load rfl rfl (Ld.one hT rfl hz (Ly hS.len)) rfl ?_))))))
   refine OT.U hT 2 rfl (.U hT 7 rfl (.nil (.seq (.cond_false rfl (.skip (.seq (.seq (.seq (.region (.U hT 4 rfl (.aT hT rfl rfl rfl rfl (by omega) (by omega) rfl (.load rfl rfl (Ld.slc hT rfl hz (ug hS.len hv (by omega))) rfl ?_))))))))))))
   refine OT.U hT 1 rfl (.nil (.seq (.cond rfl (fun fE=> ?_) (fun fE=> ?_))))
   .
    have PO:=VI fE
    refine TT.seq (.region ?_)
    refine OT.make (enc:=Go.Sx.aB) (z0:=(0:UInt8)) (n:=256) eW Tryz.zeroValue5 rfl rfl rfl rfl rfl (by omega) rfl (fun Hu R4 OA=> ?_)
    refine OT.U hT 2 rfl (.nil (.seq (.ret (.of (rs:=[.tmp 4,.tmp 5]) [_,_] (([(b,blk (aJ vs) 30 (0,0))]++G)::R4::r) rfl (.tmp rfl (.tmp rfl .nil)) sl ?_))))
    try dsimp only[one]
    rw[Ec]
    exact⟨_,_,rfl,rfl,by rw[PO];exact OA⟩
   .
    have hrow:=VJ fE
    refine TT.skip (.seq (.seq (.region (.U hT 4 rfl (.aT hT rfl rfl rfl rfl (by omega) (by omega) rfl (.load rfl rfl (Ld.slc hT rfl hz (ug hS.len hv (by omega))) rfl ?_))))))
    refine OT.jo ?_
    refine OT.append hT eW rfl rfl rfl rfl pl (Own.nil (enc:=Go.Sx.aB) (sz:=1) (e:=5)) (hrow.mono fun b o hb=> .there (.there (m9 hb))) (Li _) (by simp only[List.length_nil];omega) rfl (fun vu KG rR=> ?_)
    refine OT.U hT 2 rfl (.nil (.seq (.ret (.of (rs:=[.tmp 4,.tmp 5]) [_,_] (([(b,blk (aJ vs) 30 (0,0))]++G)::KG::r) rfl (.tmp rfl (.tmp rfl .nil)) sl ?_))))
    try dsimp only[one]
    rw[Ec]
    exact⟨_,_,rfl,rfl,by rw[List.nil_append]at rR;exact rR⟩
theorem vm{b:Nat}{Q:ah}{I:Chunk->Prop}(hI:∀H,I H->eL 30 b Q H):ni Tryz.prog 5 (.iface 26 (.pointer (some ⟨b,0,none⟩))) I (fun _ _=>False) (aK Q):=
 ⟨26,_,235,_,rfl,fun w=>by kernel_rfl,Tryz.call235,fun no H r _ _ hB=>(DL (hI H hB)).mono fun v' hs' ⟨K,w,h1,h2,h3⟩=>⟨H,K,w,_,_,h1,h2,h3,by
  by_cases hm:aD no
  . exact .inl ⟨by unfold aK;rw[if_pos hm],by unfold aK;rw[if_pos hm],hB⟩
  . exact .inr ⟨by unfold aK;rw[if_neg hm];decide,by unfold aK;rw[if_neg hm],.inl ⟨rfl,hB⟩⟩⟩⟩
theorem oV{b:Nat}{Q:ah}:ni Tryz.prog 5 (.iface 26 (.pointer (some ⟨b,0,none⟩))) (eL 30 b Q) (fun _ _=>False) (aK Q):=vm fun _ h=>h
end Go.Proofs.YtihpkgmfkbkffaaGreat.Sx
end
section
namespace Go.Proofs.YtihpkgmfkbkffaaGreat.Sx
open Go Go.Sx Go.Pl
variable[au]
omit [au] in
theorem Bw(b:Nat)(w:World):(callFunc 91 #[.float .f64 b]).run Tryz.prog w= .ok (.value (.int .u64 (b:Nat))) w:=by kernel_rfl
omit [au] in
theorem vU(b:Nat)(w:World):(callFunc 114 #[.int .u64 (b:Nat)]).run Tryz.prog w= .ok (.value (.float .f64 b)) w:=by kernel_rfl
set_option maxHeartbeats 1000000 in
set_option maxRecDepth 100000 in
theorem Co{u:Nat}{hs:List Chunk}:aA Tryz.prog 131 [.float .f64 u] hs (fun v' hs'=>v'= .bool (qB u)/\hs=hs'):=by
 refine aA.enter 6 Tryz.func131 rfl Tryz.ntmps131 rfl ?_
 refine TT.seq (.region (.U hT 1 rfl (.nil (.seq (.seq (.region (.U hT 2 rfl (.Oc rfl rfl rfl rfl (.U hT 1 rfl (.nil (.seq (.ret (.of (rs:=[.tmp 2]) [_] hs rfl (.tmp rfl .nil) sl ?_)))))))))))))
 try dsimp only[one]
 exact⟨rfl,rfl⟩
set_option maxHeartbeats 1000000 in
set_option maxRecDepth 100000 in
theorem OB{hs:List Chunk}:aA Tryz.prog 216 [] hs (fun v' hs'=>v'= .float .f64 9221120237041090561/\hs=hs'):=by
 refine aA.enter 2 Tryz.func216 rfl Tryz.ntmps216 rfl ?_
 refine TT.seq (.region (.U hT 1 rfl (.nil (.seq (.seq (.region (.extern (vU _) rfl rfl rfl rfl (.U hT 1 rfl (.nil (.seq (.ret (.of (rs:=[.tmp 0]) [_] hs rfl (.tmp rfl .nil) sl ?_))))))))))))
 try dsimp only[one]
 exact⟨rfl,rfl⟩
set_option maxHeartbeats 1000000 in
set_option maxRecDepth 100000 in
theorem yB{u:Nat}{hs:List Chunk}:aA Tryz.prog 92 [.float .f64 u] hs (fun v' hs'=>v'= .float .f64 (pO u)/\hs=hs'):=by
 refine aA.enter 7 Tryz.func92 rfl Tryz.ntmps92 rfl ?_
 refine TT.seq (.region (.U hT 1 rfl (.nil (.seq (.seq (.seq (.region (.U hT 1 rfl (.call Tryz.call131 rfl rfl rfl rfl (Co) ?_)))))))))
 rintro Qw NC ⟨rfl,rfl⟩
 refine OT.nil (.seq (.cond rfl (fun c4=> ?_) (fun c4=> ?_)))
 .
  refine TT.seq (.region (.extern (vU _) rfl rfl rfl rfl (.U hT 1 rfl (.nil (.seq (.ret (.of (rs:=[.tmp 2]) [_] hs rfl (.tmp rfl .nil) sl ?_)))))))
  try dsimp only[one]
  exact⟨by unfold pO;rw[c4];rfl,rfl⟩
 .
  refine TT.skip (.seq (.seq (.region (.U hT 2 rfl (.nil (.seq (.ret (.of (rs:=[.tmp 2]) [_] hs rfl (.tmp rfl .nil) sl ?_))))))))
  try dsimp only[one]
  exact⟨by unfold pO;rw[c4];rfl,rfl⟩
set_option maxHeartbeats 1000000 in
set_option maxRecDepth 100000 in
theorem sD{u:Nat}(hu:u<2^64){hs:List Chunk}:aA Tryz.prog 217 [.float .f64 u] hs (fun v' hs'=>v'= .int .u64 (cT u:Nat)/\hs=hs'):=by
 refine aA.enter 17 Tryz.func217 rfl Tryz.ntmps217 rfl ?_
 refine TT.seq (.region (.U hT 1 rfl (.nil (.seq (.seq (.region (.U hT 1 rfl (.extern (Bw _) rfl rfl rfl rfl (.U hT 1 rfl (.nil (.seq (.seq (.block (.seq (.region (.U hT 1 rfl (.call Tryz.call131 rfl rfl rfl rfl (Co) ?_)))))))))))))))))
 rintro Ed rJ ⟨rfl,rfl⟩
 refine OT.U hT 1 rfl (.nil (.seq (.cond rfl (fun c6=> ?_) (fun c6=> ?_))))
 .
  refine TT.seq (.region (.U hT 1 rfl (.nil (.seq (.ret (.of (rs:=[.tmp 2]) [_] hs rfl (.tmp rfl .nil) sl ?_))))))
  try dsimp only[one]
  exact⟨by unfold cT;rw[c6];rfl,rfl⟩
 .
  refine TT.seq (.region (.U hT 4 rfl (.nil (.seq (.cond rfl (fun c9=> ?_) (fun c9=> ?_))))))
  .
   have c9:=bne_iff_ne.1 c9
   refine TT.seq (.region (.U hT 3 rfl (.nil (.seq (.ret (.of (rs:=[.tmp 2]) [_] hs rfl (.tmp rfl .nil) sl ?_))))))
   try dsimp only[one]
   refine⟨int_eq ?_,rfl⟩
   rw[Bl hu]at c9
   have h63:2^63<=u:=Decidable.byContradiction fun h=>c9 (if_neg h)
   rw[ES _ (by omega) (by omega)]
   unfold cT;rw[c6,if_neg (by simp),if_pos h63];omega
  .
   have c9:=bne_eq_false_iff_eq.1 c9
   refine TT.skip (.blk (.seq (.seq (.region (.U hT 3 rfl (.nil (.seq (.ret (.of (rs:=[.tmp 2]) [_] hs rfl (.tmp rfl .nil) sl ?_)))))))))
   try dsimp only[one]
   refine⟨int_eq ?_,rfl⟩
   unfold cT;rw[c6,if_neg (by simp)]
   rw[Bl hu]at c9
   have h63:¬2^63<=u:=fun h=>by rw[if_pos h]at c9;cases c9
   rw[if_neg h63,RG (by omega)]
set_option maxHeartbeats 1000000 in
set_option maxRecDepth 100000 in
theorem Gp{u:Nat}(hu:u<2^64){hs:List Chunk}:aA Tryz.prog 218 [.float .f64 u] hs (fun v' hs'=>∃K,hs'=K::hs/\Own Go.Sx.aB 1 5 v' (gk u) K):=by
 refine aA.enter 22 Tryz.func218 rfl Tryz.ntmps218 rfl ?_
 refine TT.seq (.region (.U hT 1 rfl (.nil (.seq (.seq (.region (.U hT 1 rfl (.call Tryz.call217 rfl rfl rfl rfl (sD hu) ?_))))))))
 rintro CV tD ⟨rfl,rfl⟩
 refine OT.U hT 1 rfl (.nil (.seq (.seq (.region (.U hT 1 rfl (.nil (.seq (.seq (.seq (.region (.U hT 1 rfl (.nil (.seq (.block (.jo (.loop (ι:=Nat×Value×Chunk) (fun j=>(j.1)<=8/\Own Go.Sx.aB 1 5 (j.2.1) (CD (cT u) (j.1)) (j.2.2)) (fun j=>8-(j.1)) (fun j=>[(3,.int .u64 (cT u:Nat)),(4,(j.2.1)),(8,.int .i64 ((j.1):Nat))]) (fun j=>(j.2.2)::hs) (0,.slice none 0 0,[]) ?_ (aa.cons rfl (aa.cons rfl (aa.cons rfl (aa.nil _)))) sl ?_))))))))))))))))
 . dsimp only
   exact⟨by omega,Own.nil⟩
 rintro⟨i,w,K⟩ hI
 dsimp only at hI
 obtain⟨hi,ho⟩:=hI
 show TT _ _ _ [(3,.int .u64 (cT u:Nat)),(4,w),(8,.int .i64 (i:Nat))] (K::hs)
 have XN:=FI (cT u) i
 refine TT.seq (.region (.U hT 1 rfl (.nil (.seq (.seq (.cond rfl (fun c9=> ?_) (fun c9=> ?_)))))))
 .
  have c9:=of_decide_eq_true c9
  refine TT.skip (.seq (.seq (.block (.seq (.region (.U hT 2 rfl (.nil (.seq (.region (.U hT 5 rfl (.eI 15 rfl (v:= .int .i64 ((8*(7-i):Nat):Int)) (int_eq (by rw[wrap_i64 (n:=7-(i:Int)) (by omega) (by omega),wrap_i64 (by omega) (by omega)];omega)) (.shr hT rfl rfl rfl (by omega) rfl (.U hT 1 rfl ?_)))))))))))))
  refine OT.buildSlice (enc:=Go.Sx.aB) (xs:=[UInt8.ofNat (cT u/256^(7-i)%256)]) (gQ:=[.tmp 17]) eW rfl rfl rfl rfl (by rw[HX (by omega)];rfl) (by simp[Value.cells]) (fun _ _=>rfl) rfl (by decide) rfl (fun EB WB OC=> ?_)
  refine OT.append hT eW rfl rfl rfl rfl pl ho OC.row rfl (by simp only[List.length_cons,List.length_nil];omega) rfl (fun jY w9 oh=> ?_)
  refine OT.U hT 1 rfl (.nil (.blk (.seq (.region (.U hT 2 rfl (.nil (.loop (i+1,jY,w9) ?_ ?_ (aa.cons rfl (aa.cons rfl (aa.aM rfl (by(try dsimp only);exact(int_eq (by rw[wrap_i64 (by omega) (by omega)];omega))) (aa.nil _)))) sl)))))))
  . dsimp only
    exact⟨by omega,by rw[Dc];exact oh⟩
  . dsimp only
    omega
 .
  have c9:=of_decide_eq_false c9
  obtain rfl:i=8:=by omega
  refine TT.exit (.seq (.loop (.here (.seq (.seq (.region (.U hT 2 rfl (.nil (.seq (.ret (.of (rs:=[.tmp 2]) [_] (K::hs) rfl (.tmp rfl .nil) sl ?_)))))))))))
  try dsimp only[one]
  exact⟨K,rfl,ho⟩
set_option maxHeartbeats 1000000 in
set_option maxRecDepth 100000 in
theorem OD{v:Value}{xs:List UInt8}{hs:List Chunk}(hr:Row Go.Sx.aB 1 hs v xs):aA Tryz.prog 210 [v] hs (fun v' hs'=>v'=(.tuple ⟨[.float .f64 (t_ xs).1,.bool (t_ xs).2]⟩)/\hs=hs'):=by
 refine aA.enter 43 Tryz.func210 rfl Tryz.ntmps210 rfl ?_
 obtain⟨a0,c0,hv⟩:=hr.len
 subst hv
 refine TT.seq (.region (.U hT 2 rfl (.nil (.seq (.seq (.seq (.region (.U hT 3 rfl (.nil (.seq (.cond rfl (fun en=> ?_) (fun en=> ?_))))))))))))
 .
  have en:=bne_iff_ne.1 en
  refine TT.seq (.region (.U hT 2 rfl (.nil (.seq (.ret (.of (rs:=[.tmp 2,.tmp 3]) [_,_] hs rfl (.tmp rfl (.tmp rfl .nil)) sl ?_))))))
  try dsimp only[one]
  refine⟨?_,rfl⟩
  unfold t_;rw[if_pos (by omega)]
 .
  have en:=bne_eq_false_iff_eq.1 en
  have Tq:xs.length=8:=by omega
  refine TT.skip (.seq (.seq (.region (.U hT 1 rfl (.nil (.seq (.seq (.seq (.region (.U hT 3 rfl (.nil (.seq (.block (.loop (ι:=Nat) (fun j=>(j)<=8) (fun j=>8-(j)) (fun j=>[(4,.int .u64 (mP (xs.take (j)):Nat)),(11,.slice a0 xs.length c0),(12,.int .i64 (xs.length:Nat)),(13,.int .i64 ((j):Nat))]) (fun j=>hs) (0) ?_ (aa.cons rfl (aa.cons rfl (aa.cons rfl (aa.cons rfl (aa.nil _))))) sl ?_))))))))))))))
  . omega
  rintro i hi
  show TT _ _ _ [(4,.int .u64 (mP (xs.take i):Nat)),(11,.slice a0 xs.length c0),(12,.int .i64 (xs.length:Nat)),(13,.int .i64 (i:Nat))] (hs)
  refine TT.seq (.region (.U hT 1 rfl (.nil (.seq (.seq (.cond rfl (fun nU=> ?_) (fun nU=> ?_)))))))
  .
   have nU:=of_decide_eq_true nU
   obtain⟨c,hc⟩:=nth (l:=xs) (i:=i) (by omega)
   have hlt:mP (xs.take i)<256^7:=Nat.lt_of_lt_of_le (zZ _) (Nat.pow_le_pow_right (by decide) (by rw[List.length_take];omega))
   refine TT.skip (.seq (.seq (.block (.seq (.region (.index hT rfl rfl rfl rfl hr (by omega) (by rw[Int.toNat_natCast];exact hc) rfl (fun OE Ab=> ?_)))))))
   refine OT.load rfl rfl (Ab.bL hT rfl rfl) rfl (.U hT 1 rfl (.nil (.seq (.region (.U hT 6 rfl (.nil (.blk (.seq (.region (.U hT 2 rfl (.nil (.loop (i+1) ?_ ?_ (aa.aM rfl (by(try dsimp only);exact(int_eq (by rw[take_succ hc,Az,RH hlt,wrap_u64 (n:=((c.toNat:Nat):Int)) (by omega) (by have:=c.toNat_lt;omega),HZ hlt]))) (aa.cons rfl (aa.cons rfl (aa.aM rfl (by(try dsimp only);exact(int_eq (by rw[wrap_i64 (by omega) (by omega)];omega))) (aa.nil _))))) sl))))))))))))
   . omega
   . omega
  .
   have nU:=of_decide_eq_false nU
   obtain rfl:i=8:=by omega
   rw[List.take_of_length_le (by omega)]
   have hu:mP xs<2^64:=by have:=zZ xs;rw[Tq]at this;exact this
   refine TT.exit (.seq (.loop (.here (.seq (.seq (.region (.U hT 2 rfl (.eI 24 rfl (v:= .int .u64 ((mP xs%2^63:Nat):Int)) (int_eq (HW hu)) (.extern (vU _) rfl rfl rfl rfl (.U hT 1 rfl (.nil (.seq (.seq (.block (.seq (.region (.U hT 3 rfl (.nil (.seq (.cond rfl (fun MW=> ?_) (fun MW=> ?_)))))))))))))))))))))
   .
    have MW:=beq_iff_eq.1 MW
    have MX:mP xs=0:=by omega
    refine TT.seq (.region (.call Tryz.call216 rfl rfl rfl rfl (OB) ?_))
    rintro vv qt ⟨rfl,rfl⟩
    refine OT.call Tryz.call92 rfl rfl rfl rfl (yB) ?_
    rintro vw uo ⟨rfl,rfl⟩
    refine OT.U hT 2 rfl (.nil (.seq (.ret (.of (rs:=[.tmp 2,.tmp 3]) [_,_] hs rfl (.tmp rfl (.tmp rfl .nil)) sl ?_))))
    try dsimp only[one]
    refine⟨?_,rfl⟩
    unfold t_ fT
    rw[if_neg (by omega)]
    dsimp only
    rw[if_pos MX,MX]
    rfl
   .
    have MW:=beq_eq_false_iff_ne.1 MW
    have MX:¬mP xs=0:=by omega
    refine TT.seq (.region (.U hT 4 rfl (.nil (.seq (.cond rfl (fun fE=> ?_) (fun fE=> ?_))))))
    .
     have h63:mP xs<2^63:=by
      rw[Bl hu]at fE
      exact Decidable.byContradiction fun h=>by rw[if_pos (by omega)]at fE;cases fE
     have hG:t_ xs=if cT (2^64-1-mP xs)=mP xs then(2^64-1-mP xs,true)else(0,false):=by
      unfold t_ fT
      rw[if_neg (by omega)]
      dsimp only
      rw[if_neg MX,if_pos h63]
      by_cases h:cT (2^64-1-mP xs)=mP xs
      . rw[if_pos h,if_pos h]
      . rw[if_neg h,if_neg h]
     refine TT.region (.U hT 2 rfl (.eI 36 rfl (v:= .int .u64 ((2^64-1-mP xs:Nat):Int)) (int_eq (by rw[ES _ (by omega) (by omega)];omega)) (.extern (vU _) rfl rfl rfl rfl (.U hT 1 rfl (.nil (.blk (.seq (.seq (.seq (.region (.U hT 1 rfl (.call Tryz.call217 rfl rfl rfl rfl (sD (by omega)) ?_))))))))))))
     rintro vu Bx ⟨rfl,rfl⟩
     refine OT.U hT 2 rfl (.nil (.seq (.cond rfl (fun Ee=> ?_) (fun Ee=> ?_))))
     .
      have Ee:=bne_iff_ne.1 Ee
      refine TT.seq (.region (.U hT 2 rfl (.nil (.seq (.ret (.of (rs:=[.tmp 2,.tmp 3]) [_,_] hs rfl (.tmp rfl (.tmp rfl .nil)) sl ?_))))))
      try dsimp only[one]
      refine⟨?_,rfl⟩
      rw[hG,if_neg (by omega)]
     .
      have Ee:=bne_eq_false_iff_eq.1 Ee
      refine TT.skip (.seq (.seq (.region (.U hT 3 rfl (.nil (.seq (.ret (.of (rs:=[.tmp 2,.tmp 3]) [_,_] hs rfl (.tmp rfl (.tmp rfl .nil)) sl ?_))))))))
      try dsimp only[one]
      refine⟨?_,rfl⟩
      rw[hG,if_pos (by omega)]
    .
     have h63:¬mP xs<2^63:=by
      rw[Bl hu]at fE
      intro h;rw[if_neg (by omega)]at fE;exact absurd fE (by decide)
     have hG:t_ xs=if cT (mP xs%2^63)=mP xs then(mP xs%2^63,true)else(0,false):=by
      unfold t_ fT
      rw[if_neg (by omega)]
      dsimp only
      rw[if_neg MX,if_neg h63,show mP xs-2^63=mP xs%2^63 by omega]
      by_cases h:cT (mP xs%2^63)=mP xs
      . rw[if_pos h,if_pos h]
      . rw[if_neg h,if_neg h]
     refine TT.skip (.blk (.seq (.seq (.seq (.region (.U hT 1 rfl (.call Tryz.call217 rfl rfl rfl rfl (sD (by omega)) ?_)))))))
     rintro vu Bx ⟨rfl,rfl⟩
     refine OT.U hT 2 rfl (.nil (.seq (.cond rfl (fun Ee=> ?_) (fun Ee=> ?_))))
     .
      have Ee:=bne_iff_ne.1 Ee
      refine TT.seq (.region (.U hT 2 rfl (.nil (.seq (.ret (.of (rs:=[.tmp 2,.tmp 3]) [_,_] hs rfl (.tmp rfl (.tmp rfl .nil)) sl ?_))))))
      try dsimp only[one]
      refine⟨?_,rfl⟩
      rw[hG,if_neg (by omega)]
     .
      have Ee:=bne_eq_false_iff_eq.1 Ee
      refine TT.skip (.seq (.seq (.region (.U hT 3 rfl (.nil (.seq (.ret (.of (rs:=[.tmp 2,.tmp 3]) [_,_] hs rfl (.tmp rfl (.tmp rfl .nil)) sl ?_))))))))
      try dsimp only[one]
      refine⟨?_,rfl⟩
      rw[hG,if_pos (by omega)]
end Go.Proofs.YtihpkgmfkbkffaaGreat.Sx
end
section
namespace Go.Proofs.YtihpkgmfkbkffaaGreat.Sx
open Go Go.Sx Go.Pl
variable[au]
set_option maxHeartbeats 1000000 in
set_option maxRecDepth 100000 in
theorem ia{v:Value}{xs:List UInt8}{H:Chunk}{r:List Chunk}{n:Int}(ho:Own Go.Sx.aB 1 5 v xs H)(h1: -9223372036854775808<=n)(h2:n<=9223372036854775807)(hl:xs.length<=1073741824):aA Tryz.prog 76 [v,.int .i64 n] (H::r) (fun v' hs'=>∃H',hs'=H'::r/\Own Go.Sx.aB 1 5 v' (xs++put n) H'):=by
 refine aA.enter 28 Tryz.func76 rfl Tryz.ntmps76 rfl ?_
 refine TT.seq ?_
 refine TT.region ?_
 refine OT.U hT 1 rfl ?_
 refine OT.nil ?_
 refine KT.seq ?_
 refine TT.seq ?_
 refine TT.region ?_
 refine OT.U hT 4 rfl ?_
 refine OT.nil ?_
 refine KT.seq ?_
 refine TT.cut (ι:=Unit) (fun j=>True) (fun j=>[(0,v),(5,.int .u64 (wQ n:Nat))]) (fun j=>H::r) ?_ ?_
 .
  refine TT.seq ?_
  refine TT.region ?_
  refine OT.U hT 2 rfl ?_
  refine OT.nil ?_
  refine KT.seq ?_
  refine TT.cond rfl (fun en=> ?_) (fun en=> ?_)
  .
   have en:=of_decide_eq_true en
   refine TT.region ?_
   refine OT.U hT 3 rfl ?_
   refine OT.nil ?_
   refine KT.cut (()) ?_ (aa.cons rfl (aa.aM rfl (by(try dsimp only);exact(by rw[FG en h1,ES _ (by omega) (by omega)];refine int_eq ?_;unfold wQ;rw[if_pos en];omega)) (aa.nil _))) (by repeat(first|exact bp.refl _|refine bp.empty ?_|refine bp.pull (by repeat(first|exact aR.head|apply aR.tail)) ?_|refine bp.drop ?_))
   . trivial
  .
   have en:=of_decide_eq_false en
   refine TT.skip ?_
   refine KT.cut (()) ?_ (aa.cons rfl (aa.aM rfl (by(try dsimp only);exact(by rw[FF (by omega) h2])) (aa.nil _))) (by repeat(first|exact bp.refl _|refine bp.empty ?_|refine bp.pull (by repeat(first|exact aR.head|apply aR.tail)) ?_|refine bp.drop ?_))
   . trivial
 .
  rintro _-
  show TT _ _ _ [(0,v),(5,.int .u64 (wQ n:Nat))] (H::r)
  refine TT.seq ?_
  refine TT.block ?_
  refine TT.loop (ι:=Nat×(List UInt8)×Value×Chunk) (fun j=>Own Go.Sx.aB 1 5 (j.2.2.1) (xs++(j.2.1)) (j.2.2.2)/\(j.2.1)++ju (j.1)=put n/\(j.1)<18446744073709551616) (fun j=>(j.1)) (fun j=>[(0,(j.2.2.1)),(5,.int .u64 ((j.1):Nat))]) (fun j=>(j.2.2.2)::r) (wQ n,[],v,H) ?_ (aa.cons rfl (aa.cons rfl (aa.nil _))) (by repeat(first|exact bp.refl _|refine bp.empty ?_|refine bp.pull (by repeat(first|exact aR.head|apply aR.tail)) ?_|refine bp.drop ?_)) ?_
  . dsimp only
    exact⟨by simpa using ho,rfl,zX h1 h2⟩
  rintro⟨u,ys,w,K⟩ hI
  dsimp only at hI
  obtain⟨hO,hp,hu⟩:=hI
  show TT _ _ _ [(0,w),(5,.int .u64 (u:Nat))] (K::r)
  have h10:ys.length+(ju u).length<=10:=by rw[<-List.length_append,hp];exact dY h1 h2
  refine TT.seq ?_
  refine TT.seq ?_
  refine TT.region ?_
  refine OT.U hT 2 rfl ?_
  refine OT.nil ?_
  refine KT.seq ?_
  refine TT.cond rfl (fun nU=> ?_) (fun nU=> ?_)
  .
   have nU:=of_decide_eq_true nU
   refine TT.skip ?_
   refine KT.seq ?_
   refine TT.block ?_
   refine TT.seq ?_
   refine TT.region ?_
   refine OT.U hT 4 rfl ?_
   refine OT.buildSlice (enc:=Go.Sx.aB) (xs:=[UInt8.ofNat (u%128+128)]) (gQ:=[.tmp 18]) eW rfl rfl rfl rfl (by rw[Lm];rfl) (by simp[Value.cells]) (fun _ _=>rfl) rfl (by decide) rfl (fun jY w9 oh=> ?_)
   refine OT.append hT eW rfl rfl rfl rfl (by repeat(first|exact aR.head|apply aR.tail)) hO oh.row rfl (by simp;omega) rfl (fun vz R5 OG=> ?_)
   refine OT.U hT 1 rfl ?_
   refine OT.nil ?_
   refine KT.seq ?_
   refine TT.region ?_
   refine OT.U hT 3 rfl ?_
   refine OT.nil ?_
   refine KT.blk ?_
   refine KT.loop (u/128,ys++[UInt8.ofNat (u%128+128)],vz,R5) ?_ ?_ (aa.cons rfl (aa.aM rfl (by(try dsimp only);exact(by rw[RD])) (aa.nil _))) (by repeat(first|exact bp.refl _|refine bp.empty ?_|refine bp.pull (by repeat(first|exact aR.head|apply aR.tail)) ?_|refine bp.drop ?_))
   . dsimp only
     exact⟨by simpa using OG,by rw[<-hp,r9 (u:=u) (by omega),List.append_assoc];rfl,by omega⟩
   . dsimp only
     omega
  .
   have nU:=of_decide_eq_false nU
   refine TT.exit ?_
   refine XT.seq ?_
   refine XT.loop ?_
   refine XT.here ?_
   refine KT.seq ?_
   refine TT.seq ?_
   refine TT.region ?_
   refine OT.U hT 3 rfl ?_
   refine OT.buildSlice (enc:=Go.Sx.aB) (xs:=[UInt8.ofNat u]) (gQ:=[.tmp 25]) eW rfl rfl rfl rfl (by rw[wrap_u8];rfl) (by simp[Value.cells]) (fun _ _=>rfl) rfl (by decide) rfl (fun CI w_ iD=> ?_)
   refine OT.append hT eW rfl rfl rfl rfl (by repeat(first|exact aR.head|apply aR.tail)) hO iD.row rfl (by simp;omega) rfl (fun EC R6 OH=> ?_)
   refine OT.U hT 1 rfl ?_
   refine OT.nil ?_
   refine KT.seq ?_
   refine TT.ret ?_
   refine RT.of (rs:=[.tmp 4]) [_] (R6::r) rfl (.tmp rfl .nil) (by repeat(first|exact bp.refl _|refine bp.empty ?_|refine bp.pull (by repeat(first|exact aR.head|apply aR.tail)) ?_|refine bp.drop ?_)) ?_
   try dsimp only[one]
   exact⟨_,rfl,by rw[<-hp,gj (u:=u) (by omega),<-List.append_assoc];exact OH⟩
set_option maxHeartbeats 1000000 in
set_option maxRecDepth 100000 in
theorem ji{v:Value}{xs:List UInt8}{H:Chunk}{r:List Chunk}{s:ByteArray}(ho:Own Go.Sx.aB 1 5 v xs H)(hs:s.size<=1073741824)(hl:xs.length<=1073741824):aA Tryz.prog 77 [v,.string s] (H::r) (fun v' hs'=>∃H',hs'=H'::r/\Own Go.Sx.aB 1 5 v' (xs++aI s) H'):=by
 refine aA.enter 11 Tryz.func77 rfl Tryz.ntmps77 rfl ?_
 refine TT.seq ?_
 refine TT.region ?_
 refine OT.U hT 1 rfl ?_
 refine OT.nil ?_
 refine KT.seq ?_
 refine TT.seq ?_
 refine TT.region ?_
 refine OT.U hT 3 rfl ?_
 refine OT.call Tryz.call76 rfl rfl rfl rfl (ia ho (by omega) (by omega) hl) ?_
 rintro Ed rJ ⟨H1,rfl,eJ⟩
 refine OT.U hT 1 rfl ?_
 refine OT.nC (fun _=>rfl) hT eW rfl rfl rfl rfl (by repeat(first|exact aR.head|apply aR.tail)) eJ (by have:=dY (n:=s.size) (by omega) (by omega);have e:s.data.toList.length=s.size:=Array.length_toList;rw[List.length_append,e];omega) rfl (fun nZ w8 Bv=> ?_)
 refine OT.U hT 1 rfl ?_
 refine OT.nil ?_
 refine KT.seq ?_
 refine TT.ret ?_
 refine RT.of (rs:=[.tmp 4]) [_] (w8::r) rfl (.tmp rfl .nil) (by repeat(first|exact bp.refl _|refine bp.empty ?_|refine bp.pull (by repeat(first|exact aR.head|apply aR.tail)) ?_|refine bp.drop ?_)) ?_
 try dsimp only[one]
 exact⟨_,rfl,by unfold aI;rw[<-List.append_assoc];exact Bv⟩
set_option maxHeartbeats 1000000 in
set_option maxRecDepth 100000 in
theorem ke{v:Value}{xs:List UInt8}{hs:List Chunk}(hr:Row Go.Sx.aB 1 hs v xs)(hl:xs.length<=1073741824):aA Tryz.prog 120 [v] hs (fun v' hs'=>v'= .tuple ⟨[.int .i64 (get xs).1,.int .i64 (get xs).2.1,.int .i64 (get xs).2.2]⟩/\hs=hs'):=by
 refine aA.enter 50 Tryz.func120 rfl Tryz.ntmps120 rfl ?_
 obtain⟨a0,c0,hv⟩:=hr.len
 subst hv
 refine TT.seq ?_
 refine TT.region ?_
 refine OT.U hT 3 rfl ?_
 refine OT.nil ?_
 refine KT.seq ?_
 refine TT.seq ?_
 refine TT.region ?_
 refine OT.U hT 1 rfl ?_
 refine OT.nil ?_
 refine KT.seq ?_
 refine TT.seq ?_
 refine TT.seq ?_
 refine TT.region ?_
 refine OT.U hT 3 rfl ?_
 refine OT.nil ?_
 refine KT.seq ?_
 refine TT.block ?_
 refine TT.loop (ι:=Nat×Nat) (fun j=>(j.1)<=9/\(j.1)<=xs.length/\(j.2)<128^(j.1)/\iY (j.1) (j.2) (xs.drop (j.1))=get xs) (fun j=>xs.length-(j.1)) (fun j=>[(5,.int .u64 ((j.2):Nat)),(9,.slice a0 xs.length c0),(10,.int .i64 xs.length),(11,.int .i64 ((j.1):Nat))]) (fun j=>hs) (0,0) ?_ (aa.cons rfl (aa.cons rfl (aa.cons rfl (aa.cons rfl (aa.nil _))))) (by repeat(first|exact bp.refl _|refine bp.empty ?_|refine bp.pull (by repeat(first|exact aR.head|apply aR.tail)) ?_|refine bp.drop ?_)) ?_
 . dsimp only
   exact⟨by omega,by omega,by simp,rfl⟩
 rintro⟨i,u⟩ hI
 dsimp only at hI
 obtain⟨h9,hi,hu,hp⟩:=hI
 show TT _ _ _ [(5,.int .u64 (u:Nat)),(9,.slice a0 xs.length c0),(10,.int .i64 xs.length),(11,.int .i64 (i:Nat))] (hs)
 refine TT.seq ?_
 refine TT.region ?_
 refine OT.U hT 1 rfl ?_
 refine OT.nil ?_
 refine KT.seq ?_
 refine TT.seq ?_
 refine TT.cond rfl (fun fu=> ?_) (fun fu=> ?_)
 .
  have fu:=of_decide_eq_true fu
  obtain⟨c,hc⟩:∃c,xs[i]? =some c:=⟨_,List.getElem?_eq_getElem (by omega)⟩
  rw[List.drop_eq_getElem_cons (by omega),show xs[i]'(by omega)=c from by rw[List.getElem?_eq_getElem (by omega)]at hc;exact Option.some.inj hc,iY]at hp
  have ki:=c.toNat_lt
  refine TT.skip ?_
  refine KT.seq ?_
  refine TT.seq ?_
  refine TT.block ?_
  refine TT.seq ?_
  refine TT.region ?_
  refine OT.U hT 1 rfl ?_
  refine OT.index hT rfl rfl rfl rfl hr (by omega) hc rfl (fun EU nA=> ?_)
  refine OT.load rfl rfl (nA.bL hT rfl rfl) rfl ?_
  refine OT.U hT 2 rfl ?_
  refine OT.nil ?_
  refine KT.seq ?_
  refine TT.seq ?_
  refine TT.seq ?_
  refine TT.region ?_
  refine OT.U hT 3 rfl ?_
  refine OT.split 18 rfl (fun MY=> ?_) (fun MY=> ?_)
  .
   have MY:=of_decide_eq_true (MY:decide ((i:Int)=9)=true)
   refine OT.U hT 3 rfl ?_
   refine OT.nil ?_
   refine KT.seq ?_
   refine TT.cond rfl (fun eF=> ?_) (fun eF=> ?_)
   .
    have eF:=of_decide_eq_true eF
    rw[if_pos ⟨by omega,by omega⟩]at hp
    refine TT.seq ?_
    refine TT.region ?_
    refine OT.U hT 3 rfl ?_
    refine OT.nil ?_
    refine KT.seq ?_
    refine TT.ret ?_
    refine RT.of (rs:=[.tmp 2,.tmp 3,.tmp 4]) [_,_,_] hs rfl (.tmp rfl (.tmp rfl (.tmp rfl .nil))) (by repeat(first|exact bp.refl _|refine bp.empty ?_|refine bp.pull (by repeat(first|exact aR.head|apply aR.tail)) ?_|refine bp.drop ?_)) ?_
    try dsimp only[one]
    exact⟨by rw[<-hp],rfl⟩
   .
    have eF:=of_decide_eq_false eF
    have eF:¬(i=9/\1<c.toNat):=by omega
    rw[if_neg eF]at hp
    refine TT.skip ?_
    refine KT.seq ?_
    refine TT.seq ?_
    refine TT.region ?_
    refine OT.U hT 6 rfl ?_
    refine OT.shl hT rfl rfl rfl (by rw[wrap_i64 (by omega) (by omega)];omega) rfl ?_
    have eF:¬(i=9/\1<c.toNat):=by omega
    have hst:=x3 h9 hu eF
    refine OT.U hT 1 rfl ?_
    refine OT.eI 29 rfl (int_eq (by rw[B2,B4 h9 (by omega),E8 h9 hu (by omega)])) ?_
    refine OT.U hT 1 rfl ?_
    refine OT.nil ?_
    refine KT.seq ?_
    refine TT.seq ?_
    refine TT.seq ?_
    refine TT.region ?_
    refine OT.U hT 2 rfl ?_
    refine OT.nil ?_
    refine KT.seq ?_
    refine TT.cond rfl (fun fE=> ?_) (fun fE=> ?_)
    .
     have fE:=of_decide_eq_true fE
     try rw[if_neg eF]at hp
     rw[if_pos (by omega)]at hp
     refine TT.exit ?_
     refine XT.seq ?_
     refine XT.here ?_
     refine KT.seq ?_
     refine TT.region ?_
     refine OT.U hT 2 rfl ?_
     refine OT.nil ?_
     refine KT.loop (i+1,u+c.toNat%128*128^i) ?_ ?_ (aa.cons rfl (aa.cons rfl (aa.cons rfl (aa.aM rfl (by(try dsimp only);exact(int_eq (by rw[wrap_i64 (by omega) (by omega)];omega))) (aa.nil _))))) (by repeat(first|exact bp.refl _|refine bp.empty ?_|refine bp.pull (by repeat(first|exact aR.head|apply aR.tail)) ?_|refine bp.drop ?_))
     . dsimp only
       exact⟨by omega,by omega,x4 hu,hp⟩
     . dsimp only
       omega
    .
     have fE:=of_decide_eq_false fE
     try rw[if_neg eF]at hp
     rw[if_neg (by omega)]at hp
     refine TT.skip ?_
     refine KT.seq ?_
     refine TT.seq ?_
     refine TT.seq ?_
     refine TT.region ?_
     refine OT.U hT 3 rfl ?_
     refine OT.split 34 rfl (fun Ef=> ?_) (fun Ef=> ?_)
     .
      have Ef:=of_decide_eq_true Ef
      refine OT.U hT 3 rfl ?_
      refine OT.nil ?_
      refine KT.seq ?_
      refine TT.cond rfl (fun pZ=> ?_) (fun pZ=> ?_)
      .
       have pZ:=of_decide_eq_true (pZ:decide ((c.toNat:Int)=0)=true)
       rw[if_pos ⟨by omega,by omega⟩]at hp
       refine TT.seq ?_
       refine TT.region ?_
       refine OT.U hT 3 rfl ?_
       refine OT.nil ?_
       refine KT.seq ?_
       refine TT.ret ?_
       refine RT.of (rs:=[.tmp 2,.tmp 3,.tmp 4]) [_,_,_] hs rfl (.tmp rfl (.tmp rfl (.tmp rfl .nil))) (by repeat(first|exact bp.refl _|refine bp.empty ?_|refine bp.pull (by repeat(first|exact aR.head|apply aR.tail)) ?_|refine bp.drop ?_)) ?_
       try dsimp only[one]
       exact⟨by rw[<-hp],rfl⟩
      .
       have pZ:=of_decide_eq_false (pZ:decide ((c.toNat:Int)=0)=false)
       rw[if_neg (by omega)]at hp
       refine TT.skip ?_
       refine KT.seq ?_
       refine TT.seq ?_
       refine TT.region ?_
       refine OT.U hT 2 rfl ?_
       refine OT.U hT 1 rfl ?_
       refine OT.eI 40 rfl (int_eq (ko hst)) ?_
       try rw[if_neg (by omega)]at hp
       refine OT.U hT 1 rfl ?_
       refine OT.nil ?_
       refine KT.seq ?_
       refine TT.cut (ι:=Unit) (fun j=>True) (fun j=>[(8,.int .i64 (er (u+c.toNat%128*128^i))),(6,.int .i64 (i:Nat))]) (fun j=>hs) ?_ ?_
       .
        refine TT.seq ?_
        refine TT.region ?_
        refine OT.U hT 1 rfl ?_
        refine OT.U hT 1 rfl ?_
        refine OT.eI 42 rfl (int_eq (rm hst)) ?_
        refine OT.U hT 1 rfl ?_
        refine OT.nil ?_
        refine KT.seq ?_
        refine TT.cond rfl (fun kZ=> ?_) (fun kZ=> ?_)
        .
         have kZ:=of_decide_eq_true (kZ:decide (((u+c.toNat%128*128^i)%2:Nat)=(1:Int))=true)
         refine TT.region ?_
         refine OT.U hT 3 rfl ?_
         refine OT.nil ?_
         refine KT.cut (()) ?_ (aa.aM rfl (by(try dsimp only);exact(int_eq (by rw[vL (by omega) (by omega)];unfold er;rw[if_pos (by omega)]))) (aa.cons rfl (aa.nil _))) (by repeat(first|exact bp.refl _|refine bp.empty ?_|refine bp.pull (by repeat(first|exact aR.head|apply aR.tail)) ?_|refine bp.drop ?_))
         . trivial
        .
         have kZ:=of_decide_eq_false (kZ:decide (((u+c.toNat%128*128^i)%2:Nat)=(1:Int))=false)
         refine TT.skip ?_
         refine KT.cut (()) ?_ (aa.aM rfl (by(try dsimp only);exact(int_eq (by unfold er;rw[if_neg (by omega)]))) (aa.cons rfl (aa.nil _))) (by repeat(first|exact bp.refl _|refine bp.empty ?_|refine bp.pull (by repeat(first|exact aR.head|apply aR.tail)) ?_|refine bp.drop ?_))
         . trivial
       .
        rintro _-
        show TT _ _ _ [(8,.int .i64 (er (u+c.toNat%128*128^i))),(6,.int .i64 (i:Nat))] (hs)
        refine TT.seq ?_
        refine TT.region ?_
        refine OT.U hT 6 rfl ?_
        refine OT.nil ?_
        refine KT.seq ?_
        refine TT.ret ?_
        refine RT.of (rs:=[.tmp 2,.tmp 3,.tmp 4]) [_,_,_] hs rfl (.tmp rfl (.tmp rfl (.tmp rfl .nil))) (by repeat(first|exact bp.refl _|refine bp.empty ?_|refine bp.pull (by repeat(first|exact aR.head|apply aR.tail)) ?_|refine bp.drop ?_)) ?_
        try dsimp only[one]
        refine⟨?_,rfl⟩
        rw[<-hp,wrap_i64 (n:=(i:Int)+1) (by omega) (by omega)]
        rfl
     .
      have Ef:=of_decide_eq_false Ef
      refine OT.U hT 3 rfl ?_
      refine OT.nil ?_
      refine KT.seq ?_
      refine TT.cond_false rfl ?_
      refine TT.skip ?_
      refine KT.seq ?_
      refine TT.seq ?_
      refine TT.region ?_
      refine OT.U hT 2 rfl ?_
      refine OT.U hT 1 rfl ?_
      refine OT.eI 40 rfl (int_eq (ko hst)) ?_
      try rw[if_neg (by omega)]at hp
      refine OT.U hT 1 rfl ?_
      refine OT.nil ?_
      refine KT.seq ?_
      refine TT.cut (ι:=Unit) (fun j=>True) (fun j=>[(8,.int .i64 (er (u+c.toNat%128*128^i))),(6,.int .i64 (i:Nat))]) (fun j=>hs) ?_ ?_
      .
       refine TT.seq ?_
       refine TT.region ?_
       refine OT.U hT 1 rfl ?_
       refine OT.U hT 1 rfl ?_
       refine OT.eI 42 rfl (int_eq (rm hst)) ?_
       refine OT.U hT 1 rfl ?_
       refine OT.nil ?_
       refine KT.seq ?_
       refine TT.cond rfl (fun kZ=> ?_) (fun kZ=> ?_)
       .
        have kZ:=of_decide_eq_true (kZ:decide (((u+c.toNat%128*128^i)%2:Nat)=(1:Int))=true)
        refine TT.region ?_
        refine OT.U hT 3 rfl ?_
        refine OT.nil ?_
        refine KT.cut (()) ?_ (aa.aM rfl (by(try dsimp only);exact(int_eq (by rw[vL (by omega) (by omega)];unfold er;rw[if_pos (by omega)]))) (aa.cons rfl (aa.nil _))) (by repeat(first|exact bp.refl _|refine bp.empty ?_|refine bp.pull (by repeat(first|exact aR.head|apply aR.tail)) ?_|refine bp.drop ?_))
        . trivial
       .
        have kZ:=of_decide_eq_false (kZ:decide (((u+c.toNat%128*128^i)%2:Nat)=(1:Int))=false)
        refine TT.skip ?_
        refine KT.cut (()) ?_ (aa.aM rfl (by(try dsimp only);exact(int_eq (by unfold er;rw[if_neg (by omega)]))) (aa.cons rfl (aa.nil _))) (by repeat(first|exact bp.refl _|refine bp.empty ?_|refine bp.pull (by repeat(first|exact aR.head|apply aR.tail)) ?_|refine bp.drop ?_))
        . trivial
      .
       rintro _-
       show TT _ _ _ [(8,.int .i64 (er (u+c.toNat%128*128^i))),(6,.int .i64 (i:Nat))] (hs)
       refine TT.seq ?_
       refine TT.region ?_
       refine OT.U hT 6 rfl ?_
       refine OT.nil ?_
       refine KT.seq ?_
       refine TT.ret ?_
       refine RT.of (rs:=[.tmp 2,.tmp 3,.tmp 4]) [_,_,_] hs rfl (.tmp rfl (.tmp rfl (.tmp rfl .nil))) (by repeat(first|exact bp.refl _|refine bp.empty ?_|refine bp.pull (by repeat(first|exact aR.head|apply aR.tail)) ?_|refine bp.drop ?_)) ?_
       try dsimp only[one]
       refine⟨?_,rfl⟩
       rw[<-hp,wrap_i64 (n:=(i:Int)+1) (by omega) (by omega)]
       rfl
  .
   have MY:=of_decide_eq_false (MY:decide ((i:Int)=9)=false)
   refine OT.U hT 3 rfl ?_
   refine OT.nil ?_
   refine KT.seq ?_
   refine TT.cond_false rfl ?_
   refine TT.skip ?_
   refine KT.seq ?_
   refine TT.seq ?_
   refine TT.region ?_
   refine OT.U hT 6 rfl ?_
   refine OT.shl hT rfl rfl rfl (by rw[wrap_i64 (by omega) (by omega)];omega) rfl ?_
   have eF:¬(i=9/\1<c.toNat):=by omega
   have hst:=x3 h9 hu eF
   refine OT.U hT 1 rfl ?_
   refine OT.eI 29 rfl (int_eq (by rw[B2,B4 h9 (by omega),E8 h9 hu (by omega)])) ?_
   refine OT.U hT 1 rfl ?_
   refine OT.nil ?_
   refine KT.seq ?_
   refine TT.seq ?_
   refine TT.seq ?_
   refine TT.region ?_
   refine OT.U hT 2 rfl ?_
   refine OT.nil ?_
   refine KT.seq ?_
   refine TT.cond rfl (fun fE=> ?_) (fun fE=> ?_)
   .
    have fE:=of_decide_eq_true fE
    try rw[if_neg eF]at hp
    rw[if_pos (by omega)]at hp
    refine TT.exit ?_
    refine XT.seq ?_
    refine XT.here ?_
    refine KT.seq ?_
    refine TT.region ?_
    refine OT.U hT 2 rfl ?_
    refine OT.nil ?_
    refine KT.loop (i+1,u+c.toNat%128*128^i) ?_ ?_ (aa.cons rfl (aa.cons rfl (aa.cons rfl (aa.aM rfl (by(try dsimp only);exact(int_eq (by rw[wrap_i64 (by omega) (by omega)];omega))) (aa.nil _))))) (by repeat(first|exact bp.refl _|refine bp.empty ?_|refine bp.pull (by repeat(first|exact aR.head|apply aR.tail)) ?_|refine bp.drop ?_))
    . dsimp only
      exact⟨by omega,by omega,x4 hu,hp⟩
    . dsimp only
      omega
   .
    have fE:=of_decide_eq_false fE
    try rw[if_neg eF]at hp
    rw[if_neg (by omega)]at hp
    refine TT.skip ?_
    refine KT.seq ?_
    refine TT.seq ?_
    refine TT.seq ?_
    refine TT.region ?_
    refine OT.U hT 3 rfl ?_
    refine OT.split 34 rfl (fun Ef=> ?_) (fun Ef=> ?_)
    .
     have Ef:=of_decide_eq_true Ef
     refine OT.U hT 3 rfl ?_
     refine OT.nil ?_
     refine KT.seq ?_
     refine TT.cond rfl (fun pZ=> ?_) (fun pZ=> ?_)
     .
      have pZ:=of_decide_eq_true (pZ:decide ((c.toNat:Int)=0)=true)
      rw[if_pos ⟨by omega,by omega⟩]at hp
      refine TT.seq ?_
      refine TT.region ?_
      refine OT.U hT 3 rfl ?_
      refine OT.nil ?_
      refine KT.seq ?_
      refine TT.ret ?_
      refine RT.of (rs:=[.tmp 2,.tmp 3,.tmp 4]) [_,_,_] hs rfl (.tmp rfl (.tmp rfl (.tmp rfl .nil))) (by repeat(first|exact bp.refl _|refine bp.empty ?_|refine bp.pull (by repeat(first|exact aR.head|apply aR.tail)) ?_|refine bp.drop ?_)) ?_
      try dsimp only[one]
      exact⟨by rw[<-hp],rfl⟩
     .
      have pZ:=of_decide_eq_false (pZ:decide ((c.toNat:Int)=0)=false)
      rw[if_neg (by omega)]at hp
      refine TT.skip ?_
      refine KT.seq ?_
      refine TT.seq ?_
      refine TT.region ?_
      refine OT.U hT 2 rfl ?_
      refine OT.U hT 1 rfl ?_
      refine OT.eI 40 rfl (int_eq (ko hst)) ?_
      try rw[if_neg (by omega)]at hp
      refine OT.U hT 1 rfl ?_
      refine OT.nil ?_
      refine KT.seq ?_
      refine TT.cut (ι:=Unit) (fun j=>True) (fun j=>[(8,.int .i64 (er (u+c.toNat%128*128^i))),(6,.int .i64 (i:Nat))]) (fun j=>hs) ?_ ?_
      .
       refine TT.seq ?_
       refine TT.region ?_
       refine OT.U hT 1 rfl ?_
       refine OT.U hT 1 rfl ?_
       refine OT.eI 42 rfl (int_eq (rm hst)) ?_
       refine OT.U hT 1 rfl ?_
       refine OT.nil ?_
       refine KT.seq ?_
       refine TT.cond rfl (fun kZ=> ?_) (fun kZ=> ?_)
       .
        have kZ:=of_decide_eq_true (kZ:decide (((u+c.toNat%128*128^i)%2:Nat)=(1:Int))=true)
        refine TT.region ?_
        refine OT.U hT 3 rfl ?_
        refine OT.nil ?_
        refine KT.cut (()) ?_ (aa.aM rfl (by(try dsimp only);exact(int_eq (by rw[vL (by omega) (by omega)];unfold er;rw[if_pos (by omega)]))) (aa.cons rfl (aa.nil _))) (by repeat(first|exact bp.refl _|refine bp.empty ?_|refine bp.pull (by repeat(first|exact aR.head|apply aR.tail)) ?_|refine bp.drop ?_))
        . trivial
       .
        have kZ:=of_decide_eq_false (kZ:decide (((u+c.toNat%128*128^i)%2:Nat)=(1:Int))=false)
        refine TT.skip ?_
        refine KT.cut (()) ?_ (aa.aM rfl (by(try dsimp only);exact(int_eq (by unfold er;rw[if_neg (by omega)]))) (aa.cons rfl (aa.nil _))) (by repeat(first|exact bp.refl _|refine bp.empty ?_|refine bp.pull (by repeat(first|exact aR.head|apply aR.tail)) ?_|refine bp.drop ?_))
        . trivial
      .
       rintro _-
       show TT _ _ _ [(8,.int .i64 (er (u+c.toNat%128*128^i))),(6,.int .i64 (i:Nat))] (hs)
       refine TT.seq ?_
       refine TT.region ?_
       refine OT.U hT 6 rfl ?_
       refine OT.nil ?_
       refine KT.seq ?_
       refine TT.ret ?_
       refine RT.of (rs:=[.tmp 2,.tmp 3,.tmp 4]) [_,_,_] hs rfl (.tmp rfl (.tmp rfl (.tmp rfl .nil))) (by repeat(first|exact bp.refl _|refine bp.empty ?_|refine bp.pull (by repeat(first|exact aR.head|apply aR.tail)) ?_|refine bp.drop ?_)) ?_
       try dsimp only[one]
       refine⟨?_,rfl⟩
       rw[<-hp,wrap_i64 (n:=(i:Int)+1) (by omega) (by omega)]
       rfl
    .
     have Ef:=of_decide_eq_false Ef
     refine OT.U hT 3 rfl ?_
     refine OT.nil ?_
     refine KT.seq ?_
     refine TT.cond_false rfl ?_
     refine TT.skip ?_
     refine KT.seq ?_
     refine TT.seq ?_
     refine TT.region ?_
     refine OT.U hT 2 rfl ?_
     refine OT.U hT 1 rfl ?_
     refine OT.eI 40 rfl (int_eq (ko hst)) ?_
     try rw[if_neg (by omega)]at hp
     refine OT.U hT 1 rfl ?_
     refine OT.nil ?_
     refine KT.seq ?_
     refine TT.cut (ι:=Unit) (fun j=>True) (fun j=>[(8,.int .i64 (er (u+c.toNat%128*128^i))),(6,.int .i64 (i:Nat))]) (fun j=>hs) ?_ ?_
     .
      refine TT.seq ?_
      refine TT.region ?_
      refine OT.U hT 1 rfl ?_
      refine OT.U hT 1 rfl ?_
      refine OT.eI 42 rfl (int_eq (rm hst)) ?_
      refine OT.U hT 1 rfl ?_
      refine OT.nil ?_
      refine KT.seq ?_
      refine TT.cond rfl (fun kZ=> ?_) (fun kZ=> ?_)
      .
       have kZ:=of_decide_eq_true (kZ:decide (((u+c.toNat%128*128^i)%2:Nat)=(1:Int))=true)
       refine TT.region ?_
       refine OT.U hT 3 rfl ?_
       refine OT.nil ?_
       refine KT.cut (()) ?_ (aa.aM rfl (by(try dsimp only);exact(int_eq (by rw[vL (by omega) (by omega)];unfold er;rw[if_pos (by omega)]))) (aa.cons rfl (aa.nil _))) (by repeat(first|exact bp.refl _|refine bp.empty ?_|refine bp.pull (by repeat(first|exact aR.head|apply aR.tail)) ?_|refine bp.drop ?_))
       . trivial
      .
       have kZ:=of_decide_eq_false (kZ:decide (((u+c.toNat%128*128^i)%2:Nat)=(1:Int))=false)
       refine TT.skip ?_
       refine KT.cut (()) ?_ (aa.aM rfl (by(try dsimp only);exact(int_eq (by unfold er;rw[if_neg (by omega)]))) (aa.cons rfl (aa.nil _))) (by repeat(first|exact bp.refl _|refine bp.empty ?_|refine bp.pull (by repeat(first|exact aR.head|apply aR.tail)) ?_|refine bp.drop ?_))
       . trivial
     .
      rintro _-
      show TT _ _ _ [(8,.int .i64 (er (u+c.toNat%128*128^i))),(6,.int .i64 (i:Nat))] (hs)
      refine TT.seq ?_
      refine TT.region ?_
      refine OT.U hT 6 rfl ?_
      refine OT.nil ?_
      refine KT.seq ?_
      refine TT.ret ?_
      refine RT.of (rs:=[.tmp 2,.tmp 3,.tmp 4]) [_,_,_] hs rfl (.tmp rfl (.tmp rfl (.tmp rfl .nil))) (by repeat(first|exact bp.refl _|refine bp.empty ?_|refine bp.pull (by repeat(first|exact aR.head|apply aR.tail)) ?_|refine bp.drop ?_)) ?_
      try dsimp only[one]
      refine⟨?_,rfl⟩
      rw[<-hp,wrap_i64 (n:=(i:Int)+1) (by omega) (by omega)]
      rfl
 .
  have fu:=of_decide_eq_false fu
  rw[List.drop_eq_nil_of_le (by omega),iY]at hp
  refine TT.exit ?_
  refine XT.seq ?_
  refine XT.loop ?_
  refine XT.here ?_
  refine KT.seq ?_
  refine TT.seq ?_
  refine TT.region ?_
  refine OT.U hT 3 rfl ?_
  refine OT.nil ?_
  refine KT.seq ?_
  refine TT.ret ?_
  refine RT.of (rs:=[.tmp 2,.tmp 3,.tmp 4]) [_,_,_] hs rfl (.tmp rfl (.tmp rfl (.tmp rfl .nil))) (by repeat(first|exact bp.refl _|refine bp.empty ?_|refine bp.pull (by repeat(first|exact aR.head|apply aR.tail)) ?_|refine bp.drop ?_)) ?_
  try dsimp only[one]
  exact⟨by rw[<-hp],rfl⟩
set_option maxHeartbeats 1000000 in
set_option maxRecDepth 100000 in
theorem jj{v:Value}{xs:List UInt8}{hs:List Chunk}(hr:Row Go.Sx.aB 1 hs v xs)(hl:xs.length<=1073741824):aA Tryz.prog 160 [v] hs (fun v' hs'=>v'= .tuple ⟨[.string (a_ xs).1,.int .i64 (a_ xs).2.1,.int .i64 (a_ xs).2.2]⟩/\hs=hs'):=by
 refine aA.enter 42 Tryz.func160 rfl Tryz.ntmps160 rfl ?_
 obtain⟨a0,c0,hv⟩:=hr.len
 subst hv
 have hk:= @jz xs
 unfold a_
 generalize hg:get xs=p at*
 obtain⟨n,kk,e⟩:=p
 dsimp only at*
 refine TT.seq ?_
 refine TT.region ?_
 refine OT.U hT 3 rfl ?_
 refine OT.nil ?_
 refine KT.seq ?_
 refine TT.seq ?_
 refine TT.region ?_
 refine OT.U hT 1 rfl ?_
 refine OT.call Tryz.call120 rfl rfl rfl rfl (ke hr hl) ?_
 rintro nZ jF ⟨rfl,rfl⟩
 rw[hg]
 dsimp only
 refine OT.U hT 7 rfl ?_
 refine OT.nil ?_
 refine KT.seq ?_
 refine TT.seq ?_
 refine TT.block ?_
 refine TT.seq ?_
 refine TT.region ?_
 refine OT.U hT 3 rfl ?_
 refine OT.nil ?_
 refine KT.seq ?_
 refine TT.cond rfl (fun nU=> ?_) (fun nU=> ?_)
 .
  have nU:¬e=0:=by simpa using nU
  refine TT.seq ?_
  refine TT.region ?_
  refine OT.U hT 4 rfl ?_
  refine OT.nil ?_
  refine KT.seq ?_
  refine TT.ret ?_
  refine RT.of (rs:=[.tmp 2,.tmp 3,.tmp 4]) [_,_,_] hs rfl (.tmp rfl (.tmp rfl (.tmp rfl .nil))) (by repeat(first|exact bp.refl _|refine bp.empty ?_|refine bp.pull (by repeat(first|exact aR.head|apply aR.tail)) ?_|refine bp.drop ?_)) ?_
  try dsimp only[one]
  refine⟨?_,rfl⟩
  rw[if_pos nU]
 .
  have nU:e=0:=by simpa using nU
  have hk:=hk nU
  refine TT.seq ?_
  refine TT.region ?_
  refine OT.U hT 3 rfl ?_
  refine OT.split 21 rfl (fun BP=> ?_) (fun BP=> ?_)
  .
   have BP:=of_decide_eq_true BP
   refine OT.U hT 4 rfl ?_
   refine OT.nil ?_
   refine KT.seq ?_
   refine TT.cond_true rfl ?_
   refine TT.seq ?_
   refine TT.region ?_
   refine OT.U hT 3 rfl ?_
   refine OT.nil ?_
   refine KT.seq ?_
   refine TT.ret ?_
   refine RT.of (rs:=[.tmp 2,.tmp 3,.tmp 4]) [_,_,_] hs rfl (.tmp rfl (.tmp rfl (.tmp rfl .nil))) (by repeat(first|exact bp.refl _|refine bp.empty ?_|refine bp.pull (by repeat(first|exact aR.head|apply aR.tail)) ?_|refine bp.drop ?_)) ?_
   try dsimp only[one]
   refine⟨?_,rfl⟩
   rw[if_neg (by omega),if_pos (by omega)]
  .
   have BP:=of_decide_eq_false BP
   refine OT.U hT 4 rfl ?_
   refine OT.nil ?_
   refine KT.seq ?_
   refine TT.cond rfl (fun eK=> ?_) (fun eK=> ?_)
   .
    have eK:=of_decide_eq_true eK
    refine TT.seq ?_
    refine TT.region ?_
    refine OT.U hT 3 rfl ?_
    refine OT.nil ?_
    refine KT.seq ?_
    refine TT.ret ?_
    refine RT.of (rs:=[.tmp 2,.tmp 3,.tmp 4]) [_,_,_] hs rfl (.tmp rfl (.tmp rfl (.tmp rfl .nil))) (by repeat(first|exact bp.refl _|refine bp.empty ?_|refine bp.pull (by repeat(first|exact aR.head|apply aR.tail)) ?_|refine bp.drop ?_)) ?_
    try dsimp only[one]
    refine⟨?_,rfl⟩
    rw[if_neg (by omega),if_pos (by omega)]
   .
    have eK:=of_decide_eq_false eK
    refine TT.seq ?_
    refine TT.region ?_
    refine OT.U hT 7 rfl ?_
    refine OT.nil ?_
    refine KT.seq ?_
    refine TT.cond rfl (fun jx=> ?_) (fun jx=> ?_)
    .
     have jx:=of_decide_eq_true jx
     rw[wrap_i64 (by omega) (by omega)]at jx
     refine TT.seq ?_
     refine TT.region ?_
     refine OT.U hT 3 rfl ?_
     refine OT.nil ?_
     refine KT.seq ?_
     refine TT.ret ?_
     refine RT.of (rs:=[.tmp 2,.tmp 3,.tmp 4]) [_,_,_] hs rfl (.tmp rfl (.tmp rfl (.tmp rfl .nil))) (by repeat(first|exact bp.refl _|refine bp.empty ?_|refine bp.pull (by repeat(first|exact aR.head|apply aR.tail)) ?_|refine bp.drop ?_)) ?_
     try dsimp only[one]
     refine⟨?_,rfl⟩
     rw[if_neg (by omega),if_neg (by omega),if_pos (by omega)]
    .
     have jx:=of_decide_eq_false jx
     rw[wrap_i64 (by omega) (by omega)]at jx
     refine TT.skip ?_
     refine KT.blk ?_
     refine KT.seq ?_
     refine TT.seq ?_
     refine TT.region ?_
     refine OT.U hT 5 rfl ?_
     refine OT.slice kk.toNat (kk+n).toNat hT rfl rfl rfl rfl rfl hr (.inr ⟨.i64,by rw[Int.toNat_of_nonneg (by omega)]⟩) (.inr ⟨.i64,by rw[Int.toNat_of_nonneg (by omega),wrap_i64 (by omega) (by omega)]⟩) (by omega) (by omega) rfl (fun ED OI=> ?_)
     refine OT.vX (fun _=>rfl) hT rfl rfl rfl rfl rfl OI rfl ?_
     refine OT.U hT 6 rfl ?_
     refine OT.nil ?_
     refine KT.seq ?_
     refine TT.ret ?_
     refine RT.of (rs:=[.tmp 2,.tmp 3,.tmp 4]) [_,_,_] hs rfl (.tmp rfl (.tmp rfl (.tmp rfl .nil))) (by repeat(first|exact bp.refl _|refine bp.empty ?_|refine bp.pull (by repeat(first|exact aR.head|apply aR.tail)) ?_|refine bp.drop ?_)) ?_
     try dsimp only[one]
     refine⟨?_,rfl⟩
     rw[if_neg (by omega),if_neg (by omega),if_neg (by omega),wrap_i64 (by omega) (by omega)]
set_option maxHeartbeats 1000000 in
set_option maxRecDepth 100000 in
theorem yC{s:ByteArray}{hs:List Chunk}:aA Tryz.prog 73 [.string s] hs (fun v' hs'=>v'= .bool (ej s)/\hs=hs'):=by
 refine aA.enter 10 Tryz.func73 rfl Tryz.ntmps73 rfl ?_
 have hz:=tO s
 refine TT.seq ?_
 refine TT.region ?_
 refine OT.U hT 1 rfl ?_
 refine OT.nil ?_
 refine KT.seq ?_
 refine TT.seq ?_
 refine TT.region ?_
 refine OT.U hT 3 rfl ?_
 refine OT.split 5 rfl (fun g5=> ?_) (fun g5=> ?_)
 .
  have g5:¬s=⟨#[]⟩:=by simpa using g5
  have g5:¬s.size=0:=fun h=>g5 (hz.1 h)
  refine OT.U hT 5 rfl ?_
  refine OT.nil ?_
  refine KT.seq ?_
  refine TT.ret ?_
  refine RT.of (rs:=[.tmp 2]) [_] hs rfl (.tmp rfl .nil) (by repeat(first|exact bp.refl _|refine bp.empty ?_|refine bp.pull (by repeat(first|exact aR.head|apply aR.tail)) ?_|refine bp.drop ?_)) ?_
  try dsimp only[one]
  refine⟨?_,rfl⟩
  unfold ej
  refine congrArg Value.bool ?_
  first|(refine(decide_eq_false ?_).symm;omega)|(refine decide_eq_decide.2 ?_;omega)
 .
  have g5:s=⟨#[]⟩:=by simpa using g5
  have g5:s.size=0:=hz.2 g5
  refine OT.U hT 5 rfl ?_
  refine OT.nil ?_
  refine KT.seq ?_
  refine TT.ret ?_
  refine RT.of (rs:=[.tmp 2]) [_] hs rfl (.tmp rfl .nil) (by repeat(first|exact bp.refl _|refine bp.empty ?_|refine bp.pull (by repeat(first|exact aR.head|apply aR.tail)) ?_|refine bp.drop ?_)) ?_
  try dsimp only[one]
  refine⟨?_,rfl⟩
  unfold ej
  refine congrArg Value.bool ?_
  first|(refine(decide_eq_false ?_).symm;omega)|(refine decide_eq_decide.2 ?_;omega)
end Go.Proofs.YtihpkgmfkbkffaaGreat.Sx
end
section
namespace Go.Proofs.YtihpkgmfkbkffaaGreat.Sx
open Go Go.Sx Go.Pl
variable[au]
set_option maxHeartbeats 1000000 in
set_option maxRecDepth 100000 in
theorem Cp{u:Nat}{hs:List Chunk}:aA Tryz.prog 90 [.float .f64 u] hs (fun v' hs'=>v'= .bool (decide (u=0))/\hs=hs'):=by
 refine aA.enter 6 Tryz.func90 rfl Tryz.ntmps90 rfl ?_
 refine TT.seq (.region (.U hT 1 rfl (.nil (.seq (.seq (.region (.U hT 1 rfl (.extern (Bw _) rfl rfl rfl rfl (.U hT 2 rfl (.nil (.seq (.ret (.of (rs:=[.tmp 2]) [_] hs rfl (.tmp rfl .nil) sl ?_)))))))))))))
 try dsimp only[one]
 refine⟨congrArg Value.bool ?_,rfl⟩
 rw[Bool.eq_iff_iff,beq_iff_eq,decide_eq_true_eq]
 omega
set_option maxHeartbeats 1000000 in
set_option maxRecDepth 100000 in
theorem pU{x:Vl}{hs:List Chunk}:aA Tryz.prog 52 [.agg ⟨dw x⟩] hs (fun v' hs'=>v'= .bool (bT x)/\hs=hs'):=by
 refine aA.enter 41 Tryz.func52 rfl Tryz.ntmps52 rfl ?_
 refine TT.seq (.region (.box rfl rfl rfl (fun b_1=> ?_)))
 refine OT.U hT 1 rfl (.nil (.seq (.seq (.seq (.region (.U hT 1 rfl (.load rfl rfl (Ld.one hT rfl hz rfl) rfl ?_)))))))
 refine OT.nil (.seq (.block (.seq (.region (.U hT 2 rfl (.nil (.seq (.cond rfl (fun c5=> ?_) (fun c5=> ?_)))))))))
 .
  have c5:=beq_iff_eq.1 c5
  refine TT.seq (.region (.U hT 1 rfl (.load rfl rfl (Ld.one hT rfl hz rfl) rfl ?_)))
  refine OT.call Tryz.call90 rfl rfl rfl rfl (Cp) ?_
  rintro J3 zF ⟨rfl,rfl⟩
  refine OT.U hT 1 rfl (.split 10 rfl (fun Ja=> ?_) (fun Ja=> ?_))
  .
   refine OT.U hT 1 rfl (.load rfl rfl (Ld.one hT rfl hz rfl) rfl ?_)
   refine OT.U hT 3 rfl (.nil (.seq (.ret (.of (rs:=[.tmp 2]) [_] hs rfl (.tmp rfl .nil) sl ?_))))
   try dsimp only[one]
   refine⟨congrArg Value.bool ?_,rfl⟩
   unfold bT
   rw[if_pos c5]
   rw[Ja,Bool.true_and]
  .
   refine OT.U hT 5 rfl (.nil (.seq (.ret (.of (rs:=[.tmp 2]) [_] hs rfl (.tmp rfl .nil) sl ?_))))
   try dsimp only[one]
   refine⟨congrArg Value.bool ?_,rfl⟩
   unfold bT
   rw[if_pos c5]
   rw[Ja,Bool.false_and]
 .
  have c5:=beq_eq_false_iff_ne.1 c5
  refine TT.seq (.region (.U hT 2 rfl (.nil (.seq (.cond rfl (fun p4=> ?_) (fun p4=> ?_))))))
  .
   have p4:=beq_iff_eq.1 p4
   refine TT.seq (.draw (([(b_1,blk (dw x) 36 (0,0))]::hs)) mixed (.takes (fuel:=13) hT [0] kr kr rfl (.take (fuel:=12) hT 1 rfl rfl kr kr kr rfl (.load rfl (Ld.one hT rfl hz rfl)) rfl ?_)))
   refine AT.takes (fuel:=10) hT [2,3] kr kr rfl (.split 20 rfl (fun Eg=> ?_) (fun Eg=> ?_))
   .
    refine AT.takes (fuel:=8) hT [4,7] kr kr rfl (.take (fuel:=7) hT 5 rfl rfl kr kr kr rfl (.load rfl (Ld.one hT rfl hz rfl)) rfl ?_)
    refine AT.take (fuel:=6) hT 8 rfl rfl kr kr kr rfl (.load rfl (Ld.one hT rfl hz rfl)) rfl ?_
    refine AT.op (fuel:=5) 6 kr rfl sl (.extern (Bw _) rfl rfl rfl rfl (.nil (.any (.op (fuel:=4) 9 kr rfl sl (.call Tryz.call92 rfl rfl rfl rfl (yB) ?_)))))
    rintro CI Bz ⟨rfl,rfl⟩
    refine OT.nil (.any (.op (fuel:=3) 10 kr rfl sl (.extern (Bw _) rfl rfl rfl rfl (.nil (.any (.takes (fuel:=0) hT [11,12,13] kr kr rfl (.done kr sl (.seq (.ret (.of (rs:=[.tmp 2]) [_] hs rfl (.tmp rfl .nil) sl ?_))))))))))
    try dsimp only[one]
    refine⟨congrArg Value.bool ?_,rfl⟩
    unfold bT
    rw[if_neg c5,if_pos p4]
    rw[Eg,Bool.true_and]
    rw[Bool.eq_iff_iff,beq_iff_eq,decide_eq_true_eq]
    omega
   .
    refine AT.takes (fuel:=0) hT [4,5,6,7,8,9,10,11,12,13] kr kr rfl (.done kr sl (.seq (.ret (.of (rs:=[.tmp 2]) [_] hs rfl (.tmp rfl .nil) sl ?_))))
    try dsimp only[one]
    refine⟨congrArg Value.bool ?_,rfl⟩
    unfold bT
    rw[if_neg c5,if_pos p4]
    rw[Eg,Bool.false_and]
  .
   have p4:=beq_eq_false_iff_ne.1 p4
   refine TT.seq (.region (.U hT 2 rfl (.nil (.seq (.cond rfl (fun lW=> ?_) (fun lW=> ?_))))))
   .
    have lW:=beq_iff_eq.1 lW
    refine TT.seq (.region (.U hT 1 rfl (.load rfl rfl (Ld.one hT rfl hz rfl) rfl ?_)))
    refine OT.call Tryz.call90 rfl rfl rfl rfl (Cp) ?_
    rintro Hv BA ⟨rfl,rfl⟩
    refine OT.U hT 1 rfl (.split 35 rfl (fun p5=> ?_) (fun p5=> ?_))
    .
     refine OT.U hT 1 rfl (.load rfl rfl (Ld.one hT rfl hz rfl) rfl ?_)
     refine OT.U hT 4 rfl (.nil (.seq (.ret (.of (rs:=[.tmp 2]) [_] hs rfl (.tmp rfl .nil) sl ?_))))
     try dsimp only[one]
     refine⟨congrArg Value.bool ?_,rfl⟩
     unfold bT
     rw[if_neg c5,if_neg p4,if_pos lW]
     rw[p5,Bool.true_and]
     exact decide_eq_decide.2 (by omega)
    .
     refine OT.U hT 6 rfl (.nil (.seq (.ret (.of (rs:=[.tmp 2]) [_] hs rfl (.tmp rfl .nil) sl ?_))))
     try dsimp only[one]
     refine⟨congrArg Value.bool ?_,rfl⟩
     unfold bT
     rw[if_neg c5,if_neg p4,if_pos lW]
     rw[p5,Bool.false_and]
   .
    have lW:=beq_eq_false_iff_ne.1 lW
    refine TT.skip (.blk (.seq (.seq (.region (.U hT 1 rfl (.nil (.seq (.ret (.of (rs:=[.tmp 2]) [_] hs rfl (.tmp rfl .nil) sl ?_)))))))))
    try dsimp only[one]
    refine⟨congrArg Value.bool ?_,rfl⟩
    unfold bT
    rw[if_neg c5,if_neg p4,if_neg lW]
set_option maxHeartbeats 1000000 in
set_option maxRecDepth 100000 in
theorem Fj{v:Value}{xs:List UInt8}{H:Chunk}{r:List Chunk}{x:Vl}(ho:Own Go.Sx.aB 1 5 v xs H)(hk: -9223372036854775808<=x.kind/\x.kind<=9223372036854775807)(hf:x.f<2^64)(hs:x.s.size<=1073741824)(hl:xs.length<=1000000):aA Tryz.prog 211 [v,.agg ⟨dw x⟩] (H::r) (fun v' hs'=>∃H',hs'=H'::r/\Own Go.Sx.aB 1 5 v' (xs++bV x) H'):=by
 refine aA.enter 25 Tryz.func211 rfl Tryz.ntmps211 rfl ?_
 refine TT.seq (.region (.box rfl rfl rfl (fun pG=> ?_)))
 refine OT.U hT 1 rfl (.nil (.seq (.seq (.region (.U hT 2 rfl (.load rfl rfl (Ld.one hT rfl hz rfl) rfl ?_))))))
 refine OT.call Tryz.call76 rfl rfl rfl rfl (aA.pull pl (ia ho hk.1 hk.2 (Nat.le_trans hl (by decide)))) ?_
 rintro Ed rJ ⟨H1,rfl,eJ⟩
 have tn:=dY hk.1 hk.2
 refine OT.U hT 1 rfl (.nil (.seq (.seq (.seq (.region (.U hT 1 rfl (.load rfl rfl (Ld.one hT rfl hz rfl) rfl ?_)))))))
 refine OT.nil (.seq (.block (.seq (.region (.U hT 2 rfl (.nil (.seq (.cond rfl (fun pH=> ?_) (fun pH=> ?_)))))))))
 .
  have pH:=beq_iff_eq.1 pH
  refine TT.seq (.region (.U hT 2 rfl (.load rfl rfl (Ld.one hT rfl hz rfl) rfl ?_)))
  refine OT.call Tryz.call218 rfl rfl rfl rfl (Gp hf) ?_
  rintro iT eY ⟨K2,rfl,pI⟩
  refine OT.append hT eW rfl rfl rfl rfl pl eJ pI.row rfl (by simp only[List.length_append,dR];omega) rfl (fun CJ KH EV=> ?_)
  refine OT.U hT 1 rfl (.nil (.seq (.ret (.of (rs:=[.tmp 4]) [_] (KH::r) rfl (.tmp rfl .nil) sl ?_))))
  try dsimp only[one]
  exact⟨_,rfl,by unfold bV;rw[if_pos pH,<-List.append_assoc];exact EV⟩
 .
  have pH:=beq_eq_false_iff_ne.1 pH
  refine TT.seq (.region (.U hT 2 rfl (.nil (.seq (.cond rfl (fun eK=> ?_) (fun eK=> ?_))))))
  .
   have eK:=beq_iff_eq.1 eK
   refine TT.seq (.region (.U hT 2 rfl (.load rfl rfl (Ld.one hT rfl hz rfl) rfl ?_)))
   refine OT.call Tryz.call77 rfl rfl rfl rfl (ji eJ hs (by rw[List.length_append];omega)) ?_
   rintro xb uq ⟨H3,rfl,kn⟩
   refine OT.U hT 1 rfl (.nil (.seq (.ret (.of (rs:=[.tmp 4]) [_] (H3::r) rfl (.tmp rfl .nil) sl ?_))))
   try dsimp only[one]
   exact⟨_,rfl,by unfold bV;rw[if_neg pH,if_pos eK,<-List.append_assoc];exact kn⟩
  .
   have eK:=beq_eq_false_iff_ne.1 eK
   refine TT.skip (.blk (.seq (.seq (.region (.U hT 2 rfl (.nil (.seq (.ret (.of (rs:=[.tmp 4]) [_] (H1::r) rfl (.tmp rfl .nil) sl ?_)))))))))
   try dsimp only[one]
   exact⟨_,rfl,by unfold bV;rw[if_neg pH,if_neg eK,List.append_nil];exact eJ⟩
end Go.Proofs.YtihpkgmfkbkffaaGreat.Sx
end
section
namespace Go.Proofs.YtihpkgmfkbkffaaGreat.Sx
open Go Go.Sx Go.Pl
variable[au]
set_option maxHeartbeats 2000000 in
set_option maxRecDepth 100000 in
theorem Fk{v:Value}{xs:List UInt8}{hs:List Chunk}(hr:Row Go.Sx.aB 1 hs v xs)(hl:xs.length<=1073741824):aA Tryz.prog 196 [v] hs (fun v' hs'=>v'=(.tuple ⟨[.agg ⟨dw (cy xs).1⟩,.int .i64 (cy xs).2.1,.int .i64 (cy xs).2.2]⟩)/\hs=hs'):=by
 refine aA.enter 71 Tryz.func196 rfl Tryz.ntmps196 rfl ?_
 obtain⟨a0,c0,hv⟩:=hr.len
 subst hv
 have hk:= @jz xs
 obtain⟨k,a1,e,hg⟩:∃k a e,get xs=(k,a,e):=⟨_,_,_,rfl⟩
 rw[hg]at hk
 dsimp only at hk
 refine TT.seq (.region (.alloc Tryz.zeroValue36 rfl rfl (fun b_2=> ?_)))
 refine OT.U hT 2 rfl (.nil (.seq (.seq (.region (.U hT 1 rfl (.call Tryz.call120 rfl rfl rfl rfl (ke ro hl) ?_))))))
 rintro xd BB ⟨rfl,rfl⟩
 rw[hg]
 dsimp only
 refine OT.U hT 7 rfl (.nil (.seq (.seq (.seq (.region (.U hT 2 rfl (.nil (.seq (.cond rfl (fun eK=> ?_) (fun eK=> ?_))))))))))
 .
  have eK:=bne_iff_ne.1 eK
  refine TT.seq (.region (.build (cs:=[.int .i64 0,.float .f64 0,.string ⟨#[]⟩]) hT rfl Tryz.zeroValue36 rfl rfl rfl rfl (.U hT 1 rfl (.ag hT rfl rfl rfl rfl pl rfl rfl rfl (.inl (Nat.le_refl _)) ?_))))
  refine OT.U hT 2 rfl (.nil (.seq (.ret (.of (rs:=[.cell 2 36,.tmp 3,.tmp 4]) [_,_,_] hs rfl (.cell rfl (Ld.af hT rfl hz rfl) (.tmp rfl (.tmp rfl .nil))) sl ?_))))
  try dsimp only[one]
  exact⟨by rw[uC hg eK];rfl,rfl⟩
 .
  have eK:=bne_eq_false_iff_eq.1 eK
  obtain rfl:e=0:=by omega
  have hk:=hk rfl
  obtain⟨a,rfl⟩:∃a:Nat,a1=a:=⟨a1.toNat,by omega⟩
  refine TT.skip (.seq (.seq (.region (.U hT 1 rfl (.build (cs:=[.int .i64 k,.float .f64 0,.string ⟨#[]⟩]) hT rfl Tryz.zeroValue36 rfl rfl rfl rfl (.alloc Tryz.zeroValue36 rfl rfl (fun fH=> ?_)))))))
  refine OT.ag hT rfl rfl rfl rfl pl rfl rfl rfl (.inl (Nat.le_refl _)) ?_
  refine OT.nil (.seq (.seq (.region (.U hT 1 rfl (.nil (.seq (.seq (.seq (.region (.U hT 1 rfl (.nil (.seq (.block (.seq (.region (.U hT 2 rfl (.nil (.seq (.cond rfl (fun jx=> ?_) (fun jx=> ?_))))))))))))))))))))
  .
   have jx:=beq_iff_eq.1 jx
   subst jx
   refine TT.skip (.blk (.seq (.seq (.seq (.region (.load rfl rfl (Ld.af hT rfl hz rfl) rfl ?_))))))
   refine OT.call Tryz.call52 rfl rfl rfl rfl (pU (x:=bq)) ?_
   rintro KJ Jz ⟨rfl,rfl⟩
   refine OT.U hT 1 rfl (.nil (.seq (.cond rfl (fun oq=> ?_) (fun oq=> ?_))))
   .
    exact absurd oq (by decide+kernel)
   .
    have hG:cy xs=if bT bq=true then(bq,(a:Int)+0,0)else(bq,0,1):=by rw[sQ hg,if_pos (by decide+kernel)]
    refine TT.skip (.seq (.seq (.region (.load rfl rfl (Ld.af hT rfl hz rfl) rfl ?_))))
    refine OT.U hT 3 rfl (.ag hT rfl rfl rfl rfl pl rfl rfl rfl (.inl (Nat.le_refl _)) ?_)
    refine OT.U hT 2 rfl (.nil (.seq (.ret (.of (rs:=[.cell 2 36,.tmp 3,.tmp 4]) [_,_,_] hs rfl (.cell rfl (Ld.af hT rfl hz rfl) (.tmp rfl (.tmp rfl .nil))) sl ?_))))
    try dsimp only[one]
    refine⟨?_,rfl⟩
    rw[hG,if_pos (by simpa using oq),wrap_i64 (by omega) (by omega)]
    rfl
  .
   have jx:=beq_eq_false_iff_ne.1 jx
   refine TT.seq (.region (.U hT 2 rfl (.nil (.seq (.cond rfl (fun nV=> ?_) (fun nV=> ?_))))))
   .
    have nV:=beq_iff_eq.1 nV
    subst nV
    refine TT.seq (.seq (.region (.U hT 5 rfl (.nil (.seq (.cond rfl (fun uc=> ?_) (fun uc=> ?_)))))))
    .
     have uc:=of_decide_eq_true uc
     have h8:(xs.length:Int)-a<8:=by rw[wrap_i64 (by omega) (by omega)]at uc;exact uc
     refine TT.seq (.region (.build (cs:=[.int .i64 0,.float .f64 0,.string ⟨#[]⟩]) hT rfl Tryz.zeroValue36 rfl rfl rfl rfl (.ag hT rfl rfl rfl rfl pl rfl rfl rfl (.inl (Nat.le_refl _)) ?_)))
     refine OT.U hT 2 rfl (.nil (.seq (.ret (.of (rs:=[.cell 2 36,.tmp 3,.tmp 4]) [_,_,_] hs rfl (.cell rfl (Ld.af hT rfl hz rfl) (.tmp rfl (.tmp rfl .nil))) sl ?_))))
     try dsimp only[one]
     exact⟨by rw[qM hg h8];rfl,rfl⟩
    .
     have uc:=of_decide_eq_false uc
     have h8:¬(xs.length:Int)-a<8:=by rw[wrap_i64 (by omega) (by omega)]at uc;exact uc
     have Tq:((xs.drop a).take 8).length=8:=by rw[List.length_take,List.length_drop];omega
     refine TT.skip (.seq (.seq (.region (.U hT 1 rfl (.nil (.seq (.seq (.seq (.region (.U hT 4 rfl (.slice a (a+8) hT rfl rfl rfl rfl rfl (hr.there.there) (.inr ⟨.i64,rfl⟩) (.inr ⟨.i64,by rw[wrap_i64 (by omega) (by omega)];rfl⟩) (by omega) (by omega) rfl (fun vA JA=> ?_))))))))))))
     rw[show(xs.take (a+8)).drop a=(xs.drop a).take 8 by rw[List.drop_take,Nat.add_sub_cancel_left]]at JA
     refine OT.call Tryz.call210 rfl rfl rfl rfl (OD JA) ?_
     rintro CK BC ⟨rfl,rfl⟩
     refine OT.U hT 4 rfl (.store hT rfl rfl rfl rfl pl rfl (by show 0+1+1<=3;omega) rfl (.inl (Nat.le_refl _)) (show splice [.int .i64 1,.float .f64 0,.string ⟨#[]⟩] (0+1) [.float .f64 (t_ ((xs.drop a).take 8)).1]=[.int .i64 1,.float .f64 (t_ ((xs.drop a).take 8)).1,.string ⟨#[]⟩]from rfl) ?_)
     refine OT.U hT 1 rfl (.nil (.seq (.seq (.region (.U hT 2 rfl (.nil (.seq (.cond rfl (fun pJ=> ?_) (fun pJ=> ?_)))))))))
     .
      have pJ:¬(t_ ((xs.drop a).take 8)).2=true:=by simpa using pJ
      refine TT.seq (.region (.build (cs:=[.int .i64 0,.float .f64 0,.string ⟨#[]⟩]) hT rfl Tryz.zeroValue36 rfl rfl rfl rfl (.ag hT rfl rfl rfl rfl pl rfl rfl rfl (.inl (Nat.le_refl _)) ?_)))
      refine OT.U hT 2 rfl (.nil (.seq (.ret (.of (rs:=[.cell 2 36,.tmp 3,.tmp 4]) [_,_,_] hs rfl (.cell rfl (Ld.af hT rfl hz rfl) (.tmp rfl (.tmp rfl .nil))) sl ?_))))
      try dsimp only[one]
      exact⟨by rw[lM hg h8,if_neg pJ];rfl,rfl⟩
     .
      have pJ:(t_ ((xs.drop a).take 8)).2=true:=by simpa using pJ
      have hG:cy xs=if bT ⟨1,(t_ ((xs.drop a).take 8)).1,⟨#[]⟩⟩=true then(⟨1,(t_ ((xs.drop a).take 8)).1,⟨#[]⟩⟩,(a:Int)+8,0)else(bq,0,1):=by rw[lM hg h8,if_pos pJ]
      refine TT.skip (.seq (.region (.U hT 1 rfl (.nil (.blk (.seq (.seq (.seq (.region (.load rfl rfl (Ld.af hT rfl hz rfl) rfl ?_))))))))))
      refine OT.call Tryz.call52 rfl rfl rfl rfl (pU (x:=⟨1,(t_ ((xs.drop a).take 8)).1,⟨#[]⟩⟩)) ?_
      rintro KJ Jz ⟨rfl,rfl⟩
      refine OT.U hT 1 rfl (.nil (.seq (.cond rfl (fun oq=> ?_) (fun oq=> ?_))))
      .
       refine TT.seq (.region (.build (cs:=[.int .i64 0,.float .f64 0,.string ⟨#[]⟩]) hT rfl Tryz.zeroValue36 rfl rfl rfl rfl (.ag hT rfl rfl rfl rfl pl rfl rfl rfl (.inl (Nat.le_refl _)) ?_)))
       refine OT.U hT 2 rfl (.nil (.seq (.ret (.of (rs:=[.cell 2 36,.tmp 3,.tmp 4]) [_,_,_] hs rfl (.cell rfl (Ld.af hT rfl hz rfl) (.tmp rfl (.tmp rfl .nil))) sl ?_))))
       try dsimp only[one]
       exact⟨by rw[hG,if_neg (by simpa using oq)];rfl,rfl⟩
      .
       refine TT.skip (.seq (.seq (.region (.load rfl rfl (Ld.af hT rfl hz rfl) rfl ?_))))
       refine OT.U hT 3 rfl (.ag hT rfl rfl rfl rfl pl rfl rfl rfl (.inl (Nat.le_refl _)) ?_)
       refine OT.U hT 2 rfl (.nil (.seq (.ret (.of (rs:=[.cell 2 36,.tmp 3,.tmp 4]) [_,_,_] hs rfl (.cell rfl (Ld.af hT rfl hz rfl) (.tmp rfl (.tmp rfl .nil))) sl ?_))))
       try dsimp only[one]
       refine⟨?_,rfl⟩
       rw[hG,if_pos (by simpa using oq),wrap_i64 (by omega) (by omega)]
       rfl
   .
    have nV:=beq_eq_false_iff_ne.1 nV
    refine TT.seq (.region (.U hT 2 rfl (.nil (.seq (.cond rfl (fun J4=> ?_) (fun J4=> ?_))))))
    .
     have J4:=beq_iff_eq.1 J4
     subst J4
     refine TT.seq (.region (.U hT 2 rfl (.slice a xs.length hT rfl rfl rfl rfl rfl (hr.there.there) (.inr ⟨.i64,rfl⟩) (.inl ⟨rfl,rfl⟩) (by omega) (by omega) rfl (fun ND JB=> ?_))))
     rw[List.take_length]at JB
     obtain⟨s,n,e2,ht⟩:∃s n e,a_ (xs.drop a)=(s,n,e):=⟨_,_,_,rfl⟩
     refine OT.call Tryz.call160 rfl rfl rfl rfl (jj JB (by rw[List.length_drop];omega)) ?_
     rintro WC T6 ⟨rfl,rfl⟩
     rw[ht]
     dsimp only
     refine OT.U hT 5 rfl (.store hT rfl rfl rfl rfl pl rfl (by show 0+2+1<=3;omega) rfl (.inl (Nat.le_refl _)) (show splice [.int .i64 2,.float .f64 0,.string ⟨#[]⟩] (0+2) [.string s]=[.int .i64 2,.float .f64 0,.string s]from rfl) ?_)
     refine OT.U hT 2 rfl (.nil (.seq (.seq (.region (.U hT 2 rfl (.nil (.seq (.cond rfl (fun Jb=> ?_) (fun Jb=> ?_)))))))))
     .
      have Jb:=bne_iff_ne.1 Jb
      refine TT.seq (.region (.build (cs:=[.int .i64 0,.float .f64 0,.string ⟨#[]⟩]) hT rfl Tryz.zeroValue36 rfl rfl rfl rfl (.U hT 1 rfl (.ag hT rfl rfl rfl rfl pl rfl rfl rfl (.inl (Nat.le_refl _)) ?_))))
      refine OT.U hT 2 rfl (.nil (.seq (.ret (.of (rs:=[.cell 2 36,.tmp 3,.tmp 4]) [_,_,_] hs rfl (.cell rfl (Ld.af hT rfl hz rfl) (.tmp rfl (.tmp rfl .nil))) sl ?_))))
      try dsimp only[one]
      exact⟨by rw[nE hg ht,if_pos Jb];rfl,rfl⟩
     .
      have Jb:=bne_eq_false_iff_eq.1 Jb
      obtain rfl:e2=0:=by omega
      have hkn:= @eR (xs.drop a)
      rw[ht]at hkn
      have hkn:=hkn rfl
      dsimp only at hkn
      rw[List.length_drop]at hkn
      have hG:cy xs=if bT ⟨2,0,s⟩=true then(⟨2,0,s⟩,(a:Int)+n,0)else(bq,0,1):=by rw[nE hg ht,if_neg (by simp)]
      refine TT.skip (.blk (.seq (.seq (.seq (.region (.load rfl rfl (Ld.af hT rfl hz rfl) rfl ?_))))))
      refine OT.call Tryz.call52 rfl rfl rfl rfl (pU (x:=⟨2,0,s⟩)) ?_
      rintro KJ Jz ⟨rfl,rfl⟩
      refine OT.U hT 1 rfl (.nil (.seq (.cond rfl (fun oq=> ?_) (fun oq=> ?_))))
      .
       refine TT.seq (.region (.build (cs:=[.int .i64 0,.float .f64 0,.string ⟨#[]⟩]) hT rfl Tryz.zeroValue36 rfl rfl rfl rfl (.ag hT rfl rfl rfl rfl pl rfl rfl rfl (.inl (Nat.le_refl _)) ?_)))
       refine OT.U hT 2 rfl (.nil (.seq (.ret (.of (rs:=[.cell 2 36,.tmp 3,.tmp 4]) [_,_,_] hs rfl (.cell rfl (Ld.af hT rfl hz rfl) (.tmp rfl (.tmp rfl .nil))) sl ?_))))
       try dsimp only[one]
       exact⟨by rw[hG,if_neg (by simpa using oq)];rfl,rfl⟩
      .
       refine TT.skip (.seq (.seq (.region (.load rfl rfl (Ld.af hT rfl hz rfl) rfl ?_))))
       refine OT.U hT 3 rfl (.ag hT rfl rfl rfl rfl pl rfl rfl rfl (.inl (Nat.le_refl _)) ?_)
       refine OT.U hT 2 rfl (.nil (.seq (.ret (.of (rs:=[.cell 2 36,.tmp 3,.tmp 4]) [_,_,_] hs rfl (.cell rfl (Ld.af hT rfl hz rfl) (.tmp rfl (.tmp rfl .nil))) sl ?_))))
       try dsimp only[one]
       refine⟨?_,rfl⟩
       rw[hG,if_pos (by simpa using oq),wrap_i64 (by omega) (by omega)]
       rfl
    .
     have J4:=beq_eq_false_iff_ne.1 J4
     refine TT.seq (.region (.build (cs:=[.int .i64 0,.float .f64 0,.string ⟨#[]⟩]) hT rfl Tryz.zeroValue36 rfl rfl rfl rfl (.ag hT rfl rfl rfl rfl pl rfl rfl rfl (.inl (Nat.le_refl _)) ?_)))
     refine OT.U hT 2 rfl (.nil (.seq (.ret (.of (rs:=[.cell 2 36,.tmp 3,.tmp 4]) [_,_,_] hs rfl (.cell rfl (Ld.af hT rfl hz rfl) (.tmp rfl (.tmp rfl .nil))) sl ?_))))
     try dsimp only[one]
     exact⟨by rw[sP hg jx nV J4];rfl,rfl⟩
end Go.Proofs.YtihpkgmfkbkffaaGreat.Sx
end
section
namespace Go.Proofs.YtihpkgmfkbkffaaGreat.Sx
open Go Go.Sx Go.Pl
variable[au]
set_option maxHeartbeats 1000000 in
set_option maxRecDepth 100000 in
theorem Ac{s:ByteArray}{hs:List Chunk}:aA Tryz.prog 51 [.string s] hs (fun v' hs'=>v'= .bool (bP s)/\hs=hs'):=by
 refine aA.enter 10 Tryz.func51 rfl Tryz.ntmps51 rfl ?_
 refine TT.seq (.region (.U hT 1 rfl (.nil (.seq (.seq (.region (.U hT 3 rfl (.split 5 rfl (fun g5=> ?_) (fun g5=> ?_)))))))))
 .
  refine OT.U hT 5 rfl (.nil (.seq (.ret (.of (rs:=[.tmp 2]) [_] hs rfl (.tmp rfl .nil) sl ?_))))
  try dsimp only[one]
  refine⟨congrArg Value.bool ?_,rfl⟩
  have g5:decide (s=⟨#[]⟩)=false:=by simpa using g5
  have g5:=of_decide_eq_false g5
  unfold bP
  rw[decide_eq_true (show s≠⟨#[]⟩from g5),Bool.true_and]
  exact decide_eq_decide.2 (by omega)
 .
  refine OT.U hT 5 rfl (.nil (.seq (.ret (.of (rs:=[.tmp 2]) [_] hs rfl (.tmp rfl .nil) sl ?_))))
  try dsimp only[one]
  refine⟨congrArg Value.bool ?_,rfl⟩
  have g5:decide (s=⟨#[]⟩)=true:=by simpa using g5
  have g5:=of_decide_eq_true g5
  unfold bP
  rw[decide_eq_false (show¬s≠⟨#[]⟩from fun h=>h g5),Bool.false_and]
set_option maxHeartbeats 1000000 in
set_option maxRecDepth 100000 in
theorem EW{s a b:ByteArray}{hs:List Chunk}:aA Tryz.prog 111 [.string s,.string a,.string b] hs (fun v' hs'=>v'= .bool (bW s a b)/\hs=hs'):=by
 refine aA.enter 19 Tryz.func111 rfl Tryz.ntmps111 rfl ?_
 refine TT.seq (.region (.U hT 1 rfl (.nil (.seq (.seq (.region (.U hT 4 rfl (.split 10 rfl (fun Ja=> ?_) (fun Ja=> ?_)))))))))
 .
  refine OT.U hT 3 rfl (.split 13 rfl (fun tE=> ?_) (fun tE=> ?_))
  .
   refine OT.U hT 6 rfl (.nil (.seq (.ret (.of (rs:=[.tmp 6]) [_] hs rfl (.tmp rfl .nil) sl ?_))))
   try dsimp only[one]
   refine⟨congrArg Value.bool ?_,rfl⟩
   unfold bW
   rw[show(!cC s a)=true from Ja,tE];rfl
  .
   refine OT.U hT 6 rfl (.nil (.seq (.ret (.of (rs:=[.tmp 6]) [_] hs rfl (.tmp rfl .nil) sl ?_))))
   try dsimp only[one]
   refine⟨congrArg Value.bool ?_,rfl⟩
   unfold bW
   rw[show(!cC s a)=true from Ja,tE];rfl
 .
  refine OT.U hT 9 rfl (.nil (.seq (.ret (.of (rs:=[.tmp 6]) [_] hs rfl (.tmp rfl .nil) sl ?_))))
  try dsimp only[one]
  refine⟨congrArg Value.bool ?_,rfl⟩
  unfold bW
  rw[show(!cC s a)=false from Ja];rfl
set_option maxHeartbeats 1000000 in
set_option maxRecDepth 100000 in
theorem Fm{a b:ByteArray}(hb:b.size<=1000000){hs:List Chunk}:aA Tryz.prog 201 [.string a,.string b] hs (fun v' hs'=>v'= .string (iI a b)/\hs=hs'):=by
 refine aA.enter 21 Tryz.func201 rfl Tryz.ntmps201 rfl ?_
 refine TT.seq (.region (.U hT 1 rfl (.nil (.seq (.seq (.seq (.region (.U hT 4 rfl (.nil (.seq (.block (.eI 8 rfl (v:= .int .i64 ((b.size+1:Nat):Int)) (int_eq (by rw[wrap_i64 (by omega) (by omega)];omega)) (.loop (ι:=Nat) (fun j=>(j)<=b.size+1/\∀q,q<(j)->cC a (b.extract 0 q)=false) (fun j=>b.size+1-(j)) (fun j=>[(0,.string a),(1,.string b),(8,.int .i64 ((b.size+1:Nat):Int)),(9,.int .i64 ((j):Nat))]) (fun j=>hs) (0) ?_ (aa.cons rfl (aa.cons rfl (aa.cons rfl (aa.cons rfl (aa.nil _))))) sl ?_)))))))))))))
 . exact⟨by omega,fun q hq=>by omega⟩
 rintro i ⟨hi,hq⟩
 show TT _ _ _ [(0,.string a),(1,.string b),(8,.int .i64 ((b.size+1:Nat):Int)),(9,.int .i64 (i:Nat))] (hs)
 refine TT.seq (.region (.U hT 1 rfl (.nil (.seq (.seq (.cond rfl (fun en=> ?_) (fun en=> ?_)))))))
 .
  have en:=of_decide_eq_true en
  refine TT.skip (.seq (.seq (.block (.seq (.region (.U hT 2 rfl (.nil (.seq (.seq (.region (.U hT 2 rfl (.mo 0 i hT rfl rfl rfl rfl rfl (.inl ⟨rfl,rfl⟩) (.inr ⟨_,rfl⟩) (by omega) (by omega) rfl (.U hT 2 rfl (.nil (.seq (.cond rfl (fun fO=> ?_) (fun fO=> ?_)))))))))))))))))
  .
   have fO:cC a (b.extract 0 i)=true:=by rw[<-Tb];exact fO
   refine TT.seq (.region (.U hT 2 rfl (.mo 0 i hT rfl rfl rfl rfl rfl (.inl ⟨rfl,rfl⟩) (.inr ⟨_,rfl⟩) (by omega) (by omega) rfl (.U hT 1 rfl (.nil (.seq (.ret (.of (rs:=[.tmp 4]) [_] hs rfl (.tmp rfl .nil) sl ?_))))))))
   try dsimp only[one]
   exact⟨by rw[E_ (by omega) hq fO],rfl⟩
  .
   have fO:cC a (b.extract 0 i)=false:=by rw[<-Tb];exact fO
   refine TT.skip (.blk (.seq (.region (.U hT 2 rfl (.nil (.loop (i+1) ?_ ?_ (aa.cons rfl (aa.cons rfl (aa.cons rfl (aa.aM rfl (by(try dsimp only);exact(int_eq (by rw[wrap_i64 (by omega) (by omega)];omega))) (aa.nil _))))) sl))))))
   . exact⟨by omega,fun q XO=>by by_cases e:q=i;rw[e];exact fO;exact hq q (by omega)⟩
   . omega
 .
  have en:=of_decide_eq_false en
  obtain rfl:i=b.size+1:=by omega
  refine TT.exit (.seq (.loop (.here (.seq (.seq (.region (.U hT 1 rfl (.nil (.seq (.ret (.of (rs:=[.tmp 4]) [_] hs rfl (.tmp rfl .nil) sl ?_)))))))))))
  try dsimp only[one]
  exact⟨by rw[FO hq],rfl⟩
end Go.Proofs.YtihpkgmfkbkffaaGreat.Sx
end
section
namespace Go.Proofs.YtihpkgmfkbkffaaGreat.Sx
open Go Go.Sx Go.Pl
variable[au]
set_option maxHeartbeats 1000000 in
set_option maxRecDepth 100000 in
theorem wo{x:Vl}{hs:List Chunk}:aA Tryz.prog 140 [.agg ⟨dw x⟩] hs (fun v' hs'=>v'= .bool (decide (x.kind=0))/\hs=hs'):=by
 refine aA.enter 6 Tryz.func140 rfl Tryz.ntmps140 rfl ?_
 refine TT.seq (.region (.box rfl rfl rfl (fun b_1=> ?_)))
 refine OT.U hT 1 rfl (.nil (.seq (.seq (.region (.U hT 1 rfl (.load rfl rfl (Ld.one hT rfl hz rfl) rfl ?_))))))
 refine OT.U hT 2 rfl (.nil (.seq (.ret (.of (rs:=[.tmp 2]) [_] hs rfl (.tmp rfl .nil) sl ?_))))
 try dsimp only[one]
 refine⟨congrArg Value.bool ?_,rfl⟩
 rw[Bool.eq_iff_iff,beq_iff_eq,decide_eq_true_eq]
set_option maxHeartbeats 1000000 in
set_option maxRecDepth 100000 in
theorem vV{x:Cell}{hs:List Chunk}:aA Tryz.prog 99 [.agg ⟨aj x⟩] hs (fun v' hs'=>v'= .bool (aC x)/\hs=hs'):=by
 refine aA.enter 43 Tryz.func99 rfl Tryz.ntmps99 rfl ?_
 refine TT.seq (.region (.box rfl rfl rfl (fun b_1=> ?_)))
 refine OT.U hT 1 rfl (.nil (.seq (.seq (.seq (.region (.U hT 1 rfl (.load rfl rfl (Ld.one hT rfl hz rfl) rfl ?_)))))))
 refine OT.call Tryz.call51 rfl rfl rfl rfl (Ac) ?_
 rintro Tr WD ⟨rfl,rfl⟩
 refine OT.U hT 2 rfl (.split 7 rfl (fun g7=> ?_) (fun g7=> ?_))
 .
  have h1:bP x.key=false:=by simpa using g7
  refine OT.U hT 21 rfl (.nil (.seq (.cond_true rfl (.seq (.region (.U hT 1 rfl (.nil (.seq (.ret (.of (rs:=[.tmp 2]) [_] hs rfl (.tmp rfl .nil) sl ?_))))))))))
  try dsimp only[one]
  refine⟨congrArg Value.bool ?_,rfl⟩
  unfold aC
  rw[h1];simp
 .
  have h1:bP x.key=true:=by simpa using g7
  refine OT.U hT 1 rfl (.load rfl rfl (Ld.struct (vs:=dw x.val) hT rfl hz rfl rfl) rfl ?_)
  refine OT.call Tryz.call52 rfl rfl rfl rfl (pU) ?_
  rintro nZ jF ⟨rfl,rfl⟩
  refine OT.U hT 3 rfl (.split 13 rfl (fun tE=> ?_) (fun tE=> ?_))
  .
   have h2:bT x.val=false:=by simpa using tE
   refine OT.U hT 15 rfl (.nil (.seq (.cond_true rfl (.seq (.region (.U hT 1 rfl (.nil (.seq (.ret (.of (rs:=[.tmp 2]) [_] hs rfl (.tmp rfl .nil) sl ?_))))))))))
   try dsimp only[one]
   refine⟨congrArg Value.bool ?_,rfl⟩
   unfold aC
   rw[h2];simp
  .
   have h2:bT x.val=true:=by simpa using tE
   refine OT.U hT 1 rfl (.load rfl rfl (Ld.struct (vs:=dw x.new) hT rfl hz rfl rfl) rfl ?_)
   refine OT.call Tryz.call52 rfl rfl rfl rfl (pU) ?_
   rintro iT eY ⟨rfl,rfl⟩
   refine OT.U hT 3 rfl (.split 19 rfl (fun GY=> ?_) (fun GY=> ?_))
   .
    have h3:bT x.new=false:=by simpa using GY
    refine OT.U hT 9 rfl (.nil (.seq (.cond_true rfl (.seq (.region (.U hT 1 rfl (.nil (.seq (.ret (.of (rs:=[.tmp 2]) [_] hs rfl (.tmp rfl .nil) sl ?_))))))))))
    try dsimp only[one]
    refine⟨congrArg Value.bool ?_,rfl⟩
    unfold aC
    rw[h3];simp
   .
    have h3:bT x.new=true:=by simpa using GY
    refine OT.U hT 1 rfl (.load rfl rfl (Ld.one hT rfl hz rfl) rfl ?_)
    refine OT.U hT 3 rfl (.split 24 rfl (fun Qx=> ?_) (fun Qx=> ?_))
    .
     have h4:x.cg<0:=of_decide_eq_true Qx
     refine OT.U hT 4 rfl (.nil (.seq (.cond_true rfl (.seq (.region (.U hT 1 rfl (.nil (.seq (.ret (.of (rs:=[.tmp 2]) [_] hs rfl (.tmp rfl .nil) sl ?_))))))))))
     try dsimp only[one]
     refine⟨congrArg Value.bool ?_,rfl⟩
     unfold aC
     rw[decide_eq_false (show¬0<=x.cg by omega)];simp
    .
     have h4:¬x.cg<0:=of_decide_eq_false Qx
     refine OT.U hT 1 rfl (.load rfl rfl (Ld.one hT rfl hz rfl) rfl ?_)
     refine OT.U hT 2 rfl (.nil (.seq (.cond rfl (fun BQ=> ?_) (fun BQ=> ?_))))
     .
      have h5:x.cg>1099511627776:=of_decide_eq_true BQ
      refine TT.seq (.region (.U hT 1 rfl (.nil (.seq (.ret (.of (rs:=[.tmp 2]) [_] hs rfl (.tmp rfl .nil) sl ?_))))))
      try dsimp only[one]
      refine⟨congrArg Value.bool ?_,rfl⟩
      unfold aC
      rw[decide_eq_false (show¬x.cg<=1099511627776 by omega)];simp
     .
      have h5:¬x.cg>1099511627776:=of_decide_eq_false BQ
      refine TT.skip (.seq (.seq (.region (.U hT 1 rfl (.load rfl rfl (Ld.one hT rfl hz rfl) rfl ?_)))))
      refine OT.U hT 2 rfl (.split 32 rfl (fun J5=> ?_) (fun J5=> ?_))
      .
       have h6:0<x.cg:=of_decide_eq_true J5
       refine OT.U hT 11 rfl (.nil (.seq (.ret (.of (rs:=[.tmp 2]) [_] hs rfl (.tmp rfl .nil) sl ?_))))
       try dsimp only[one]
       refine⟨congrArg Value.bool ?_,rfl⟩
       unfold aC
       rw[h1,h2,h3,decide_eq_true (show 0<=x.cg by omega),decide_eq_true (show x.cg<=1099511627776 by omega)]
       rw[decide_eq_true h6];rfl
      .
       have h6:¬0<x.cg:=of_decide_eq_false J5
       refine OT.U hT 1 rfl (.load rfl rfl (Ld.struct (vs:=dw x.new) hT rfl hz rfl rfl) rfl ?_)
       refine OT.call Tryz.call140 rfl rfl rfl rfl (wo) ?_
       rintro R7 T7 ⟨rfl,rfl⟩
       refine OT.U hT 1 rfl (.split 36 rfl (fun Qy=> ?_) (fun Qy=> ?_))
       .
        have h7:decide (x.new.kind=0)=true:=Qy
        refine OT.U hT 1 rfl (.load rfl rfl (Ld.struct (vs:=dw x.val) hT rfl hz rfl rfl) rfl ?_)
        refine OT.call Tryz.call140 rfl rfl rfl rfl (wo) ?_
        rintro vu Bx ⟨rfl,rfl⟩
        refine OT.U hT 4 rfl (.nil (.seq (.ret (.of (rs:=[.tmp 2]) [_] hs rfl (.tmp rfl .nil) sl ?_))))
        try dsimp only[one]
        refine⟨congrArg Value.bool ?_,rfl⟩
        unfold aC
        rw[h1,h2,h3,decide_eq_true (show 0<=x.cg by omega),decide_eq_true (show x.cg<=1099511627776 by omega)]
        rw[decide_eq_false h6,h7];rfl
       .
        have h7:decide (x.new.kind=0)=false:=Qy
        refine OT.U hT 7 rfl (.nil (.seq (.ret (.of (rs:=[.tmp 2]) [_] hs rfl (.tmp rfl .nil) sl ?_))))
        try dsimp only[one]
        refine⟨congrArg Value.bool ?_,rfl⟩
        unfold aC
        rw[h1,h2,h3,decide_eq_true (show 0<=x.cg by omega),decide_eq_true (show x.cg<=1099511627776 by omega)]
        rw[decide_eq_false h6,h7];rfl
set_option maxHeartbeats 2000000 in
set_option maxRecDepth 100000 in
theorem LQ{v:Value}{xs:List UInt8}{H:Chunk}{r:List Chunk}{x:Cell}(ho:Own Go.Sx.aB 1 5 v xs H)(h1: -9223372036854775808<=x.val.kind/\x.val.kind<=9223372036854775807)(h2: -9223372036854775808<=x.new.kind/\x.new.kind<=9223372036854775807)(ht: -9223372036854775808<=x.cg/\x.cg<=9223372036854775807)(Qz:x.val.f<2^64)(D_:x.new.f<2^64)(hk:x.key.size<=1000)(dF:x.val.s.size<=1000)(kX:x.new.s.size<=1000)(hl:xs.length<=100000):aA Tryz.prog 199 [v,.agg ⟨aj x⟩] (H::r) (fun v' hs'=>∃H',hs'=H'::r/\Own Go.Sx.aB 1 5 v' (xs++ax x) H'):=by
 refine aA.enter 23 Tryz.func199 rfl Tryz.ntmps199 rfl ?_
 have a1:(aI x.key).length<=1010:=by
  have:=dY (n:=x.key.size) (by omega) (by omega)
  rw[eH];omega
 have a2:(bV x.val).length<=1020:=by
  have b1:=dY h1.1 h1.2
  have b2:=dY (n:=x.val.s.size) (by omega) (by omega)
  unfold bV
  rw[List.length_append]
  split
  . rw[dR];omega
  . split
    . rw[eH];omega
    . simp;omega
 have a3:=dY ht.1 ht.2
 refine TT.seq (.region (.box rfl rfl rfl (fun pG=> ?_)))
 refine OT.U hT 1 rfl (.nil (.seq (.seq (.draw (([(pG,blk (aj x) 113 (0,0))]::r)) mixed (.takes (fuel:=7) hT [0,1,4,7] kr kr rfl (.take (fuel:=6) hT 2 rfl rfl kr kr kr rfl (.load rfl (Ld.one hT rfl hz rfl)) rfl ?_))))))
 refine AT.take (fuel:=5) hT 5 rfl rfl kr kr kr rfl (.load rfl (Ld.struct (vs:=dw x.val) hT rfl hz rfl rfl)) rfl ?_
 refine AT.take (fuel:=4) hT 8 rfl rfl kr kr kr rfl (.load rfl (Ld.one hT rfl hz rfl)) rfl ?_
 refine AT.op (fuel:=3) 3 kr rfl sl (.call Tryz.call77 rfl rfl rfl rfl (aA.pull pl (ji ho (Nat.le_trans hk (by decide)) (Nat.le_trans hl (by decide)))) ?_)
 rintro Ed rJ ⟨H1,rfl,eJ⟩
 refine OT.nil (.any (.op (fuel:=2) 6 kr rfl sl (.call Tryz.call211 rfl rfl rfl rfl (Fj eJ h1 Qz (Nat.le_trans dF (by decide)) (by rw[List.length_append];omega)) ?_)))
 rintro qE kR ⟨H2,rfl,pI⟩
 refine OT.nil (.any (.op (fuel:=1) 9 kr rfl sl (.call Tryz.call76 rfl rfl rfl rfl (ia pI ht.1 ht.2 (by rw[List.length_append,List.length_append];omega)) ?_)))
 rintro CL ur ⟨H3,rfl,kn⟩
 refine OT.nil (.any (.takes (fuel:=0) hT [10] kr kr rfl (.done kr sl (.seq (.seq (.seq (.region (.U hT 1 rfl (.load rfl rfl (Ld.one hT rfl hz rfl) rfl ?_)))))))))
 refine OT.U hT 1 rfl (.nil (.seq (.cond rfl (fun jn=> ?_) (fun jn=> ?_))))
 .
  have jn:=of_decide_eq_true jn
  refine TT.region (.U hT 2 rfl (.load rfl rfl (Ld.struct (vs:=dw x.new) hT rfl hz rfl rfl) rfl ?_))
  refine OT.call Tryz.call211 rfl rfl rfl rfl (Fj kn h2 D_ (Nat.le_trans kX (by decide)) (by rw[List.length_append,List.length_append,List.length_append];omega)) ?_
  rintro KL EX ⟨H4,rfl,GZ⟩
  refine OT.U hT 1 rfl (.nil (.seq (.seq (.region (.U hT 2 rfl (.nil (.seq (.ret (.of (rs:=[.tmp 4]) [_] (H4::r) rfl (.tmp rfl .nil) sl ?_)))))))))
  try dsimp only[one]
  exact⟨_,rfl,by unfold ax;rw[if_pos jn];simp only[<-List.append_assoc];exact GZ⟩
 .
  have jn:=of_decide_eq_false jn
  refine TT.skip (.seq (.seq (.region (.U hT 2 rfl (.nil (.seq (.ret (.of (rs:=[.tmp 4]) [_] (H3::r) rfl (.tmp rfl .nil) sl ?_))))))))
  try dsimp only[one]
  exact⟨_,rfl,by unfold ax;rw[if_neg jn,List.append_nil];simp only[<-List.append_assoc];exact kn⟩
end Go.Proofs.YtihpkgmfkbkffaaGreat.Sx
end
section
namespace Go.Proofs.YtihpkgmfkbkffaaGreat.Sx
open Go Go.Sx Go.Pl
variable[au]
set_option maxHeartbeats 4000000 in
set_option maxRecDepth 100000 in
theorem LR{v:Value}{xs:List UInt8}{hs:List Chunk}(hr:Row Go.Sx.aB 1 hs v xs)(hl:xs.length<=1000000):aA Tryz.prog 168 [v] hs (fun v' hs'=>v'=(.tuple ⟨[.agg ⟨aj (bA xs).1⟩,.int .i64 (bA xs).2.1,.int .i64 (bA xs).2.2]⟩)/\hs=hs'):=by
 refine aA.enter 77 Tryz.func168 rfl Tryz.ntmps168 rfl ?_
 obtain⟨a0,c0,hv⟩:=hr.len
 subst hv
 have qW:= @eR xs
 obtain⟨k,a1,e1,h1⟩:∃k a e,a_ xs=(k,a,e):=⟨_,_,_,rfl⟩
 rw[h1]at qW
 dsimp only at qW
 refine TT.seq (.region (.alloc Tryz.zeroValue113 rfl rfl (fun b_2=> ?_)))
 refine OT.U hT 2 rfl (.nil (.seq (.seq (.region (.alloc Tryz.zeroValue113 rfl rfl (fun g_=> ?_))))))
 refine OT.nil (.seq (.seq (.region (.U hT 1 rfl (.nil (.seq (.seq (.region (.U hT 1 rfl (.nil (.seq (.seq (.region (.U hT 1 rfl (.nil (.seq (.seq (.seq (.region (.U hT 1 rfl (.call Tryz.call160 rfl rfl rfl rfl (jj hr.there.there (by omega)) ?_)))))))))))))))))))))
 rintro qE kR ⟨rfl,rfl⟩
 rw[h1]
 dsimp only
 refine OT.U hT 5 rfl (.store hT rfl rfl rfl rfl pl rfl (by show 0+0+1<=8;omega) rfl (.inl (Nat.le_refl _)) (show splice (aj noCell) (0+0) ([.string k])=aj ⟨k,bq,0,bq⟩from rfl) ?_)
 refine OT.U hT 2 rfl (.nil (.seq (.seq (.region (.U hT 2 rfl (.nil (.seq (.cond rfl (fun jn=> ?_) (fun jn=> ?_)))))))))
 .
  have jn:=bne_iff_ne.1 jn
  refine TT.seq (.region (.build (cs:=aj noCell) hT rfl Tryz.zeroValue113 rfl rfl rfl rfl (.U hT 1 rfl (.ag hT rfl rfl rfl rfl pl rfl rfl rfl (.inl (Nat.le_refl _)) ?_))))
  refine OT.U hT 2 rfl (.nil (.seq (.ret (.of (rs:=[.cell 2 113,.tmp 3,.tmp 4]) [_,_,_] hs rfl (.cell rfl (Ld.af hT rfl hz rfl) (.tmp rfl (.tmp rfl .nil))) sl ?_))))
  try dsimp only[one]
  exact⟨by rw[H_ h1 jn];rfl,rfl⟩
 .
  have jn:=bne_eq_false_iff_eq.1 jn
  obtain rfl:e1=0:=by omega
  have qW:=qW rfl
  obtain⟨a,rfl⟩:∃a:Nat,a1=a:=⟨a1.toNat,by omega⟩
  refine TT.skip (.seq (.seq (.seq (.region (.U hT 2 rfl (.slice a xs.length hT rfl rfl rfl rfl rfl hr.there.there (.inr ⟨.i64,rfl⟩) (.inl ⟨rfl,rfl⟩) (by omega) (by omega) rfl (fun xb BD=> ?_)))))))
  rw[List.take_length]at BD
  have hk2:= @rq (xs.drop a)
  obtain⟨x,n1,e2,h2⟩:∃x n e,cy (xs.drop a)=(x,n,e):=⟨_,_,_,rfl⟩
  rw[h2]at hk2
  dsimp only at hk2
  rw[List.length_drop]at hk2
  refine OT.call Tryz.call196 rfl rfl rfl rfl (Fk BD (by rw[List.length_drop];omega)) ?_
  rintro EE xJ ⟨rfl,rfl⟩
  rw[h2]
  dsimp only
  refine OT.U hT 5 rfl (.store hT rfl rfl rfl rfl pl rfl (by show 0+1+3<=8;omega) rfl (.inl (Nat.le_refl _)) (show splice (aj ⟨k,bq,0,bq⟩) (0+1) (dw x)=aj ⟨k,x,0,bq⟩from rfl) ?_)
  refine OT.U hT 2 rfl (.nil (.seq (.seq (.region (.U hT 2 rfl (.nil (.seq (.cond rfl (fun lW=> ?_) (fun lW=> ?_)))))))))
  .
   have lW:=bne_iff_ne.1 lW
   refine TT.seq (.region (.build (cs:=aj noCell) hT rfl Tryz.zeroValue113 rfl rfl rfl rfl (.U hT 1 rfl (.ag hT rfl rfl rfl rfl pl rfl rfl rfl (.inl (Nat.le_refl _)) ?_))))
   refine OT.U hT 2 rfl (.nil (.seq (.ret (.of (rs:=[.cell 2 113,.tmp 3,.tmp 4]) [_,_,_] hs rfl (.cell rfl (Ld.af hT rfl hz rfl) (.tmp rfl (.tmp rfl .nil))) sl ?_))))
   try dsimp only[one]
   exact⟨by rw[Lq h1 h2 lW];rfl,rfl⟩
  .
   have lW:=bne_eq_false_iff_eq.1 lW
   obtain rfl:e2=0:=by omega
   have hk2:=hk2 rfl
   obtain⟨n,rfl⟩:∃n:Nat,n1=n:=⟨n1.toNat,by omega⟩
   refine TT.skip (.seq (.seq (.region (.U hT 4 rfl (.nil (.seq (.seq (.seq (.region (.U hT 2 rfl (.eI 38 rfl (v:= .int .i64 ((a+n:Nat):Int)) (int_eq (by rw[wrap_i64 (by omega) (by omega)];omega)) (.slice (a+n) xs.length hT rfl rfl rfl rfl rfl hr.there.there (.inr ⟨.i64,rfl⟩) (.inl ⟨rfl,rfl⟩) (by omega) (by omega) rfl (fun vu xK=> ?_)))))))))))))
   rw[List.take_length]at xK
   have D8:= @jz (xs.drop (a+n))
   obtain⟨t,Ts,e3,h3⟩:∃x m e,get (xs.drop (a+n))=(x,m,e):=⟨_,_,_,rfl⟩
   rw[h3]at D8
   dsimp only at D8
   rw[List.length_drop]at D8
   refine OT.call Tryz.call120 rfl rfl rfl rfl (ke xK (by rw[List.length_drop];omega)) ?_
   rintro vA T8 ⟨rfl,rfl⟩
   rw[h3]
   dsimp only
   refine OT.U hT 5 rfl (.store hT rfl rfl rfl rfl pl rfl (by show 0+4+1<=8;omega) rfl (.inl (Nat.le_refl _)) (show splice (aj ⟨k,x,0,bq⟩) (0+4) ([.int .i64 t])=aj ⟨k,x,t,bq⟩from rfl) ?_)
   refine OT.U hT 2 rfl (.nil (.seq (.seq (.region (.U hT 2 rfl (.nil (.seq (.cond rfl (fun pJ=> ?_) (fun pJ=> ?_)))))))))
   .
    have pJ:=bne_iff_ne.1 pJ
    refine TT.seq (.region (.build (cs:=aj noCell) hT rfl Tryz.zeroValue113 rfl rfl rfl rfl (.U hT 1 rfl (.ag hT rfl rfl rfl rfl pl rfl rfl rfl (.inl (Nat.le_refl _)) ?_))))
    refine OT.U hT 2 rfl (.nil (.seq (.ret (.of (rs:=[.cell 2 113,.tmp 3,.tmp 4]) [_,_,_] hs rfl (.cell rfl (Ld.af hT rfl hz rfl) (.tmp rfl (.tmp rfl .nil))) sl ?_))))
    try dsimp only[one]
    exact⟨by rw[Lr h1 h2 h3 pJ];rfl,rfl⟩
   .
    have pJ:=bne_eq_false_iff_eq.1 pJ
    obtain rfl:e3=0:=by omega
    have D8:=D8 rfl
    obtain⟨n2,rfl⟩:∃n:Nat,Ts=n:=⟨Ts.toNat,by omega⟩
    refine TT.skip (.seq (.seq (.region (.U hT 4 rfl (.nil (.seq (.seq (.seq (.region (.U hT 1 rfl (.load rfl rfl (Ld.one hT rfl hz rfl) rfl ?_)))))))))))
    refine OT.U hT 1 rfl (.nil (.seq (.cond rfl (fun CW=> ?_) (fun CW=> ?_))))
    .
     have CW:=of_decide_eq_true CW
     refine TT.seq (.seq (.region (.U hT 2 rfl (.eI 57 rfl (v:= .int .i64 ((a+n+n2:Nat):Int)) (int_eq (by rw[wrap_i64 (n:=(a:Int)+n) (by omega) (by omega),wrap_i64 (by omega) (by omega)];omega)) (.slice (a+n+n2) xs.length hT rfl rfl rfl rfl rfl hr.there.there (.inr ⟨.i64,rfl⟩) (.inl ⟨rfl,rfl⟩) (by omega) (by omega) rfl (fun NF JC=> ?_))))))
     rw[List.take_length]at JC
     have CS:= @rq (xs.drop (a+n+n2))
     obtain⟨y,n3,e4,h4⟩:∃x m e,cy (xs.drop (a+n+n2))=(x,m,e):=⟨_,_,_,rfl⟩
     rw[h4]at CS
     dsimp only at CS
     rw[List.length_drop]at CS
     have hG:=Ls h1 h2 h3 CW h4
     refine OT.call Tryz.call196 rfl rfl rfl rfl (Fk JC (by rw[List.length_drop];omega)) ?_
     rintro R8 T9 ⟨rfl,rfl⟩
     rw[h4]
     dsimp only
     refine OT.U hT 5 rfl (.store hT rfl rfl rfl rfl pl rfl (by show 0+5+3<=8;omega) rfl (.inl (Nat.le_refl _)) (show splice (aj ⟨k,x,t,bq⟩) (0+5) (dw y)=aj ⟨k,x,t,y⟩from rfl) ?_)
     refine OT.U hT 2 rfl (.nil (.seq (.seq (.region (.U hT 2 rfl (.nil (.seq (.cond rfl (fun oq=> ?_) (fun oq=> ?_)))))))))
     .
      have oq:=bne_iff_ne.1 oq
      refine TT.seq (.region (.build (cs:=aj noCell) hT rfl Tryz.zeroValue113 rfl rfl rfl rfl (.U hT 1 rfl (.ag hT rfl rfl rfl rfl pl rfl rfl rfl (.inl (Nat.le_refl _)) ?_))))
      refine OT.U hT 2 rfl (.nil (.seq (.ret (.of (rs:=[.cell 2 113,.tmp 3,.tmp 4]) [_,_,_] hs rfl (.cell rfl (Ld.af hT rfl hz rfl) (.tmp rfl (.tmp rfl .nil))) sl ?_))))
      try dsimp only[one]
      exact⟨by rw[hG,if_pos oq];rfl,rfl⟩
     .
      have oq:=bne_eq_false_iff_eq.1 oq
      obtain rfl:e4=0:=by omega
      have CS:=CS rfl
      rw[if_neg (by simp)]at hG
      refine TT.skip (.seq (.region (.U hT 4 rfl (.nil (.seq (.seq (.seq (.region (.load rfl rfl (Ld.af hT rfl hz rfl) rfl ?_)))))))))
      refine OT.call Tryz.call99 rfl rfl rfl rfl (vV (x:=⟨k,x,t,y⟩)) ?_
      rintro NG JE ⟨rfl,rfl⟩
      refine OT.U hT 1 rfl (.nil (.seq (.cond rfl (fun J6=> ?_) (fun J6=> ?_))))
      .
       refine TT.seq (.region (.build (cs:=aj noCell) hT rfl Tryz.zeroValue113 rfl rfl rfl rfl (.ag hT rfl rfl rfl rfl pl rfl rfl rfl (.inl (Nat.le_refl _)) ?_)))
       refine OT.U hT 2 rfl (.nil (.seq (.ret (.of (rs:=[.cell 2 113,.tmp 3,.tmp 4]) [_,_,_] hs rfl (.cell rfl (Ld.af hT rfl hz rfl) (.tmp rfl (.tmp rfl .nil))) sl ?_))))
       try dsimp only[one]
       exact⟨by rw[hG,if_neg (by simpa using J6)];rfl,rfl⟩
      .
       refine TT.skip (.seq (.seq (.region (.load rfl rfl (Ld.af hT rfl hz rfl) rfl ?_))))
       refine OT.U hT 1 rfl (.ag hT rfl rfl rfl rfl pl rfl rfl rfl (.inl (Nat.le_refl _)) ?_)
       refine OT.U hT 2 rfl (.nil (.seq (.ret (.of (rs:=[.cell 2 113,.tmp 3,.tmp 4]) [_,_,_] hs rfl (.cell rfl (Ld.af hT rfl hz rfl) (.tmp rfl (.tmp rfl .nil))) sl ?_))))
       try dsimp only[one]
       refine⟨?_,rfl⟩
       rw[hG,if_pos (by simpa using J6)]
       simp only[wrap_i64 (n:=(a:Int)+n) (by omega) (by omega),wrap_i64 (n:=(a:Int)+n+n2) (by omega) (by omega)]
       first|rfl|(rw[wrap_i64 (by omega) (by omega)];rfl)|(rw[Int.add_zero];rfl)
    .
     have CW:=of_decide_eq_false CW
     have hG:=Lt h1 h2 h3 CW
     refine TT.skip (.seq (.seq (.seq (.region (.load rfl rfl (Ld.af hT rfl hz rfl) rfl ?_)))))
     refine OT.call Tryz.call99 rfl rfl rfl rfl (vV (x:=⟨k,x,t,bq⟩)) ?_
     rintro NG JE ⟨rfl,rfl⟩
     refine OT.U hT 1 rfl (.nil (.seq (.cond rfl (fun J6=> ?_) (fun J6=> ?_))))
     .
      refine TT.seq (.region (.build (cs:=aj noCell) hT rfl Tryz.zeroValue113 rfl rfl rfl rfl (.ag hT rfl rfl rfl rfl pl rfl rfl rfl (.inl (Nat.le_refl _)) ?_)))
      refine OT.U hT 2 rfl (.nil (.seq (.ret (.of (rs:=[.cell 2 113,.tmp 3,.tmp 4]) [_,_,_] hs rfl (.cell rfl (Ld.af hT rfl hz rfl) (.tmp rfl (.tmp rfl .nil))) sl ?_))))
      try dsimp only[one]
      exact⟨by rw[hG,if_neg (by simpa using J6)];rfl,rfl⟩
     .
      refine TT.skip (.seq (.seq (.region (.load rfl rfl (Ld.af hT rfl hz rfl) rfl ?_))))
      refine OT.U hT 1 rfl (.ag hT rfl rfl rfl rfl pl rfl rfl rfl (.inl (Nat.le_refl _)) ?_)
      refine OT.U hT 2 rfl (.nil (.seq (.ret (.of (rs:=[.cell 2 113,.tmp 3,.tmp 4]) [_,_,_] hs rfl (.cell rfl (Ld.af hT rfl hz rfl) (.tmp rfl (.tmp rfl .nil))) sl ?_))))
      try dsimp only[one]
      refine⟨?_,rfl⟩
      rw[hG,if_pos (by simpa using J6)]
      simp only[wrap_i64 (n:=(a:Int)+n) (by omega) (by omega),wrap_i64 (n:=(a:Int)+n+n2) (by omega) (by omega)]
      first|rfl|(rw[wrap_i64 (by omega) (by omega)];rfl)|(rw[Int.add_zero];rfl)
end Go.Proofs.YtihpkgmfkbkffaaGreat.Sx
end
