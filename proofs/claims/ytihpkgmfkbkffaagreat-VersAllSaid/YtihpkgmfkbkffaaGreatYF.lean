/- Part 6 of what the proofs of these rest on: All. -/
import Derived.Test.YtihpkgmfkbkffaaGreatYA
import Derived.Test.YtihpkgmfkbkffaaGreatChecked
import Derived.Test.YtihpkgmfkbkffaaGreatYE
import Derived.Test.YtihpkgmfkbkffaaGreatYC
import Derived.Test.YtihpkgmfkbkffaaGreatYB
set_option linter.unusedVariables false
set_option linter.unusedSimpArgs false
set_option linter.unusedSectionVars false
section
namespace Go.Proofs.YtihpkgmfkbkffaaGreat.Sx
open Go Go.Sx
def UJ:aB:=[
 (1,.one (.func #[] #[] false)),
 (2,.one (.int .i64)),
 (3,.one (.int .i64)),
 (4,.one .bool),
 (5,.one (.int .u8)),
 (6,.one (.int .u8)),
 (7,.struct [(0,1),(1,1),(2,1),(3,1)] 4),
 (8,.struct [(0,1),(1,1),(2,1),(3,1)] 4),
 (9,.one .string),
 (10,.one .string),
 (11,.one .string),
 (12,.one (.int .u64)),
 (13,.struct [(0,1),(1,1)] 2),
 (14,.struct [(0,1),(1,1)] 2),
 (15,.one (.pointer 283)),
 (16,.one (.pointer 286)),
 (17,.one (.pointer 295)),
 (18,.struct [(0,1)] 1),
 (19,.struct [(0,1)] 1),
 (20,.one (.interface #[])),
 (21,.one (.int .i32)),
 (22,.slice 3 1),
 (23,.one (.func #[] #[4] false)),
 (24,.one (.pointer 110)),
 (25,.one (.func #[107] #[24] false)),
 (26,.one (.pointer 30)),
 (27,.slice 5 1),
 (28,.arr 96 27 1),
 (29,.struct [(0,96),(96,1)] 97),
 (30,.struct [(0,96),(96,1)] 97),
 (31,.one (.int .i64)),
 (32,.one (.func #[24,2,9,36] #[31] false)),
 (33,.one (.func #[3] #[9] false)),
 (34,.one (.float .f64)),
 (35,.struct [(0,1),(1,1),(2,1)] 3),
 (36,.struct [(0,1),(1,1),(2,1)] 3),
 (38,.one (.func #[24,2] #[3,31] false)),
 (39,.slice 60 4),
 (41,.one (.func #[107,2,9,9] #[39,31] false)),
 (43,.one (.func #[107,2,9] #[36,31] false)),
 (45,.one (.func #[39,9] #[36,4] false)),
 (46,.one (.func #[36,36] #[4] false)),
 (47,.one (.func #[22,22,3] #[4] false)),
 (48,.one (.func #[22] #[4] false)),
 (49,.one (.int .u64)),
 (50,.one (.func #[24] #[3,31] false)),
 (51,.one (.func #[39,39] #[4] false)),
 (52,.one (.func #[22,22] #[4] false)),
 (53,.slice 56 7),
 (54,.one (.func #[9,3] #[9] false)),
 (55,.struct [(0,1),(1,1),(2,1),(3,1),(4,3)] 7),
 (56,.struct [(0,1),(1,1),(2,1),(3,1),(4,3)] 7),
 (57,.one (.func #[36] #[36] false)),
 (58,.one (.func #[53,53,4] #[4] false)),
 (59,.struct [(0,1),(1,3)] 4),
 (60,.struct [(0,1),(1,3)] 4),
 (61,.one (.func #[3,4] #[4] false)),
 (62,.one (.pointer 65)),
 (63,.slice 70 5),
 (64,.struct [(0,1),(1,1)] 2),
 (65,.struct [(0,1),(1,1)] 2),
 (66,.one (.func #[9] #[3] false)),
 (67,.one (.func #[9] #[4] false)),
 (68,.one (.func #[36] #[4] false)),
 (69,.struct [(0,1),(1,1),(2,3)] 5),
 (70,.struct [(0,1),(1,1),(2,3)] 5),
 (71,.one (.func #[56] #[] false)),
 (72,.one (.func #[2] #[39] false)),
 (73,.one (.func #[39,9,9] #[39] false)),
 (74,.one (.func #[2,4] #[3] false)),
 (75,.one (.func #[107] #[4] false)),
 (76,.one (.func #[53] #[4] false)),
 (77,.one (.func #[39,9,36] #[39] false)),
 (78,.one (.func #[2,4] #[] false)),
 (79,.one (.func #[22,22,4,4,4] #[4] false)),
 (80,.one (.func #[27] #[27] false)),
 (81,.arr 32 3 1),
 (82,.struct [(0,1),(1,1),(2,1),(3,32)] 35),
 (83,.struct [(0,1),(1,1),(2,1),(3,32)] 35),
 (84,.one (.pointer 134)),
 (85,.one (.func #[107,83] #[84] false)),
 (87,.one (.func #[3] #[27,31] false)),
 (88,.one (.func #[22,27] #[4] false)),
 (90,.one (.func #[107,9] #[84,31] false)),
 (91,.slice 9 1),
 (92,.slice 83 35),
 (93,.struct [(0,1),(1,1)] 2),
 (94,.struct [(0,1),(1,1)] 2),
 (96,.one (.func #[94,9] #[94,31] false)),
 (97,.one (.func #[94] #[27,31] false)),
 (98,.one (.func #[94,9] #[3] false)),
 (99,.one (.func #[91,3,9] #[4] false)),
 (100,.one (.func #[101] #[] false)),
 (101,.slice 143 2),
 (102,.one (.func #[] #[101] false)),
 (104,.one (.func #[107,101] #[101,31] false)),
 (105,.one (.func #[53,53] #[4] false)),
 (106,.one (.interface #[("Page",87)])),
 (107,.one (.interface #[("Page",87)])),
 (108,.one (.map 3 9)),
 (109,.struct [(0,1),(1,1)] 2),
 (110,.struct [(0,1),(1,1)] 2),
 (111,.one (.func #[2] #[4] false)),
 (112,.struct [(0,1),(1,3),(4,1),(5,3)] 8),
 (113,.struct [(0,1),(1,3),(4,1),(5,3)] 8),
 (115,.one (.func #[107,9] #[113,4,31] false)),
 (116,.one (.func #[24,113] #[31] false)),
 (117,.one (.func #[113,2,36] #[113] false)),
 (119,.one (.func #[24,9] #[4,31] false)),
 (120,.one (.func #[24,111,121] #[3,31] false)),
 (121,.one (.func #[113] #[113,4] false)),
 (122,.slice 113 8),
 (124,.one (.func #[107,9,9] #[122,31] false)),
 (125,.one (.func #[113,2] #[36] false)),
 (126,.one (.func #[34] #[2] false)),
 (127,.one (.int .u64)),
 (128,.one (.func #[34] #[127] false)),
 (129,.one (.func #[34,34] #[4] false)),
 (130,.one (.func #[34] #[34] false)),
 (131,.one (.func #[9,9,9] #[4] false)),
 (132,.one (.func #[107] #[31] false)),
 (133,.struct [(0,1),(1,35)] 36),
 (134,.struct [(0,1),(1,35)] 36),
 (135,.one (.func #[27] #[94,31] false)),
 (136,.one (.func #[92] #[92] false)),
 (137,.one (.func #[94] #[4] false)),
 (138,.one (.func #[27,2] #[27] false)),
 (139,.one (.func #[27,9] #[27] false)),
 (140,.one (.func #[92,141] #[3] false)),
 (141,.one (.func #[83] #[4] false)),
 (142,.struct [(0,1),(1,1)] 2),
 (143,.struct [(0,1),(1,1)] 2),
 (144,.one (.func #[146] #[22] false)),
 (145,.one (.func #[196] #[] false)),
 (146,.one (.func #[196] #[] false)),
 (147,.one (.func #[108] #[146] false)),
 (148,.one (.func #[101] #[4] false)),
 (149,.one (.func #[1] #[31] false)),
 (150,.one (.pointer 154)),
 (151,.one (.func #[107] #[94] false)),
 (152,.one (.map 3 27)),
 (153,.struct [(0,1),(1,2),(3,1)] 4),
 (154,.struct [(0,1),(1,2),(3,1)] 4),
 (155,.one (.func #[2] #[] false)),
 (156,.one (.func #[34] #[4] false)),
 (157,.one (.func #[107] #[3] false)),
 (158,.struct [(0,1),(1,1),(2,1),(3,1)] 4),
 (159,.struct [(0,1),(1,1),(2,1),(3,1)] 4),
 (160,.one (.func #[107,3] #[159] false)),
 (162,.one (.func #[159,9] #[3,4] false)),
 (163,.one (.func #[159,9] #[3] false)),
 (164,.one (.func #[31] #[] false)),
 (165,.one (.func #[113] #[4] false)),
 (166,.one (.func #[24,173] #[31] false)),
 (167,.one (.func #[24] #[3] false)),
 (168,.one (.func #[24,3] #[] false)),
 (169,.one (.func #[24,3,159] #[] false)),
 (170,.struct [(0,1),(1,1)] 2),
 (171,.struct [(0,1),(1,1)] 2),
 (172,.one (.func #[24,3,113,3] #[171] false)),
 (173,.one (.func #[24] #[] false)),
 (175,.one (.func #[24,3,9,3] #[4,4] false)),
 (177,.one (.func #[3,27] #[31] false)),
 (178,.one (.pointer 182)),
 (180,.one (.func #[107] #[178,31] false)),
 (181,.struct [(0,1),(1,1),(2,1)] 3),
 (182,.struct [(0,1),(1,1),(2,1)] 3),
 (183,.one (.func #[127] #[34] false)),
 (184,.one (.func #[107,3,186,4] #[3] false)),
 (185,.struct [(0,1),(1,1)] 2),
 (186,.struct [(0,1),(1,1)] 2),
 (187,.one (.func #[107,3] #[4,31] false)),
 (188,.one (.func #[4,31] #[] false)),
 (189,.one (.func #[22,3] #[4] false)),
 (191,.one (.func #[27] #[2,3,31] false)),
 (193,.one (.func #[27] #[83,3] false)),
 (194,.one (.func #[27,27] #[4] false)),
 (195,.one (.func #[22] #[] false)),
 (196,.one (.func #[3] #[4] false)),
 (197,.struct [(0,1)] 1),
 (198,.struct [(0,1)] 1),
 (199,.one (.func #[107,3] #[27] false)),
 (201,.one (.func #[3,22] #[] false)),
 (202,.one (.func #[107] #[3,31] false)),
 (204,.one (.func #[27] #[159,31] false)),
 (205,.one (.func #[122,9,207] #[3,4] false)),
 (206,.one (.func #[9,9] #[3] false)),
 (207,.one (.func #[113,9] #[3] false)),
 (208,.one (.func #[159] #[4] false)),
 (209,.one (.func #[91,9] #[3,4] false)),
 (210,.one (.func #[24,3] #[31] false)),
 (211,.one (.func #[159] #[27,31] false)),
 (212,.one (.func #[122,3,122] #[122] true)),
 (213,.one (.func #[24,3,159] #[171] false)),
 (214,.one (.func #[91,3,91] #[91] true)),
 (215,.one (.func #[22,3,22] #[22] true)),
 (216,.one (.func #[122,3,3] #[122] false)),
 (217,.one (.func #[24,3,159,3] #[4] false)),
 (218,.one (.func #[22,3,3] #[22] false)),
 (219,.one (.func #[91,3,3] #[91] false)),
 (220,.one (.func #[3] #[31] false)),
 (221,.one (.func #[3] #[] false)),
 (222,.one (.func #[107] #[27,31] false)),
 (223,.one (.func #[27,3] #[4] false)),
 (224,.one (.func #[22,3] #[3] false)),
 (226,.one (.func #[27] #[9,3,31] false)),
 (227,.one (.func #[22,146] #[22] false)),
 (228,.one (.func #[22,3,3,3] #[] false)),
 (229,.one (.func #[49] #[3] false)),
 (230,.one (.func #[83,3] #[4] false)),
 (231,.one (.func #[94] #[3,4] false)),
 (232,.one (.pointer 234)),
 (233,.struct [(0,1),(1,1)] 2),
 (234,.struct [(0,1),(1,1)] 2),
 (235,.one (.func #[] #[2] false)),
 (237,.one (.func #[27] #[113,3,31] false)),
 (238,.one (.func #[3,31] #[] false)),
 (239,.one (.func #[9,9] #[4] false)),
 (240,.one (.func #[159] #[27] false)),
 (241,.one (.func #[122,122] #[4] false)),
 (242,.one (.func #[122,3] #[] false)),
 (244,.one (.func #[159,3] #[159,159,9] false)),
 (245,.one (.func #[159] #[3] false)),
 (246,.one (.func #[91,91] #[4] false)),
 (247,.one (.func #[91,3] #[] false)),
 (248,.one (.func #[22,3] #[] false)),
 (249,.one (.func #[22,3,3] #[] false)),
 (250,.one (.int .i64)),
 (252,.one (.func #[22,3,3] #[3,250] false)),
 (253,.one (.func #[22,3,3] #[4] false)),
 (254,.one (.func #[3,3] #[4] false)),
 (255,.one (.func #[22,3,3,3] #[3] false)),
 (256,.one (.func #[22,3,3,3] #[3,4] false)),
 (257,.one (.func #[258] #[3] false)),
 (258,.one (.int .u32)),
 (259,.one (.func #[127] #[3] false)),
 (260,.one (.func #[94] #[22] false)),
 (262,.one (.func #[27] #[36,3,31] false)),
 (263,.one (.func #[27,113] #[27] false)),
 (264,.one (.func #[9,9] #[9] false)),
 (265,.one (.int .u64)),
 (266,.one (.func #[3] #[49] false)),
 (267,.one (.func #[] #[127] false)),
 (268,.one (.func #[22,3,269] #[3] false)),
 (269,.one (.pointer 3)),
 (270,.one (.func #[22,3,3,3,269] #[3] false)),
 (272,.one (.func #[27] #[34,4] false)),
 (273,.one (.func #[27,36] #[27] false)),
 (274,.one (.func #[122] #[] false)),
 (275,.one (.func #[91] #[] false)),
 (276,.one (.pointer 265)),
 (278,.one (.func #[22,3,3,269] #[3,3] false)),
 (279,.one (.func #[] #[34] false)),
 (280,.one (.func #[34] #[27] false)),
 (281,.one (.func #[] #[9] false)),
 (282,.struct [(0,1),(1,1),(2,1),(3,1)] 4),
 (283,.struct [(0,1),(1,1),(2,1),(3,1)] 4),
 (284,.arr 0 16 1),
 (287,.one (.func #[] #[3] false)),
 (288,.one (.int .u8)),
 (289,.one (.int .u8)),
 (290,.one (.func #[297,297] #[4] false)),
 (291,.one (.pointer 5)),
 (292,.one (.int .i32)),
 (293,.one (.int .i32)),
 (294,.struct [(0,1),(1,1),(2,1),(3,1),(4,1),(5,1),(6,1),(7,1),(8,1),(9,1),(10,1)] 11),
 (295,.struct [(0,1),(1,1),(2,1),(3,1),(4,1),(5,1),(6,1),(7,1),(8,1),(9,1),(10,1)] 11),
 (297,.one .unsafePointer)]
set_option maxRecDepth 100000 in
theorem hT:UJ.ok Tryz.prog:=
 aB.ok.cons (d:=_) (T:=_) ⟨Tryz.underlying1,Tryz.isAgg1,Tryz.sizeOf1⟩<|
 aB.ok.cons (d:=_) (T:=_) ⟨Tryz.underlying2,Tryz.isAgg2,Tryz.sizeOf2⟩<|
 aB.ok.cons (d:=_) (T:=_) ⟨Tryz.underlying3,Tryz.isAgg3,Tryz.sizeOf3⟩<|
 aB.ok.cons (d:=_) (T:=_) ⟨Tryz.underlying4,Tryz.isAgg4,Tryz.sizeOf4⟩<|
 aB.ok.cons (d:=_) (T:=_) ⟨Tryz.underlying5,Tryz.isAgg5,Tryz.sizeOf5⟩<|
 aB.ok.cons (d:=_) (T:=_) ⟨Tryz.underlying6,Tryz.isAgg6,Tryz.sizeOf6⟩<|
 aB.ok.cons (d:=_) (T:=_) ⟨⟨_,Tryz.underlying7,(.cons rfl Tryz.sizeOf2 (.cons rfl Tryz.sizeOf3 (.cons rfl Tryz.sizeOf4 (.cons rfl Tryz.sizeOf6 .nil))))⟩,Tryz.isAgg7,Tryz.sizeOf7⟩<|
 aB.ok.cons (d:=_) (T:=_) ⟨⟨_,Tryz.underlying8,(.cons rfl Tryz.sizeOf2 (.cons rfl Tryz.sizeOf3 (.cons rfl Tryz.sizeOf4 (.cons rfl Tryz.sizeOf6 .nil))))⟩,Tryz.isAgg8,Tryz.sizeOf8⟩<|
 aB.ok.cons (d:=_) (T:=_) ⟨Tryz.underlying9,Tryz.isAgg9,Tryz.sizeOf9⟩<|
 aB.ok.cons (d:=_) (T:=_) ⟨Tryz.underlying10,Tryz.isAgg10,Tryz.sizeOf10⟩<|
 aB.ok.cons (d:=_) (T:=_) ⟨Tryz.underlying11,Tryz.isAgg11,Tryz.sizeOf11⟩<|
 aB.ok.cons (d:=_) (T:=_) ⟨Tryz.underlying12,Tryz.isAgg12,Tryz.sizeOf12⟩<|
 aB.ok.cons (d:=_) (T:=_) ⟨⟨_,Tryz.underlying13,(.cons rfl Tryz.sizeOf9 (.cons rfl Tryz.sizeOf12 .nil))⟩,Tryz.isAgg13,Tryz.sizeOf13⟩<|
 aB.ok.cons (d:=_) (T:=_) ⟨⟨_,Tryz.underlying14,(.cons rfl Tryz.sizeOf9 (.cons rfl Tryz.sizeOf12 .nil))⟩,Tryz.isAgg14,Tryz.sizeOf14⟩<|
 aB.ok.cons (d:=_) (T:=_) ⟨Tryz.underlying15,Tryz.isAgg15,Tryz.sizeOf15⟩<|
 aB.ok.cons (d:=_) (T:=_) ⟨Tryz.underlying16,Tryz.isAgg16,Tryz.sizeOf16⟩<|
 aB.ok.cons (d:=_) (T:=_) ⟨Tryz.underlying17,Tryz.isAgg17,Tryz.sizeOf17⟩<|
 aB.ok.cons (d:=_) (T:=_) ⟨⟨_,Tryz.underlying18,(.cons rfl Tryz.sizeOf17 .nil)⟩,Tryz.isAgg18,Tryz.sizeOf18⟩<|
 aB.ok.cons (d:=_) (T:=_) ⟨⟨_,Tryz.underlying19,(.cons rfl Tryz.sizeOf17 .nil)⟩,Tryz.isAgg19,Tryz.sizeOf19⟩<|
 aB.ok.cons (d:=_) (T:=_) ⟨Tryz.underlying20,Tryz.isAgg20,Tryz.sizeOf20⟩<|
 aB.ok.cons (d:=_) (T:=_) ⟨Tryz.underlying21,Tryz.isAgg21,Tryz.sizeOf21⟩<|
 aB.ok.cons (d:=_) (T:=_) ⟨Tryz.underlying22,Tryz.sizeOf3,Tryz.isAgg22,Tryz.sizeOf22⟩<|
 aB.ok.cons (d:=_) (T:=_) ⟨Tryz.underlying23,Tryz.isAgg23,Tryz.sizeOf23⟩<|
 aB.ok.cons (d:=_) (T:=_) ⟨Tryz.underlying24,Tryz.isAgg24,Tryz.sizeOf24⟩<|
 aB.ok.cons (d:=_) (T:=_) ⟨Tryz.underlying25,Tryz.isAgg25,Tryz.sizeOf25⟩<|
 aB.ok.cons (d:=_) (T:=_) ⟨Tryz.underlying26,Tryz.isAgg26,Tryz.sizeOf26⟩<|
 aB.ok.cons (d:=_) (T:=_) ⟨Tryz.underlying27,Tryz.sizeOf5,Tryz.isAgg27,Tryz.sizeOf27⟩<|
 aB.ok.cons (d:=_) (T:=_) ⟨Tryz.underlying28,Tryz.sizeOf27,Tryz.isAgg28,Tryz.sizeOf28⟩<|
 aB.ok.cons (d:=_) (T:=_) ⟨⟨_,Tryz.underlying29,(.cons rfl Tryz.sizeOf28 (.cons rfl Tryz.sizeOf3 .nil))⟩,Tryz.isAgg29,Tryz.sizeOf29⟩<|
 aB.ok.cons (d:=_) (T:=_) ⟨⟨_,Tryz.underlying30,(.cons rfl Tryz.sizeOf28 (.cons rfl Tryz.sizeOf3 .nil))⟩,Tryz.isAgg30,Tryz.sizeOf30⟩<|
 aB.ok.cons (d:=_) (T:=_) ⟨Tryz.underlying31,Tryz.isAgg31,Tryz.sizeOf31⟩<|
 aB.ok.cons (d:=_) (T:=_) ⟨Tryz.underlying32,Tryz.isAgg32,Tryz.sizeOf32⟩<|
 aB.ok.cons (d:=_) (T:=_) ⟨Tryz.underlying33,Tryz.isAgg33,Tryz.sizeOf33⟩<|
 aB.ok.cons (d:=_) (T:=_) ⟨Tryz.underlying34,Tryz.isAgg34,Tryz.sizeOf34⟩<|
 aB.ok.cons (d:=_) (T:=_) ⟨⟨_,Tryz.underlying35,(.cons rfl Tryz.sizeOf3 (.cons rfl Tryz.sizeOf34 (.cons rfl Tryz.sizeOf9 .nil)))⟩,Tryz.isAgg35,Tryz.sizeOf35⟩<|
 aB.ok.cons (d:=_) (T:=_) ⟨⟨_,Tryz.underlying36,(.cons rfl Tryz.sizeOf3 (.cons rfl Tryz.sizeOf34 (.cons rfl Tryz.sizeOf9 .nil)))⟩,Tryz.isAgg36,Tryz.sizeOf36⟩<|
 aB.ok.cons (d:=_) (T:=_) ⟨Tryz.underlying38,Tryz.isAgg38,Tryz.sizeOf38⟩<|
 aB.ok.cons (d:=_) (T:=_) ⟨Tryz.underlying39,Tryz.sizeOf60,Tryz.isAgg39,Tryz.sizeOf39⟩<|
 aB.ok.cons (d:=_) (T:=_) ⟨Tryz.underlying41,Tryz.isAgg41,Tryz.sizeOf41⟩<|
 aB.ok.cons (d:=_) (T:=_) ⟨Tryz.underlying43,Tryz.isAgg43,Tryz.sizeOf43⟩<|
 aB.ok.cons (d:=_) (T:=_) ⟨Tryz.underlying45,Tryz.isAgg45,Tryz.sizeOf45⟩<|
 aB.ok.cons (d:=_) (T:=_) ⟨Tryz.underlying46,Tryz.isAgg46,Tryz.sizeOf46⟩<|
 aB.ok.cons (d:=_) (T:=_) ⟨Tryz.underlying47,Tryz.isAgg47,Tryz.sizeOf47⟩<|
 aB.ok.cons (d:=_) (T:=_) ⟨Tryz.underlying48,Tryz.isAgg48,Tryz.sizeOf48⟩<|
 aB.ok.cons (d:=_) (T:=_) ⟨Tryz.underlying49,Tryz.isAgg49,Tryz.sizeOf49⟩<|
 aB.ok.cons (d:=_) (T:=_) ⟨Tryz.underlying50,Tryz.isAgg50,Tryz.sizeOf50⟩<|
 aB.ok.cons (d:=_) (T:=_) ⟨Tryz.underlying51,Tryz.isAgg51,Tryz.sizeOf51⟩<|
 aB.ok.cons (d:=_) (T:=_) ⟨Tryz.underlying52,Tryz.isAgg52,Tryz.sizeOf52⟩<|
 aB.ok.cons (d:=_) (T:=_) ⟨Tryz.underlying53,Tryz.sizeOf56,Tryz.isAgg53,Tryz.sizeOf53⟩<|
 aB.ok.cons (d:=_) (T:=_) ⟨Tryz.underlying54,Tryz.isAgg54,Tryz.sizeOf54⟩<|
 aB.ok.cons (d:=_) (T:=_) ⟨⟨_,Tryz.underlying55,(.cons rfl Tryz.sizeOf3 (.cons rfl Tryz.sizeOf2 (.cons rfl Tryz.sizeOf9 (.cons rfl Tryz.sizeOf9 (.cons rfl Tryz.sizeOf36 .nil)))))⟩,Tryz.isAgg55,Tryz.sizeOf55⟩<|
 aB.ok.cons (d:=_) (T:=_) ⟨⟨_,Tryz.underlying56,(.cons rfl Tryz.sizeOf3 (.cons rfl Tryz.sizeOf2 (.cons rfl Tryz.sizeOf9 (.cons rfl Tryz.sizeOf9 (.cons rfl Tryz.sizeOf36 .nil)))))⟩,Tryz.isAgg56,Tryz.sizeOf56⟩<|
 aB.ok.cons (d:=_) (T:=_) ⟨Tryz.underlying57,Tryz.isAgg57,Tryz.sizeOf57⟩<|
 aB.ok.cons (d:=_) (T:=_) ⟨Tryz.underlying58,Tryz.isAgg58,Tryz.sizeOf58⟩<|
 aB.ok.cons (d:=_) (T:=_) ⟨⟨_,Tryz.underlying59,(.cons rfl Tryz.sizeOf9 (.cons rfl Tryz.sizeOf36 .nil))⟩,Tryz.isAgg59,Tryz.sizeOf59⟩<|
 aB.ok.cons (d:=_) (T:=_) ⟨⟨_,Tryz.underlying60,(.cons rfl Tryz.sizeOf9 (.cons rfl Tryz.sizeOf36 .nil))⟩,Tryz.isAgg60,Tryz.sizeOf60⟩<|
 aB.ok.cons (d:=_) (T:=_) ⟨Tryz.underlying61,Tryz.isAgg61,Tryz.sizeOf61⟩<|
 aB.ok.cons (d:=_) (T:=_) ⟨Tryz.underlying62,Tryz.isAgg62,Tryz.sizeOf62⟩<|
 aB.ok.cons (d:=_) (T:=_) ⟨Tryz.underlying63,Tryz.sizeOf70,Tryz.isAgg63,Tryz.sizeOf63⟩<|
 aB.ok.cons (d:=_) (T:=_) ⟨⟨_,Tryz.underlying64,(.cons rfl Tryz.sizeOf39 (.cons rfl Tryz.sizeOf63 .nil))⟩,Tryz.isAgg64,Tryz.sizeOf64⟩<|
 aB.ok.cons (d:=_) (T:=_) ⟨⟨_,Tryz.underlying65,(.cons rfl Tryz.sizeOf39 (.cons rfl Tryz.sizeOf63 .nil))⟩,Tryz.isAgg65,Tryz.sizeOf65⟩<|
 aB.ok.cons (d:=_) (T:=_) ⟨Tryz.underlying66,Tryz.isAgg66,Tryz.sizeOf66⟩<|
 aB.ok.cons (d:=_) (T:=_) ⟨Tryz.underlying67,Tryz.isAgg67,Tryz.sizeOf67⟩<|
 aB.ok.cons (d:=_) (T:=_) ⟨Tryz.underlying68,Tryz.isAgg68,Tryz.sizeOf68⟩<|
 aB.ok.cons (d:=_) (T:=_) ⟨⟨_,Tryz.underlying69,(.cons rfl Tryz.sizeOf2 (.cons rfl Tryz.sizeOf9 (.cons rfl Tryz.sizeOf36 .nil)))⟩,Tryz.isAgg69,Tryz.sizeOf69⟩<|
 aB.ok.cons (d:=_) (T:=_) ⟨⟨_,Tryz.underlying70,(.cons rfl Tryz.sizeOf2 (.cons rfl Tryz.sizeOf9 (.cons rfl Tryz.sizeOf36 .nil)))⟩,Tryz.isAgg70,Tryz.sizeOf70⟩<|
 aB.ok.cons (d:=_) (T:=_) ⟨Tryz.underlying71,Tryz.isAgg71,Tryz.sizeOf71⟩<|
 aB.ok.cons (d:=_) (T:=_) ⟨Tryz.underlying72,Tryz.isAgg72,Tryz.sizeOf72⟩<|
 aB.ok.cons (d:=_) (T:=_) ⟨Tryz.underlying73,Tryz.isAgg73,Tryz.sizeOf73⟩<|
 aB.ok.cons (d:=_) (T:=_) ⟨Tryz.underlying74,Tryz.isAgg74,Tryz.sizeOf74⟩<|
 aB.ok.cons (d:=_) (T:=_) ⟨Tryz.underlying75,Tryz.isAgg75,Tryz.sizeOf75⟩<|
 aB.ok.cons (d:=_) (T:=_) ⟨Tryz.underlying76,Tryz.isAgg76,Tryz.sizeOf76⟩<|
 aB.ok.cons (d:=_) (T:=_) ⟨Tryz.underlying77,Tryz.isAgg77,Tryz.sizeOf77⟩<|
 aB.ok.cons (d:=_) (T:=_) ⟨Tryz.underlying78,Tryz.isAgg78,Tryz.sizeOf78⟩<|
 aB.ok.cons (d:=_) (T:=_) ⟨Tryz.underlying79,Tryz.isAgg79,Tryz.sizeOf79⟩<|
 aB.ok.cons (d:=_) (T:=_) ⟨Tryz.underlying80,Tryz.isAgg80,Tryz.sizeOf80⟩<|
 aB.ok.cons (d:=_) (T:=_) ⟨Tryz.underlying81,Tryz.sizeOf3,Tryz.isAgg81,Tryz.sizeOf81⟩<|
 aB.ok.cons (d:=_) (T:=_) ⟨⟨_,Tryz.underlying82,(.cons rfl Tryz.sizeOf9 (.cons rfl Tryz.sizeOf2 (.cons rfl Tryz.sizeOf4 (.cons rfl Tryz.sizeOf81 .nil))))⟩,Tryz.isAgg82,Tryz.sizeOf82⟩<|
 aB.ok.cons (d:=_) (T:=_) ⟨⟨_,Tryz.underlying83,(.cons rfl Tryz.sizeOf9 (.cons rfl Tryz.sizeOf2 (.cons rfl Tryz.sizeOf4 (.cons rfl Tryz.sizeOf81 .nil))))⟩,Tryz.isAgg83,Tryz.sizeOf83⟩<|
 aB.ok.cons (d:=_) (T:=_) ⟨Tryz.underlying84,Tryz.isAgg84,Tryz.sizeOf84⟩<|
 aB.ok.cons (d:=_) (T:=_) ⟨Tryz.underlying85,Tryz.isAgg85,Tryz.sizeOf85⟩<|
 aB.ok.cons (d:=_) (T:=_) ⟨Tryz.underlying87,Tryz.isAgg87,Tryz.sizeOf87⟩<|
 aB.ok.cons (d:=_) (T:=_) ⟨Tryz.underlying88,Tryz.isAgg88,Tryz.sizeOf88⟩<|
 aB.ok.cons (d:=_) (T:=_) ⟨Tryz.underlying90,Tryz.isAgg90,Tryz.sizeOf90⟩<|
 aB.ok.cons (d:=_) (T:=_) ⟨Tryz.underlying91,Tryz.sizeOf9,Tryz.isAgg91,Tryz.sizeOf91⟩<|
 aB.ok.cons (d:=_) (T:=_) ⟨Tryz.underlying92,Tryz.sizeOf83,Tryz.isAgg92,Tryz.sizeOf92⟩<|
 aB.ok.cons (d:=_) (T:=_) ⟨⟨_,Tryz.underlying93,(.cons rfl Tryz.sizeOf2 (.cons rfl Tryz.sizeOf92 .nil))⟩,Tryz.isAgg93,Tryz.sizeOf93⟩<|
 aB.ok.cons (d:=_) (T:=_) ⟨⟨_,Tryz.underlying94,(.cons rfl Tryz.sizeOf2 (.cons rfl Tryz.sizeOf92 .nil))⟩,Tryz.isAgg94,Tryz.sizeOf94⟩<|
 aB.ok.cons (d:=_) (T:=_) ⟨Tryz.underlying96,Tryz.isAgg96,Tryz.sizeOf96⟩<|
 aB.ok.cons (d:=_) (T:=_) ⟨Tryz.underlying97,Tryz.isAgg97,Tryz.sizeOf97⟩<|
 aB.ok.cons (d:=_) (T:=_) ⟨Tryz.underlying98,Tryz.isAgg98,Tryz.sizeOf98⟩<|
 aB.ok.cons (d:=_) (T:=_) ⟨Tryz.underlying99,Tryz.isAgg99,Tryz.sizeOf99⟩<|
 aB.ok.cons (d:=_) (T:=_) ⟨Tryz.underlying100,Tryz.isAgg100,Tryz.sizeOf100⟩<|
 aB.ok.cons (d:=_) (T:=_) ⟨Tryz.underlying101,Tryz.sizeOf143,Tryz.isAgg101,Tryz.sizeOf101⟩<|
 aB.ok.cons (d:=_) (T:=_) ⟨Tryz.underlying102,Tryz.isAgg102,Tryz.sizeOf102⟩<|
 aB.ok.cons (d:=_) (T:=_) ⟨Tryz.underlying104,Tryz.isAgg104,Tryz.sizeOf104⟩<|
 aB.ok.cons (d:=_) (T:=_) ⟨Tryz.underlying105,Tryz.isAgg105,Tryz.sizeOf105⟩<|
 aB.ok.cons (d:=_) (T:=_) ⟨Tryz.underlying106,Tryz.isAgg106,Tryz.sizeOf106⟩<|
 aB.ok.cons (d:=_) (T:=_) ⟨Tryz.underlying107,Tryz.isAgg107,Tryz.sizeOf107⟩<|
 aB.ok.cons (d:=_) (T:=_) ⟨Tryz.underlying108,Tryz.isAgg108,Tryz.sizeOf108⟩<|
 aB.ok.cons (d:=_) (T:=_) ⟨⟨_,Tryz.underlying109,(.cons rfl Tryz.sizeOf107 (.cons rfl Tryz.sizeOf108 .nil))⟩,Tryz.isAgg109,Tryz.sizeOf109⟩<|
 aB.ok.cons (d:=_) (T:=_) ⟨⟨_,Tryz.underlying110,(.cons rfl Tryz.sizeOf107 (.cons rfl Tryz.sizeOf108 .nil))⟩,Tryz.isAgg110,Tryz.sizeOf110⟩<|
 aB.ok.cons (d:=_) (T:=_) ⟨Tryz.underlying111,Tryz.isAgg111,Tryz.sizeOf111⟩<|
 aB.ok.cons (d:=_) (T:=_) ⟨⟨_,Tryz.underlying112,(.cons rfl Tryz.sizeOf9 (.cons rfl Tryz.sizeOf36 (.cons rfl Tryz.sizeOf2 (.cons rfl Tryz.sizeOf36 .nil))))⟩,Tryz.isAgg112,Tryz.sizeOf112⟩<|
 aB.ok.cons (d:=_) (T:=_) ⟨⟨_,Tryz.underlying113,(.cons rfl Tryz.sizeOf9 (.cons rfl Tryz.sizeOf36 (.cons rfl Tryz.sizeOf2 (.cons rfl Tryz.sizeOf36 .nil))))⟩,Tryz.isAgg113,Tryz.sizeOf113⟩<|
 aB.ok.cons (d:=_) (T:=_) ⟨Tryz.underlying115,Tryz.isAgg115,Tryz.sizeOf115⟩<|
 aB.ok.cons (d:=_) (T:=_) ⟨Tryz.underlying116,Tryz.isAgg116,Tryz.sizeOf116⟩<|
 aB.ok.cons (d:=_) (T:=_) ⟨Tryz.underlying117,Tryz.isAgg117,Tryz.sizeOf117⟩<|
 aB.ok.cons (d:=_) (T:=_) ⟨Tryz.underlying119,Tryz.isAgg119,Tryz.sizeOf119⟩<|
 aB.ok.cons (d:=_) (T:=_) ⟨Tryz.underlying120,Tryz.isAgg120,Tryz.sizeOf120⟩<|
 aB.ok.cons (d:=_) (T:=_) ⟨Tryz.underlying121,Tryz.isAgg121,Tryz.sizeOf121⟩<|
 aB.ok.cons (d:=_) (T:=_) ⟨Tryz.underlying122,Tryz.sizeOf113,Tryz.isAgg122,Tryz.sizeOf122⟩<|
 aB.ok.cons (d:=_) (T:=_) ⟨Tryz.underlying124,Tryz.isAgg124,Tryz.sizeOf124⟩<|
 aB.ok.cons (d:=_) (T:=_) ⟨Tryz.underlying125,Tryz.isAgg125,Tryz.sizeOf125⟩<|
 aB.ok.cons (d:=_) (T:=_) ⟨Tryz.underlying126,Tryz.isAgg126,Tryz.sizeOf126⟩<|
 aB.ok.cons (d:=_) (T:=_) ⟨Tryz.underlying127,Tryz.isAgg127,Tryz.sizeOf127⟩<|
 aB.ok.cons (d:=_) (T:=_) ⟨Tryz.underlying128,Tryz.isAgg128,Tryz.sizeOf128⟩<|
 aB.ok.cons (d:=_) (T:=_) ⟨Tryz.underlying129,Tryz.isAgg129,Tryz.sizeOf129⟩<|
 aB.ok.cons (d:=_) (T:=_) ⟨Tryz.underlying130,Tryz.isAgg130,Tryz.sizeOf130⟩<|
 aB.ok.cons (d:=_) (T:=_) ⟨Tryz.underlying131,Tryz.isAgg131,Tryz.sizeOf131⟩<|
 aB.ok.cons (d:=_) (T:=_) ⟨Tryz.underlying132,Tryz.isAgg132,Tryz.sizeOf132⟩<|
 aB.ok.cons (d:=_) (T:=_) ⟨⟨_,Tryz.underlying133,(.cons rfl Tryz.sizeOf107 (.cons rfl Tryz.sizeOf83 .nil))⟩,Tryz.isAgg133,Tryz.sizeOf133⟩<|
 aB.ok.cons (d:=_) (T:=_) ⟨⟨_,Tryz.underlying134,(.cons rfl Tryz.sizeOf107 (.cons rfl Tryz.sizeOf83 .nil))⟩,Tryz.isAgg134,Tryz.sizeOf134⟩<|
 aB.ok.cons (d:=_) (T:=_) ⟨Tryz.underlying135,Tryz.isAgg135,Tryz.sizeOf135⟩<|
 aB.ok.cons (d:=_) (T:=_) ⟨Tryz.underlying136,Tryz.isAgg136,Tryz.sizeOf136⟩<|
 aB.ok.cons (d:=_) (T:=_) ⟨Tryz.underlying137,Tryz.isAgg137,Tryz.sizeOf137⟩<|
 aB.ok.cons (d:=_) (T:=_) ⟨Tryz.underlying138,Tryz.isAgg138,Tryz.sizeOf138⟩<|
 aB.ok.cons (d:=_) (T:=_) ⟨Tryz.underlying139,Tryz.isAgg139,Tryz.sizeOf139⟩<|
 aB.ok.cons (d:=_) (T:=_) ⟨Tryz.underlying140,Tryz.isAgg140,Tryz.sizeOf140⟩<|
 aB.ok.cons (d:=_) (T:=_) ⟨Tryz.underlying141,Tryz.isAgg141,Tryz.sizeOf141⟩<|
 aB.ok.cons (d:=_) (T:=_) ⟨⟨_,Tryz.underlying142,(.cons rfl Tryz.sizeOf3 (.cons rfl Tryz.sizeOf27 .nil))⟩,Tryz.isAgg142,Tryz.sizeOf142⟩<|
 aB.ok.cons (d:=_) (T:=_) ⟨⟨_,Tryz.underlying143,(.cons rfl Tryz.sizeOf3 (.cons rfl Tryz.sizeOf27 .nil))⟩,Tryz.isAgg143,Tryz.sizeOf143⟩<|
 aB.ok.cons (d:=_) (T:=_) ⟨Tryz.underlying144,Tryz.isAgg144,Tryz.sizeOf144⟩<|
 aB.ok.cons (d:=_) (T:=_) ⟨Tryz.underlying145,Tryz.isAgg145,Tryz.sizeOf145⟩<|
 aB.ok.cons (d:=_) (T:=_) ⟨Tryz.underlying146,Tryz.isAgg146,Tryz.sizeOf146⟩<|
 aB.ok.cons (d:=_) (T:=_) ⟨Tryz.underlying147,Tryz.isAgg147,Tryz.sizeOf147⟩<|
 aB.ok.cons (d:=_) (T:=_) ⟨Tryz.underlying148,Tryz.isAgg148,Tryz.sizeOf148⟩<|
 aB.ok.cons (d:=_) (T:=_) ⟨Tryz.underlying149,Tryz.isAgg149,Tryz.sizeOf149⟩<|
 aB.ok.cons (d:=_) (T:=_) ⟨Tryz.underlying150,Tryz.isAgg150,Tryz.sizeOf150⟩<|
 aB.ok.cons (d:=_) (T:=_) ⟨Tryz.underlying151,Tryz.isAgg151,Tryz.sizeOf151⟩<|
 aB.ok.cons (d:=_) (T:=_) ⟨Tryz.underlying152,Tryz.isAgg152,Tryz.sizeOf152⟩<|
 aB.ok.cons (d:=_) (T:=_) ⟨⟨_,Tryz.underlying153,(.cons rfl Tryz.sizeOf107 (.cons rfl Tryz.sizeOf94 (.cons rfl Tryz.sizeOf152 .nil)))⟩,Tryz.isAgg153,Tryz.sizeOf153⟩<|
 aB.ok.cons (d:=_) (T:=_) ⟨⟨_,Tryz.underlying154,(.cons rfl Tryz.sizeOf107 (.cons rfl Tryz.sizeOf94 (.cons rfl Tryz.sizeOf152 .nil)))⟩,Tryz.isAgg154,Tryz.sizeOf154⟩<|
 aB.ok.cons (d:=_) (T:=_) ⟨Tryz.underlying155,Tryz.isAgg155,Tryz.sizeOf155⟩<|
 aB.ok.cons (d:=_) (T:=_) ⟨Tryz.underlying156,Tryz.isAgg156,Tryz.sizeOf156⟩<|
 aB.ok.cons (d:=_) (T:=_) ⟨Tryz.underlying157,Tryz.isAgg157,Tryz.sizeOf157⟩<|
 aB.ok.cons (d:=_) (T:=_) ⟨⟨_,Tryz.underlying158,(.cons rfl Tryz.sizeOf4 (.cons rfl Tryz.sizeOf122 (.cons rfl Tryz.sizeOf91 (.cons rfl Tryz.sizeOf22 .nil))))⟩,Tryz.isAgg158,Tryz.sizeOf158⟩<|
 aB.ok.cons (d:=_) (T:=_) ⟨⟨_,Tryz.underlying159,(.cons rfl Tryz.sizeOf4 (.cons rfl Tryz.sizeOf122 (.cons rfl Tryz.sizeOf91 (.cons rfl Tryz.sizeOf22 .nil))))⟩,Tryz.isAgg159,Tryz.sizeOf159⟩<|
 aB.ok.cons (d:=_) (T:=_) ⟨Tryz.underlying160,Tryz.isAgg160,Tryz.sizeOf160⟩<|
 aB.ok.cons (d:=_) (T:=_) ⟨Tryz.underlying162,Tryz.isAgg162,Tryz.sizeOf162⟩<|
 aB.ok.cons (d:=_) (T:=_) ⟨Tryz.underlying163,Tryz.isAgg163,Tryz.sizeOf163⟩<|
 aB.ok.cons (d:=_) (T:=_) ⟨Tryz.underlying164,Tryz.isAgg164,Tryz.sizeOf164⟩<|
 aB.ok.cons (d:=_) (T:=_) ⟨Tryz.underlying165,Tryz.isAgg165,Tryz.sizeOf165⟩<|
 aB.ok.cons (d:=_) (T:=_) ⟨Tryz.underlying166,Tryz.isAgg166,Tryz.sizeOf166⟩<|
 aB.ok.cons (d:=_) (T:=_) ⟨Tryz.underlying167,Tryz.isAgg167,Tryz.sizeOf167⟩<|
 aB.ok.cons (d:=_) (T:=_) ⟨Tryz.underlying168,Tryz.isAgg168,Tryz.sizeOf168⟩<|
 aB.ok.cons (d:=_) (T:=_) ⟨Tryz.underlying169,Tryz.isAgg169,Tryz.sizeOf169⟩<|
 aB.ok.cons (d:=_) (T:=_) ⟨⟨_,Tryz.underlying170,(.cons rfl Tryz.sizeOf9 (.cons rfl Tryz.sizeOf3 .nil))⟩,Tryz.isAgg170,Tryz.sizeOf170⟩<|
 aB.ok.cons (d:=_) (T:=_) ⟨⟨_,Tryz.underlying171,(.cons rfl Tryz.sizeOf9 (.cons rfl Tryz.sizeOf3 .nil))⟩,Tryz.isAgg171,Tryz.sizeOf171⟩<|
 aB.ok.cons (d:=_) (T:=_) ⟨Tryz.underlying172,Tryz.isAgg172,Tryz.sizeOf172⟩<|
 aB.ok.cons (d:=_) (T:=_) ⟨Tryz.underlying173,Tryz.isAgg173,Tryz.sizeOf173⟩<|
 aB.ok.cons (d:=_) (T:=_) ⟨Tryz.underlying175,Tryz.isAgg175,Tryz.sizeOf175⟩<|
 aB.ok.cons (d:=_) (T:=_) ⟨Tryz.underlying177,Tryz.isAgg177,Tryz.sizeOf177⟩<|
 aB.ok.cons (d:=_) (T:=_) ⟨Tryz.underlying178,Tryz.isAgg178,Tryz.sizeOf178⟩<|
 aB.ok.cons (d:=_) (T:=_) ⟨Tryz.underlying180,Tryz.isAgg180,Tryz.sizeOf180⟩<|
 aB.ok.cons (d:=_) (T:=_) ⟨⟨_,Tryz.underlying181,(.cons rfl Tryz.sizeOf107 (.cons rfl Tryz.sizeOf22 (.cons rfl Tryz.sizeOf122 .nil)))⟩,Tryz.isAgg181,Tryz.sizeOf181⟩<|
 aB.ok.cons (d:=_) (T:=_) ⟨⟨_,Tryz.underlying182,(.cons rfl Tryz.sizeOf107 (.cons rfl Tryz.sizeOf22 (.cons rfl Tryz.sizeOf122 .nil)))⟩,Tryz.isAgg182,Tryz.sizeOf182⟩<|
 aB.ok.cons (d:=_) (T:=_) ⟨Tryz.underlying183,Tryz.isAgg183,Tryz.sizeOf183⟩<|
 aB.ok.cons (d:=_) (T:=_) ⟨Tryz.underlying184,Tryz.isAgg184,Tryz.sizeOf184⟩<|
 aB.ok.cons (d:=_) (T:=_) ⟨⟨_,Tryz.underlying185,(.cons rfl Tryz.sizeOf9 (.cons rfl Tryz.sizeOf9 .nil))⟩,Tryz.isAgg185,Tryz.sizeOf185⟩<|
 aB.ok.cons (d:=_) (T:=_) ⟨⟨_,Tryz.underlying186,(.cons rfl Tryz.sizeOf9 (.cons rfl Tryz.sizeOf9 .nil))⟩,Tryz.isAgg186,Tryz.sizeOf186⟩<|
 aB.ok.cons (d:=_) (T:=_) ⟨Tryz.underlying187,Tryz.isAgg187,Tryz.sizeOf187⟩<|
 aB.ok.cons (d:=_) (T:=_) ⟨Tryz.underlying188,Tryz.isAgg188,Tryz.sizeOf188⟩<|
 aB.ok.cons (d:=_) (T:=_) ⟨Tryz.underlying189,Tryz.isAgg189,Tryz.sizeOf189⟩<|
 aB.ok.cons (d:=_) (T:=_) ⟨Tryz.underlying191,Tryz.isAgg191,Tryz.sizeOf191⟩<|
 aB.ok.cons (d:=_) (T:=_) ⟨Tryz.underlying193,Tryz.isAgg193,Tryz.sizeOf193⟩<|
 aB.ok.cons (d:=_) (T:=_) ⟨Tryz.underlying194,Tryz.isAgg194,Tryz.sizeOf194⟩<|
 aB.ok.cons (d:=_) (T:=_) ⟨Tryz.underlying195,Tryz.isAgg195,Tryz.sizeOf195⟩<|
 aB.ok.cons (d:=_) (T:=_) ⟨Tryz.underlying196,Tryz.isAgg196,Tryz.sizeOf196⟩<|
 aB.ok.cons (d:=_) (T:=_) ⟨⟨_,Tryz.underlying197,(.cons rfl Tryz.sizeOf31 .nil)⟩,Tryz.isAgg197,Tryz.sizeOf197⟩<|
 aB.ok.cons (d:=_) (T:=_) ⟨⟨_,Tryz.underlying198,(.cons rfl Tryz.sizeOf31 .nil)⟩,Tryz.isAgg198,Tryz.sizeOf198⟩<|
 aB.ok.cons (d:=_) (T:=_) ⟨Tryz.underlying199,Tryz.isAgg199,Tryz.sizeOf199⟩<|
 aB.ok.cons (d:=_) (T:=_) ⟨Tryz.underlying201,Tryz.isAgg201,Tryz.sizeOf201⟩<|
 aB.ok.cons (d:=_) (T:=_) ⟨Tryz.underlying202,Tryz.isAgg202,Tryz.sizeOf202⟩<|
 aB.ok.cons (d:=_) (T:=_) ⟨Tryz.underlying204,Tryz.isAgg204,Tryz.sizeOf204⟩<|
 aB.ok.cons (d:=_) (T:=_) ⟨Tryz.underlying205,Tryz.isAgg205,Tryz.sizeOf205⟩<|
 aB.ok.cons (d:=_) (T:=_) ⟨Tryz.underlying206,Tryz.isAgg206,Tryz.sizeOf206⟩<|
 aB.ok.cons (d:=_) (T:=_) ⟨Tryz.underlying207,Tryz.isAgg207,Tryz.sizeOf207⟩<|
 aB.ok.cons (d:=_) (T:=_) ⟨Tryz.underlying208,Tryz.isAgg208,Tryz.sizeOf208⟩<|
 aB.ok.cons (d:=_) (T:=_) ⟨Tryz.underlying209,Tryz.isAgg209,Tryz.sizeOf209⟩<|
 aB.ok.cons (d:=_) (T:=_) ⟨Tryz.underlying210,Tryz.isAgg210,Tryz.sizeOf210⟩<|
 aB.ok.cons (d:=_) (T:=_) ⟨Tryz.underlying211,Tryz.isAgg211,Tryz.sizeOf211⟩<|
 aB.ok.cons (d:=_) (T:=_) ⟨Tryz.underlying212,Tryz.isAgg212,Tryz.sizeOf212⟩<|
 aB.ok.cons (d:=_) (T:=_) ⟨Tryz.underlying213,Tryz.isAgg213,Tryz.sizeOf213⟩<|
 aB.ok.cons (d:=_) (T:=_) ⟨Tryz.underlying214,Tryz.isAgg214,Tryz.sizeOf214⟩<|
 aB.ok.cons (d:=_) (T:=_) ⟨Tryz.underlying215,Tryz.isAgg215,Tryz.sizeOf215⟩<|
 aB.ok.cons (d:=_) (T:=_) ⟨Tryz.underlying216,Tryz.isAgg216,Tryz.sizeOf216⟩<|
 aB.ok.cons (d:=_) (T:=_) ⟨Tryz.underlying217,Tryz.isAgg217,Tryz.sizeOf217⟩<|
 aB.ok.cons (d:=_) (T:=_) ⟨Tryz.underlying218,Tryz.isAgg218,Tryz.sizeOf218⟩<|
 aB.ok.cons (d:=_) (T:=_) ⟨Tryz.underlying219,Tryz.isAgg219,Tryz.sizeOf219⟩<|
 aB.ok.cons (d:=_) (T:=_) ⟨Tryz.underlying220,Tryz.isAgg220,Tryz.sizeOf220⟩<|
 aB.ok.cons (d:=_) (T:=_) ⟨Tryz.underlying221,Tryz.isAgg221,Tryz.sizeOf221⟩<|
 aB.ok.cons (d:=_) (T:=_) ⟨Tryz.underlying222,Tryz.isAgg222,Tryz.sizeOf222⟩<|
 aB.ok.cons (d:=_) (T:=_) ⟨Tryz.underlying223,Tryz.isAgg223,Tryz.sizeOf223⟩<|
 aB.ok.cons (d:=_) (T:=_) ⟨Tryz.underlying224,Tryz.isAgg224,Tryz.sizeOf224⟩<|
 aB.ok.cons (d:=_) (T:=_) ⟨Tryz.underlying226,Tryz.isAgg226,Tryz.sizeOf226⟩<|
 aB.ok.cons (d:=_) (T:=_) ⟨Tryz.underlying227,Tryz.isAgg227,Tryz.sizeOf227⟩<|
 aB.ok.cons (d:=_) (T:=_) ⟨Tryz.underlying228,Tryz.isAgg228,Tryz.sizeOf228⟩<|
 aB.ok.cons (d:=_) (T:=_) ⟨Tryz.underlying229,Tryz.isAgg229,Tryz.sizeOf229⟩<|
 aB.ok.cons (d:=_) (T:=_) ⟨Tryz.underlying230,Tryz.isAgg230,Tryz.sizeOf230⟩<|
 aB.ok.cons (d:=_) (T:=_) ⟨Tryz.underlying231,Tryz.isAgg231,Tryz.sizeOf231⟩<|
 aB.ok.cons (d:=_) (T:=_) ⟨Tryz.underlying232,Tryz.isAgg232,Tryz.sizeOf232⟩<|
 aB.ok.cons (d:=_) (T:=_) ⟨⟨_,Tryz.underlying233,(.cons rfl Tryz.sizeOf27 (.cons rfl Tryz.sizeOf4 .nil))⟩,Tryz.isAgg233,Tryz.sizeOf233⟩<|
 aB.ok.cons (d:=_) (T:=_) ⟨⟨_,Tryz.underlying234,(.cons rfl Tryz.sizeOf27 (.cons rfl Tryz.sizeOf4 .nil))⟩,Tryz.isAgg234,Tryz.sizeOf234⟩<|
 aB.ok.cons (d:=_) (T:=_) ⟨Tryz.underlying235,Tryz.isAgg235,Tryz.sizeOf235⟩<|
 aB.ok.cons (d:=_) (T:=_) ⟨Tryz.underlying237,Tryz.isAgg237,Tryz.sizeOf237⟩<|
 aB.ok.cons (d:=_) (T:=_) ⟨Tryz.underlying238,Tryz.isAgg238,Tryz.sizeOf238⟩<|
 aB.ok.cons (d:=_) (T:=_) ⟨Tryz.underlying239,Tryz.isAgg239,Tryz.sizeOf239⟩<|
 aB.ok.cons (d:=_) (T:=_) ⟨Tryz.underlying240,Tryz.isAgg240,Tryz.sizeOf240⟩<|
 aB.ok.cons (d:=_) (T:=_) ⟨Tryz.underlying241,Tryz.isAgg241,Tryz.sizeOf241⟩<|
 aB.ok.cons (d:=_) (T:=_) ⟨Tryz.underlying242,Tryz.isAgg242,Tryz.sizeOf242⟩<|
 aB.ok.cons (d:=_) (T:=_) ⟨Tryz.underlying244,Tryz.isAgg244,Tryz.sizeOf244⟩<|
 aB.ok.cons (d:=_) (T:=_) ⟨Tryz.underlying245,Tryz.isAgg245,Tryz.sizeOf245⟩<|
 aB.ok.cons (d:=_) (T:=_) ⟨Tryz.underlying246,Tryz.isAgg246,Tryz.sizeOf246⟩<|
 aB.ok.cons (d:=_) (T:=_) ⟨Tryz.underlying247,Tryz.isAgg247,Tryz.sizeOf247⟩<|
 aB.ok.cons (d:=_) (T:=_) ⟨Tryz.underlying248,Tryz.isAgg248,Tryz.sizeOf248⟩<|
 aB.ok.cons (d:=_) (T:=_) ⟨Tryz.underlying249,Tryz.isAgg249,Tryz.sizeOf249⟩<|
 aB.ok.cons (d:=_) (T:=_) ⟨Tryz.underlying250,Tryz.isAgg250,Tryz.sizeOf250⟩<|
 aB.ok.cons (d:=_) (T:=_) ⟨Tryz.underlying252,Tryz.isAgg252,Tryz.sizeOf252⟩<|
 aB.ok.cons (d:=_) (T:=_) ⟨Tryz.underlying253,Tryz.isAgg253,Tryz.sizeOf253⟩<|
 aB.ok.cons (d:=_) (T:=_) ⟨Tryz.underlying254,Tryz.isAgg254,Tryz.sizeOf254⟩<|
 aB.ok.cons (d:=_) (T:=_) ⟨Tryz.underlying255,Tryz.isAgg255,Tryz.sizeOf255⟩<|
 aB.ok.cons (d:=_) (T:=_) ⟨Tryz.underlying256,Tryz.isAgg256,Tryz.sizeOf256⟩<|
 aB.ok.cons (d:=_) (T:=_) ⟨Tryz.underlying257,Tryz.isAgg257,Tryz.sizeOf257⟩<|
 aB.ok.cons (d:=_) (T:=_) ⟨Tryz.underlying258,Tryz.isAgg258,Tryz.sizeOf258⟩<|
 aB.ok.cons (d:=_) (T:=_) ⟨Tryz.underlying259,Tryz.isAgg259,Tryz.sizeOf259⟩<|
 aB.ok.cons (d:=_) (T:=_) ⟨Tryz.underlying260,Tryz.isAgg260,Tryz.sizeOf260⟩<|
 aB.ok.cons (d:=_) (T:=_) ⟨Tryz.underlying262,Tryz.isAgg262,Tryz.sizeOf262⟩<|
 aB.ok.cons (d:=_) (T:=_) ⟨Tryz.underlying263,Tryz.isAgg263,Tryz.sizeOf263⟩<|
 aB.ok.cons (d:=_) (T:=_) ⟨Tryz.underlying264,Tryz.isAgg264,Tryz.sizeOf264⟩<|
 aB.ok.cons (d:=_) (T:=_) ⟨Tryz.underlying265,Tryz.isAgg265,Tryz.sizeOf265⟩<|
 aB.ok.cons (d:=_) (T:=_) ⟨Tryz.underlying266,Tryz.isAgg266,Tryz.sizeOf266⟩<|
 aB.ok.cons (d:=_) (T:=_) ⟨Tryz.underlying267,Tryz.isAgg267,Tryz.sizeOf267⟩<|
 aB.ok.cons (d:=_) (T:=_) ⟨Tryz.underlying268,Tryz.isAgg268,Tryz.sizeOf268⟩<|
 aB.ok.cons (d:=_) (T:=_) ⟨Tryz.underlying269,Tryz.isAgg269,Tryz.sizeOf269⟩<|
 aB.ok.cons (d:=_) (T:=_) ⟨Tryz.underlying270,Tryz.isAgg270,Tryz.sizeOf270⟩<|
 aB.ok.cons (d:=_) (T:=_) ⟨Tryz.underlying272,Tryz.isAgg272,Tryz.sizeOf272⟩<|
 aB.ok.cons (d:=_) (T:=_) ⟨Tryz.underlying273,Tryz.isAgg273,Tryz.sizeOf273⟩<|
 aB.ok.cons (d:=_) (T:=_) ⟨Tryz.underlying274,Tryz.isAgg274,Tryz.sizeOf274⟩<|
 aB.ok.cons (d:=_) (T:=_) ⟨Tryz.underlying275,Tryz.isAgg275,Tryz.sizeOf275⟩<|
 aB.ok.cons (d:=_) (T:=_) ⟨Tryz.underlying276,Tryz.isAgg276,Tryz.sizeOf276⟩<|
 aB.ok.cons (d:=_) (T:=_) ⟨Tryz.underlying278,Tryz.isAgg278,Tryz.sizeOf278⟩<|
 aB.ok.cons (d:=_) (T:=_) ⟨Tryz.underlying279,Tryz.isAgg279,Tryz.sizeOf279⟩<|
 aB.ok.cons (d:=_) (T:=_) ⟨Tryz.underlying280,Tryz.isAgg280,Tryz.sizeOf280⟩<|
 aB.ok.cons (d:=_) (T:=_) ⟨Tryz.underlying281,Tryz.isAgg281,Tryz.sizeOf281⟩<|
 aB.ok.cons (d:=_) (T:=_) ⟨⟨_,Tryz.underlying282,(.cons rfl Tryz.sizeOf17 (.cons rfl Tryz.sizeOf17 (.cons rfl Tryz.sizeOf17 (.cons rfl Tryz.sizeOf9 .nil))))⟩,Tryz.isAgg282,Tryz.sizeOf282⟩<|
 aB.ok.cons (d:=_) (T:=_) ⟨⟨_,Tryz.underlying283,(.cons rfl Tryz.sizeOf17 (.cons rfl Tryz.sizeOf17 (.cons rfl Tryz.sizeOf17 (.cons rfl Tryz.sizeOf9 .nil))))⟩,Tryz.isAgg283,Tryz.sizeOf283⟩<|
 aB.ok.cons (d:=_) (T:=_) ⟨Tryz.underlying284,Tryz.sizeOf16,Tryz.isAgg284,Tryz.sizeOf284⟩<|
 aB.ok.cons (d:=_) (T:=_) ⟨Tryz.underlying287,Tryz.isAgg287,Tryz.sizeOf287⟩<|
 aB.ok.cons (d:=_) (T:=_) ⟨Tryz.underlying288,Tryz.isAgg288,Tryz.sizeOf288⟩<|
 aB.ok.cons (d:=_) (T:=_) ⟨Tryz.underlying289,Tryz.isAgg289,Tryz.sizeOf289⟩<|
 aB.ok.cons (d:=_) (T:=_) ⟨Tryz.underlying290,Tryz.isAgg290,Tryz.sizeOf290⟩<|
 aB.ok.cons (d:=_) (T:=_) ⟨Tryz.underlying291,Tryz.isAgg291,Tryz.sizeOf291⟩<|
 aB.ok.cons (d:=_) (T:=_) ⟨Tryz.underlying292,Tryz.isAgg292,Tryz.sizeOf292⟩<|
 aB.ok.cons (d:=_) (T:=_) ⟨Tryz.underlying293,Tryz.isAgg293,Tryz.sizeOf293⟩<|
 aB.ok.cons (d:=_) (T:=_) ⟨⟨_,Tryz.underlying294,(.cons rfl Tryz.sizeOf12 (.cons rfl Tryz.sizeOf12 (.cons rfl Tryz.sizeOf258 (.cons rfl Tryz.sizeOf288 (.cons rfl Tryz.sizeOf5 (.cons rfl Tryz.sizeOf5 (.cons rfl Tryz.sizeOf289 (.cons rfl Tryz.sizeOf290 (.cons rfl Tryz.sizeOf291 (.cons rfl Tryz.sizeOf292 (.cons rfl Tryz.sizeOf293 .nil)))))))))))⟩,Tryz.isAgg294,Tryz.sizeOf294⟩<|
 aB.ok.cons (d:=_) (T:=_) ⟨⟨_,Tryz.underlying295,(.cons rfl Tryz.sizeOf12 (.cons rfl Tryz.sizeOf12 (.cons rfl Tryz.sizeOf258 (.cons rfl Tryz.sizeOf288 (.cons rfl Tryz.sizeOf5 (.cons rfl Tryz.sizeOf5 (.cons rfl Tryz.sizeOf289 (.cons rfl Tryz.sizeOf290 (.cons rfl Tryz.sizeOf291 (.cons rfl Tryz.sizeOf292 (.cons rfl Tryz.sizeOf293 .nil)))))))))))⟩,Tryz.isAgg295,Tryz.sizeOf295⟩<|
 aB.ok.cons (d:=_) (T:=_) ⟨Tryz.underlying297,Tryz.isAgg297,Tryz.sizeOf297⟩<|
 aB.ok.nil
theorem j3:Elem Tryz.prog 22 3 1:=⟨Tryz.underlying22,Tryz.sizeOf3,⟨Tryz.t3,Tryz.typeInfo3,by decide,by decide⟩,⟨_,Tryz.zeroValue3,rfl⟩⟩
theorem lq:Elem Tryz.prog 27 5 1:=⟨Tryz.underlying27,Tryz.sizeOf5,⟨Tryz.t5,Tryz.typeInfo5,by decide,by decide⟩,⟨_,Tryz.zeroValue5,rfl⟩⟩
theorem sF:Elem Tryz.prog 39 60 4:=⟨Tryz.underlying39,Tryz.sizeOf60,⟨Tryz.t60,Tryz.typeInfo60,by decide,by decide⟩,⟨_,Tryz.zeroValue60,rfl⟩⟩
theorem nt:Elem Tryz.prog 63 70 5:=⟨Tryz.underlying63,Tryz.sizeOf70,⟨Tryz.t70,Tryz.typeInfo70,by decide,by decide⟩,⟨_,Tryz.zeroValue70,rfl⟩⟩
theorem qH:Elem Tryz.prog 91 9 1:=⟨Tryz.underlying91,Tryz.sizeOf9,⟨Tryz.t9,Tryz.typeInfo9,by decide,by decide⟩,⟨_,Tryz.zeroValue9,rfl⟩⟩
theorem AE:Elem Tryz.prog 101 143 2:=⟨Tryz.underlying101,Tryz.sizeOf143,⟨Tryz.t143,Tryz.typeInfo143,by decide,by decide⟩,⟨_,Tryz.zeroValue143,rfl⟩⟩
theorem iU:Elem Tryz.prog 122 113 8:=⟨Tryz.underlying122,Tryz.sizeOf113,⟨Tryz.t113,Tryz.typeInfo113,by decide,by decide⟩,⟨_,Tryz.zeroValue113,rfl⟩⟩
theorem mixed:Tryz.prog.follows .mixedOrders=true:=by kernel_rfl
end Go.Proofs.YtihpkgmfkbkffaaGreat.Sx
end
section
namespace Go.Proofs.YtihpkgmfkbkffaaGreat.Ro
open Go Go.Sx Go.ChangeShapes Go.WideShapes
theorem own:ownKnob Tryz.prog.godebug=none:=by kernel_rfl
theorem laid:laidOutB Tryz.prog=true:=by kernel_rfl
end Go.Proofs.YtihpkgmfkbkffaaGreat.Ro
end
section
namespace Go.Proofs.YtihpkgmfkbkffaaGreat.Ro
open Go Go.Sx Go.Pl Go.ChangeShapes Go.WideShapes
set_option linter.constructorNameAsVariable false
def Mx(n:Nat):List Value:=[.float .f64 n]
theorem CA{P:Program}{t:TypeId}(ht:P.underlying t=some (.float .f64)):Reads P t Mx fun n=>n<2^64:=by
 intro H enc w base spare held n cs x h
 cases n with
 |zero=>simp[DataW.trod]at h
 |succ n=>
  unfold DataW.trod at h
  rw[ht]at h
  split at h<;>simp_all [Mx]
  rename_i heq
  subst heq
  exact of_decide_eq_true h.1.2
theorem c3:Tryz.prog.cellsOf 3=1:=by kernel_rfl
theorem mj:Tryz.prog.cellsOf 34=1:=by kernel_rfl
theorem c9:Tryz.prog.cellsOf 9=1:=by kernel_rfl
theorem RP:Tryz.prog.cellsOf 36=3:=by kernel_rfl
set_option maxRecDepth 100000 in
theorem Fk:Reads Tryz.prog 36 bA fun x=>x.f<2^64:=by
 intro H enc w base spare held n cs x h
 have hl:=rR Tryz.underlying36 h
 rw[RP]at hl
 obtain⟨y0,h0,q0⟩:=dK Tryz.underlying36 (i:=0) (f:={name:= "Kind",type:=3,offset:=0,embedded:=false,tag:= "",pkgPath:= "",byteOffset:=0}) rfl (oT Tryz.underlying3) h
 obtain⟨y1,h1,q1⟩:=dK Tryz.underlying36 (i:=1) (f:={name:= "F",type:=34,offset:=1,embedded:=false,tag:= "",pkgPath:= "",byteOffset:=8}) rfl (CA Tryz.underlying34) h
 obtain⟨y2,h2,q2⟩:=dK Tryz.underlying36 (i:=2) (f:={name:= "S",type:=9,offset:=2,embedded:=false,tag:= "",pkgPath:= "",byteOffset:=16}) rfl (jP Tryz.underlying9) h
 dsimp only at h0 h1 h2
 rw[c3]at h0
 rw[mj]at h1
 rw[c9]at h2
 refine⟨⟨y0,y1,y2⟩,?_,q1⟩
 match cs,hl with
 |[x0,x1,x2],_=>
  simp only[List.drop_zero,List.take_succ_cons,List.take_zero,List.drop_succ_cons]at h0 h1 h2
  have e0:x0= .int .i64 y0:=by injection h0
  have e1:x1= .float .f64 y1:=by injection h1
  have e2:x2= .string y2:=by injection h2
  show([x0]++([x1]++[x2]))=_
  rw[e0,e1,e2];rfl
theorem c2:Tryz.prog.cellsOf 2=1:=by kernel_rfl
theorem FX:Tryz.prog.cellsOf 56=7:=by kernel_rfl
set_option maxRecDepth 100000 in
theorem CB:Reads Tryz.prog 56 cv fun x=>x.val.f<2^64:=by
 intro H enc w base spare held n cs x h
 have hl:=rR Tryz.underlying56 h
 rw[FX]at hl
 obtain⟨y0,h0,q0⟩:=dK Tryz.underlying56 (i:=0) (f:={name:= "Kind",type:=3,offset:=0,embedded:=false,tag:= "",pkgPath:= "",byteOffset:=0}) rfl (oT Tryz.underlying3) h
 obtain⟨y1,h1,q1⟩:=dK Tryz.underlying56 (i:=1) (f:={name:= "Txn",type:=2,offset:=1,embedded:=false,tag:= "",pkgPath:= "",byteOffset:=8}) rfl (oT Tryz.underlying2) h
 obtain⟨y2,h2,q2⟩:=dK Tryz.underlying56 (i:=2) (f:={name:= "Key",type:=9,offset:=2,embedded:=false,tag:= "",pkgPath:= "",byteOffset:=16}) rfl (jP Tryz.underlying9) h
 obtain⟨y3,h3,q3⟩:=dK Tryz.underlying56 (i:=3) (f:={name:= "To",type:=9,offset:=3,embedded:=false,tag:= "",pkgPath:= "",byteOffset:=32}) rfl (jP Tryz.underlying9) h
 obtain⟨y4,h4,q4⟩:=dK Tryz.underlying56 (i:=4) (f:={name:= "Val",type:=36,offset:=4,embedded:=false,tag:= "",pkgPath:= "",byteOffset:=48}) rfl Fk h
 dsimp only at h0 h1 h2 h3 h4
 rw[c3]at h0
 rw[c2]at h1
 rw[c9]at h2
 rw[c9]at h3
 rw[RP]at h4
 refine⟨⟨y0,y1,y2,y3,y4⟩,?_,q4⟩
 match cs,hl with
 |[x0,x1,x2,x3,x4,x5,x6],_=>
  simp only[List.drop_zero,List.take_succ_cons,List.take_zero,List.drop_succ_cons]at h0 h1 h2 h3 h4
  have e0:x0= .int .i64 y0:=by injection h0
  have e1:x1= .int .i64 y1:=by injection h1
  have e2:x2= .string y2:=by injection h2
  have e3:x3= .string y3:=by injection h3
  show([x0]++([x1]++([x2]++([x3]++[x4,x5,x6]))))=_
  rw[e0,e1,e2,e3,h4];rfl
set_option maxRecDepth 100000 in
theorem CC{H:Type}{enc:TypeId×Value->H}{w:World}{r:Reach}{b0:Nat}{v:Value}{d:DataW H}{p:List MemPlace}(hok:Value.okWide Tryz.prog w r b0 53 v)(h:DataW.Trod enc Tryz.prog w 0 (fun _=>true) true 53 v d p):∃xs:List IQ,Row cv 7 [all w] v xs/\xs.length<=maxLen/\∀x∈xs,x.val.f<2^64:=
 xC (e:=cv) (sz:=7) Tryz.underlying53 (by kernel_rfl) (by decide) (Reads.at CB) hok h (fun _=> .inl rfl)
end Go.Proofs.YtihpkgmfkbkffaaGreat.Ro
end
section
namespace Go.Proofs.YtihpkgmfkbkffaaGreat.Sx
open Go Go.Sx Go.Pl
variable[aq]
omit [aq] in
def sw(e:Int):Value:= .iface 198 (.agg ⟨[.int .i64 e]⟩)
omit [aq] in
def IU(e:Int):Int:=if e=0 then 8 else e
set_option maxHeartbeats 1000000 in
set_option maxRecDepth 100000 in
theorem k5{e:Int}{hs:List Chunk}:aH Tryz.prog 98 [.int .i64 e] hs (fun v' _=>False/\v'= .tuple ⟨[]⟩) (fun v' hs'=>v'=sw (IU e)/\hs=hs'):=by
 refine aH.enter 7 Tryz.func98 rfl Tryz.ntmps98 rfl ?_
 refine TT.seq (.seq (.region (.U hT 2 rfl (.nil (.seq (.cond rfl (fun c3=> ?_) (fun c3=> ?_)))))))
 .
  have c3:e=0:=by simpa using c3
  refine TT.region (.U hT 1 rfl (.nil (.seq (.region (.U hT 1 rfl (.build hT rfl Tryz.zeroValue198 rfl rfl rfl rfl (.bU Tryz.underlying198 rfl rfl rfl rfl (.panic rfl rfl (PP.up ⟨by unfold IU;rw[if_pos c3];rfl,rfl⟩)))))))))
 .
  have c3:¬e=0:=by simpa using c3
  refine TT.skip (.seq (.region (.U hT 1 rfl (.build hT rfl Tryz.zeroValue198 rfl rfl rfl rfl (.bU Tryz.underlying198 rfl rfl rfl rfl (.panic rfl rfl (PP.up ⟨by unfold IU;rw[if_neg c3];rfl,rfl⟩)))))))
set_option maxHeartbeats 1000000 in
set_option maxRecDepth 100000 in
theorem cT{e:Int}{hs:List Chunk}:ax Tryz.prog 118 [.bool true,.int .i64 e] hs (fun v' hs'=>v'= .tuple ⟨[]⟩/\hs=hs'):=by
 refine ax.enter 8 Tryz.func118 rfl Tryz.ntmps118 rfl ?_
 refine TT.seq (.region (.U hT 2 rfl (.nil (.seq (.cond_false rfl (.skip (.of (rs:=[]) [] hs rfl .nil sl ?_)))))))
 try dsimp only[one]
 exact⟨rfl,rfl⟩
set_option maxHeartbeats 1000000 in
set_option maxRecDepth 100000 in
theorem gl{e:Int}{hs:List Chunk}:aH Tryz.prog 118 [.bool false,.int .i64 e] hs (fun v' _=>False/\v'= .tuple ⟨[]⟩) (fun v' hs'=>v'=sw (IU e)/\hs=hs'):=by
 refine aH.enter 8 Tryz.func118 rfl Tryz.ntmps118 rfl ?_
 refine TT.seq (.region (.U hT 2 rfl (.nil (.seq (.cond_true rfl (.region (.U hT 1 rfl (.aR Tryz.call98 rfl rfl rfl rfl (k5) (fun _ _ h=>by obtain⟨rfl,rfl⟩:=h;exact PP.up ⟨rfl,rfl⟩) ?_))))))))
 rintro C9 sG h
 refine OT.nil (.iF (rs:=[]) [] hs rfl .nil h.1.elim ?_)
 try dsimp only[one]
 exact h.1.elim
theorem aU{b:Bool}{e:Int}{hs:List Chunk}:aH Tryz.prog 118 [.bool b,.int .i64 e] hs (fun v' hs'=>b=true/\v'= .tuple ⟨[]⟩/\hs=hs') (fun v' hs'=>b=false/\v'=sw (IU e)/\hs=hs'):=by
 cases b with
 |true=>exact(aH.of cT).mono (fun _ _ h=>⟨rfl,h⟩) fun _ _ h=>h
 |false=>exact gl.mono (fun _ _ h=>h.1.elim) fun _ _ h=>⟨rfl,h⟩
omit [aq] in
theorem bJ{e:Int}(h:e≠0):IU e=e:=by unfold IU;rw[if_neg h]
end Go.Proofs.YtihpkgmfkbkffaaGreat.Sx
end
section
namespace Go.Proofs.YtihpkgmfkbkffaaGreat.Sx
open Go Go.Sx Go.Pl
variable[aq]
set_option maxRecDepth 100000 in
theorem qm{b:Nat}{e:Int}{fr:Nat×Nat}{hs:List Chunk}{w:World}(hm:Mem ([(b,blk [.int .i64 e] 31 fr)]::hs) w):CallsD Tryz.prog 127 ⟨[.pointer (some ⟨b,0,none⟩)]⟩ .returning w fun x u w'=>u= .returning/\∃v hs',x= .returned v/\hs'=[(b,blk [.int .i64 e] 31 fr)]::hs/\Mem hs' w':=by
 refine k9 (N:=fun v hs'=>hs'=[(b,blk [.int .i64 e] 31 fr)]::hs) (u:= .returning) (u':= .returning) (rv:= .nilIface) (n:=12) Tryz.func127 rfl rfl rfl rfl (fun c cs h=> .inr ⟨u6 c cs h,rfl,rfl⟩) ?_ hm
 refine TT.block (.seq (.region ?_))
 refine OT.Gv Tryz.underlying20 rfl rfl rfl (.nil (.seq (.cond_true rfl (.region (.U hT 1 rfl (.nil (.blk (.of (rs:=[]) [] _ rfl .nil (.refl _) ?_))))))))
 rfl
set_option maxRecDepth 100000 in
theorem qn{b:Nat}{e0 e:Int}{fr:Nat×Nat}{hs:List Chunk}{w:World}(hfr:eI [Value.int .i64 e0] fr)(hm:Mem ([(b,blk [.int .i64 e0] 31 fr)]::hs) w):CallsD Tryz.prog 127 ⟨[.pointer (some ⟨b,0,none⟩)]⟩ (.panicking [{v:=sw e,recovered:=false}]) w fun x u w'=>u= .panicking [{v:=sw e,recovered:=true}]/\∃v hs',x= .returned v/\hs'=[(b,blk [.int .i64 e] 31 fr)]::hs/\Mem hs' w':=by
 refine k9 (N:=fun v hs'=>hs'=[(b,blk [.int .i64 e] 31 fr)]::hs) (u:= .panicking [{v:=sw e,recovered:=false}]) (u':= .panicking [{v:=sw e,recovered:=true}]) (rv:=sw e) (n:=12) Tryz.func127 rfl rfl rfl rfl (fun c cs h=> .inl (u7 (sw e) c cs h)) ?_ hm
 refine TT.block (.seq (.region (.U hT 1 rfl (.nil (.seq (.cond_false rfl ?_))))))
 refine TT.seq (.region ?_)
 refine OT.B0 Tryz.underlying198 rfl rfl rfl rfl (.U hT 2 rfl (.nil (.seq (.cond_true rfl ?_))))
 refine TT.seq (.region (.alloc Tryz.zeroValue198 rfl rfl (fun b2=> ?_)))
 refine OT.ag hT rfl rfl rfl rfl .head rfl rfl rfl (.inl (Nat.le_refl _)) (.nil (.seq (.region (.U hT 1 rfl (.load rfl rfl (Ld.one hT rfl .one rfl) rfl ?_)))))
 refine OT.ag hT rfl rfl rfl rfl (.tail .head) rfl rfl rfl hfr (.nil (.blk (.of (rs:=[]) [] ([(b,blk [.int .i64 e] 31 fr)]::hs) rfl .nil sl ?_)))
 rfl
set_option maxRecDepth 100000 in
theorem lZ{g:Nat}{caps:List Value}{hs:List Chunk}{N:Value->List Chunk->Prop}{E:Int->List Chunk->Prop}(hc:∀args w,(callFunc g args).run Tryz.prog w= .ok (.enter g args) w)(hF:∀A:Chunk,aH Tryz.prog g caps (A::hs) (fun v hs'=>∃dz,hs'=A::dz/\N v dz) (fun v hs'=>∃e dz,hs'=A::dz/\v=sw e/\E e dz)):ax Tryz.prog 84 [.func (.func g) ⟨[]⟩ ⟨caps⟩] hs (fun v' hs'=>(v'= .int .i64 0/\∃v,N v hs')\/∃e,v'= .int .i64 e/\E e hs'):=by
 intro w hm
 refine calls_of_wp_defers (R:=Post (fun v' hs'=>(v'= .int .i64 0/\∃v,N v hs')\/∃e,v'= .int .i64 e/\E e hs')) Tryz.func84 rfl ?_
 have ha:=Fits.start (fn:=Tryz.f84) (vs:=[.func (.func g) ⟨[]⟩ ⟨caps⟩]) (n:=8) rfl rfl
 refine A0 (X:=⟨Tryz.prog,Tryz.f84,8,Post (fun v' hs'=>(v'= .int .i64 0/\∃v,N v hs')\/∃e,v'= .int .i64 e/\E e hs')⟩) (ι:=Nat) (fun _=>True) (fun b=>[(2,.pointer (some ⟨b,0,none⟩)),(0,.func (.func g) ⟨[]⟩ ⟨caps⟩)]) (fun b=>[(b,blk [.int .i64 0] 31 (0,0))]::hs) ?_ ?_ ha hm
 . exact TT.region (.alloc Tryz.zeroValue31 rfl rfl (fun b=> .nil (.cut b trivial (aa.cons rfl (aa.cons rfl (aa.nil _))) (.refl _))))
 clear ha hm w
 intro b a w _ ha hm
 refine A0 (X:=⟨Tryz.prog,Tryz.f84,8,Post (fun v' hs'=>(v'= .int .i64 0/\∃v,N v hs')\/∃e,v'= .int .i64 e/\E e hs')⟩) (ι:=Unit) (fun _=>True) (fun _=>[(2,.pointer (some ⟨b,0,none⟩)),(0,.func (.func g) ⟨[]⟩ ⟨caps⟩)]) (fun _=>[(b,blk [.int .i64 0] 31 (0,0))]::hs) ?_ ?_ ha hm
 . exact TT.seq (.region (.U hT 2 rfl (.nil (.seq (.cond_false rfl (.skip (.cut () trivial (aa.cons rfl (aa.cons rfl (aa.nil _))) (.refl _))))))))
 clear ha hm w
 intro _ a w _ ha hm
 refine wp_seq (wp_region ?_)
 rw[iz]
 refine qW rfl (r:= .ok (.value (.func (.func 127) ⟨[]⟩ ⟨[.pointer (some ⟨b,0,none⟩)]⟩)) w) (by have h2:=ha.ev (x:= .tmp 2) rfl;simp[execOp,Instr.makeFunc,h2]) ?_
 rw[Oper.upon_value]
 have LS:=ha.put (d:=5) rfl (.func (.func 127) ⟨[]⟩ ⟨[.pointer (some ⟨b,0,none⟩)]⟩)
 generalize a.put (some 5) _=a5 at LS⊢
 refine qW rfl (r:= .ok (.defer ⟨.fn (.func 127) ⟨[.pointer (some ⟨b,0,none⟩)]⟩,#[]⟩) w) (by have h5:=LS.ev (x:= .tmp 5) rfl;simp[execOp,resolve,Deferred.ofValue,h5]) ?_
 rw[Oper.upon_defer,LS.defers]
 refine wp_seq (wp_region ?_)
 rw[iz]
 refine qW rfl (r:= .ok (.value (.func (.func g) ⟨[]⟩ ⟨caps⟩)) w) (by have h0:=LS.ev (x:= .tmp 0) rfl;exact congrArg (fun z=>Result.ok (Next.value z) w) h0) ?_
 rw[Oper.upon_value]
 have O9:=LS.put (d:=6) rfl (.func (.func g) ⟨[]⟩ ⟨caps⟩)
 have h6:=O9.ev (x:= .tmp 6) rfl
 refine qW rfl (r:= .ok (.enter g ⟨caps⟩) w) (zJ (x:= .tmp 6) h6 hc) ?_
 rw[Oper.upon_enter]
 refine(hF _ w hm).mono ?_
 rintro x w' (⟨v,hs',rfl,⟨dz,rfl,hN⟩,hM⟩|⟨v,hs',rfl,⟨e,dz,rfl,rfl,hE⟩,hM⟩)
 . refine wp_seq (wp_region ?_)
   rw[iz]
   obtain⟨w2,hr,hm2⟩:=n9 (P:=Tryz.prog) (hT.ty (t:=31) rfl).sizeOf hM (o:=0) (v:= .int .i64 0) rfl (Nat.le_refl _) rfl (.inl (Nat.le_refl _))
   have RQ:=O9.put (d:=7) rfl v
   have h2:=RQ.ev (x:= .tmp 2) rfl
   refine qW rfl (r:= .ok .skip w2) (zK (x:= .tmp 2) (y:= .const (.int .i64 0)) h2 rfl hr) ?_
   rw[Oper.upon_skip]
   refine wp_ret ?_
   have hm2:Mem ([(b,blk [.int .i64 0] 31 (0,0))]::dz) w2:=hm2
   refine leaves_cons (f:=127) (args:=⟨[.pointer (some ⟨b,0,none⟩)]⟩) (by simp) (by simp[invoke,Tryz.call127]) ?_
   refine(qm hm2).mono ?_
   rintro x u w3 ⟨rfl,v',hs',rfl,rfl,LU⟩
   exact⟨.int .i64 0,yf.run RQ LU (rs:=[.cell 2 31]) (vs:=[.int .i64 0]) (.cell rfl (Ld.one hT rfl .one rfl) .nil) rfl,.int .i64 0,dz,rfl,.inl ⟨rfl,v,hN⟩,LU.drop⟩
 . show Leaves _ _ _ _ [_] (.panicking _) _
   refine leaves_cons (f:=127) (args:=⟨[.pointer (some ⟨b,0,none⟩)]⟩) (by simp) (by simp[invoke,Tryz.call127]) ?_
   refine(qn (.inl (Nat.le_refl _)) hM).mono ?_
   rintro x u w3 ⟨rfl,v',hs',rfl,rfl,LU⟩
   exact⟨.int .i64 e,yf.run O9 LU (rs:=[.cell 2 31]) (vs:=[.int .i64 e]) (.cell rfl (Ld.one hT rfl .one rfl) .nil) rfl,.int .i64 e,dz,rfl,.inr ⟨e,rfl,hE⟩,LU.drop⟩
end Go.Proofs.YtihpkgmfkbkffaaGreat.Sx
end
section
namespace Go.Proofs.YtihpkgmfkbkffaaGreat.Sx
open Go Go.Sx Go.Pl
variable[aq]
set_option maxHeartbeats 1000000 in
set_option maxRecDepth 100000 in
theorem rI{no:Int}{hs:List Chunk}:ax Tryz.prog 166 [.int .i64 no] hs (fun v' hs'=>v'= .bool (decide (av no))/\hs=hs'):=by
 refine ax.enter 9 Tryz.func166 rfl Tryz.ntmps166 rfl ?_
 refine TT.seq (.region (.U hT 1 rfl (.nil (.seq (.seq (.region (.U hT 3 rfl (.split 5 rfl (fun g5=> ?_) (fun g5=> ?_)))))))))
 .
  have g5:=of_decide_eq_true g5
  refine OT.U hT 4 rfl (.nil (.seq (.ret (.of (rs:=[.tmp 2]) [_] hs rfl (.tmp rfl .nil) sl ?_))))
  try dsimp only[one]
  exact⟨congrArg Value.bool (decide_eq_decide.2 ⟨fun h=>⟨by omega,h⟩,fun h=>h.2⟩),rfl⟩
 .
  have g5:=of_decide_eq_false g5
  refine OT.U hT 4 rfl (.nil (.seq (.ret (.of (rs:=[.tmp 2]) [_] hs rfl (.tmp rfl .nil) sl ?_))))
  try dsimp only[one]
  exact⟨congrArg Value.bool (decide_eq_false (fun h=>by have:=h.1;omega)).symm,rfl⟩
omit [aq] in
set_option maxRecDepth 100000 in
theorem GV:∀x:Fin 256,∀k:Fin 8,(IntKind.u8.wrap (BitVec.ofInt 8 (((x.val:Nat):Int).fdiv (2^(min k.val 8)))&&&BitVec.ofInt 8 1).toNat==1)=decide (x.val/2^k.val%2=1):=by decide+kernel
set_option maxHeartbeats 1000000 in
set_option maxRecDepth 100000 in
theorem o_{v:Value}{bs:List UInt8}{no:Int}{hs:List Chunk}(hr:Row Go.Sx.bD 1 hs v bs)(hl:bs.length=256):ax Tryz.prog 158 [v,.int .i64 no] hs (fun v' hs'=>v'= .bool (hasB bs no)/\hs=hs'):=by
 refine ax.enter 19 Tryz.func158 rfl Tryz.ntmps158 rfl ?_
 obtain⟨a0,c0,hv⟩:=hr.len
 subst hv
 refine TT.seq (.region (.U hT 1 rfl (.nil (.seq (.seq (.region (.U hT 1 rfl (.call Tryz.call166 rfl rfl rfl rfl (rI) ?_))))))))
 rintro IV vz ⟨rfl,rfl⟩
 refine OT.U hT 1 rfl (.split 7 rfl (fun g7=> ?_) (fun g7=> ?_))
 .
  have g7:=of_decide_eq_true g7
  obtain⟨n,rfl⟩:∃n:Nat,no=n:=⟨no.toNat,by have:=g7.1;omega⟩
  have hn:=g7.2
  obtain⟨c,hc⟩:=nth (l:=bs) (i:=n/8) (by omega)
  refine OT.U hT 3 rfl (.eH 10 rfl (v:= .int .i64 ((n/8:Nat):Int)) (int_eq (by rw[Int.tdiv_eq_ediv_of_nonneg (by omega),wrap_i64 (by omega) (by omega)];omega)) (.index hT rfl rfl rfl rfl hr (by omega) (by rw[Int.toNat_natCast];exact hc) rfl (fun Sw Kt=> ?_)))
  refine OT.load rfl rfl (Kt.ct hT rfl rfl) rfl (.U hT 2 rfl (.eH 14 rfl (v:= .int .i64 ((n%8:Nat):Int)) (int_eq (by rw[Int.tmod_eq_emod_of_nonneg (by omega)];omega)) (.shr hT rfl rfl rfl (by omega) rfl (.U hT 4 rfl (.nil (.seq (.ret (.of (rs:=[.tmp 4]) [_] hs rfl (.tmp rfl .nil) sl ?_))))))))
  try dsimp only[one]
  refine⟨congrArg Value.bool ?_,rfl⟩
  have:=GV ⟨c.toNat,c.toNat_lt⟩ ⟨n%8,Nat.mod_lt _ (by decide)⟩
  unfold hasB
  have e:bs.getD ((n:Int).toNat/8) 0=c:=by rw[Int.toNat_natCast,List.getD_eq_getElem?_getD,hc];rfl
  rw[decide_eq_true g7,Bool.true_and,e,show(n:Int).toNat%8=n%8 by rw[Int.toNat_natCast]]
  exact this
 .
  have g7:=of_decide_eq_false g7
  refine OT.U hT 12 rfl (.nil (.seq (.ret (.of (rs:=[.tmp 4]) [_] hs rfl (.tmp rfl .nil) sl ?_))))
  try dsimp only[one]
  exact⟨congrArg Value.bool (by unfold hasB;rw[decide_eq_false g7];rfl),rfl⟩
end Go.Proofs.YtihpkgmfkbkffaaGreat.Sx
end
section
namespace Go.Proofs.YtihpkgmfkbkffaaGreat.Sx
open Go Go.Sx Go.Pl
variable[aq]
set_option maxHeartbeats 1000000 in
set_option maxRecDepth 100000 in
theorem m4{P:Value}{I:Chunk->Prop}{E:Int->Chunk->Prop}{pg:Int->Int×List UInt8}{H:Chunk}{r:List Chunk}(hP:nC Tryz.prog 5 P I E pg)(hI:I H):ax Tryz.prog 157 [P] (H::r) (fun v' hs'=>∃H' K w e bs,hs'=H'::K::r/\v'= .tuple ⟨[w,.int .i64 e]⟩/\Own Go.Sx.bD 1 5 w bs K/\DL I E (aX (pg 1)) e bs H'):=by
 refine ax.enter 22 Tryz.func157 rfl Tryz.ntmps157 rfl ?_
 obtain⟨ti,ui,rfl⟩:=hP.iface
 refine TT.seq (.region (.U hT 2 rfl (.nil (.seq (.seq (.seq (.region (.U hT 2 rfl (.nil (.seq (.cond_false rfl (.skip (.seq (.seq (.region (.U hT 1 rfl (.F_ hP rfl rfl rfl rfl pl hI (by omega) (by omega) (fun vA My VO Qn Nk AF H_=> ?_))))))))))))))))))
 obtain⟨W4,c_,rfl⟩:=(AF.row (hs:=[])).len
 refine OT.U hT 5 rfl (.nil (.seq (.seq (.block (.seq (.region (.U hT 3 rfl (.nil (.seq (.cond rfl (fun gm=> ?_) (fun gm=> ?_)))))))))))
 .
  have gm:=bne_iff_ne.1 gm
  rcases H_ with⟨h,_⟩|⟨h,rfl,hq⟩
  . exact absurd h gm
  refine TT.seq (.region (.U hT 3 rfl (.nil (.seq (.ret (.of (rs:=[.tmp 2,.tmp 3]) [_,_] (vA::[]::r) rfl (.tmp rfl (.tmp rfl .nil)) sl ?_))))))
  try dsimp only[one]
  refine⟨vA,[],_,Qn,[],rfl,rfl,Own.nil,.inr ⟨gm,rfl,?_⟩⟩
  rcases hq with⟨h1,h2⟩|h2
  . exact .inl ⟨by unfold aX;rw[if_pos (by rw[h1];exact gm)];exact h1,h2⟩
  . exact .inr h2
 .
  have gm:=bne_eq_false_iff_eq.1 gm
  rcases H_ with⟨rfl,hx,fS⟩|⟨h,_⟩
  rotate_left
  . exact absurd gm h
  refine TT.seq (.region (.U hT 4 rfl (.nil (.seq (.cond rfl (fun fC=> ?_) (fun fC=> ?_))))))
  .
   have fC:=bne_iff_ne.1 fC
   refine TT.seq (.region (.U hT 2 rfl (.nil (.seq (.ret (.of (rs:=[.tmp 2,.tmp 3]) [_,_] (vA::[]::r) rfl (.tmp rfl (.tmp rfl .nil)) sl ?_))))))
   try dsimp only[one]
   refine⟨vA,[],_,1,[],rfl,rfl,Own.nil,.inr ⟨by decide,rfl,.inl ⟨?_,fS⟩⟩⟩
   unfold aX
   rw[hx,if_neg (by simp),if_pos (by dsimp only;omega)]
  .
   have fC:=bne_eq_false_iff_eq.1 fC
   refine TT.skip (.blk (.seq (.seq (.region (.U hT 3 rfl (.nil (.seq (.ret (.of (rs:=[.tmp 2,.tmp 3]) [_,_] (vA::My::r) rfl (.tmp rfl (.tmp rfl .nil)) sl ?_)))))))))
   try dsimp only[one]
   refine⟨vA,My,_,0,Nk,rfl,rfl,AF,.inl ⟨rfl,?_,fS⟩⟩
   unfold aX
   rw[hx,if_neg (by simp),if_neg (by dsimp only;omega)]
omit [aq] in
def Nl(I:Chunk->Prop)(E:Int->Chunk->Prop)(x:Int×List UInt8)(no:Int)(b:Bool)(e:Int)(H:Chunk):Prop:=(e=0/\(aX x).1=0/\b=hasB (aX x).2 no/\I H)\/(e≠0/\b=false/\((aX x).1=e/\I H\/E e H))
omit [aq] in
theorem tY{x:Int×List UInt8}{bs:List UInt8}(h:aX x=(0,bs)):bs.length=256:=by
 unfold aX at h
 split at h
 . rename_i h1;exact absurd (congrArg Prod.fst h) h1
 . split at h
   . exact absurd (congrArg Prod.fst h) (by simp)
   . rename_i h2;rw[h]at h2;exact Decidable.byContradiction h2
set_option maxHeartbeats 1000000 in
set_option maxRecDepth 100000 in
theorem Ab{P:Value}{I:Chunk->Prop}{E:Int->Chunk->Prop}{pg:Int->Int×List UInt8}{H:Chunk}{r:List Chunk}(hP:nC Tryz.prog 5 P I E pg)(hI:I H){no:Int}:ax Tryz.prog 117 [P,.int .i64 no] (H::r) (fun v' hs'=>∃H' b e,hs'=H'::r/\v'= .tuple ⟨[.bool b,.int .i64 e]⟩/\Nl I E (pg 1) no b e H'):=by
 refine ax.enter 19 Tryz.func117 rfl Tryz.ntmps117 rfl ?_
 refine TT.seq (.region (.U hT 2 rfl (.nil (.seq (.seq (.region (.U hT 1 rfl (.call Tryz.call157 rfl rfl rfl rfl (m4 hP hI) ?_))))))))
 rintro oG jX ⟨H1,K1,w1,e1,oP,rfl,rfl,dU,m_⟩
 refine OT.U hT 5 rfl (.nil (.seq (.seq (.seq (.region (.U hT 2 rfl (.nil (.seq (.cond rfl (fun j8=> ?_) (fun j8=> ?_))))))))))
 .
  have j8:=bne_iff_ne.1 j8
  rcases m_ with⟨h,_⟩|⟨h,rfl,hq⟩
  . exact absurd h j8
  refine TT.seq (.region (.U hT 3 rfl (.nil (.seq (.ret (.of (rs:=[.tmp 4,.tmp 5]) [_,_] (H1::r) rfl (.tmp rfl (.tmp rfl .nil)) sl ?_))))))
  try dsimp only[one]
  exact⟨H1,false,e1,rfl,rfl,.inr ⟨j8,rfl,hq⟩⟩
 .
  have j8:=bne_eq_false_iff_eq.1 j8
  rcases m_ with⟨rfl,hx,fS⟩|⟨h,_⟩
  rotate_left
  . exact absurd j8 h
  refine TT.skip (.seq (.seq (.region (.U hT 2 rfl (.call Tryz.call158 rfl rfl rfl rfl (o_ (dU.row.there) (tY hx)) ?_)))))
  rintro Dm AG ⟨rfl,rfl⟩
  refine OT.U hT 2 rfl (.nil (.seq (.ret (.of (rs:=[.tmp 4,.tmp 5]) [_,_] (H1::r) rfl (.tmp rfl (.tmp rfl .nil)) sl ?_))))
  try dsimp only[one]
  exact⟨H1,_,0,rfl,rfl,.inl ⟨rfl,by rw[hx],by rw[hx],fS⟩⟩
end Go.Proofs.YtihpkgmfkbkffaaGreat.Sx
end
section
namespace Go.Proofs.YtihpkgmfkbkffaaGreat.Sx
open Go Go.Sx Go.Pl
variable[aq]
set_option maxHeartbeats 1000000 in
set_option maxRecDepth 100000 in
theorem CD{b:Nat}{Q:ah}{H:Chunk}{r:List Chunk}(hB:iN 30 b Q H){no:Int}:ax Tryz.prog 235 [.pointer (some ⟨b,0,none⟩),.int .i64 no] (H::r) (fun v' hs'=>∃K w,hs'=H::K::r/\v'= .tuple ⟨[w,.int .i64 (aI Q no).1]⟩/\Own Go.Sx.bD 1 5 w (aI Q no).2 K):=by
 refine ax.enter 40 Tryz.func235 rfl Tryz.ntmps235 rfl ?_
 obtain⟨vs,G,hS,rfl⟩:=hB.is
 refine TT.split (.seq (.region (.U hT 2 rfl (.nil (.seq (.seq (.seq (.region (.U hT 3 rfl (.split 8 rfl (fun g8=> ?_) (fun g8=> ?_)))))))))))
 .
  have g8:=of_decide_eq_true g8
  refine OT.U hT 3 rfl (.nil (.seq (.cond_true rfl (.seq (.region (.U hT 2 rfl (.nil (.seq (.ret (.of (rs:=[.tmp 4,.tmp 5]) [_,_] (([(b,blk (cE vs) 30 (0,0))]++G)::[]::r) rfl (.tmp rfl (.tmp rfl .nil)) sl ?_))))))))))
  try dsimp only[one]
  exact⟨[],_,rfl,by unfold aI;rw[if_neg (by unfold aF;omega)],by unfold aI;rw[if_neg (by unfold aF;omega)];exact Own.nil⟩
 .
  have g8:=of_decide_eq_false g8
  refine OT.U hT 3 rfl (.nil (.seq (.cond rfl (fun sH=> ?_) (fun sH=> ?_))))
  .
   have sH:=of_decide_eq_true sH
   refine TT.seq (.region (.U hT 2 rfl (.nil (.seq (.ret (.of (rs:=[.tmp 4,.tmp 5]) [_,_] (([(b,blk (cE vs) 30 (0,0))]++G)::[]::r) rfl (.tmp rfl (.tmp rfl .nil)) sl ?_))))))
   try dsimp only[one]
   exact⟨[],_,rfl,by unfold aI;rw[if_neg (by unfold aF;omega)],by unfold aI;rw[if_neg (by unfold aF;omega)];exact Own.nil⟩
  .
   have sH:=of_decide_eq_false sH
   obtain⟨n,rfl⟩:∃n:Nat,no=n:=⟨no.toNat,by omega⟩
   have hm:aF (n:Nat):=by unfold aF;omega
   obtain⟨v,hv,LV⟩:=hS.at_ n (by omega)
   have C6:aI Q (n:Nat)=(0,Q (n:Nat)):=by unfold aI;rw[if_pos hm]
   have hlen:=LV.len
   obtain⟨sp,sn,sc,rfl,UK,UL⟩:=LV.slice
   refine TT.skip (.seq (.seq (.seq (.region (.U hT 3 rfl (.load rfl rfl (Ld.one hT rfl hz (J_ hS.len)) rfl ?_))))))
   refine OT.U hT 2 rfl (.U hT 7 rfl (.nil (.seq (.cond_false rfl (.skip (.seq (.seq (.seq (.region (.U hT 4 rfl (.rj hT rfl rfl rfl rfl (by omega) (by omega) rfl (.load rfl rfl (Ld.slc hT rfl hz (HQ hS.len hv (by omega))) rfl ?_))))))))))))
   refine OT.U hT 1 rfl (.nil (.seq (.cond rfl (fun fF=> ?_) (fun fF=> ?_))))
   .
    have UM:=UK fF
    refine TT.seq (.region ?_)
    refine OT.make (enc:=Go.Sx.bD) (z0:=(0:UInt8)) (n:=256) lq Tryz.zeroValue5 rfl rfl rfl rfl rfl (by omega) rfl (fun Mz Qo Nm=> ?_)
    refine OT.U hT 2 rfl (.nil (.seq (.ret (.of (rs:=[.tmp 4,.tmp 5]) [_,_] (([(b,blk (cE vs) 30 (0,0))]++G)::Qo::r) rfl (.tmp rfl (.tmp rfl .nil)) sl ?_))))
    try dsimp only[one]
    rw[C6]
    exact⟨_,_,rfl,rfl,by rw[UM];exact Nm⟩
   .
    have hrow:=UL fF
    refine TT.skip (.seq (.seq (.region (.U hT 4 rfl (.rj hT rfl rfl rfl rfl (by omega) (by omega) rfl (.load rfl rfl (Ld.slc hT rfl hz (HQ hS.len hv (by omega))) rfl ?_))))))
    refine OT.iG ?_
    refine OT.append hT lq rfl rfl rfl rfl pl (Own.nil (enc:=Go.Sx.bD) (sz:=1) (e:=5)) (hrow.mono fun b o hb=> .there (.there (mD hb))) (J0 _) (by simp only[List.length_nil];omega) rfl (fun vB MA v7=> ?_)
    refine OT.U hT 2 rfl (.nil (.seq (.ret (.of (rs:=[.tmp 4,.tmp 5]) [_,_] (([(b,blk (cE vs) 30 (0,0))]++G)::MA::r) rfl (.tmp rfl (.tmp rfl .nil)) sl ?_))))
    try dsimp only[one]
    rw[C6]
    exact⟨_,_,rfl,rfl,by rw[List.nil_append]at v7;exact v7⟩
theorem CE{b:Nat}{Q:ah}{I:Chunk->Prop}(hI:∀H,I H->iN 30 b Q H):nC Tryz.prog 5 (.iface 26 (.pointer (some ⟨b,0,none⟩))) I (fun _ _=>False) (aI Q):=
 ⟨26,_,235,_,rfl,fun w=>by kernel_rfl,Tryz.call235,fun no H r _ _ hB=>(CD (hI H hB)).mono fun v' hs' ⟨K,w,h1,h2,h3⟩=>⟨H,K,w,_,_,h1,h2,h3,by
  by_cases hm:aF no
  . exact .inl ⟨by unfold aI;rw[if_pos hm],by unfold aI;rw[if_pos hm],hB⟩
  . exact .inr ⟨by unfold aI;rw[if_neg hm];decide,by unfold aI;rw[if_neg hm],.inl ⟨rfl,hB⟩⟩⟩⟩
theorem Fm{b:Nat}{Q:ah}:nC Tryz.prog 5 (.iface 26 (.pointer (some ⟨b,0,none⟩))) (iN 30 b Q) (fun _ _=>False) (aI Q):=CE fun _ h=>h
end Go.Proofs.YtihpkgmfkbkffaaGreat.Sx
end
section
namespace Go.Proofs.YtihpkgmfkbkffaaGreat.Sx
open Go Go.Sx Go.Pl
variable[aq]
omit [aq] in
theorem qP(b:Nat)(w:World):(callFunc 91 #[.float .f64 b]).run Tryz.prog w= .ok (.value (.int .u64 (b:Nat))) w:=by kernel_rfl
omit [aq] in
theorem q9(b:Nat)(w:World):(callFunc 114 #[.int .u64 (b:Nat)]).run Tryz.prog w= .ok (.value (.float .f64 b)) w:=by kernel_rfl
set_option maxHeartbeats 1000000 in
set_option maxRecDepth 100000 in
theorem Bl{u:Nat}{hs:List Chunk}:ax Tryz.prog 131 [.float .f64 u] hs (fun v' hs'=>v'= .bool (jZ u)/\hs=hs'):=by
 refine ax.enter 6 Tryz.func131 rfl Tryz.ntmps131 rfl ?_
 refine TT.seq (.region (.U hT 1 rfl (.nil (.seq (.seq (.region (.U hT 2 rfl (.M4 rfl rfl rfl rfl (.U hT 1 rfl (.nil (.seq (.ret (.of (rs:=[.tmp 2]) [_] hs rfl (.tmp rfl .nil) sl ?_)))))))))))))
 try dsimp only[one]
 exact⟨rfl,rfl⟩
set_option maxHeartbeats 1000000 in
set_option maxRecDepth 100000 in
theorem Nn{hs:List Chunk}:ax Tryz.prog 216 [] hs (fun v' hs'=>v'= .float .f64 9221120237041090561/\hs=hs'):=by
 refine ax.enter 2 Tryz.func216 rfl Tryz.ntmps216 rfl ?_
 refine TT.seq (.region (.U hT 1 rfl (.nil (.seq (.seq (.region (.extern (q9 _) rfl rfl rfl rfl (.U hT 1 rfl (.nil (.seq (.ret (.of (rs:=[.tmp 0]) [_] hs rfl (.tmp rfl .nil) sl ?_))))))))))))
 try dsimp only[one]
 exact⟨rfl,rfl⟩
set_option maxHeartbeats 1000000 in
set_option maxRecDepth 100000 in
theorem xo{u:Nat}{hs:List Chunk}:ax Tryz.prog 92 [.float .f64 u] hs (fun v' hs'=>v'= .float .f64 (ju u)/\hs=hs'):=by
 refine ax.enter 7 Tryz.func92 rfl Tryz.ntmps92 rfl ?_
 refine TT.seq (.region (.U hT 1 rfl (.nil (.seq (.seq (.seq (.region (.U hT 1 rfl (.call Tryz.call131 rfl rfl rfl rfl (Bl) ?_)))))))))
 rintro O_ Jx ⟨rfl,rfl⟩
 refine OT.nil (.seq (.cond rfl (fun c4=> ?_) (fun c4=> ?_)))
 .
  refine TT.seq (.region (.extern (q9 _) rfl rfl rfl rfl (.U hT 1 rfl (.nil (.seq (.ret (.of (rs:=[.tmp 2]) [_] hs rfl (.tmp rfl .nil) sl ?_)))))))
  try dsimp only[one]
  exact⟨by unfold ju;rw[c4];rfl,rfl⟩
 .
  refine TT.skip (.seq (.seq (.region (.U hT 2 rfl (.nil (.seq (.ret (.of (rs:=[.tmp 2]) [_] hs rfl (.tmp rfl .nil) sl ?_))))))))
  try dsimp only[one]
  exact⟨by unfold ju;rw[c4];rfl,rfl⟩
set_option maxHeartbeats 1000000 in
set_option maxRecDepth 100000 in
theorem rJ{u:Nat}(hu:u<2^64){hs:List Chunk}:ax Tryz.prog 217 [.float .f64 u] hs (fun v' hs'=>v'= .int .u64 (bT u:Nat)/\hs=hs'):=by
 refine ax.enter 17 Tryz.func217 rfl Tryz.ntmps217 rfl ?_
 refine TT.seq (.region (.U hT 1 rfl (.nil (.seq (.seq (.region (.U hT 1 rfl (.extern (qP _) rfl rfl rfl rfl (.U hT 1 rfl (.nil (.seq (.seq (.block (.seq (.region (.U hT 1 rfl (.call Tryz.call131 rfl rfl rfl rfl (Bl) ?_)))))))))))))))))
 rintro C_ qI ⟨rfl,rfl⟩
 refine OT.U hT 1 rfl (.nil (.seq (.cond rfl (fun c6=> ?_) (fun c6=> ?_))))
 .
  refine TT.seq (.region (.U hT 1 rfl (.nil (.seq (.ret (.of (rs:=[.tmp 2]) [_] hs rfl (.tmp rfl .nil) sl ?_))))))
  try dsimp only[one]
  exact⟨by unfold bT;rw[c6];rfl,rfl⟩
 .
  refine TT.seq (.region (.U hT 4 rfl (.nil (.seq (.cond rfl (fun c9=> ?_) (fun c9=> ?_))))))
  .
   have c9:=bne_iff_ne.1 c9
   refine TT.seq (.region (.U hT 3 rfl (.nil (.seq (.ret (.of (rs:=[.tmp 2]) [_] hs rfl (.tmp rfl .nil) sl ?_))))))
   try dsimp only[one]
   refine⟨int_eq ?_,rfl⟩
   rw[Ay hu]at c9
   have h63:2^63<=u:=Decidable.byContradiction fun h=>c9 (if_neg h)
   rw[DM _ (by omega) (by omega)]
   unfold bT;rw[c6,if_neg (by simp),if_pos h63];omega
  .
   have c9:=bne_eq_false_iff_eq.1 c9
   refine TT.skip (.blk (.seq (.seq (.region (.U hT 3 rfl (.nil (.seq (.ret (.of (rs:=[.tmp 2]) [_] hs rfl (.tmp rfl .nil) sl ?_)))))))))
   try dsimp only[one]
   refine⟨int_eq ?_,rfl⟩
   unfold bT;rw[c6,if_neg (by simp)]
   rw[Ay hu]at c9
   have h63:¬2^63<=u:=fun h=>by rw[if_pos h]at c9;cases c9
   rw[if_neg h63,P4 (by omega)]
set_option maxHeartbeats 1000000 in
set_option maxRecDepth 100000 in
theorem Fo{u:Nat}(hu:u<2^64){hs:List Chunk}:ax Tryz.prog 218 [.float .f64 u] hs (fun v' hs'=>∃K,hs'=K::hs/\Own Go.Sx.bD 1 5 v' (fL u) K):=by
 refine ax.enter 22 Tryz.func218 rfl Tryz.ntmps218 rfl ?_
 refine TT.seq (.region (.U hT 1 rfl (.nil (.seq (.seq (.region (.U hT 1 rfl (.call Tryz.call217 rfl rfl rfl rfl (rJ hu) ?_))))))))
 rintro C9 sG ⟨rfl,rfl⟩
 refine OT.U hT 1 rfl (.nil (.seq (.seq (.region (.U hT 1 rfl (.nil (.seq (.seq (.seq (.region (.U hT 1 rfl (.nil (.seq (.block (.iG (.loop (ι:=Nat×Value×Chunk) (fun j=>(j.1)<=8/\Own Go.Sx.bD 1 5 (j.2.1) (BA (bT u) (j.1)) (j.2.2)) (fun j=>8-(j.1)) (fun j=>[(3,.int .u64 (bT u:Nat)),(4,(j.2.1)),(8,.int .i64 ((j.1):Nat))]) (fun j=>(j.2.2)::hs) (0,.slice none 0 0,[]) ?_ (aa.cons rfl (aa.cons rfl (aa.cons rfl (aa.nil _)))) sl ?_))))))))))))))))
 . dsimp only
   exact⟨by omega,Own.nil⟩
 rintro⟨i,w,K⟩ hI
 dsimp only at hI
 obtain⟨hi,ho⟩:=hI
 show TT _ _ _ [(3,.int .u64 (bT u:Nat)),(4,w),(8,.int .i64 (i:Nat))] (K::hs)
 have W5:=EW (bT u) i
 refine TT.seq (.region (.U hT 1 rfl (.nil (.seq (.seq (.cond rfl (fun c9=> ?_) (fun c9=> ?_)))))))
 .
  have c9:=of_decide_eq_true c9
  refine TT.skip (.seq (.seq (.block (.seq (.region (.U hT 2 rfl (.nil (.seq (.region (.U hT 5 rfl (.eH 15 rfl (v:= .int .i64 ((8*(7-i):Nat):Int)) (int_eq (by rw[wrap_i64 (n:=7-(i:Int)) (by omega) (by omega),wrap_i64 (by omega) (by omega)];omega)) (.shr hT rfl rfl rfl (by omega) rfl (.U hT 1 rfl ?_)))))))))))))
  refine OT.buildSlice (enc:=Go.Sx.bD) (xs:=[UInt8.ofNat (bT u/256^(7-i)%256)]) (ij:=[.tmp 17]) lq rfl rfl rfl rfl (by rw[GC (by omega)];rfl) (by simp[Value.cells]) (fun _ _=>rfl) rfl (by decide) rfl (fun Dm VP Np=> ?_)
  refine OT.append hT lq rfl rfl rfl rfl pl ho Np.row rfl (by simp only[List.length_cons,List.length_nil];omega) rfl (fun uf vC nA=> ?_)
  refine OT.U hT 1 rfl (.nil (.blk (.seq (.region (.U hT 2 rfl (.nil (.loop (i+1,uf,vC) ?_ ?_ (aa.cons rfl (aa.cons rfl (aa.aD rfl (by(try dsimp only);exact(int_eq (by rw[wrap_i64 (by omega) (by omega)];omega))) (aa.nil _)))) sl)))))))
  . dsimp only
    exact⟨by omega,by rw[B8];exact nA⟩
  . dsimp only
    omega
 .
  have c9:=of_decide_eq_false c9
  obtain rfl:i=8:=by omega
  refine TT.exit (.seq (.loop (.here (.seq (.seq (.region (.U hT 2 rfl (.nil (.seq (.ret (.of (rs:=[.tmp 2]) [_] (K::hs) rfl (.tmp rfl .nil) sl ?_)))))))))))
  try dsimp only[one]
  exact⟨K,rfl,ho⟩
set_option maxHeartbeats 1000000 in
set_option maxRecDepth 100000 in
theorem Nq{v:Value}{xs:List UInt8}{hs:List Chunk}(hr:Row Go.Sx.bD 1 hs v xs):ax Tryz.prog 210 [v] hs (fun v' hs'=>v'=(.tuple ⟨[.float .f64 (sR xs).1,.bool (sR xs).2]⟩)/\hs=hs'):=by
 refine ax.enter 43 Tryz.func210 rfl Tryz.ntmps210 rfl ?_
 obtain⟨a0,c0,hv⟩:=hr.len
 subst hv
 refine TT.seq (.region (.U hT 2 rfl (.nil (.seq (.seq (.seq (.region (.U hT 3 rfl (.nil (.seq (.cond rfl (fun c_=> ?_) (fun c_=> ?_))))))))))))
 .
  have c_:=bne_iff_ne.1 c_
  refine TT.seq (.region (.U hT 2 rfl (.nil (.seq (.ret (.of (rs:=[.tmp 2,.tmp 3]) [_,_] hs rfl (.tmp rfl (.tmp rfl .nil)) sl ?_))))))
  try dsimp only[one]
  refine⟨?_,rfl⟩
  unfold sR;rw[if_pos (by omega)]
 .
  have c_:=bne_eq_false_iff_eq.1 c_
  have RR:xs.length=8:=by omega
  refine TT.skip (.seq (.seq (.region (.U hT 1 rfl (.nil (.seq (.seq (.seq (.region (.U hT 3 rfl (.nil (.seq (.block (.loop (ι:=Nat) (fun j=>(j)<=8) (fun j=>8-(j)) (fun j=>[(4,.int .u64 (mc (xs.take (j)):Nat)),(11,.slice a0 xs.length c0),(12,.int .i64 (xs.length:Nat)),(13,.int .i64 ((j):Nat))]) (fun j=>hs) (0) ?_ (aa.cons rfl (aa.cons rfl (aa.cons rfl (aa.cons rfl (aa.nil _))))) sl ?_))))))))))))))
  . omega
  rintro i hi
  show TT _ _ _ [(4,.int .u64 (mc (xs.take i):Nat)),(11,.slice a0 xs.length c0),(12,.int .i64 (xs.length:Nat)),(13,.int .i64 (i:Nat))] (hs)
  refine TT.seq (.region (.U hT 1 rfl (.nil (.seq (.seq (.cond rfl (fun j8=> ?_) (fun j8=> ?_)))))))
  .
   have j8:=of_decide_eq_true j8
   obtain⟨c,hc⟩:=nth (l:=xs) (i:=i) (by omega)
   have hlt:mc (xs.take i)<256^7:=Nat.lt_of_lt_of_le (ze _) (Nat.pow_le_pow_right (by decide) (by rw[List.length_take];omega))
   refine TT.skip (.seq (.seq (.block (.seq (.region (.index hT rfl rfl rfl rfl hr (by omega) (by rw[Int.toNat_natCast];exact hc) rfl (fun Ia q_=> ?_)))))))
   refine OT.load rfl rfl (q_.ct hT rfl rfl) rfl (.U hT 1 rfl (.nil (.seq (.region (.U hT 6 rfl (.nil (.blk (.seq (.region (.U hT 2 rfl (.nil (.loop (i+1) ?_ ?_ (aa.aD rfl (by(try dsimp only);exact(int_eq (by rw[take_succ hc,zP,P5 hlt,wrap_u64 (n:=((c.toNat:Nat):Int)) (by omega) (by have:=c.toNat_lt;omega),GF hlt]))) (aa.cons rfl (aa.cons rfl (aa.aD rfl (by(try dsimp only);exact(int_eq (by rw[wrap_i64 (by omega) (by omega)];omega))) (aa.nil _))))) sl))))))))))))
   . omega
   . omega
  .
   have j8:=of_decide_eq_false j8
   obtain rfl:i=8:=by omega
   rw[List.take_of_length_le (by omega)]
   have hu:mc xs<2^64:=by have:=ze xs;rw[RR]at this;exact this
   refine TT.exit (.seq (.loop (.here (.seq (.seq (.region (.U hT 2 rfl (.eH 24 rfl (v:= .int .u64 ((mc xs%2^63:Nat):Int)) (int_eq (GB hu)) (.extern (q9 _) rfl rfl rfl rfl (.U hT 1 rfl (.nil (.seq (.seq (.block (.seq (.region (.U hT 3 rfl (.nil (.seq (.cond rfl (fun LW=> ?_) (fun LW=> ?_)))))))))))))))))))))
   .
    have LW:=beq_iff_eq.1 LW
    have LX:mc xs=0:=by omega
    refine TT.seq (.region (.call Tryz.call216 rfl rfl rfl rfl (Nn) ?_))
    rintro qJ pH ⟨rfl,rfl⟩
    refine OT.call Tryz.call92 rfl rfl rfl rfl (xo) ?_
    rintro yF v8 ⟨rfl,rfl⟩
    refine OT.U hT 2 rfl (.nil (.seq (.ret (.of (rs:=[.tmp 2,.tmp 3]) [_,_] hs rfl (.tmp rfl (.tmp rfl .nil)) sl ?_))))
    try dsimp only[one]
    refine⟨?_,rfl⟩
    unfold sR fj
    rw[if_neg (by omega)]
    dsimp only
    rw[if_pos LX,LX]
    rfl
   .
    have LW:=beq_eq_false_iff_ne.1 LW
    have LX:¬mc xs=0:=by omega
    refine TT.seq (.region (.U hT 4 rfl (.nil (.seq (.cond rfl (fun fF=> ?_) (fun fF=> ?_))))))
    .
     have h63:mc xs<2^63:=by
      rw[Ay hu]at fF
      exact Decidable.byContradiction fun h=>by rw[if_pos (by omega)]at fF;cases fF
     have hG:sR xs=if bT (2^64-1-mc xs)=mc xs then(2^64-1-mc xs,true)else(0,false):=by
      unfold sR fj
      rw[if_neg (by omega)]
      dsimp only
      rw[if_neg LX,if_pos h63]
      by_cases h:bT (2^64-1-mc xs)=mc xs
      . rw[if_pos h,if_pos h]
      . rw[if_neg h,if_neg h]
     refine TT.region (.U hT 2 rfl (.eH 36 rfl (v:= .int .u64 ((2^64-1-mc xs:Nat):Int)) (int_eq (by rw[DM _ (by omega) (by omega)];omega)) (.extern (q9 _) rfl rfl rfl rfl (.U hT 1 rfl (.nil (.blk (.seq (.seq (.seq (.region (.U hT 1 rfl (.call Tryz.call217 rfl rfl rfl rfl (rJ (by omega)) ?_))))))))))))
     rintro vB v_ ⟨rfl,rfl⟩
     refine OT.U hT 2 rfl (.nil (.seq (.cond rfl (fun qD=> ?_) (fun qD=> ?_))))
     .
      have qD:=bne_iff_ne.1 qD
      refine TT.seq (.region (.U hT 2 rfl (.nil (.seq (.ret (.of (rs:=[.tmp 2,.tmp 3]) [_,_] hs rfl (.tmp rfl (.tmp rfl .nil)) sl ?_))))))
      try dsimp only[one]
      refine⟨?_,rfl⟩
      rw[hG,if_neg (by omega)]
     .
      have qD:=bne_eq_false_iff_eq.1 qD
      refine TT.skip (.seq (.seq (.region (.U hT 3 rfl (.nil (.seq (.ret (.of (rs:=[.tmp 2,.tmp 3]) [_,_] hs rfl (.tmp rfl (.tmp rfl .nil)) sl ?_))))))))
      try dsimp only[one]
      refine⟨?_,rfl⟩
      rw[hG,if_pos (by omega)]
    .
     have h63:¬mc xs<2^63:=by
      rw[Ay hu]at fF
      intro h;rw[if_neg (by omega)]at fF;exact absurd fF (by decide)
     have hG:sR xs=if bT (mc xs%2^63)=mc xs then(mc xs%2^63,true)else(0,false):=by
      unfold sR fj
      rw[if_neg (by omega)]
      dsimp only
      rw[if_neg LX,if_neg h63,show mc xs-2^63=mc xs%2^63 by omega]
      by_cases h:bT (mc xs%2^63)=mc xs
      . rw[if_pos h,if_pos h]
      . rw[if_neg h,if_neg h]
     refine TT.skip (.blk (.seq (.seq (.seq (.region (.U hT 1 rfl (.call Tryz.call217 rfl rfl rfl rfl (rJ (by omega)) ?_)))))))
     rintro vB v_ ⟨rfl,rfl⟩
     refine OT.U hT 2 rfl (.nil (.seq (.cond rfl (fun qD=> ?_) (fun qD=> ?_))))
     .
      have qD:=bne_iff_ne.1 qD
      refine TT.seq (.region (.U hT 2 rfl (.nil (.seq (.ret (.of (rs:=[.tmp 2,.tmp 3]) [_,_] hs rfl (.tmp rfl (.tmp rfl .nil)) sl ?_))))))
      try dsimp only[one]
      refine⟨?_,rfl⟩
      rw[hG,if_neg (by omega)]
     .
      have qD:=bne_eq_false_iff_eq.1 qD
      refine TT.skip (.seq (.seq (.region (.U hT 3 rfl (.nil (.seq (.ret (.of (rs:=[.tmp 2,.tmp 3]) [_,_] hs rfl (.tmp rfl (.tmp rfl .nil)) sl ?_))))))))
      try dsimp only[one]
      refine⟨?_,rfl⟩
      rw[hG,if_pos (by omega)]
end Go.Proofs.YtihpkgmfkbkffaaGreat.Sx
end
section
namespace Go.Proofs.YtihpkgmfkbkffaaGreat.Sx
open Go Go.Sx Go.Pl
variable[aq]
set_option maxHeartbeats 1000000 in
set_option maxRecDepth 100000 in
theorem lD{v:Value}{xs:List UInt8}{H:Chunk}{r:List Chunk}{n:Int}(ho:Own Go.Sx.bD 1 5 v xs H)(h1: -9223372036854775808<=n)(h2:n<=9223372036854775807)(hl:xs.length<=1073741824):ax Tryz.prog 76 [v,.int .i64 n] (H::r) (fun v' hs'=>∃H',hs'=H'::r/\Own Go.Sx.bD 1 5 v' (xs++put n) H'):=by
 refine ax.enter 28 Tryz.func76 rfl Tryz.ntmps76 rfl ?_
 refine TT.seq ?_
 refine TT.region ?_
 refine OT.U hT 1 rfl ?_
 refine OT.nil ?_
 refine KT.seq ?_
 refine TT.seq ?_
 refine TT.region ?_
 refine OT.U hT 4 rfl ?_
 refine OT.nil ?_
 refine KT.seq ?_
 refine TT.cut (ι:=Unit) (fun j=>True) (fun j=>[(0,v),(5,.int .u64 (ym n:Nat))]) (fun j=>H::r) ?_ ?_
 .
  refine TT.seq ?_
  refine TT.region ?_
  refine OT.U hT 2 rfl ?_
  refine OT.nil ?_
  refine KT.seq ?_
  refine TT.cond rfl (fun c_=> ?_) (fun c_=> ?_)
  .
   have c_:=of_decide_eq_true c_
   refine TT.region ?_
   refine OT.U hT 3 rfl ?_
   refine OT.nil ?_
   refine KT.cut (()) ?_ (aa.cons rfl (aa.aD rfl (by(try dsimp only);exact(by rw[EJ c_ h1,DM _ (by omega) (by omega)];refine int_eq ?_;unfold ym;rw[if_pos c_];omega)) (aa.nil _))) (by repeat(first|exact aZ.refl _|refine aZ.empty ?_|refine aZ.pull (by repeat(first|exact aO.head|apply aO.tail)) ?_|refine aZ.drop ?_))
   . trivial
  .
   have c_:=of_decide_eq_false c_
   refine TT.skip ?_
   refine KT.cut (()) ?_ (aa.cons rfl (aa.aD rfl (by(try dsimp only);exact(by rw[EI (by omega) h2])) (aa.nil _))) (by repeat(first|exact aZ.refl _|refine aZ.empty ?_|refine aZ.pull (by repeat(first|exact aO.head|apply aO.tail)) ?_|refine aZ.drop ?_))
   . trivial
 .
  rintro _-
  show TT _ _ _ [(0,v),(5,.int .u64 (ym n:Nat))] (H::r)
  refine TT.seq ?_
  refine TT.block ?_
  refine TT.loop (ι:=Nat×(List UInt8)×Value×Chunk) (fun j=>Own Go.Sx.bD 1 5 (j.2.2.1) (xs++(j.2.1)) (j.2.2.2)/\(j.2.1)++iL (j.1)=put n/\(j.1)<18446744073709551616) (fun j=>(j.1)) (fun j=>[(0,(j.2.2.1)),(5,.int .u64 ((j.1):Nat))]) (fun j=>(j.2.2.2)::r) (ym n,[],v,H) ?_ (aa.cons rfl (aa.cons rfl (aa.nil _))) (by repeat(first|exact aZ.refl _|refine aZ.empty ?_|refine aZ.pull (by repeat(first|exact aO.head|apply aO.tail)) ?_|refine aZ.drop ?_)) ?_
  . dsimp only
    exact⟨by simpa using ho,rfl,y_ h1 h2⟩
  rintro⟨u,ys,w,K⟩ hI
  dsimp only at hI
  obtain⟨hO,hp,hu⟩:=hI
  show TT _ _ _ [(0,w),(5,.int .u64 (u:Nat))] (K::r)
  have h10:ys.length+(iL u).length<=10:=by rw[<-List.length_append,hp];exact eE h1 h2
  refine TT.seq ?_
  refine TT.seq ?_
  refine TT.region ?_
  refine OT.U hT 2 rfl ?_
  refine OT.nil ?_
  refine KT.seq ?_
  refine TT.cond rfl (fun j8=> ?_) (fun j8=> ?_)
  .
   have j8:=of_decide_eq_true j8
   refine TT.skip ?_
   refine KT.seq ?_
   refine TT.block ?_
   refine TT.seq ?_
   refine TT.region ?_
   refine OT.U hT 4 rfl ?_
   refine OT.buildSlice (enc:=Go.Sx.bD) (xs:=[UInt8.ofNat (u%128+128)]) (ij:=[.tmp 18]) lq rfl rfl rfl rfl (by rw[J4];rfl) (by simp[Value.cells]) (fun _ _=>rfl) rfl (by decide) rfl (fun uf vC nA=> ?_)
   refine OT.append hT lq rfl rfl rfl rfl (by repeat(first|exact aO.head|apply aO.tail)) hO nA.row rfl (by simp;omega) rfl (fun ug Qp Nr=> ?_)
   refine OT.U hT 1 rfl ?_
   refine OT.nil ?_
   refine KT.seq ?_
   refine TT.region ?_
   refine OT.U hT 3 rfl ?_
   refine OT.nil ?_
   refine KT.blk ?_
   refine KT.loop (u/128,ys++[UInt8.ofNat (u%128+128)],ug,Qp) ?_ ?_ (aa.cons rfl (aa.aD rfl (by(try dsimp only);exact(by rw[P2])) (aa.nil _))) (by repeat(first|exact aZ.refl _|refine aZ.empty ?_|refine aZ.pull (by repeat(first|exact aO.head|apply aO.tail)) ?_|refine aZ.drop ?_))
   . dsimp only
     exact⟨by simpa using Nr,by rw[<-hp,rm (u:=u) (by omega),List.append_assoc];rfl,by omega⟩
   . dsimp only
     omega
  .
   have j8:=of_decide_eq_false j8
   refine TT.exit ?_
   refine XT.seq ?_
   refine XT.loop ?_
   refine XT.here ?_
   refine KT.seq ?_
   refine TT.seq ?_
   refine TT.region ?_
   refine OT.U hT 3 rfl ?_
   refine OT.buildSlice (enc:=Go.Sx.bD) (xs:=[UInt8.ofNat u]) (ij:=[.tmp 25]) lq rfl rfl rfl rfl (by rw[wrap_u8];rfl) (by simp[Value.cells]) (fun _ _=>rfl) rfl (by decide) rfl (fun Dn vD gM=> ?_)
   refine OT.append hT lq rfl rfl rfl rfl (by repeat(first|exact aO.head|apply aO.tail)) hO gM.row rfl (by simp;omega) rfl (fun BF Qq Ns=> ?_)
   refine OT.U hT 1 rfl ?_
   refine OT.nil ?_
   refine KT.seq ?_
   refine TT.ret ?_
   refine RT.of (rs:=[.tmp 4]) [_] (Qq::r) rfl (.tmp rfl .nil) (by repeat(first|exact aZ.refl _|refine aZ.empty ?_|refine aZ.pull (by repeat(first|exact aO.head|apply aO.tail)) ?_|refine aZ.drop ?_)) ?_
   try dsimp only[one]
   exact⟨_,rfl,by rw[<-hp,fK (u:=u) (by omega),<-List.append_assoc];exact Ns⟩
set_option maxHeartbeats 1000000 in
set_option maxRecDepth 100000 in
theorem k6{v:Value}{xs:List UInt8}{H:Chunk}{r:List Chunk}{s:ByteArray}(ho:Own Go.Sx.bD 1 5 v xs H)(hs:s.size<=1073741824)(hl:xs.length<=1073741824):ax Tryz.prog 77 [v,.string s] (H::r) (fun v' hs'=>∃H',hs'=H'::r/\Own Go.Sx.bD 1 5 v' (xs++aQ s) H'):=by
 refine ax.enter 11 Tryz.func77 rfl Tryz.ntmps77 rfl ?_
 refine TT.seq ?_
 refine TT.region ?_
 refine OT.U hT 1 rfl ?_
 refine OT.nil ?_
 refine KT.seq ?_
 refine TT.seq ?_
 refine TT.region ?_
 refine OT.U hT 3 rfl ?_
 refine OT.call Tryz.call76 rfl rfl rfl rfl (lD ho (by omega) (by omega) hl) ?_
 rintro C_ qI ⟨H1,rfl,dU⟩
 refine OT.U hT 1 rfl ?_
 refine OT.mP (fun _=>rfl) hT lq rfl rfl rfl rfl (by repeat(first|exact aO.head|apply aO.tail)) dU (by have:=eE (n:=s.size) (by omega) (by omega);have e:s.data.toList.length=s.size:=Array.length_toList;rw[List.length_append,e];omega) rfl (fun oG vA AF=> ?_)
 refine OT.U hT 1 rfl ?_
 refine OT.nil ?_
 refine KT.seq ?_
 refine TT.ret ?_
 refine RT.of (rs:=[.tmp 4]) [_] (vA::r) rfl (.tmp rfl .nil) (by repeat(first|exact aZ.refl _|refine aZ.empty ?_|refine aZ.pull (by repeat(first|exact aO.head|apply aO.tail)) ?_|refine aZ.drop ?_)) ?_
 try dsimp only[one]
 exact⟨_,rfl,by unfold aQ;rw[<-List.append_assoc];exact AF⟩
set_option maxHeartbeats 1000000 in
set_option maxRecDepth 100000 in
theorem qy{v:Value}{xs:List UInt8}{hs:List Chunk}(hr:Row Go.Sx.bD 1 hs v xs)(hl:xs.length<=1073741824):ax Tryz.prog 120 [v] hs (fun v' hs'=>v'= .tuple ⟨[.int .i64 (get xs).1,.int .i64 (get xs).2.1,.int .i64 (get xs).2.2]⟩/\hs=hs'):=by
 refine ax.enter 50 Tryz.func120 rfl Tryz.ntmps120 rfl ?_
 obtain⟨a0,c0,hv⟩:=hr.len
 subst hv
 refine TT.seq ?_
 refine TT.region ?_
 refine OT.U hT 3 rfl ?_
 refine OT.nil ?_
 refine KT.seq ?_
 refine TT.seq ?_
 refine TT.region ?_
 refine OT.U hT 1 rfl ?_
 refine OT.nil ?_
 refine KT.seq ?_
 refine TT.seq ?_
 refine TT.seq ?_
 refine TT.region ?_
 refine OT.U hT 3 rfl ?_
 refine OT.nil ?_
 refine KT.seq ?_
 refine TT.block ?_
 refine TT.loop (ι:=Nat×Nat) (fun j=>(j.1)<=9/\(j.1)<=xs.length/\(j.2)<128^(j.1)/\ir (j.1) (j.2) (xs.drop (j.1))=get xs) (fun j=>xs.length-(j.1)) (fun j=>[(5,.int .u64 ((j.2):Nat)),(9,.slice a0 xs.length c0),(10,.int .i64 xs.length),(11,.int .i64 ((j.1):Nat))]) (fun j=>hs) (0,0) ?_ (aa.cons rfl (aa.cons rfl (aa.cons rfl (aa.cons rfl (aa.nil _))))) (by repeat(first|exact aZ.refl _|refine aZ.empty ?_|refine aZ.pull (by repeat(first|exact aO.head|apply aO.tail)) ?_|refine aZ.drop ?_)) ?_
 . dsimp only
   exact⟨by omega,by omega,by simp,rfl⟩
 rintro⟨i,u⟩ hI
 dsimp only at hI
 obtain⟨h9,hi,hu,hp⟩:=hI
 show TT _ _ _ [(5,.int .u64 (u:Nat)),(9,.slice a0 xs.length c0),(10,.int .i64 xs.length),(11,.int .i64 (i:Nat))] (hs)
 refine TT.seq ?_
 refine TT.region ?_
 refine OT.U hT 1 rfl ?_
 refine OT.nil ?_
 refine KT.seq ?_
 refine TT.seq ?_
 refine TT.cond rfl (fun ew=> ?_) (fun ew=> ?_)
 .
  have ew:=of_decide_eq_true ew
  obtain⟨c,hc⟩:∃c,xs[i]? =some c:=⟨_,List.getElem?_eq_getElem (by omega)⟩
  rw[List.drop_eq_getElem_cons (by omega),show xs[i]'(by omega)=c from by rw[List.getElem?_eq_getElem (by omega)]at hc;exact Option.some.inj hc,ir]at hp
  have jq:=c.toNat_lt
  refine TT.skip ?_
  refine KT.seq ?_
  refine TT.seq ?_
  refine TT.block ?_
  refine TT.seq ?_
  refine TT.region ?_
  refine OT.U hT 1 rfl ?_
  refine OT.index hT rfl rfl rfl rfl hr (by omega) hc rfl (fun Nt zi=> ?_)
  refine OT.load rfl rfl (zi.ct hT rfl rfl) rfl ?_
  refine OT.U hT 2 rfl ?_
  refine OT.nil ?_
  refine KT.seq ?_
  refine TT.seq ?_
  refine TT.seq ?_
  refine TT.region ?_
  refine OT.U hT 3 rfl ?_
  refine OT.split 18 rfl (fun LY=> ?_) (fun LY=> ?_)
  .
   have LY:=of_decide_eq_true (LY:decide ((i:Int)=9)=true)
   refine OT.U hT 3 rfl ?_
   refine OT.nil ?_
   refine KT.seq ?_
   refine TT.cond rfl (fun ef=> ?_) (fun ef=> ?_)
   .
    have ef:=of_decide_eq_true ef
    rw[if_pos ⟨by omega,by omega⟩]at hp
    refine TT.seq ?_
    refine TT.region ?_
    refine OT.U hT 3 rfl ?_
    refine OT.nil ?_
    refine KT.seq ?_
    refine TT.ret ?_
    refine RT.of (rs:=[.tmp 2,.tmp 3,.tmp 4]) [_,_,_] hs rfl (.tmp rfl (.tmp rfl (.tmp rfl .nil))) (by repeat(first|exact aZ.refl _|refine aZ.empty ?_|refine aZ.pull (by repeat(first|exact aO.head|apply aO.tail)) ?_|refine aZ.drop ?_)) ?_
    try dsimp only[one]
    exact⟨by rw[<-hp],rfl⟩
   .
    have ef:=of_decide_eq_false ef
    have ef:¬(i=9/\1<c.toNat):=by omega
    rw[if_neg ef]at hp
    refine TT.skip ?_
    refine KT.seq ?_
    refine TT.seq ?_
    refine TT.region ?_
    refine OT.U hT 6 rfl ?_
    refine OT.shl hT rfl rfl rfl (by rw[wrap_i64 (by omega) (by omega)];omega) rfl ?_
    have ef:¬(i=9/\1<c.toNat):=by omega
    have hst:=wJ h9 hu ef
    refine OT.U hT 1 rfl ?_
    refine OT.eH 29 rfl (int_eq (by rw[A1,A3 h9 (by omega),D9 h9 hu (by omega)])) ?_
    refine OT.U hT 1 rfl ?_
    refine OT.nil ?_
    refine KT.seq ?_
    refine TT.seq ?_
    refine TT.seq ?_
    refine TT.region ?_
    refine OT.U hT 2 rfl ?_
    refine OT.nil ?_
    refine KT.seq ?_
    refine TT.cond rfl (fun fF=> ?_) (fun fF=> ?_)
    .
     have fF:=of_decide_eq_true fF
     try rw[if_neg ef]at hp
     rw[if_pos (by omega)]at hp
     refine TT.exit ?_
     refine XT.seq ?_
     refine XT.here ?_
     refine KT.seq ?_
     refine TT.region ?_
     refine OT.U hT 2 rfl ?_
     refine OT.nil ?_
     refine KT.loop (i+1,u+c.toNat%128*128^i) ?_ ?_ (aa.cons rfl (aa.cons rfl (aa.cons rfl (aa.aD rfl (by(try dsimp only);exact(int_eq (by rw[wrap_i64 (by omega) (by omega)];omega))) (aa.nil _))))) (by repeat(first|exact aZ.refl _|refine aZ.empty ?_|refine aZ.pull (by repeat(first|exact aO.head|apply aO.tail)) ?_|refine aZ.drop ?_))
     . dsimp only
       exact⟨by omega,by omega,wK hu,hp⟩
     . dsimp only
       omega
    .
     have fF:=of_decide_eq_false fF
     try rw[if_neg ef]at hp
     rw[if_neg (by omega)]at hp
     refine TT.skip ?_
     refine KT.seq ?_
     refine TT.seq ?_
     refine TT.seq ?_
     refine TT.region ?_
     refine OT.U hT 3 rfl ?_
     refine OT.split 34 rfl (fun Da=> ?_) (fun Da=> ?_)
     .
      have Da:=of_decide_eq_true Da
      refine OT.U hT 3 rfl ?_
      refine OT.nil ?_
      refine KT.seq ?_
      refine TT.cond rfl (fun kn=> ?_) (fun kn=> ?_)
      .
       have kn:=of_decide_eq_true (kn:decide ((c.toNat:Int)=0)=true)
       rw[if_pos ⟨by omega,by omega⟩]at hp
       refine TT.seq ?_
       refine TT.region ?_
       refine OT.U hT 3 rfl ?_
       refine OT.nil ?_
       refine KT.seq ?_
       refine TT.ret ?_
       refine RT.of (rs:=[.tmp 2,.tmp 3,.tmp 4]) [_,_,_] hs rfl (.tmp rfl (.tmp rfl (.tmp rfl .nil))) (by repeat(first|exact aZ.refl _|refine aZ.empty ?_|refine aZ.pull (by repeat(first|exact aO.head|apply aO.tail)) ?_|refine aZ.drop ?_)) ?_
       try dsimp only[one]
       exact⟨by rw[<-hp],rfl⟩
      .
       have kn:=of_decide_eq_false (kn:decide ((c.toNat:Int)=0)=false)
       rw[if_neg (by omega)]at hp
       refine TT.skip ?_
       refine KT.seq ?_
       refine TT.seq ?_
       refine TT.region ?_
       refine OT.U hT 2 rfl ?_
       refine OT.U hT 1 rfl ?_
       refine OT.eH 40 rfl (int_eq (jC hst)) ?_
       try rw[if_neg (by omega)]at hp
       refine OT.U hT 1 rfl ?_
       refine OT.nil ?_
       refine KT.seq ?_
       refine TT.cut (ι:=Unit) (fun j=>True) (fun j=>[(8,.int .i64 (dV (u+c.toNat%128*128^i))),(6,.int .i64 (i:Nat))]) (fun j=>hs) ?_ ?_
       .
        refine TT.seq ?_
        refine TT.region ?_
        refine OT.U hT 1 rfl ?_
        refine OT.U hT 1 rfl ?_
        refine OT.eH 42 rfl (int_eq (qp hst)) ?_
        refine OT.U hT 1 rfl ?_
        refine OT.nil ?_
        refine KT.seq ?_
        refine TT.cond rfl (fun j5=> ?_) (fun j5=> ?_)
        .
         have j5:=of_decide_eq_true (j5:decide (((u+c.toNat%128*128^i)%2:Nat)=(1:Int))=true)
         refine TT.region ?_
         refine OT.U hT 3 rfl ?_
         refine OT.nil ?_
         refine KT.cut (()) ?_ (aa.aD rfl (by(try dsimp only);exact(int_eq (by rw[uv (by omega) (by omega)];unfold dV;rw[if_pos (by omega)]))) (aa.cons rfl (aa.nil _))) (by repeat(first|exact aZ.refl _|refine aZ.empty ?_|refine aZ.pull (by repeat(first|exact aO.head|apply aO.tail)) ?_|refine aZ.drop ?_))
         . trivial
        .
         have j5:=of_decide_eq_false (j5:decide (((u+c.toNat%128*128^i)%2:Nat)=(1:Int))=false)
         refine TT.skip ?_
         refine KT.cut (()) ?_ (aa.aD rfl (by(try dsimp only);exact(int_eq (by unfold dV;rw[if_neg (by omega)]))) (aa.cons rfl (aa.nil _))) (by repeat(first|exact aZ.refl _|refine aZ.empty ?_|refine aZ.pull (by repeat(first|exact aO.head|apply aO.tail)) ?_|refine aZ.drop ?_))
         . trivial
       .
        rintro _-
        show TT _ _ _ [(8,.int .i64 (dV (u+c.toNat%128*128^i))),(6,.int .i64 (i:Nat))] (hs)
        refine TT.seq ?_
        refine TT.region ?_
        refine OT.U hT 6 rfl ?_
        refine OT.nil ?_
        refine KT.seq ?_
        refine TT.ret ?_
        refine RT.of (rs:=[.tmp 2,.tmp 3,.tmp 4]) [_,_,_] hs rfl (.tmp rfl (.tmp rfl (.tmp rfl .nil))) (by repeat(first|exact aZ.refl _|refine aZ.empty ?_|refine aZ.pull (by repeat(first|exact aO.head|apply aO.tail)) ?_|refine aZ.drop ?_)) ?_
        try dsimp only[one]
        refine⟨?_,rfl⟩
        rw[<-hp,wrap_i64 (n:=(i:Int)+1) (by omega) (by omega)]
        rfl
     .
      have Da:=of_decide_eq_false Da
      refine OT.U hT 3 rfl ?_
      refine OT.nil ?_
      refine KT.seq ?_
      refine TT.cond_false rfl ?_
      refine TT.skip ?_
      refine KT.seq ?_
      refine TT.seq ?_
      refine TT.region ?_
      refine OT.U hT 2 rfl ?_
      refine OT.U hT 1 rfl ?_
      refine OT.eH 40 rfl (int_eq (jC hst)) ?_
      try rw[if_neg (by omega)]at hp
      refine OT.U hT 1 rfl ?_
      refine OT.nil ?_
      refine KT.seq ?_
      refine TT.cut (ι:=Unit) (fun j=>True) (fun j=>[(8,.int .i64 (dV (u+c.toNat%128*128^i))),(6,.int .i64 (i:Nat))]) (fun j=>hs) ?_ ?_
      .
       refine TT.seq ?_
       refine TT.region ?_
       refine OT.U hT 1 rfl ?_
       refine OT.U hT 1 rfl ?_
       refine OT.eH 42 rfl (int_eq (qp hst)) ?_
       refine OT.U hT 1 rfl ?_
       refine OT.nil ?_
       refine KT.seq ?_
       refine TT.cond rfl (fun j5=> ?_) (fun j5=> ?_)
       .
        have j5:=of_decide_eq_true (j5:decide (((u+c.toNat%128*128^i)%2:Nat)=(1:Int))=true)
        refine TT.region ?_
        refine OT.U hT 3 rfl ?_
        refine OT.nil ?_
        refine KT.cut (()) ?_ (aa.aD rfl (by(try dsimp only);exact(int_eq (by rw[uv (by omega) (by omega)];unfold dV;rw[if_pos (by omega)]))) (aa.cons rfl (aa.nil _))) (by repeat(first|exact aZ.refl _|refine aZ.empty ?_|refine aZ.pull (by repeat(first|exact aO.head|apply aO.tail)) ?_|refine aZ.drop ?_))
        . trivial
       .
        have j5:=of_decide_eq_false (j5:decide (((u+c.toNat%128*128^i)%2:Nat)=(1:Int))=false)
        refine TT.skip ?_
        refine KT.cut (()) ?_ (aa.aD rfl (by(try dsimp only);exact(int_eq (by unfold dV;rw[if_neg (by omega)]))) (aa.cons rfl (aa.nil _))) (by repeat(first|exact aZ.refl _|refine aZ.empty ?_|refine aZ.pull (by repeat(first|exact aO.head|apply aO.tail)) ?_|refine aZ.drop ?_))
        . trivial
      .
       rintro _-
       show TT _ _ _ [(8,.int .i64 (dV (u+c.toNat%128*128^i))),(6,.int .i64 (i:Nat))] (hs)
       refine TT.seq ?_
       refine TT.region ?_
       refine OT.U hT 6 rfl ?_
       refine OT.nil ?_
       refine KT.seq ?_
       refine TT.ret ?_
       refine RT.of (rs:=[.tmp 2,.tmp 3,.tmp 4]) [_,_,_] hs rfl (.tmp rfl (.tmp rfl (.tmp rfl .nil))) (by repeat(first|exact aZ.refl _|refine aZ.empty ?_|refine aZ.pull (by repeat(first|exact aO.head|apply aO.tail)) ?_|refine aZ.drop ?_)) ?_
       try dsimp only[one]
       refine⟨?_,rfl⟩
       rw[<-hp,wrap_i64 (n:=(i:Int)+1) (by omega) (by omega)]
       rfl
  .
   have LY:=of_decide_eq_false (LY:decide ((i:Int)=9)=false)
   refine OT.U hT 3 rfl ?_
   refine OT.nil ?_
   refine KT.seq ?_
   refine TT.cond_false rfl ?_
   refine TT.skip ?_
   refine KT.seq ?_
   refine TT.seq ?_
   refine TT.region ?_
   refine OT.U hT 6 rfl ?_
   refine OT.shl hT rfl rfl rfl (by rw[wrap_i64 (by omega) (by omega)];omega) rfl ?_
   have ef:¬(i=9/\1<c.toNat):=by omega
   have hst:=wJ h9 hu ef
   refine OT.U hT 1 rfl ?_
   refine OT.eH 29 rfl (int_eq (by rw[A1,A3 h9 (by omega),D9 h9 hu (by omega)])) ?_
   refine OT.U hT 1 rfl ?_
   refine OT.nil ?_
   refine KT.seq ?_
   refine TT.seq ?_
   refine TT.seq ?_
   refine TT.region ?_
   refine OT.U hT 2 rfl ?_
   refine OT.nil ?_
   refine KT.seq ?_
   refine TT.cond rfl (fun fF=> ?_) (fun fF=> ?_)
   .
    have fF:=of_decide_eq_true fF
    try rw[if_neg ef]at hp
    rw[if_pos (by omega)]at hp
    refine TT.exit ?_
    refine XT.seq ?_
    refine XT.here ?_
    refine KT.seq ?_
    refine TT.region ?_
    refine OT.U hT 2 rfl ?_
    refine OT.nil ?_
    refine KT.loop (i+1,u+c.toNat%128*128^i) ?_ ?_ (aa.cons rfl (aa.cons rfl (aa.cons rfl (aa.aD rfl (by(try dsimp only);exact(int_eq (by rw[wrap_i64 (by omega) (by omega)];omega))) (aa.nil _))))) (by repeat(first|exact aZ.refl _|refine aZ.empty ?_|refine aZ.pull (by repeat(first|exact aO.head|apply aO.tail)) ?_|refine aZ.drop ?_))
    . dsimp only
      exact⟨by omega,by omega,wK hu,hp⟩
    . dsimp only
      omega
   .
    have fF:=of_decide_eq_false fF
    try rw[if_neg ef]at hp
    rw[if_neg (by omega)]at hp
    refine TT.skip ?_
    refine KT.seq ?_
    refine TT.seq ?_
    refine TT.seq ?_
    refine TT.region ?_
    refine OT.U hT 3 rfl ?_
    refine OT.split 34 rfl (fun Da=> ?_) (fun Da=> ?_)
    .
     have Da:=of_decide_eq_true Da
     refine OT.U hT 3 rfl ?_
     refine OT.nil ?_
     refine KT.seq ?_
     refine TT.cond rfl (fun kn=> ?_) (fun kn=> ?_)
     .
      have kn:=of_decide_eq_true (kn:decide ((c.toNat:Int)=0)=true)
      rw[if_pos ⟨by omega,by omega⟩]at hp
      refine TT.seq ?_
      refine TT.region ?_
      refine OT.U hT 3 rfl ?_
      refine OT.nil ?_
      refine KT.seq ?_
      refine TT.ret ?_
      refine RT.of (rs:=[.tmp 2,.tmp 3,.tmp 4]) [_,_,_] hs rfl (.tmp rfl (.tmp rfl (.tmp rfl .nil))) (by repeat(first|exact aZ.refl _|refine aZ.empty ?_|refine aZ.pull (by repeat(first|exact aO.head|apply aO.tail)) ?_|refine aZ.drop ?_)) ?_
      try dsimp only[one]
      exact⟨by rw[<-hp],rfl⟩
     .
      have kn:=of_decide_eq_false (kn:decide ((c.toNat:Int)=0)=false)
      rw[if_neg (by omega)]at hp
      refine TT.skip ?_
      refine KT.seq ?_
      refine TT.seq ?_
      refine TT.region ?_
      refine OT.U hT 2 rfl ?_
      refine OT.U hT 1 rfl ?_
      refine OT.eH 40 rfl (int_eq (jC hst)) ?_
      try rw[if_neg (by omega)]at hp
      refine OT.U hT 1 rfl ?_
      refine OT.nil ?_
      refine KT.seq ?_
      refine TT.cut (ι:=Unit) (fun j=>True) (fun j=>[(8,.int .i64 (dV (u+c.toNat%128*128^i))),(6,.int .i64 (i:Nat))]) (fun j=>hs) ?_ ?_
      .
       refine TT.seq ?_
       refine TT.region ?_
       refine OT.U hT 1 rfl ?_
       refine OT.U hT 1 rfl ?_
       refine OT.eH 42 rfl (int_eq (qp hst)) ?_
       refine OT.U hT 1 rfl ?_
       refine OT.nil ?_
       refine KT.seq ?_
       refine TT.cond rfl (fun j5=> ?_) (fun j5=> ?_)
       .
        have j5:=of_decide_eq_true (j5:decide (((u+c.toNat%128*128^i)%2:Nat)=(1:Int))=true)
        refine TT.region ?_
        refine OT.U hT 3 rfl ?_
        refine OT.nil ?_
        refine KT.cut (()) ?_ (aa.aD rfl (by(try dsimp only);exact(int_eq (by rw[uv (by omega) (by omega)];unfold dV;rw[if_pos (by omega)]))) (aa.cons rfl (aa.nil _))) (by repeat(first|exact aZ.refl _|refine aZ.empty ?_|refine aZ.pull (by repeat(first|exact aO.head|apply aO.tail)) ?_|refine aZ.drop ?_))
        . trivial
       .
        have j5:=of_decide_eq_false (j5:decide (((u+c.toNat%128*128^i)%2:Nat)=(1:Int))=false)
        refine TT.skip ?_
        refine KT.cut (()) ?_ (aa.aD rfl (by(try dsimp only);exact(int_eq (by unfold dV;rw[if_neg (by omega)]))) (aa.cons rfl (aa.nil _))) (by repeat(first|exact aZ.refl _|refine aZ.empty ?_|refine aZ.pull (by repeat(first|exact aO.head|apply aO.tail)) ?_|refine aZ.drop ?_))
        . trivial
      .
       rintro _-
       show TT _ _ _ [(8,.int .i64 (dV (u+c.toNat%128*128^i))),(6,.int .i64 (i:Nat))] (hs)
       refine TT.seq ?_
       refine TT.region ?_
       refine OT.U hT 6 rfl ?_
       refine OT.nil ?_
       refine KT.seq ?_
       refine TT.ret ?_
       refine RT.of (rs:=[.tmp 2,.tmp 3,.tmp 4]) [_,_,_] hs rfl (.tmp rfl (.tmp rfl (.tmp rfl .nil))) (by repeat(first|exact aZ.refl _|refine aZ.empty ?_|refine aZ.pull (by repeat(first|exact aO.head|apply aO.tail)) ?_|refine aZ.drop ?_)) ?_
       try dsimp only[one]
       refine⟨?_,rfl⟩
       rw[<-hp,wrap_i64 (n:=(i:Int)+1) (by omega) (by omega)]
       rfl
    .
     have Da:=of_decide_eq_false Da
     refine OT.U hT 3 rfl ?_
     refine OT.nil ?_
     refine KT.seq ?_
     refine TT.cond_false rfl ?_
     refine TT.skip ?_
     refine KT.seq ?_
     refine TT.seq ?_
     refine TT.region ?_
     refine OT.U hT 2 rfl ?_
     refine OT.U hT 1 rfl ?_
     refine OT.eH 40 rfl (int_eq (jC hst)) ?_
     try rw[if_neg (by omega)]at hp
     refine OT.U hT 1 rfl ?_
     refine OT.nil ?_
     refine KT.seq ?_
     refine TT.cut (ι:=Unit) (fun j=>True) (fun j=>[(8,.int .i64 (dV (u+c.toNat%128*128^i))),(6,.int .i64 (i:Nat))]) (fun j=>hs) ?_ ?_
     .
      refine TT.seq ?_
      refine TT.region ?_
      refine OT.U hT 1 rfl ?_
      refine OT.U hT 1 rfl ?_
      refine OT.eH 42 rfl (int_eq (qp hst)) ?_
      refine OT.U hT 1 rfl ?_
      refine OT.nil ?_
      refine KT.seq ?_
      refine TT.cond rfl (fun j5=> ?_) (fun j5=> ?_)
      .
       have j5:=of_decide_eq_true (j5:decide (((u+c.toNat%128*128^i)%2:Nat)=(1:Int))=true)
       refine TT.region ?_
       refine OT.U hT 3 rfl ?_
       refine OT.nil ?_
       refine KT.cut (()) ?_ (aa.aD rfl (by(try dsimp only);exact(int_eq (by rw[uv (by omega) (by omega)];unfold dV;rw[if_pos (by omega)]))) (aa.cons rfl (aa.nil _))) (by repeat(first|exact aZ.refl _|refine aZ.empty ?_|refine aZ.pull (by repeat(first|exact aO.head|apply aO.tail)) ?_|refine aZ.drop ?_))
       . trivial
      .
       have j5:=of_decide_eq_false (j5:decide (((u+c.toNat%128*128^i)%2:Nat)=(1:Int))=false)
       refine TT.skip ?_
       refine KT.cut (()) ?_ (aa.aD rfl (by(try dsimp only);exact(int_eq (by unfold dV;rw[if_neg (by omega)]))) (aa.cons rfl (aa.nil _))) (by repeat(first|exact aZ.refl _|refine aZ.empty ?_|refine aZ.pull (by repeat(first|exact aO.head|apply aO.tail)) ?_|refine aZ.drop ?_))
       . trivial
     .
      rintro _-
      show TT _ _ _ [(8,.int .i64 (dV (u+c.toNat%128*128^i))),(6,.int .i64 (i:Nat))] (hs)
      refine TT.seq ?_
      refine TT.region ?_
      refine OT.U hT 6 rfl ?_
      refine OT.nil ?_
      refine KT.seq ?_
      refine TT.ret ?_
      refine RT.of (rs:=[.tmp 2,.tmp 3,.tmp 4]) [_,_,_] hs rfl (.tmp rfl (.tmp rfl (.tmp rfl .nil))) (by repeat(first|exact aZ.refl _|refine aZ.empty ?_|refine aZ.pull (by repeat(first|exact aO.head|apply aO.tail)) ?_|refine aZ.drop ?_)) ?_
      try dsimp only[one]
      refine⟨?_,rfl⟩
      rw[<-hp,wrap_i64 (n:=(i:Int)+1) (by omega) (by omega)]
      rfl
 .
  have ew:=of_decide_eq_false ew
  rw[List.drop_eq_nil_of_le (by omega),ir]at hp
  refine TT.exit ?_
  refine XT.seq ?_
  refine XT.loop ?_
  refine XT.here ?_
  refine KT.seq ?_
  refine TT.seq ?_
  refine TT.region ?_
  refine OT.U hT 3 rfl ?_
  refine OT.nil ?_
  refine KT.seq ?_
  refine TT.ret ?_
  refine RT.of (rs:=[.tmp 2,.tmp 3,.tmp 4]) [_,_,_] hs rfl (.tmp rfl (.tmp rfl (.tmp rfl .nil))) (by repeat(first|exact aZ.refl _|refine aZ.empty ?_|refine aZ.pull (by repeat(first|exact aO.head|apply aO.tail)) ?_|refine aZ.drop ?_)) ?_
  try dsimp only[one]
  exact⟨by rw[<-hp],rfl⟩
set_option maxHeartbeats 1000000 in
set_option maxRecDepth 100000 in
theorem k7{v:Value}{xs:List UInt8}{hs:List Chunk}(hr:Row Go.Sx.bD 1 hs v xs)(hl:xs.length<=1073741824):ax Tryz.prog 160 [v] hs (fun v' hs'=>v'= .tuple ⟨[.string (bg xs).1,.int .i64 (bg xs).2.1,.int .i64 (bg xs).2.2]⟩/\hs=hs'):=by
 refine ax.enter 42 Tryz.func160 rfl Tryz.ntmps160 rfl ?_
 obtain⟨a0,c0,hv⟩:=hr.len
 subst hv
 have hk:= @pq xs
 unfold bg
 generalize hg:get xs=p at*
 obtain⟨n,kk,e⟩:=p
 dsimp only at*
 refine TT.seq ?_
 refine TT.region ?_
 refine OT.U hT 3 rfl ?_
 refine OT.nil ?_
 refine KT.seq ?_
 refine TT.seq ?_
 refine TT.region ?_
 refine OT.U hT 1 rfl ?_
 refine OT.call Tryz.call120 rfl rfl rfl rfl (qy hr hl) ?_
 rintro oG jX ⟨rfl,rfl⟩
 rw[hg]
 dsimp only
 refine OT.U hT 7 rfl ?_
 refine OT.nil ?_
 refine KT.seq ?_
 refine TT.seq ?_
 refine TT.block ?_
 refine TT.seq ?_
 refine TT.region ?_
 refine OT.U hT 3 rfl ?_
 refine OT.nil ?_
 refine KT.seq ?_
 refine TT.cond rfl (fun j8=> ?_) (fun j8=> ?_)
 .
  have j8:¬e=0:=by simpa using j8
  refine TT.seq ?_
  refine TT.region ?_
  refine OT.U hT 4 rfl ?_
  refine OT.nil ?_
  refine KT.seq ?_
  refine TT.ret ?_
  refine RT.of (rs:=[.tmp 2,.tmp 3,.tmp 4]) [_,_,_] hs rfl (.tmp rfl (.tmp rfl (.tmp rfl .nil))) (by repeat(first|exact aZ.refl _|refine aZ.empty ?_|refine aZ.pull (by repeat(first|exact aO.head|apply aO.tail)) ?_|refine aZ.drop ?_)) ?_
  try dsimp only[one]
  refine⟨?_,rfl⟩
  rw[if_pos j8]
 .
  have j8:e=0:=by simpa using j8
  have hk:=hk j8
  refine TT.seq ?_
  refine TT.region ?_
  refine OT.U hT 3 rfl ?_
  refine OT.split 21 rfl (fun mm=> ?_) (fun mm=> ?_)
  .
   have mm:=of_decide_eq_true mm
   refine OT.U hT 4 rfl ?_
   refine OT.nil ?_
   refine KT.seq ?_
   refine TT.cond_true rfl ?_
   refine TT.seq ?_
   refine TT.region ?_
   refine OT.U hT 3 rfl ?_
   refine OT.nil ?_
   refine KT.seq ?_
   refine TT.ret ?_
   refine RT.of (rs:=[.tmp 2,.tmp 3,.tmp 4]) [_,_,_] hs rfl (.tmp rfl (.tmp rfl (.tmp rfl .nil))) (by repeat(first|exact aZ.refl _|refine aZ.empty ?_|refine aZ.pull (by repeat(first|exact aO.head|apply aO.tail)) ?_|refine aZ.drop ?_)) ?_
   try dsimp only[one]
   refine⟨?_,rfl⟩
   rw[if_neg (by omega),if_pos (by omega)]
  .
   have mm:=of_decide_eq_false mm
   refine OT.U hT 4 rfl ?_
   refine OT.nil ?_
   refine KT.seq ?_
   refine TT.cond rfl (fun gw=> ?_) (fun gw=> ?_)
   .
    have gw:=of_decide_eq_true gw
    refine TT.seq ?_
    refine TT.region ?_
    refine OT.U hT 3 rfl ?_
    refine OT.nil ?_
    refine KT.seq ?_
    refine TT.ret ?_
    refine RT.of (rs:=[.tmp 2,.tmp 3,.tmp 4]) [_,_,_] hs rfl (.tmp rfl (.tmp rfl (.tmp rfl .nil))) (by repeat(first|exact aZ.refl _|refine aZ.empty ?_|refine aZ.pull (by repeat(first|exact aO.head|apply aO.tail)) ?_|refine aZ.drop ?_)) ?_
    try dsimp only[one]
    refine⟨?_,rfl⟩
    rw[if_neg (by omega),if_pos (by omega)]
   .
    have gw:=of_decide_eq_false gw
    refine TT.seq ?_
    refine TT.region ?_
    refine OT.U hT 7 rfl ?_
    refine OT.nil ?_
    refine KT.seq ?_
    refine TT.cond rfl (fun nD=> ?_) (fun nD=> ?_)
    .
     have nD:=of_decide_eq_true nD
     rw[wrap_i64 (by omega) (by omega)]at nD
     refine TT.seq ?_
     refine TT.region ?_
     refine OT.U hT 3 rfl ?_
     refine OT.nil ?_
     refine KT.seq ?_
     refine TT.ret ?_
     refine RT.of (rs:=[.tmp 2,.tmp 3,.tmp 4]) [_,_,_] hs rfl (.tmp rfl (.tmp rfl (.tmp rfl .nil))) (by repeat(first|exact aZ.refl _|refine aZ.empty ?_|refine aZ.pull (by repeat(first|exact aO.head|apply aO.tail)) ?_|refine aZ.drop ?_)) ?_
     try dsimp only[one]
     refine⟨?_,rfl⟩
     rw[if_neg (by omega),if_neg (by omega),if_pos (by omega)]
    .
     have nD:=of_decide_eq_false nD
     rw[wrap_i64 (by omega) (by omega)]at nD
     refine TT.skip ?_
     refine KT.blk ?_
     refine KT.seq ?_
     refine TT.seq ?_
     refine TT.region ?_
     refine OT.U hT 5 rfl ?_
     refine OT.slice kk.toNat (kk+n).toNat hT rfl rfl rfl rfl rfl hr (.inr ⟨.i64,by rw[Int.toNat_of_nonneg (by omega)]⟩) (.inr ⟨.i64,by rw[Int.toNat_of_nonneg (by omega),wrap_i64 (by omega) (by omega)]⟩) (by omega) (by omega) rfl (fun Jy Nu=> ?_)
     refine OT.uG (fun _=>rfl) hT rfl rfl rfl rfl rfl Nu rfl ?_
     refine OT.U hT 6 rfl ?_
     refine OT.nil ?_
     refine KT.seq ?_
     refine TT.ret ?_
     refine RT.of (rs:=[.tmp 2,.tmp 3,.tmp 4]) [_,_,_] hs rfl (.tmp rfl (.tmp rfl (.tmp rfl .nil))) (by repeat(first|exact aZ.refl _|refine aZ.empty ?_|refine aZ.pull (by repeat(first|exact aO.head|apply aO.tail)) ?_|refine aZ.drop ?_)) ?_
     try dsimp only[one]
     refine⟨?_,rfl⟩
     rw[if_neg (by omega),if_neg (by omega),if_neg (by omega),wrap_i64 (by omega) (by omega)]
set_option maxHeartbeats 1000000 in
set_option maxRecDepth 100000 in
theorem rK{s:ByteArray}{n:Nat}{hs:List Chunk}:ax Tryz.prog 25 [.string s,.int .i64 (n:Int)] hs (fun v' hs'=>v'= .string (Bz s n)/\hs=hs'):=by
 refine ax.enter 13 Tryz.func25 rfl Tryz.ntmps25 rfl ?_
 refine TT.seq ?_
 refine TT.region ?_
 refine OT.U hT 1 rfl ?_
 refine OT.nil ?_
 refine KT.seq ?_
 refine TT.seq ?_
 refine TT.seq ?_
 refine TT.region ?_
 refine OT.U hT 4 rfl ?_
 refine OT.nil ?_
 refine KT.seq ?_
 refine TT.cond rfl (fun c8=> ?_) (fun c8=> ?_)
 .
  have c8:=of_decide_eq_true c8
  refine TT.seq ?_
  refine TT.region ?_
  refine OT.U hT 2 rfl ?_
  refine OT.oS 0 n hT rfl rfl rfl rfl rfl (.inl ⟨rfl,rfl⟩) (.inr ⟨_,rfl⟩) (by omega) (by omega) rfl ?_
  refine OT.U hT 1 rfl ?_
  refine OT.nil ?_
  refine KT.seq ?_
  refine TT.ret ?_
  refine RT.of (rs:=[.tmp 4]) [_] hs rfl (.tmp rfl .nil) (by repeat(first|exact aZ.refl _|refine aZ.empty ?_|refine aZ.pull (by repeat(first|exact aO.head|apply aO.tail)) ?_|refine aZ.drop ?_)) ?_
  try dsimp only[one]
  refine⟨?_,rfl⟩
  unfold Bz
  first|rw[if_pos (by omega)]|rw[if_neg (by omega)]
 .
  have c8:=of_decide_eq_false c8
  refine TT.skip ?_
  refine KT.seq ?_
  refine TT.seq ?_
  refine TT.region ?_
  refine OT.U hT 2 rfl ?_
  refine OT.nil ?_
  refine KT.seq ?_
  refine TT.ret ?_
  refine RT.of (rs:=[.tmp 4]) [_] hs rfl (.tmp rfl .nil) (by repeat(first|exact aZ.refl _|refine aZ.empty ?_|refine aZ.pull (by repeat(first|exact aO.head|apply aO.tail)) ?_|refine aZ.drop ?_)) ?_
  try dsimp only[one]
  refine⟨?_,rfl⟩
  unfold Bz
  first|rw[if_pos (by omega)]|rw[if_neg (by omega)]
end Go.Proofs.YtihpkgmfkbkffaaGreat.Sx
end
section
namespace Go.Proofs.YtihpkgmfkbkffaaGreat.Sx
open Go Go.Sx Go.Pl
variable[aq]
set_option maxHeartbeats 1000000 in
set_option maxRecDepth 100000 in
theorem Bn{u:Nat}{hs:List Chunk}:ax Tryz.prog 90 [.float .f64 u] hs (fun v' hs'=>v'= .bool (decide (u=0))/\hs=hs'):=by
 refine ax.enter 6 Tryz.func90 rfl Tryz.ntmps90 rfl ?_
 refine TT.seq (.region (.U hT 1 rfl (.nil (.seq (.seq (.region (.U hT 1 rfl (.extern (qP _) rfl rfl rfl rfl (.U hT 2 rfl (.nil (.seq (.ret (.of (rs:=[.tmp 2]) [_] hs rfl (.tmp rfl .nil) sl ?_)))))))))))))
 try dsimp only[one]
 refine⟨congrArg Value.bool ?_,rfl⟩
 rw[Bool.eq_iff_iff,beq_iff_eq,decide_eq_true_eq]
 omega
set_option maxHeartbeats 1000000 in
set_option maxRecDepth 100000 in
theorem oL{x:Vl}{hs:List Chunk}:ax Tryz.prog 52 [.agg ⟨bA x⟩] hs (fun v' hs'=>v'= .bool (bq x)/\hs=hs'):=by
 refine ax.enter 41 Tryz.func52 rfl Tryz.ntmps52 rfl ?_
 refine TT.seq (.region (.box rfl rfl rfl (fun b_1=> ?_)))
 refine OT.U hT 1 rfl (.nil (.seq (.seq (.seq (.region (.U hT 1 rfl (.load rfl rfl (Ld.one hT rfl hz rfl) rfl ?_)))))))
 refine OT.nil (.seq (.block (.seq (.region (.U hT 2 rfl (.nil (.seq (.cond rfl (fun c5=> ?_) (fun c5=> ?_)))))))))
 .
  have c5:=beq_iff_eq.1 c5
  refine TT.seq (.region (.U hT 1 rfl (.load rfl rfl (Ld.one hT rfl hz rfl) rfl ?_)))
  refine OT.call Tryz.call90 rfl rfl rfl rfl (Bn) ?_
  rintro IW yG ⟨rfl,rfl⟩
  refine OT.U hT 1 rfl (.split 10 rfl (fun qi=> ?_) (fun qi=> ?_))
  .
   refine OT.U hT 1 rfl (.load rfl rfl (Ld.one hT rfl hz rfl) rfl ?_)
   refine OT.U hT 3 rfl (.nil (.seq (.ret (.of (rs:=[.tmp 2]) [_] hs rfl (.tmp rfl .nil) sl ?_))))
   try dsimp only[one]
   refine⟨congrArg Value.bool ?_,rfl⟩
   unfold bq
   rw[if_pos c5]
   rw[qi,Bool.true_and]
  .
   refine OT.U hT 5 rfl (.nil (.seq (.ret (.of (rs:=[.tmp 2]) [_] hs rfl (.tmp rfl .nil) sl ?_))))
   try dsimp only[one]
   refine⟨congrArg Value.bool ?_,rfl⟩
   unfold bq
   rw[if_pos c5]
   rw[qi,Bool.false_and]
 .
  have c5:=beq_eq_false_iff_ne.1 c5
  refine TT.seq (.region (.U hT 2 rfl (.nil (.seq (.cond rfl (fun oQ=> ?_) (fun oQ=> ?_))))))
  .
   have oQ:=beq_iff_eq.1 oQ
   refine TT.seq (.draw (([(b_1,blk (bA x) 36 (0,0))]::hs)) mixed (.takes (fuel:=13) hT [0] kr kr rfl (.take (fuel:=12) hT 1 rfl rfl kr kr kr rfl (.load rfl (Ld.one hT rfl hz rfl)) rfl ?_)))
   refine AT.takes (fuel:=10) hT [2,3] kr kr rfl (.split 20 rfl (fun Db=> ?_) (fun Db=> ?_))
   .
    refine AT.takes (fuel:=8) hT [4,7] kr kr rfl (.take (fuel:=7) hT 5 rfl rfl kr kr kr rfl (.load rfl (Ld.one hT rfl hz rfl)) rfl ?_)
    refine AT.take (fuel:=6) hT 8 rfl rfl kr kr kr rfl (.load rfl (Ld.one hT rfl hz rfl)) rfl ?_
    refine AT.op (fuel:=5) 6 kr rfl sl (.extern (qP _) rfl rfl rfl rfl (.nil (.any (.op (fuel:=4) 9 kr rfl sl (.call Tryz.call92 rfl rfl rfl rfl (xo) ?_)))))
    rintro Dn DP ⟨rfl,rfl⟩
    refine OT.nil (.any (.op (fuel:=3) 10 kr rfl sl (.extern (qP _) rfl rfl rfl rfl (.nil (.any (.takes (fuel:=0) hT [11,12,13] kr kr rfl (.done kr sl (.seq (.ret (.of (rs:=[.tmp 2]) [_] hs rfl (.tmp rfl .nil) sl ?_))))))))))
    try dsimp only[one]
    refine⟨congrArg Value.bool ?_,rfl⟩
    unfold bq
    rw[if_neg c5,if_pos oQ]
    rw[Db,Bool.true_and]
    rw[Bool.eq_iff_iff,beq_iff_eq,decide_eq_true_eq]
    omega
   .
    refine AT.takes (fuel:=0) hT [4,5,6,7,8,9,10,11,12,13] kr kr rfl (.done kr sl (.seq (.ret (.of (rs:=[.tmp 2]) [_] hs rfl (.tmp rfl .nil) sl ?_))))
    try dsimp only[one]
    refine⟨congrArg Value.bool ?_,rfl⟩
    unfold bq
    rw[if_neg c5,if_pos oQ]
    rw[Db,Bool.false_and]
  .
   have oQ:=beq_eq_false_iff_ne.1 oQ
   refine TT.seq (.region (.U hT 2 rfl (.nil (.seq (.cond rfl (fun iZ=> ?_) (fun iZ=> ?_))))))
   .
    have iZ:=beq_iff_eq.1 iZ
    refine TT.seq (.region (.U hT 1 rfl (.load rfl rfl (Ld.one hT rfl hz rfl) rfl ?_)))
    refine OT.call Tryz.call90 rfl rfl rfl rfl (Bn) ?_
    rintro BG we ⟨rfl,rfl⟩
    refine OT.U hT 1 rfl (.split 35 rfl (fun mo=> ?_) (fun mo=> ?_))
    .
     refine OT.U hT 1 rfl (.load rfl rfl (Ld.one hT rfl hz rfl) rfl ?_)
     refine OT.U hT 4 rfl (.nil (.seq (.ret (.of (rs:=[.tmp 2]) [_] hs rfl (.tmp rfl .nil) sl ?_))))
     try dsimp only[one]
     refine⟨congrArg Value.bool ?_,rfl⟩
     unfold bq
     rw[if_neg c5,if_neg oQ,if_pos iZ]
     rw[mo,Bool.true_and]
     exact decide_eq_decide.2 (by omega)
    .
     refine OT.U hT 6 rfl (.nil (.seq (.ret (.of (rs:=[.tmp 2]) [_] hs rfl (.tmp rfl .nil) sl ?_))))
     try dsimp only[one]
     refine⟨congrArg Value.bool ?_,rfl⟩
     unfold bq
     rw[if_neg c5,if_neg oQ,if_pos iZ]
     rw[mo,Bool.false_and]
   .
    have iZ:=beq_eq_false_iff_ne.1 iZ
    refine TT.skip (.blk (.seq (.seq (.region (.U hT 1 rfl (.nil (.seq (.ret (.of (rs:=[.tmp 2]) [_] hs rfl (.tmp rfl .nil) sl ?_)))))))))
    try dsimp only[one]
    refine⟨congrArg Value.bool ?_,rfl⟩
    unfold bq
    rw[if_neg c5,if_neg oQ,if_neg iZ]
set_option maxHeartbeats 1000000 in
set_option maxRecDepth 100000 in
theorem Ei{v:Value}{xs:List UInt8}{H:Chunk}{r:List Chunk}{x:Vl}(ho:Own Go.Sx.bD 1 5 v xs H)(hk: -9223372036854775808<=x.kind/\x.kind<=9223372036854775807)(hf:x.f<2^64)(hs:x.s.size<=1073741824)(hl:xs.length<=1000000):ax Tryz.prog 211 [v,.agg ⟨bA x⟩] (H::r) (fun v' hs'=>∃H',hs'=H'::r/\Own Go.Sx.bD 1 5 v' (xs++bV x) H'):=by
 refine ax.enter 25 Tryz.func211 rfl Tryz.ntmps211 rfl ?_
 refine TT.seq (.region (.box rfl rfl rfl (fun jt=> ?_)))
 refine OT.U hT 1 rfl (.nil (.seq (.seq (.region (.U hT 2 rfl (.load rfl rfl (Ld.one hT rfl hz rfl) rfl ?_))))))
 refine OT.call Tryz.call76 rfl rfl rfl rfl (ax.pull pl (lD ho hk.1 hk.2 (Nat.le_trans hl (by decide)))) ?_
 rintro C_ qI ⟨H1,rfl,dU⟩
 have vO:=eE hk.1 hk.2
 refine OT.U hT 1 rfl (.nil (.seq (.seq (.seq (.region (.U hT 1 rfl (.load rfl rfl (Ld.one hT rfl hz rfl) rfl ?_)))))))
 refine OT.nil (.seq (.block (.seq (.region (.U hT 2 rfl (.nil (.seq (.cond rfl (fun sH=> ?_) (fun sH=> ?_)))))))))
 .
  have sH:=beq_iff_eq.1 sH
  refine TT.seq (.region (.U hT 2 rfl (.load rfl rfl (Ld.one hT rfl hz rfl) rfl ?_)))
  refine OT.call Tryz.call218 rfl rfl rfl rfl (Fo hf) ?_
  rintro uh pI ⟨K2,rfl,oB⟩
  refine OT.append hT lq rfl rfl rfl rfl pl dU oB.row rfl (by simp only[List.length_append,dG];omega) rfl (fun BH Jz DQ=> ?_)
  refine OT.U hT 1 rfl (.nil (.seq (.ret (.of (rs:=[.tmp 4]) [_] (Jz::r) rfl (.tmp rfl .nil) sl ?_))))
  try dsimp only[one]
  exact⟨_,rfl,by unfold bV;rw[if_pos sH,<-List.append_assoc];exact DQ⟩
 .
  have sH:=beq_eq_false_iff_ne.1 sH
  refine TT.seq (.region (.U hT 2 rfl (.nil (.seq (.cond rfl (fun gw=> ?_) (fun gw=> ?_))))))
  .
   have gw:=beq_iff_eq.1 gw
   refine TT.seq (.region (.U hT 2 rfl (.load rfl rfl (Ld.one hT rfl hz rfl) rfl ?_)))
   refine OT.call Tryz.call77 rfl rfl rfl rfl (k6 dU hs (by rw[List.length_append];omega)) ?_
   rintro yH sY ⟨H3,rfl,IX⟩
   refine OT.U hT 1 rfl (.nil (.seq (.ret (.of (rs:=[.tmp 4]) [_] (H3::r) rfl (.tmp rfl .nil) sl ?_))))
   try dsimp only[one]
   exact⟨_,rfl,by unfold bV;rw[if_neg sH,if_pos gw,<-List.append_assoc];exact IX⟩
  .
   have gw:=beq_eq_false_iff_ne.1 gw
   refine TT.skip (.blk (.seq (.seq (.region (.U hT 2 rfl (.nil (.seq (.ret (.of (rs:=[.tmp 4]) [_] (H1::r) rfl (.tmp rfl .nil) sl ?_)))))))))
   try dsimp only[one]
   exact⟨_,rfl,by unfold bV;rw[if_neg sH,if_neg gw,List.append_nil];exact dU⟩
end Go.Proofs.YtihpkgmfkbkffaaGreat.Sx
end
section
namespace Go.Proofs.YtihpkgmfkbkffaaGreat.Sx
open Go Go.Sx Go.Pl
variable[aq]
set_option maxHeartbeats 2000000 in
set_option maxRecDepth 100000 in
theorem Ej{v:Value}{xs:List UInt8}{hs:List Chunk}(hr:Row Go.Sx.bD 1 hs v xs)(hl:xs.length<=1073741824):ax Tryz.prog 196 [v] hs (fun v' hs'=>v'=(.tuple ⟨[.agg ⟨bA (cj xs).1⟩,.int .i64 (cj xs).2.1,.int .i64 (cj xs).2.2]⟩)/\hs=hs'):=by
 refine ax.enter 71 Tryz.func196 rfl Tryz.ntmps196 rfl ?_
 obtain⟨a0,c0,hv⟩:=hr.len
 subst hv
 have hk:= @pq xs
 obtain⟨k,a1,e,hg⟩:∃k a e,get xs=(k,a,e):=⟨_,_,_,rfl⟩
 rw[hg]at hk
 dsimp only at hk
 refine TT.seq (.region (.alloc Tryz.zeroValue36 rfl rfl (fun b_2=> ?_)))
 refine OT.U hT 2 rfl (.nil (.seq (.seq (.region (.U hT 1 rfl (.call Tryz.call120 rfl rfl rfl rfl (qy ro hl) ?_))))))
 rintro yI DR ⟨rfl,rfl⟩
 rw[hg]
 dsimp only
 refine OT.U hT 7 rfl (.nil (.seq (.seq (.seq (.region (.U hT 2 rfl (.nil (.seq (.cond rfl (fun gw=> ?_) (fun gw=> ?_))))))))))
 .
  have gw:=bne_iff_ne.1 gw
  refine TT.seq (.region (.build (cs:=[.int .i64 0,.float .f64 0,.string ⟨#[]⟩]) hT rfl Tryz.zeroValue36 rfl rfl rfl rfl (.U hT 1 rfl (.ag hT rfl rfl rfl rfl pl rfl rfl rfl (.inl (Nat.le_refl _)) ?_))))
  refine OT.U hT 2 rfl (.nil (.seq (.ret (.of (rs:=[.cell 2 36,.tmp 3,.tmp 4]) [_,_,_] hs rfl (.cell rfl (Ld.af hT rfl hz rfl) (.tmp rfl (.tmp rfl .nil))) sl ?_))))
  try dsimp only[one]
  exact⟨by rw[s9 hg gw];rfl,rfl⟩
 .
  have gw:=bne_eq_false_iff_eq.1 gw
  obtain rfl:e=0:=by omega
  have hk:=hk rfl
  obtain⟨a,rfl⟩:∃a:Nat,a1=a:=⟨a1.toNat,by omega⟩
  refine TT.skip (.seq (.seq (.region (.U hT 1 rfl (.build (cs:=[.int .i64 k,.float .f64 0,.string ⟨#[]⟩]) hT rfl Tryz.zeroValue36 rfl rfl rfl rfl (.alloc Tryz.zeroValue36 rfl rfl (fun l8=> ?_)))))))
  refine OT.ag hT rfl rfl rfl rfl pl rfl rfl rfl (.inl (Nat.le_refl _)) ?_
  refine OT.nil (.seq (.seq (.region (.U hT 1 rfl (.nil (.seq (.seq (.seq (.region (.U hT 1 rfl (.nil (.seq (.block (.seq (.region (.U hT 2 rfl (.nil (.seq (.cond rfl (fun nD=> ?_) (fun nD=> ?_))))))))))))))))))))
  .
   have nD:=beq_iff_eq.1 nD
   subst nD
   refine TT.skip (.blk (.seq (.seq (.seq (.region (.load rfl rfl (Ld.af hT rfl hz rfl) rfl ?_))))))
   refine OT.call Tryz.call52 rfl rfl rfl rfl (oL (x:=aW)) ?_
   rintro JA Ib ⟨rfl,rfl⟩
   refine OT.U hT 1 rfl (.nil (.seq (.cond rfl (fun nE=> ?_) (fun nE=> ?_))))
   .
    exact absurd nE (by decide+kernel)
   .
    have hG:cj xs=if bq aW=true then(aW,(a:Int)+0,0)else(aW,0,1):=by rw[r3 hg,if_pos (by decide+kernel)]
    refine TT.skip (.seq (.seq (.region (.load rfl rfl (Ld.af hT rfl hz rfl) rfl ?_))))
    refine OT.U hT 3 rfl (.ag hT rfl rfl rfl rfl pl rfl rfl rfl (.inl (Nat.le_refl _)) ?_)
    refine OT.U hT 2 rfl (.nil (.seq (.ret (.of (rs:=[.cell 2 36,.tmp 3,.tmp 4]) [_,_,_] hs rfl (.cell rfl (Ld.af hT rfl hz rfl) (.tmp rfl (.tmp rfl .nil))) sl ?_))))
    try dsimp only[one]
    refine⟨?_,rfl⟩
    rw[hG,if_pos (by simpa using nE),wrap_i64 (by omega) (by omega)]
    rfl
  .
   have nD:=beq_eq_false_iff_ne.1 nD
   refine TT.seq (.region (.U hT 2 rfl (.nil (.seq (.cond rfl (fun qE=> ?_) (fun qE=> ?_))))))
   .
    have qE:=beq_iff_eq.1 qE
    subst qE
    refine TT.seq (.seq (.region (.U hT 5 rfl (.nil (.seq (.cond rfl (fun nF=> ?_) (fun nF=> ?_)))))))
    .
     have nF:=of_decide_eq_true nF
     have h8:(xs.length:Int)-a<8:=by rw[wrap_i64 (by omega) (by omega)]at nF;exact nF
     refine TT.seq (.region (.build (cs:=[.int .i64 0,.float .f64 0,.string ⟨#[]⟩]) hT rfl Tryz.zeroValue36 rfl rfl rfl rfl (.ag hT rfl rfl rfl rfl pl rfl rfl rfl (.inl (Nat.le_refl _)) ?_)))
     refine OT.U hT 2 rfl (.nil (.seq (.ret (.of (rs:=[.cell 2 36,.tmp 3,.tmp 4]) [_,_,_] hs rfl (.cell rfl (Ld.af hT rfl hz rfl) (.tmp rfl (.tmp rfl .nil))) sl ?_))))
     try dsimp only[one]
     exact⟨by rw[p_ hg h8];rfl,rfl⟩
    .
     have nF:=of_decide_eq_false nF
     have h8:¬(xs.length:Int)-a<8:=by rw[wrap_i64 (by omega) (by omega)]at nF;exact nF
     have RR:((xs.drop a).take 8).length=8:=by rw[List.length_take,List.length_drop];omega
     refine TT.skip (.seq (.seq (.region (.U hT 1 rfl (.nil (.seq (.seq (.seq (.region (.U hT 4 rfl (.slice a (a+8) hT rfl rfl rfl rfl rfl (hr.there.there) (.inr ⟨.i64,rfl⟩) (.inr ⟨.i64,by rw[wrap_i64 (by omega) (by omega)];rfl⟩) (by omega) (by omega) rfl (fun Gd Ic=> ?_))))))))))))
     rw[show(xs.take (a+8)).drop a=(xs.drop a).take 8 by rw[List.drop_take,Nat.add_sub_cancel_left]]at Ic
     refine OT.call Tryz.call210 rfl rfl rfl rfl (Nq Ic) ?_
     rintro JB DS ⟨rfl,rfl⟩
     refine OT.U hT 4 rfl (.store hT rfl rfl rfl rfl pl rfl (by show 0+1+1<=3;omega) rfl (.inl (Nat.le_refl _)) (show splice [.int .i64 1,.float .f64 0,.string ⟨#[]⟩] (0+1) [.float .f64 (sR ((xs.drop a).take 8)).1]=[.int .i64 1,.float .f64 (sR ((xs.drop a).take 8)).1,.string ⟨#[]⟩]from rfl) ?_)
     refine OT.U hT 1 rfl (.nil (.seq (.seq (.region (.U hT 2 rfl (.nil (.seq (.cond rfl (fun oC=> ?_) (fun oC=> ?_)))))))))
     .
      have oC:¬(sR ((xs.drop a).take 8)).2=true:=by simpa using oC
      refine TT.seq (.region (.build (cs:=[.int .i64 0,.float .f64 0,.string ⟨#[]⟩]) hT rfl Tryz.zeroValue36 rfl rfl rfl rfl (.ag hT rfl rfl rfl rfl pl rfl rfl rfl (.inl (Nat.le_refl _)) ?_)))
      refine OT.U hT 2 rfl (.nil (.seq (.ret (.of (rs:=[.cell 2 36,.tmp 3,.tmp 4]) [_,_,_] hs rfl (.cell rfl (Ld.af hT rfl hz rfl) (.tmp rfl (.tmp rfl .nil))) sl ?_))))
      try dsimp only[one]
      exact⟨by rw[kU hg h8,if_neg oC];rfl,rfl⟩
     .
      have oC:(sR ((xs.drop a).take 8)).2=true:=by simpa using oC
      have hG:cj xs=if bq ⟨1,(sR ((xs.drop a).take 8)).1,⟨#[]⟩⟩=true then(⟨1,(sR ((xs.drop a).take 8)).1,⟨#[]⟩⟩,(a:Int)+8,0)else(aW,0,1):=by rw[kU hg h8,if_pos oC]
      refine TT.skip (.seq (.region (.U hT 1 rfl (.nil (.blk (.seq (.seq (.seq (.region (.load rfl rfl (Ld.af hT rfl hz rfl) rfl ?_))))))))))
      refine OT.call Tryz.call52 rfl rfl rfl rfl (oL (x:=⟨1,(sR ((xs.drop a).take 8)).1,⟨#[]⟩⟩)) ?_
      rintro JA Ib ⟨rfl,rfl⟩
      refine OT.U hT 1 rfl (.nil (.seq (.cond rfl (fun nE=> ?_) (fun nE=> ?_))))
      .
       refine TT.seq (.region (.build (cs:=[.int .i64 0,.float .f64 0,.string ⟨#[]⟩]) hT rfl Tryz.zeroValue36 rfl rfl rfl rfl (.ag hT rfl rfl rfl rfl pl rfl rfl rfl (.inl (Nat.le_refl _)) ?_)))
       refine OT.U hT 2 rfl (.nil (.seq (.ret (.of (rs:=[.cell 2 36,.tmp 3,.tmp 4]) [_,_,_] hs rfl (.cell rfl (Ld.af hT rfl hz rfl) (.tmp rfl (.tmp rfl .nil))) sl ?_))))
       try dsimp only[one]
       exact⟨by rw[hG,if_neg (by simpa using nE)];rfl,rfl⟩
      .
       refine TT.skip (.seq (.seq (.region (.load rfl rfl (Ld.af hT rfl hz rfl) rfl ?_))))
       refine OT.U hT 3 rfl (.ag hT rfl rfl rfl rfl pl rfl rfl rfl (.inl (Nat.le_refl _)) ?_)
       refine OT.U hT 2 rfl (.nil (.seq (.ret (.of (rs:=[.cell 2 36,.tmp 3,.tmp 4]) [_,_,_] hs rfl (.cell rfl (Ld.af hT rfl hz rfl) (.tmp rfl (.tmp rfl .nil))) sl ?_))))
       try dsimp only[one]
       refine⟨?_,rfl⟩
       rw[hG,if_pos (by simpa using nE),wrap_i64 (by omega) (by omega)]
       rfl
   .
    have qE:=beq_eq_false_iff_ne.1 qE
    refine TT.seq (.region (.U hT 2 rfl (.nil (.seq (.cond rfl (fun IY=> ?_) (fun IY=> ?_))))))
    .
     have IY:=beq_iff_eq.1 IY
     subst IY
     refine TT.seq (.region (.U hT 2 rfl (.slice a xs.length hT rfl rfl rfl rfl rfl (hr.there.there) (.inr ⟨.i64,rfl⟩) (.inl ⟨rfl,rfl⟩) (by omega) (by omega) rfl (fun JC Ie=> ?_))))
     rw[List.take_length]at Ie
     obtain⟨s,n,e2,ht⟩:∃s n e,bg (xs.drop a)=(s,n,e):=⟨_,_,_,rfl⟩
     refine OT.call Tryz.call160 rfl rfl rfl rfl (k7 Ie (by rw[List.length_drop];omega)) ?_
     rintro VQ Sy ⟨rfl,rfl⟩
     rw[ht]
     dsimp only
     refine OT.U hT 5 rfl (.store hT rfl rfl rfl rfl pl rfl (by show 0+2+1<=3;omega) rfl (.inl (Nat.le_refl _)) (show splice [.int .i64 2,.float .f64 0,.string ⟨#[]⟩] (0+2) [.string s]=[.int .i64 2,.float .f64 0,.string s]from rfl) ?_)
     refine OT.U hT 2 rfl (.nil (.seq (.seq (.region (.U hT 2 rfl (.nil (.seq (.cond rfl (fun Lq=> ?_) (fun Lq=> ?_)))))))))
     .
      have Lq:=bne_iff_ne.1 Lq
      refine TT.seq (.region (.build (cs:=[.int .i64 0,.float .f64 0,.string ⟨#[]⟩]) hT rfl Tryz.zeroValue36 rfl rfl rfl rfl (.U hT 1 rfl (.ag hT rfl rfl rfl rfl pl rfl rfl rfl (.inl (Nat.le_refl _)) ?_))))
      refine OT.U hT 2 rfl (.nil (.seq (.ret (.of (rs:=[.cell 2 36,.tmp 3,.tmp 4]) [_,_,_] hs rfl (.cell rfl (Ld.af hT rfl hz rfl) (.tmp rfl (.tmp rfl .nil))) sl ?_))))
      try dsimp only[one]
      exact⟨by rw[mR hg ht,if_pos Lq];rfl,rfl⟩
     .
      have Lq:=bne_eq_false_iff_eq.1 Lq
      obtain rfl:e2=0:=by omega
      have hkn:= @gG (xs.drop a)
      rw[ht]at hkn
      have hkn:=hkn rfl
      dsimp only at hkn
      rw[List.length_drop]at hkn
      have hG:cj xs=if bq ⟨2,0,s⟩=true then(⟨2,0,s⟩,(a:Int)+n,0)else(aW,0,1):=by rw[mR hg ht,if_neg (by simp)]
      refine TT.skip (.blk (.seq (.seq (.seq (.region (.load rfl rfl (Ld.af hT rfl hz rfl) rfl ?_))))))
      refine OT.call Tryz.call52 rfl rfl rfl rfl (oL (x:=⟨2,0,s⟩)) ?_
      rintro JA Ib ⟨rfl,rfl⟩
      refine OT.U hT 1 rfl (.nil (.seq (.cond rfl (fun nE=> ?_) (fun nE=> ?_))))
      .
       refine TT.seq (.region (.build (cs:=[.int .i64 0,.float .f64 0,.string ⟨#[]⟩]) hT rfl Tryz.zeroValue36 rfl rfl rfl rfl (.ag hT rfl rfl rfl rfl pl rfl rfl rfl (.inl (Nat.le_refl _)) ?_)))
       refine OT.U hT 2 rfl (.nil (.seq (.ret (.of (rs:=[.cell 2 36,.tmp 3,.tmp 4]) [_,_,_] hs rfl (.cell rfl (Ld.af hT rfl hz rfl) (.tmp rfl (.tmp rfl .nil))) sl ?_))))
       try dsimp only[one]
       exact⟨by rw[hG,if_neg (by simpa using nE)];rfl,rfl⟩
      .
       refine TT.skip (.seq (.seq (.region (.load rfl rfl (Ld.af hT rfl hz rfl) rfl ?_))))
       refine OT.U hT 3 rfl (.ag hT rfl rfl rfl rfl pl rfl rfl rfl (.inl (Nat.le_refl _)) ?_)
       refine OT.U hT 2 rfl (.nil (.seq (.ret (.of (rs:=[.cell 2 36,.tmp 3,.tmp 4]) [_,_,_] hs rfl (.cell rfl (Ld.af hT rfl hz rfl) (.tmp rfl (.tmp rfl .nil))) sl ?_))))
       try dsimp only[one]
       refine⟨?_,rfl⟩
       rw[hG,if_pos (by simpa using nE),wrap_i64 (by omega) (by omega)]
       rfl
    .
     have IY:=beq_eq_false_iff_ne.1 IY
     refine TT.seq (.region (.build (cs:=[.int .i64 0,.float .f64 0,.string ⟨#[]⟩]) hT rfl Tryz.zeroValue36 rfl rfl rfl rfl (.ag hT rfl rfl rfl rfl pl rfl rfl rfl (.inl (Nat.le_refl _)) ?_)))
     refine OT.U hT 2 rfl (.nil (.seq (.ret (.of (rs:=[.cell 2 36,.tmp 3,.tmp 4]) [_,_,_] hs rfl (.cell rfl (Ld.af hT rfl hz rfl) (.tmp rfl (.tmp rfl .nil))) sl ?_))))
     try dsimp only[one]
     exact⟨by rw[rZ hg nD qE IY];rfl,rfl⟩
end Go.Proofs.YtihpkgmfkbkffaaGreat.Sx
end
section
namespace Go.Proofs.YtihpkgmfkbkffaaGreat.Sx
open Go Go.Sx Go.Pl
variable[aq]
set_option maxHeartbeats 1000000 in
set_option maxRecDepth 100000 in
theorem zj{s:ByteArray}{hs:List Chunk}:ax Tryz.prog 51 [.string s] hs (fun v' hs'=>v'= .bool (bp s)/\hs=hs'):=by
 refine ax.enter 10 Tryz.func51 rfl Tryz.ntmps51 rfl ?_
 refine TT.seq (.region (.U hT 1 rfl (.nil (.seq (.seq (.region (.U hT 3 rfl (.split 5 rfl (fun g5=> ?_) (fun g5=> ?_)))))))))
 .
  refine OT.U hT 5 rfl (.nil (.seq (.ret (.of (rs:=[.tmp 2]) [_] hs rfl (.tmp rfl .nil) sl ?_))))
  try dsimp only[one]
  refine⟨congrArg Value.bool ?_,rfl⟩
  have g5:decide (s=⟨#[]⟩)=false:=by simpa using g5
  have g5:=of_decide_eq_false g5
  unfold bp
  rw[decide_eq_true (show s≠⟨#[]⟩from g5),Bool.true_and]
  exact decide_eq_decide.2 (by omega)
 .
  refine OT.U hT 5 rfl (.nil (.seq (.ret (.of (rs:=[.tmp 2]) [_] hs rfl (.tmp rfl .nil) sl ?_))))
  try dsimp only[one]
  refine⟨congrArg Value.bool ?_,rfl⟩
  have g5:decide (s=⟨#[]⟩)=true:=by simpa using g5
  have g5:=of_decide_eq_true g5
  unfold bp
  rw[decide_eq_false (show¬s≠⟨#[]⟩from fun h=>h g5),Bool.false_and]
set_option maxHeartbeats 1000000 in
set_option maxRecDepth 100000 in
theorem DT{s a b:ByteArray}{hs:List Chunk}:ax Tryz.prog 111 [.string s,.string a,.string b] hs (fun v' hs'=>v'= .bool (bu s a b)/\hs=hs'):=by
 refine ax.enter 19 Tryz.func111 rfl Tryz.ntmps111 rfl ?_
 refine TT.seq (.region (.U hT 1 rfl (.nil (.seq (.seq (.region (.U hT 4 rfl (.split 10 rfl (fun qi=> ?_) (fun qi=> ?_)))))))))
 .
  refine OT.U hT 3 rfl (.split 13 rfl (fun pP=> ?_) (fun pP=> ?_))
  .
   refine OT.U hT 6 rfl (.nil (.seq (.ret (.of (rs:=[.tmp 6]) [_] hs rfl (.tmp rfl .nil) sl ?_))))
   try dsimp only[one]
   refine⟨congrArg Value.bool ?_,rfl⟩
   unfold bu
   rw[show(!bY s a)=true from qi,pP];rfl
  .
   refine OT.U hT 6 rfl (.nil (.seq (.ret (.of (rs:=[.tmp 6]) [_] hs rfl (.tmp rfl .nil) sl ?_))))
   try dsimp only[one]
   refine⟨congrArg Value.bool ?_,rfl⟩
   unfold bu
   rw[show(!bY s a)=true from qi,pP];rfl
 .
  refine OT.U hT 9 rfl (.nil (.seq (.ret (.of (rs:=[.tmp 6]) [_] hs rfl (.tmp rfl .nil) sl ?_))))
  try dsimp only[one]
  refine⟨congrArg Value.bool ?_,rfl⟩
  unfold bu
  rw[show(!bY s a)=false from qi];rfl
set_option maxHeartbeats 1000000 in
set_option maxRecDepth 100000 in
theorem Ek{a b:ByteArray}(hb:b.size<=1000000){hs:List Chunk}:ax Tryz.prog 201 [.string a,.string b] hs (fun v' hs'=>v'= .string (gP a b)/\hs=hs'):=by
 refine ax.enter 21 Tryz.func201 rfl Tryz.ntmps201 rfl ?_
 refine TT.seq (.region (.U hT 1 rfl (.nil (.seq (.seq (.seq (.region (.U hT 4 rfl (.nil (.seq (.block (.eH 8 rfl (v:= .int .i64 ((b.size+1:Nat):Int)) (int_eq (by rw[wrap_i64 (by omega) (by omega)];omega)) (.loop (ι:=Nat) (fun j=>(j)<=b.size+1/\∀q,q<(j)->bY a (b.extract 0 q)=false) (fun j=>b.size+1-(j)) (fun j=>[(0,.string a),(1,.string b),(8,.int .i64 ((b.size+1:Nat):Int)),(9,.int .i64 ((j):Nat))]) (fun j=>hs) (0) ?_ (aa.cons rfl (aa.cons rfl (aa.cons rfl (aa.cons rfl (aa.nil _))))) sl ?_)))))))))))))
 . exact⟨by omega,fun q hq=>by omega⟩
 rintro i ⟨hi,hq⟩
 show TT _ _ _ [(0,.string a),(1,.string b),(8,.int .i64 ((b.size+1:Nat):Int)),(9,.int .i64 (i:Nat))] (hs)
 refine TT.seq (.region (.U hT 1 rfl (.nil (.seq (.seq (.cond rfl (fun c_=> ?_) (fun c_=> ?_)))))))
 .
  have c_:=of_decide_eq_true c_
  refine TT.skip (.seq (.seq (.block (.seq (.region (.U hT 2 rfl (.nil (.seq (.seq (.region (.U hT 2 rfl (.oS 0 i hT rfl rfl rfl rfl rfl (.inl ⟨rfl,rfl⟩) (.inr ⟨_,rfl⟩) (by omega) (by omega) rfl (.U hT 2 rfl (.nil (.seq (.cond rfl (fun fy=> ?_) (fun fy=> ?_)))))))))))))))))
  .
   have fy:bY a (b.extract 0 i)=true:=by rw[<-RB];exact fy
   refine TT.seq (.region (.U hT 2 rfl (.oS 0 i hT rfl rfl rfl rfl rfl (.inl ⟨rfl,rfl⟩) (.inr ⟨_,rfl⟩) (by omega) (by omega) rfl (.U hT 1 rfl (.nil (.seq (.ret (.of (rs:=[.tmp 4]) [_] hs rfl (.tmp rfl .nil) sl ?_))))))))
   try dsimp only[one]
   exact⟨by rw[Ea (by omega) hq fy],rfl⟩
  .
   have fy:bY a (b.extract 0 i)=false:=by rw[<-RB];exact fy
   refine TT.skip (.blk (.seq (.region (.U hT 2 rfl (.nil (.loop (i+1) ?_ ?_ (aa.cons rfl (aa.cons rfl (aa.cons rfl (aa.aD rfl (by(try dsimp only);exact(int_eq (by rw[wrap_i64 (by omega) (by omega)];omega))) (aa.nil _))))) sl))))))
   . exact⟨by omega,fun q W6=>by by_cases e:q=i;rw[e];exact fy;exact hq q (by omega)⟩
   . omega
 .
  have c_:=of_decide_eq_false c_
  obtain rfl:i=b.size+1:=by omega
  refine TT.exit (.seq (.loop (.here (.seq (.seq (.region (.U hT 1 rfl (.nil (.seq (.ret (.of (rs:=[.tmp 4]) [_] hs rfl (.tmp rfl .nil) sl ?_)))))))))))
  try dsimp only[one]
  exact⟨by rw[EZ hq],rfl⟩
end Go.Proofs.YtihpkgmfkbkffaaGreat.Sx
end
section
namespace Go.Proofs.YtihpkgmfkbkffaaGreat.Sx
open Go Go.Sx Go.Pl
variable[aq]
set_option maxHeartbeats 1000000 in
set_option maxRecDepth 100000 in
theorem uS{x:Vl}{hs:List Chunk}:ax Tryz.prog 140 [.agg ⟨bA x⟩] hs (fun v' hs'=>v'= .bool (decide (x.kind=0))/\hs=hs'):=by
 refine ax.enter 6 Tryz.func140 rfl Tryz.ntmps140 rfl ?_
 refine TT.seq (.region (.box rfl rfl rfl (fun b_1=> ?_)))
 refine OT.U hT 1 rfl (.nil (.seq (.seq (.region (.U hT 1 rfl (.load rfl rfl (Ld.one hT rfl hz rfl) rfl ?_))))))
 refine OT.U hT 2 rfl (.nil (.seq (.ret (.of (rs:=[.tmp 2]) [_] hs rfl (.tmp rfl .nil) sl ?_))))
 try dsimp only[one]
 refine⟨congrArg Value.bool ?_,rfl⟩
 rw[Bool.eq_iff_iff,beq_iff_eq,decide_eq_true_eq]
set_option maxHeartbeats 1000000 in
set_option maxRecDepth 100000 in
theorem uD{x:Cell}{hs:List Chunk}:ax Tryz.prog 99 [.agg ⟨aj x⟩] hs (fun v' hs'=>v'= .bool (aA x)/\hs=hs'):=by
 refine ax.enter 43 Tryz.func99 rfl Tryz.ntmps99 rfl ?_
 refine TT.seq (.region (.box rfl rfl rfl (fun b_1=> ?_)))
 refine OT.U hT 1 rfl (.nil (.seq (.seq (.seq (.region (.U hT 1 rfl (.load rfl rfl (Ld.one hT rfl hz rfl) rfl ?_)))))))
 refine OT.call Tryz.call51 rfl rfl rfl rfl (zj) ?_
 rintro Ou JE ⟨rfl,rfl⟩
 refine OT.U hT 2 rfl (.split 7 rfl (fun g7=> ?_) (fun g7=> ?_))
 .
  have h1:bp x.key=false:=by simpa using g7
  refine OT.U hT 21 rfl (.nil (.seq (.cond_true rfl (.seq (.region (.U hT 1 rfl (.nil (.seq (.ret (.of (rs:=[.tmp 2]) [_] hs rfl (.tmp rfl .nil) sl ?_))))))))))
  try dsimp only[one]
  refine⟨congrArg Value.bool ?_,rfl⟩
  unfold aA
  rw[h1];simp
 .
  have h1:bp x.key=true:=by simpa using g7
  refine OT.U hT 1 rfl (.load rfl rfl (Ld.struct (vs:=bA x.val) hT rfl hz rfl rfl) rfl ?_)
  refine OT.call Tryz.call52 rfl rfl rfl rfl (oL) ?_
  rintro oG jX ⟨rfl,rfl⟩
  refine OT.U hT 3 rfl (.split 13 rfl (fun pP=> ?_) (fun pP=> ?_))
  .
   have h2:bq x.val=false:=by simpa using pP
   refine OT.U hT 15 rfl (.nil (.seq (.cond_true rfl (.seq (.region (.U hT 1 rfl (.nil (.seq (.ret (.of (rs:=[.tmp 2]) [_] hs rfl (.tmp rfl .nil) sl ?_))))))))))
   try dsimp only[one]
   refine⟨congrArg Value.bool ?_,rfl⟩
   unfold aA
   rw[h2];simp
  .
   have h2:bq x.val=true:=by simpa using pP
   refine OT.U hT 1 rfl (.load rfl rfl (Ld.struct (vs:=bA x.new) hT rfl hz rfl rfl) rfl ?_)
   refine OT.call Tryz.call52 rfl rfl rfl rfl (oL) ?_
   rintro uh pI ⟨rfl,rfl⟩
   refine OT.U hT 3 rfl (.split 19 rfl (fun Pa=> ?_) (fun Pa=> ?_))
   .
    have h3:bq x.new=false:=by simpa using Pa
    refine OT.U hT 9 rfl (.nil (.seq (.cond_true rfl (.seq (.region (.U hT 1 rfl (.nil (.seq (.ret (.of (rs:=[.tmp 2]) [_] hs rfl (.tmp rfl .nil) sl ?_))))))))))
    try dsimp only[one]
    refine⟨congrArg Value.bool ?_,rfl⟩
    unfold aA
    rw[h3];simp
   .
    have h3:bq x.new=true:=by simpa using Pa
    refine OT.U hT 1 rfl (.load rfl rfl (Ld.one hT rfl hz rfl) rfl ?_)
    refine OT.U hT 3 rfl (.split 24 rfl (fun Pb=> ?_) (fun Pb=> ?_))
    .
     have h4:x.aV<0:=of_decide_eq_true Pb
     refine OT.U hT 4 rfl (.nil (.seq (.cond_true rfl (.seq (.region (.U hT 1 rfl (.nil (.seq (.ret (.of (rs:=[.tmp 2]) [_] hs rfl (.tmp rfl .nil) sl ?_))))))))))
     try dsimp only[one]
     refine⟨congrArg Value.bool ?_,rfl⟩
     unfold aA
     rw[decide_eq_false (show¬0<=x.aV by omega)];simp
    .
     have h4:¬x.aV<0:=of_decide_eq_false Pb
     refine OT.U hT 1 rfl (.load rfl rfl (Ld.one hT rfl hz rfl) rfl ?_)
     refine OT.U hT 2 rfl (.nil (.seq (.cond rfl (fun ko=> ?_) (fun ko=> ?_))))
     .
      have h5:x.aV>1099511627776:=of_decide_eq_true ko
      refine TT.seq (.region (.U hT 1 rfl (.nil (.seq (.ret (.of (rs:=[.tmp 2]) [_] hs rfl (.tmp rfl .nil) sl ?_))))))
      try dsimp only[one]
      refine⟨congrArg Value.bool ?_,rfl⟩
      unfold aA
      rw[decide_eq_false (show¬x.aV<=1099511627776 by omega)];simp
     .
      have h5:¬x.aV>1099511627776:=of_decide_eq_false ko
      refine TT.skip (.seq (.seq (.region (.U hT 1 rfl (.load rfl rfl (Ld.one hT rfl hz rfl) rfl ?_)))))
      refine OT.U hT 2 rfl (.split 32 rfl (fun Pc=> ?_) (fun Pc=> ?_))
      .
       have h6:0<x.aV:=of_decide_eq_true Pc
       refine OT.U hT 11 rfl (.nil (.seq (.ret (.of (rs:=[.tmp 2]) [_] hs rfl (.tmp rfl .nil) sl ?_))))
       try dsimp only[one]
       refine⟨congrArg Value.bool ?_,rfl⟩
       unfold aA
       rw[h1,h2,h3,decide_eq_true (show 0<=x.aV by omega),decide_eq_true (show x.aV<=1099511627776 by omega)]
       rw[decide_eq_true h6];rfl
      .
       have h6:¬0<x.aV:=of_decide_eq_false Pc
       refine OT.U hT 1 rfl (.load rfl rfl (Ld.struct (vs:=bA x.new) hT rfl hz rfl rfl) rfl ?_)
       refine OT.call Tryz.call140 rfl rfl rfl rfl (uS) ?_
       rintro JF Sz ⟨rfl,rfl⟩
       refine OT.U hT 1 rfl (.split 36 rfl (fun Pd=> ?_) (fun Pd=> ?_))
       .
        have h7:decide (x.new.kind=0)=true:=Pd
        refine OT.U hT 1 rfl (.load rfl rfl (Ld.struct (vs:=bA x.val) hT rfl hz rfl rfl) rfl ?_)
        refine OT.call Tryz.call140 rfl rfl rfl rfl (uS) ?_
        rintro vB v_ ⟨rfl,rfl⟩
        refine OT.U hT 4 rfl (.nil (.seq (.ret (.of (rs:=[.tmp 2]) [_] hs rfl (.tmp rfl .nil) sl ?_))))
        try dsimp only[one]
        refine⟨congrArg Value.bool ?_,rfl⟩
        unfold aA
        rw[h1,h2,h3,decide_eq_true (show 0<=x.aV by omega),decide_eq_true (show x.aV<=1099511627776 by omega)]
        rw[decide_eq_false h6,h7];rfl
       .
        have h7:decide (x.new.kind=0)=false:=Pd
        refine OT.U hT 7 rfl (.nil (.seq (.ret (.of (rs:=[.tmp 2]) [_] hs rfl (.tmp rfl .nil) sl ?_))))
        try dsimp only[one]
        refine⟨congrArg Value.bool ?_,rfl⟩
        unfold aA
        rw[h1,h2,h3,decide_eq_true (show 0<=x.aV by omega),decide_eq_true (show x.aV<=1099511627776 by omega)]
        rw[decide_eq_false h6,h7];rfl
set_option maxHeartbeats 2000000 in
set_option maxRecDepth 100000 in
theorem Ku{v:Value}{xs:List UInt8}{H:Chunk}{r:List Chunk}{x:Cell}(ho:Own Go.Sx.bD 1 5 v xs H)(h1: -9223372036854775808<=x.val.kind/\x.val.kind<=9223372036854775807)(h2: -9223372036854775808<=x.new.kind/\x.new.kind<=9223372036854775807)(ht: -9223372036854775808<=x.aV/\x.aV<=9223372036854775807)(Pe:x.val.f<2^64)(C2:x.new.f<2^64)(hk:x.key.size<=1000)(dz:x.val.s.size<=1000)(ki:x.new.s.size<=1000)(hl:xs.length<=100000):ax Tryz.prog 199 [v,.agg ⟨aj x⟩] (H::r) (fun v' hs'=>∃H',hs'=H'::r/\Own Go.Sx.bD 1 5 v' (xs++au x) H'):=by
 refine ax.enter 23 Tryz.func199 rfl Tryz.ntmps199 rfl ?_
 have a1:(aQ x.key).length<=1010:=by
  have:=eE (n:=x.key.size) (by omega) (by omega)
  rw[ei];omega
 have a2:(bV x.val).length<=1020:=by
  have b1:=eE h1.1 h1.2
  have b2:=eE (n:=x.val.s.size) (by omega) (by omega)
  unfold bV
  rw[List.length_append]
  split
  . rw[dG];omega
  . split
    . rw[ei];omega
    . simp;omega
 have a3:=eE ht.1 ht.2
 refine TT.seq (.region (.box rfl rfl rfl (fun jt=> ?_)))
 refine OT.U hT 1 rfl (.nil (.seq (.seq (.draw (([(jt,blk (aj x) 113 (0,0))]::r)) mixed (.takes (fuel:=7) hT [0,1,4,7] kr kr rfl (.take (fuel:=6) hT 2 rfl rfl kr kr kr rfl (.load rfl (Ld.one hT rfl hz rfl)) rfl ?_))))))
 refine AT.take (fuel:=5) hT 5 rfl rfl kr kr kr rfl (.load rfl (Ld.struct (vs:=bA x.val) hT rfl hz rfl rfl)) rfl ?_
 refine AT.take (fuel:=4) hT 8 rfl rfl kr kr kr rfl (.load rfl (Ld.one hT rfl hz rfl)) rfl ?_
 refine AT.op (fuel:=3) 3 kr rfl sl (.call Tryz.call77 rfl rfl rfl rfl (ax.pull pl (k6 ho (Nat.le_trans hk (by decide)) (Nat.le_trans hl (by decide)))) ?_)
 rintro C_ qI ⟨H1,rfl,dU⟩
 refine OT.nil (.any (.op (fuel:=2) 6 kr rfl sl (.call Tryz.call211 rfl rfl rfl rfl (Ei dU h1 Pe (Nat.le_trans dz (by decide)) (by rw[List.length_append];omega)) ?_)))
 rintro oH iV ⟨H2,rfl,oB⟩
 refine OT.nil (.any (.op (fuel:=1) 9 kr rfl sl (.call Tryz.call76 rfl rfl rfl rfl (lD oB ht.1 ht.2 (by rw[List.length_append,List.length_append];omega)) ?_)))
 rintro Dp wh ⟨H3,rfl,IX⟩
 refine OT.nil (.any (.takes (fuel:=0) hT [10] kr kr rfl (.done kr sl (.seq (.seq (.seq (.region (.U hT 1 rfl (.load rfl rfl (Ld.one hT rfl hz rfl) rfl ?_)))))))))
 refine OT.U hT 1 rfl (.nil (.seq (.cond rfl (fun fC=> ?_) (fun fC=> ?_))))
 .
  have fC:=of_decide_eq_true fC
  refine TT.region (.U hT 2 rfl (.load rfl rfl (Ld.struct (vs:=bA x.new) hT rfl hz rfl rfl) rfl ?_))
  refine OT.call Tryz.call211 rfl rfl rfl rfl (Ei IX h2 C2 (Nat.le_trans ki (by decide)) (by rw[List.length_append,List.length_append,List.length_append];omega)) ?_
  rintro JG DU ⟨H4,rfl,LZ⟩
  refine OT.U hT 1 rfl (.nil (.seq (.seq (.region (.U hT 2 rfl (.nil (.seq (.ret (.of (rs:=[.tmp 4]) [_] (H4::r) rfl (.tmp rfl .nil) sl ?_)))))))))
  try dsimp only[one]
  exact⟨_,rfl,by unfold au;rw[if_pos fC];simp only[<-List.append_assoc];exact LZ⟩
 .
  have fC:=of_decide_eq_false fC
  refine TT.skip (.seq (.seq (.region (.U hT 2 rfl (.nil (.seq (.ret (.of (rs:=[.tmp 4]) [_] (H3::r) rfl (.tmp rfl .nil) sl ?_))))))))
  try dsimp only[one]
  exact⟨_,rfl,by unfold au;rw[if_neg fC,List.append_nil];simp only[<-List.append_assoc];exact IX⟩
end Go.Proofs.YtihpkgmfkbkffaaGreat.Sx
end
section
namespace Go.Proofs.YtihpkgmfkbkffaaGreat.Sx
open Go Go.Sx Go.Pl
variable[aq]
set_option maxHeartbeats 4000000 in
set_option maxRecDepth 100000 in
theorem Kv{v:Value}{xs:List UInt8}{hs:List Chunk}(hr:Row Go.Sx.bD 1 hs v xs)(hl:xs.length<=1000000):ax Tryz.prog 168 [v] hs (fun v' hs'=>v'=(.tuple ⟨[.agg ⟨aj (bn xs).1⟩,.int .i64 (bn xs).2.1,.int .i64 (bn xs).2.2]⟩)/\hs=hs'):=by
 refine ax.enter 77 Tryz.func168 rfl Tryz.ntmps168 rfl ?_
 obtain⟨a0,c0,hv⟩:=hr.len
 subst hv
 have qC:= @gG xs
 obtain⟨k,a1,e1,h1⟩:∃k a e,bg xs=(k,a,e):=⟨_,_,_,rfl⟩
 rw[h1]at qC
 dsimp only at qC
 refine TT.seq (.region (.alloc Tryz.zeroValue113 rfl rfl (fun b_2=> ?_)))
 refine OT.U hT 2 rfl (.nil (.seq (.seq (.region (.alloc Tryz.zeroValue113 rfl rfl (fun eM=> ?_))))))
 refine OT.nil (.seq (.seq (.region (.U hT 1 rfl (.nil (.seq (.seq (.region (.U hT 1 rfl (.nil (.seq (.seq (.region (.U hT 1 rfl (.nil (.seq (.seq (.seq (.region (.U hT 1 rfl (.call Tryz.call160 rfl rfl rfl rfl (k7 hr.there.there (by omega)) ?_)))))))))))))))))))))
 rintro oH iV ⟨rfl,rfl⟩
 rw[h1]
 dsimp only
 refine OT.U hT 5 rfl (.store hT rfl rfl rfl rfl pl rfl (by show 0+0+1<=8;omega) rfl (.inl (Nat.le_refl _)) (show splice (aj noCell) (0+0) ([.string k])=aj ⟨k,aW,0,aW⟩from rfl) ?_)
 refine OT.U hT 2 rfl (.nil (.seq (.seq (.region (.U hT 2 rfl (.nil (.seq (.cond rfl (fun fC=> ?_) (fun fC=> ?_)))))))))
 .
  have fC:=bne_iff_ne.1 fC
  refine TT.seq (.region (.build (cs:=aj noCell) hT rfl Tryz.zeroValue113 rfl rfl rfl rfl (.U hT 1 rfl (.ag hT rfl rfl rfl rfl pl rfl rfl rfl (.inl (Nat.le_refl _)) ?_))))
  refine OT.U hT 2 rfl (.nil (.seq (.ret (.of (rs:=[.cell 2 113,.tmp 3,.tmp 4]) [_,_,_] hs rfl (.cell rfl (Ld.af hT rfl hz rfl) (.tmp rfl (.tmp rfl .nil))) sl ?_))))
  try dsimp only[one]
  exact⟨by rw[GG h1 fC];rfl,rfl⟩
 .
  have fC:=bne_eq_false_iff_eq.1 fC
  obtain rfl:e1=0:=by omega
  have qC:=qC rfl
  obtain⟨a,rfl⟩:∃a:Nat,a1=a:=⟨a1.toNat,by omega⟩
  refine TT.skip (.seq (.seq (.seq (.region (.U hT 2 rfl (.slice a xs.length hT rfl rfl rfl rfl rfl hr.there.there (.inr ⟨.i64,rfl⟩) (.inl ⟨rfl,rfl⟩) (by omega) (by omega) rfl (fun yH Ig=> ?_)))))))
  rw[List.take_length]at Ig
  have hk2:= @qq (xs.drop a)
  obtain⟨x,n1,e2,h2⟩:∃x n e,cj (xs.drop a)=(x,n,e):=⟨_,_,_,rfl⟩
  rw[h2]at hk2
  dsimp only at hk2
  rw[List.length_drop]at hk2
  refine OT.call Tryz.call196 rfl rfl rfl rfl (Ej Ig (by rw[List.length_drop];omega)) ?_
  rintro BI sZ ⟨rfl,rfl⟩
  rw[h2]
  dsimp only
  refine OT.U hT 5 rfl (.store hT rfl rfl rfl rfl pl rfl (by show 0+1+3<=8;omega) rfl (.inl (Nat.le_refl _)) (show splice (aj ⟨k,aW,0,aW⟩) (0+1) (bA x)=aj ⟨k,x,0,aW⟩from rfl) ?_)
  refine OT.U hT 2 rfl (.nil (.seq (.seq (.region (.U hT 2 rfl (.nil (.seq (.cond rfl (fun iZ=> ?_) (fun iZ=> ?_)))))))))
  .
   have iZ:=bne_iff_ne.1 iZ
   refine TT.seq (.region (.build (cs:=aj noCell) hT rfl Tryz.zeroValue113 rfl rfl rfl rfl (.U hT 1 rfl (.ag hT rfl rfl rfl rfl pl rfl rfl rfl (.inl (Nat.le_refl _)) ?_))))
   refine OT.U hT 2 rfl (.nil (.seq (.ret (.of (rs:=[.cell 2 113,.tmp 3,.tmp 4]) [_,_,_] hs rfl (.cell rfl (Ld.af hT rfl hz rfl) (.tmp rfl (.tmp rfl .nil))) sl ?_))))
   try dsimp only[one]
   exact⟨by rw[Ke h1 h2 iZ];rfl,rfl⟩
  .
   have iZ:=bne_eq_false_iff_eq.1 iZ
   obtain rfl:e2=0:=by omega
   have hk2:=hk2 rfl
   obtain⟨n,rfl⟩:∃n:Nat,n1=n:=⟨n1.toNat,by omega⟩
   refine TT.skip (.seq (.seq (.region (.U hT 4 rfl (.nil (.seq (.seq (.seq (.region (.U hT 2 rfl (.eH 38 rfl (v:= .int .i64 ((a+n:Nat):Int)) (int_eq (by rw[wrap_i64 (by omega) (by omega)];omega)) (.slice (a+n) xs.length hT rfl rfl rfl rfl rfl hr.there.there (.inr ⟨.i64,rfl⟩) (.inl ⟨rfl,rfl⟩) (by omega) (by omega) rfl (fun vB Ih=> ?_)))))))))))))
   rw[List.take_length]at Ih
   have C0:= @pq (xs.drop (a+n))
   obtain⟨t,RS,e3,h3⟩:∃x m e,get (xs.drop (a+n))=(x,m,e):=⟨_,_,_,rfl⟩
   rw[h3]at C0
   dsimp only at C0
   rw[List.length_drop]at C0
   refine OT.call Tryz.call120 rfl rfl rfl rfl (qy Ih (by rw[List.length_drop];omega)) ?_
   rintro Gd SA ⟨rfl,rfl⟩
   rw[h3]
   dsimp only
   refine OT.U hT 5 rfl (.store hT rfl rfl rfl rfl pl rfl (by show 0+4+1<=8;omega) rfl (.inl (Nat.le_refl _)) (show splice (aj ⟨k,x,0,aW⟩) (0+4) ([.int .i64 t])=aj ⟨k,x,t,aW⟩from rfl) ?_)
   refine OT.U hT 2 rfl (.nil (.seq (.seq (.region (.U hT 2 rfl (.nil (.seq (.cond rfl (fun oC=> ?_) (fun oC=> ?_)))))))))
   .
    have oC:=bne_iff_ne.1 oC
    refine TT.seq (.region (.build (cs:=aj noCell) hT rfl Tryz.zeroValue113 rfl rfl rfl rfl (.U hT 1 rfl (.ag hT rfl rfl rfl rfl pl rfl rfl rfl (.inl (Nat.le_refl _)) ?_))))
    refine OT.U hT 2 rfl (.nil (.seq (.ret (.of (rs:=[.cell 2 113,.tmp 3,.tmp 4]) [_,_,_] hs rfl (.cell rfl (Ld.af hT rfl hz rfl) (.tmp rfl (.tmp rfl .nil))) sl ?_))))
    try dsimp only[one]
    exact⟨by rw[Kf h1 h2 h3 oC];rfl,rfl⟩
   .
    have oC:=bne_eq_false_iff_eq.1 oC
    obtain rfl:e3=0:=by omega
    have C0:=C0 rfl
    obtain⟨n2,rfl⟩:∃n:Nat,RS=n:=⟨RS.toNat,by omega⟩
    refine TT.skip (.seq (.seq (.region (.U hT 4 rfl (.nil (.seq (.seq (.seq (.region (.U hT 1 rfl (.load rfl rfl (Ld.one hT rfl hz rfl) rfl ?_)))))))))))
    refine OT.U hT 1 rfl (.nil (.seq (.cond rfl (fun IZ=> ?_) (fun IZ=> ?_))))
    .
     have IZ:=of_decide_eq_true IZ
     refine TT.seq (.seq (.region (.U hT 2 rfl (.eH 57 rfl (v:= .int .i64 ((a+n+n2:Nat):Int)) (int_eq (by rw[wrap_i64 (n:=(a:Int)+n) (by omega) (by omega),wrap_i64 (by omega) (by omega)];omega)) (.slice (a+n+n2) xs.length hT rfl rfl rfl rfl rfl hr.there.there (.inr ⟨.i64,rfl⟩) (.inl ⟨rfl,rfl⟩) (by omega) (by omega) rfl (fun Qr Ii=> ?_))))))
     rw[List.take_length]at Ii
     have BN:= @qq (xs.drop (a+n+n2))
     obtain⟨y,n3,e4,h4⟩:∃x m e,cj (xs.drop (a+n+n2))=(x,m,e):=⟨_,_,_,rfl⟩
     rw[h4]at BN
     dsimp only at BN
     rw[List.length_drop]at BN
     have hG:=Kg h1 h2 h3 IZ h4
     refine OT.call Tryz.call196 rfl rfl rfl rfl (Ej Ii (by rw[List.length_drop];omega)) ?_
     rintro VR SC ⟨rfl,rfl⟩
     rw[h4]
     dsimp only
     refine OT.U hT 5 rfl (.store hT rfl rfl rfl rfl pl rfl (by show 0+5+3<=8;omega) rfl (.inl (Nat.le_refl _)) (show splice (aj ⟨k,x,t,aW⟩) (0+5) (bA y)=aj ⟨k,x,t,y⟩from rfl) ?_)
     refine OT.U hT 2 rfl (.nil (.seq (.seq (.region (.U hT 2 rfl (.nil (.seq (.cond rfl (fun nE=> ?_) (fun nE=> ?_)))))))))
     .
      have nE:=bne_iff_ne.1 nE
      refine TT.seq (.region (.build (cs:=aj noCell) hT rfl Tryz.zeroValue113 rfl rfl rfl rfl (.U hT 1 rfl (.ag hT rfl rfl rfl rfl pl rfl rfl rfl (.inl (Nat.le_refl _)) ?_))))
      refine OT.U hT 2 rfl (.nil (.seq (.ret (.of (rs:=[.cell 2 113,.tmp 3,.tmp 4]) [_,_,_] hs rfl (.cell rfl (Ld.af hT rfl hz rfl) (.tmp rfl (.tmp rfl .nil))) sl ?_))))
      try dsimp only[one]
      exact⟨by rw[hG,if_pos nE];rfl,rfl⟩
     .
      have nE:=bne_eq_false_iff_eq.1 nE
      obtain rfl:e4=0:=by omega
      have BN:=BN rfl
      rw[if_neg (by simp)]at hG
      refine TT.skip (.seq (.region (.U hT 4 rfl (.nil (.seq (.seq (.seq (.region (.load rfl rfl (Ld.af hT rfl hz rfl) rfl ?_)))))))))
      refine OT.call Tryz.call99 rfl rfl rfl rfl (uD (x:=⟨k,x,t,y⟩)) ?_
      rintro BJ Ij ⟨rfl,rfl⟩
      refine OT.U hT 1 rfl (.nil (.seq (.cond rfl (fun I0=> ?_) (fun I0=> ?_))))
      .
       refine TT.seq (.region (.build (cs:=aj noCell) hT rfl Tryz.zeroValue113 rfl rfl rfl rfl (.ag hT rfl rfl rfl rfl pl rfl rfl rfl (.inl (Nat.le_refl _)) ?_)))
       refine OT.U hT 2 rfl (.nil (.seq (.ret (.of (rs:=[.cell 2 113,.tmp 3,.tmp 4]) [_,_,_] hs rfl (.cell rfl (Ld.af hT rfl hz rfl) (.tmp rfl (.tmp rfl .nil))) sl ?_))))
       try dsimp only[one]
       exact⟨by rw[hG,if_neg (by simpa using I0)];rfl,rfl⟩
      .
       refine TT.skip (.seq (.seq (.region (.load rfl rfl (Ld.af hT rfl hz rfl) rfl ?_))))
       refine OT.U hT 1 rfl (.ag hT rfl rfl rfl rfl pl rfl rfl rfl (.inl (Nat.le_refl _)) ?_)
       refine OT.U hT 2 rfl (.nil (.seq (.ret (.of (rs:=[.cell 2 113,.tmp 3,.tmp 4]) [_,_,_] hs rfl (.cell rfl (Ld.af hT rfl hz rfl) (.tmp rfl (.tmp rfl .nil))) sl ?_))))
       try dsimp only[one]
       refine⟨?_,rfl⟩
       rw[hG,if_pos (by simpa using I0)]
       simp only[wrap_i64 (n:=(a:Int)+n) (by omega) (by omega),wrap_i64 (n:=(a:Int)+n+n2) (by omega) (by omega)]
       first|rfl|(rw[wrap_i64 (by omega) (by omega)];rfl)|(rw[Int.add_zero];rfl)
    .
     have IZ:=of_decide_eq_false IZ
     have hG:=Kh h1 h2 h3 IZ
     refine TT.skip (.seq (.seq (.seq (.region (.load rfl rfl (Ld.af hT rfl hz rfl) rfl ?_)))))
     refine OT.call Tryz.call99 rfl rfl rfl rfl (uD (x:=⟨k,x,t,aW⟩)) ?_
     rintro BJ Ij ⟨rfl,rfl⟩
     refine OT.U hT 1 rfl (.nil (.seq (.cond rfl (fun I0=> ?_) (fun I0=> ?_))))
     .
      refine TT.seq (.region (.build (cs:=aj noCell) hT rfl Tryz.zeroValue113 rfl rfl rfl rfl (.ag hT rfl rfl rfl rfl pl rfl rfl rfl (.inl (Nat.le_refl _)) ?_)))
      refine OT.U hT 2 rfl (.nil (.seq (.ret (.of (rs:=[.cell 2 113,.tmp 3,.tmp 4]) [_,_,_] hs rfl (.cell rfl (Ld.af hT rfl hz rfl) (.tmp rfl (.tmp rfl .nil))) sl ?_))))
      try dsimp only[one]
      exact⟨by rw[hG,if_neg (by simpa using I0)];rfl,rfl⟩
     .
      refine TT.skip (.seq (.seq (.region (.load rfl rfl (Ld.af hT rfl hz rfl) rfl ?_))))
      refine OT.U hT 1 rfl (.ag hT rfl rfl rfl rfl pl rfl rfl rfl (.inl (Nat.le_refl _)) ?_)
      refine OT.U hT 2 rfl (.nil (.seq (.ret (.of (rs:=[.cell 2 113,.tmp 3,.tmp 4]) [_,_,_] hs rfl (.cell rfl (Ld.af hT rfl hz rfl) (.tmp rfl (.tmp rfl .nil))) sl ?_))))
      try dsimp only[one]
      refine⟨?_,rfl⟩
      rw[hG,if_pos (by simpa using I0)]
      simp only[wrap_i64 (n:=(a:Int)+n) (by omega) (by omega),wrap_i64 (n:=(a:Int)+n+n2) (by omega) (by omega)]
      first|rfl|(rw[wrap_i64 (by omega) (by omega)];rfl)|(rw[Int.add_zero];rfl)
end Go.Proofs.YtihpkgmfkbkffaaGreat.Sx
end
