/- Several texts in one. What the small logic wants to know of this program's types: printed by a program of ours off the loaded program; Lean checks each. Of the seat: how its memory is laid. What breaks. Printed by a program of ours off the loaded program and our notes; Lean checks it. What may break, called. Printed by a program of ours off the loaded program and our notes; Lean checks it. Which pages are in use. Printed by a program of ours off the loaded program and our notes; Lean checks it. Which pages are in use, read off any pages; a view's pages. Printed by a program of ours off the loaded program and our notes; Lean checks it. A book of pages: asked, laid. Printed by a program of ours off the loaded program and our notes; Lean checks it. Floats as bytes, in order. Printed by a program of ours off the loaded program and our notes; Lean checks it. Numbers and texts as bytes: what the program's num does, and the document's. Printed by a program of ours off the loaded program and our notes; Lean checks it. Values: which may be, as bytes. Printed by a program of ours off the loaded program and our notes; Lean checks it. Values, read. Printed by a program of ours off the loaded program and our notes; Lean checks it. Keys. Printed by a program of ours off the loaded program and our notes; Lean checks it. Cells: which may be, as bytes. Printed by a program of ours off the loaded program and our notes; Lean checks it. Cells, read. Printed by a program of ours off the loaded program and our notes; Lean checks it. Nodes: which may be. Printed by a program of ours off the loaded program and our notes; Lean checks it. -/
import Derived.Test.YtihpkgmfkbkffaaGreatWA
import Derived.Test.YtihpkgmfkbkffaaGreatChecked
import Derived.Test.YtihpkgmfkbkffaaGreatWC
import Derived.Test.YtihpkgmfkbkffaaGreatWB
set_option linter.unusedVariables false
set_option linter.unusedSimpArgs false
set_option linter.unusedSectionVars false

section
namespace Go.Proofs.YtihpkgmfkbkffaaGreat.Sx
open Go Go.Sx

def tab : Tab := [
  (1, .one (.func #[] #[] false)),
  (2, .one (.int .i64)),
  (3, .one (.int .i64)),
  (4, .one .bool),
  (5, .one (.int .u8)),
  (6, .one (.int .u8)),
  (7, .struct [(0, 1), (1, 1), (2, 1), (3, 1)] 4),
  (8, .struct [(0, 1), (1, 1), (2, 1), (3, 1)] 4),
  (9, .one .string),
  (10, .one .string),
  (11, .one .string),
  (12, .one (.int .u64)),
  (13, .struct [(0, 1), (1, 1)] 2),
  (14, .struct [(0, 1), (1, 1)] 2),
  (15, .one (.pointer 283)),
  (16, .one (.pointer 286)),
  (17, .one (.pointer 295)),
  (18, .struct [(0, 1)] 1),
  (19, .struct [(0, 1)] 1),
  (20, .one (.interface #[])),
  (21, .one (.int .i32)),
  (22, .slice 3 1),
  (23, .one (.func #[] #[4] false)),
  (24, .one (.pointer 110)),
  (25, .one (.func #[107] #[24] false)),
  (26, .one (.pointer 30)),
  (27, .slice 5 1),
  (28, .arr 96 27 1),
  (29, .struct [(0, 96), (96, 1)] 97),
  (30, .struct [(0, 96), (96, 1)] 97),
  (31, .one (.int .i64)),
  (32, .one (.func #[24, 2, 9, 36] #[31] false)),
  (33, .one (.func #[3] #[9] false)),
  (34, .one (.float .f64)),
  (35, .struct [(0, 1), (1, 1), (2, 1)] 3),
  (36, .struct [(0, 1), (1, 1), (2, 1)] 3),
  (38, .one (.func #[24, 2] #[3, 31] false)),
  (39, .slice 60 4),
  (41, .one (.func #[107, 2, 9, 9] #[39, 31] false)),
  (43, .one (.func #[107, 2, 9] #[36, 31] false)),
  (45, .one (.func #[39, 9] #[36, 4] false)),
  (46, .one (.func #[36, 36] #[4] false)),
  (47, .one (.func #[22, 22, 3] #[4] false)),
  (48, .one (.func #[22] #[4] false)),
  (49, .one (.int .u64)),
  (50, .one (.func #[24] #[3, 31] false)),
  (51, .one (.func #[39, 39] #[4] false)),
  (52, .one (.func #[22, 22] #[4] false)),
  (53, .slice 56 7),
  (54, .one (.func #[9, 3] #[9] false)),
  (55, .struct [(0, 1), (1, 1), (2, 1), (3, 1), (4, 3)] 7),
  (56, .struct [(0, 1), (1, 1), (2, 1), (3, 1), (4, 3)] 7),
  (57, .one (.func #[36] #[36] false)),
  (58, .one (.func #[53, 53, 4] #[4] false)),
  (59, .struct [(0, 1), (1, 3)] 4),
  (60, .struct [(0, 1), (1, 3)] 4),
  (61, .one (.func #[3, 4] #[4] false)),
  (62, .one (.pointer 65)),
  (63, .slice 70 5),
  (64, .struct [(0, 1), (1, 1)] 2),
  (65, .struct [(0, 1), (1, 1)] 2),
  (66, .one (.func #[9] #[3] false)),
  (67, .one (.func #[9] #[4] false)),
  (68, .one (.func #[36] #[4] false)),
  (69, .struct [(0, 1), (1, 1), (2, 3)] 5),
  (70, .struct [(0, 1), (1, 1), (2, 3)] 5),
  (71, .one (.func #[56] #[] false)),
  (72, .one (.func #[2] #[39] false)),
  (73, .one (.func #[39, 9, 9] #[39] false)),
  (74, .one (.func #[2, 4] #[3] false)),
  (75, .one (.func #[107] #[4] false)),
  (76, .one (.func #[53] #[4] false)),
  (77, .one (.func #[39, 9, 36] #[39] false)),
  (78, .one (.func #[2, 4] #[] false)),
  (79, .one (.func #[22, 22, 4, 4, 4] #[4] false)),
  (80, .one (.func #[27] #[27] false)),
  (81, .arr 32 3 1),
  (82, .struct [(0, 1), (1, 1), (2, 1), (3, 32)] 35),
  (83, .struct [(0, 1), (1, 1), (2, 1), (3, 32)] 35),
  (84, .one (.pointer 134)),
  (85, .one (.func #[107, 83] #[84] false)),
  (87, .one (.func #[3] #[27, 31] false)),
  (88, .one (.func #[22, 27] #[4] false)),
  (90, .one (.func #[107, 9] #[84, 31] false)),
  (91, .slice 9 1),
  (92, .slice 83 35),
  (93, .struct [(0, 1), (1, 1)] 2),
  (94, .struct [(0, 1), (1, 1)] 2),
  (96, .one (.func #[94, 9] #[94, 31] false)),
  (97, .one (.func #[94] #[27, 31] false)),
  (98, .one (.func #[94, 9] #[3] false)),
  (99, .one (.func #[91, 3, 9] #[4] false)),
  (100, .one (.func #[101] #[] false)),
  (101, .slice 143 2),
  (102, .one (.func #[] #[101] false)),
  (104, .one (.func #[107, 101] #[101, 31] false)),
  (105, .one (.func #[53, 53] #[4] false)),
  (106, .one (.interface #[("Page", 87)])),
  (107, .one (.interface #[("Page", 87)])),
  (108, .one (.map 3 9)),
  (109, .struct [(0, 1), (1, 1)] 2),
  (110, .struct [(0, 1), (1, 1)] 2),
  (111, .one (.func #[2] #[4] false)),
  (112, .struct [(0, 1), (1, 3), (4, 1), (5, 3)] 8),
  (113, .struct [(0, 1), (1, 3), (4, 1), (5, 3)] 8),
  (115, .one (.func #[107, 9] #[113, 4, 31] false)),
  (116, .one (.func #[24, 113] #[31] false)),
  (117, .one (.func #[113, 2, 36] #[113] false)),
  (119, .one (.func #[24, 9] #[4, 31] false)),
  (120, .one (.func #[24, 111, 121] #[3, 31] false)),
  (121, .one (.func #[113] #[113, 4] false)),
  (122, .slice 113 8),
  (124, .one (.func #[107, 9, 9] #[122, 31] false)),
  (125, .one (.func #[113, 2] #[36] false)),
  (126, .one (.func #[34] #[2] false)),
  (127, .one (.int .u64)),
  (128, .one (.func #[34] #[127] false)),
  (129, .one (.func #[34, 34] #[4] false)),
  (130, .one (.func #[34] #[34] false)),
  (131, .one (.func #[9, 9, 9] #[4] false)),
  (132, .one (.func #[107] #[31] false)),
  (133, .struct [(0, 1), (1, 35)] 36),
  (134, .struct [(0, 1), (1, 35)] 36),
  (135, .one (.func #[27] #[94, 31] false)),
  (136, .one (.func #[92] #[92] false)),
  (137, .one (.func #[94] #[4] false)),
  (138, .one (.func #[27, 2] #[27] false)),
  (139, .one (.func #[27, 9] #[27] false)),
  (140, .one (.func #[92, 141] #[3] false)),
  (141, .one (.func #[83] #[4] false)),
  (142, .struct [(0, 1), (1, 1)] 2),
  (143, .struct [(0, 1), (1, 1)] 2),
  (144, .one (.func #[146] #[22] false)),
  (145, .one (.func #[196] #[] false)),
  (146, .one (.func #[196] #[] false)),
  (147, .one (.func #[108] #[146] false)),
  (148, .one (.func #[101] #[4] false)),
  (149, .one (.func #[1] #[31] false)),
  (150, .one (.pointer 154)),
  (151, .one (.func #[107] #[94] false)),
  (152, .one (.map 3 27)),
  (153, .struct [(0, 1), (1, 2), (3, 1)] 4),
  (154, .struct [(0, 1), (1, 2), (3, 1)] 4),
  (155, .one (.func #[2] #[] false)),
  (156, .one (.func #[34] #[4] false)),
  (157, .one (.func #[107] #[3] false)),
  (158, .struct [(0, 1), (1, 1), (2, 1), (3, 1)] 4),
  (159, .struct [(0, 1), (1, 1), (2, 1), (3, 1)] 4),
  (160, .one (.func #[107, 3] #[159] false)),
  (162, .one (.func #[159, 9] #[3, 4] false)),
  (163, .one (.func #[159, 9] #[3] false)),
  (164, .one (.func #[31] #[] false)),
  (165, .one (.func #[113] #[4] false)),
  (166, .one (.func #[24, 173] #[31] false)),
  (167, .one (.func #[24] #[3] false)),
  (168, .one (.func #[24, 3] #[] false)),
  (169, .one (.func #[24, 3, 159] #[] false)),
  (170, .struct [(0, 1), (1, 1)] 2),
  (171, .struct [(0, 1), (1, 1)] 2),
  (172, .one (.func #[24, 3, 113, 3] #[171] false)),
  (173, .one (.func #[24] #[] false)),
  (175, .one (.func #[24, 3, 9, 3] #[4, 4] false)),
  (177, .one (.func #[3, 27] #[31] false)),
  (178, .one (.pointer 182)),
  (180, .one (.func #[107] #[178, 31] false)),
  (181, .struct [(0, 1), (1, 1), (2, 1)] 3),
  (182, .struct [(0, 1), (1, 1), (2, 1)] 3),
  (183, .one (.func #[127] #[34] false)),
  (184, .one (.func #[107, 3, 186, 4] #[3] false)),
  (185, .struct [(0, 1), (1, 1)] 2),
  (186, .struct [(0, 1), (1, 1)] 2),
  (187, .one (.func #[107, 3] #[4, 31] false)),
  (188, .one (.func #[4, 31] #[] false)),
  (189, .one (.func #[22, 3] #[4] false)),
  (191, .one (.func #[27] #[2, 3, 31] false)),
  (193, .one (.func #[27] #[83, 3] false)),
  (194, .one (.func #[27, 27] #[4] false)),
  (195, .one (.func #[22] #[] false)),
  (196, .one (.func #[3] #[4] false)),
  (197, .struct [(0, 1)] 1),
  (198, .struct [(0, 1)] 1),
  (199, .one (.func #[107, 3] #[27] false)),
  (201, .one (.func #[3, 22] #[] false)),
  (202, .one (.func #[107] #[3, 31] false)),
  (204, .one (.func #[27] #[159, 31] false)),
  (205, .one (.func #[122, 9, 207] #[3, 4] false)),
  (206, .one (.func #[9, 9] #[3] false)),
  (207, .one (.func #[113, 9] #[3] false)),
  (208, .one (.func #[159] #[4] false)),
  (209, .one (.func #[91, 9] #[3, 4] false)),
  (210, .one (.func #[24, 3] #[31] false)),
  (211, .one (.func #[159] #[27, 31] false)),
  (212, .one (.func #[122, 3, 122] #[122] true)),
  (213, .one (.func #[24, 3, 159] #[171] false)),
  (214, .one (.func #[91, 3, 91] #[91] true)),
  (215, .one (.func #[22, 3, 22] #[22] true)),
  (216, .one (.func #[122, 3, 3] #[122] false)),
  (217, .one (.func #[24, 3, 159, 3] #[4] false)),
  (218, .one (.func #[22, 3, 3] #[22] false)),
  (219, .one (.func #[91, 3, 3] #[91] false)),
  (220, .one (.func #[3] #[31] false)),
  (221, .one (.func #[3] #[] false)),
  (222, .one (.func #[107] #[27, 31] false)),
  (223, .one (.func #[27, 3] #[4] false)),
  (224, .one (.func #[22, 3] #[3] false)),
  (226, .one (.func #[27] #[9, 3, 31] false)),
  (227, .one (.func #[22, 146] #[22] false)),
  (228, .one (.func #[22, 3, 3, 3] #[] false)),
  (229, .one (.func #[49] #[3] false)),
  (230, .one (.func #[83, 3] #[4] false)),
  (231, .one (.func #[94] #[3, 4] false)),
  (232, .one (.pointer 234)),
  (233, .struct [(0, 1), (1, 1)] 2),
  (234, .struct [(0, 1), (1, 1)] 2),
  (235, .one (.func #[] #[2] false)),
  (237, .one (.func #[27] #[113, 3, 31] false)),
  (238, .one (.func #[3, 31] #[] false)),
  (239, .one (.func #[9, 9] #[4] false)),
  (240, .one (.func #[159] #[27] false)),
  (241, .one (.func #[122, 122] #[4] false)),
  (242, .one (.func #[122, 3] #[] false)),
  (244, .one (.func #[159, 3] #[159, 159, 9] false)),
  (245, .one (.func #[159] #[3] false)),
  (246, .one (.func #[91, 91] #[4] false)),
  (247, .one (.func #[91, 3] #[] false)),
  (248, .one (.func #[22, 3] #[] false)),
  (249, .one (.func #[22, 3, 3] #[] false)),
  (250, .one (.int .i64)),
  (252, .one (.func #[22, 3, 3] #[3, 250] false)),
  (253, .one (.func #[22, 3, 3] #[4] false)),
  (254, .one (.func #[3, 3] #[4] false)),
  (255, .one (.func #[22, 3, 3, 3] #[3] false)),
  (256, .one (.func #[22, 3, 3, 3] #[3, 4] false)),
  (257, .one (.func #[258] #[3] false)),
  (258, .one (.int .u32)),
  (259, .one (.func #[127] #[3] false)),
  (260, .one (.func #[94] #[22] false)),
  (262, .one (.func #[27] #[36, 3, 31] false)),
  (263, .one (.func #[27, 113] #[27] false)),
  (264, .one (.func #[9, 9] #[9] false)),
  (265, .one (.int .u64)),
  (266, .one (.func #[3] #[49] false)),
  (267, .one (.func #[] #[127] false)),
  (268, .one (.func #[22, 3, 269] #[3] false)),
  (269, .one (.pointer 3)),
  (270, .one (.func #[22, 3, 3, 3, 269] #[3] false)),
  (272, .one (.func #[27] #[34, 4] false)),
  (273, .one (.func #[27, 36] #[27] false)),
  (274, .one (.func #[122] #[] false)),
  (275, .one (.func #[91] #[] false)),
  (276, .one (.pointer 265)),
  (278, .one (.func #[22, 3, 3, 269] #[3, 3] false)),
  (279, .one (.func #[] #[34] false)),
  (280, .one (.func #[34] #[27] false)),
  (281, .one (.func #[] #[9] false)),
  (282, .struct [(0, 1), (1, 1), (2, 1), (3, 1)] 4),
  (283, .struct [(0, 1), (1, 1), (2, 1), (3, 1)] 4),
  (284, .arr 0 16 1),
  (287, .one (.func #[] #[3] false)),
  (288, .one (.int .u8)),
  (289, .one (.int .u8)),
  (290, .one (.func #[297, 297] #[4] false)),
  (291, .one (.pointer 5)),
  (292, .one (.int .i32)),
  (293, .one (.int .i32)),
  (294, .struct [(0, 1), (1, 1), (2, 1), (3, 1), (4, 1), (5, 1), (6, 1), (7, 1), (8, 1), (9, 1), (10, 1)] 11),
  (295, .struct [(0, 1), (1, 1), (2, 1), (3, 1), (4, 1), (5, 1), (6, 1), (7, 1), (8, 1), (9, 1), (10, 1)] 11),
  (297, .one .unsafePointer)]
set_option maxRecDepth 100000 in
theorem hT : tab.ok Tryz.prog :=
  Tab.ok.cons (d := _) (T := _) ⟨Tryz.underlying1, Tryz.isAgg1, Tryz.sizeOf1⟩ <|
  Tab.ok.cons (d := _) (T := _) ⟨Tryz.underlying2, Tryz.isAgg2, Tryz.sizeOf2⟩ <|
  Tab.ok.cons (d := _) (T := _) ⟨Tryz.underlying3, Tryz.isAgg3, Tryz.sizeOf3⟩ <|
  Tab.ok.cons (d := _) (T := _) ⟨Tryz.underlying4, Tryz.isAgg4, Tryz.sizeOf4⟩ <|
  Tab.ok.cons (d := _) (T := _) ⟨Tryz.underlying5, Tryz.isAgg5, Tryz.sizeOf5⟩ <|
  Tab.ok.cons (d := _) (T := _) ⟨Tryz.underlying6, Tryz.isAgg6, Tryz.sizeOf6⟩ <|
  Tab.ok.cons (d := _) (T := _) ⟨⟨_, Tryz.underlying7, (.cons rfl Tryz.sizeOf2 (.cons rfl Tryz.sizeOf3 (.cons rfl Tryz.sizeOf4 (.cons rfl Tryz.sizeOf6 .nil))))⟩, Tryz.isAgg7, Tryz.sizeOf7⟩ <|
  Tab.ok.cons (d := _) (T := _) ⟨⟨_, Tryz.underlying8, (.cons rfl Tryz.sizeOf2 (.cons rfl Tryz.sizeOf3 (.cons rfl Tryz.sizeOf4 (.cons rfl Tryz.sizeOf6 .nil))))⟩, Tryz.isAgg8, Tryz.sizeOf8⟩ <|
  Tab.ok.cons (d := _) (T := _) ⟨Tryz.underlying9, Tryz.isAgg9, Tryz.sizeOf9⟩ <|
  Tab.ok.cons (d := _) (T := _) ⟨Tryz.underlying10, Tryz.isAgg10, Tryz.sizeOf10⟩ <|
  Tab.ok.cons (d := _) (T := _) ⟨Tryz.underlying11, Tryz.isAgg11, Tryz.sizeOf11⟩ <|
  Tab.ok.cons (d := _) (T := _) ⟨Tryz.underlying12, Tryz.isAgg12, Tryz.sizeOf12⟩ <|
  Tab.ok.cons (d := _) (T := _) ⟨⟨_, Tryz.underlying13, (.cons rfl Tryz.sizeOf9 (.cons rfl Tryz.sizeOf12 .nil))⟩, Tryz.isAgg13, Tryz.sizeOf13⟩ <|
  Tab.ok.cons (d := _) (T := _) ⟨⟨_, Tryz.underlying14, (.cons rfl Tryz.sizeOf9 (.cons rfl Tryz.sizeOf12 .nil))⟩, Tryz.isAgg14, Tryz.sizeOf14⟩ <|
  Tab.ok.cons (d := _) (T := _) ⟨Tryz.underlying15, Tryz.isAgg15, Tryz.sizeOf15⟩ <|
  Tab.ok.cons (d := _) (T := _) ⟨Tryz.underlying16, Tryz.isAgg16, Tryz.sizeOf16⟩ <|
  Tab.ok.cons (d := _) (T := _) ⟨Tryz.underlying17, Tryz.isAgg17, Tryz.sizeOf17⟩ <|
  Tab.ok.cons (d := _) (T := _) ⟨⟨_, Tryz.underlying18, (.cons rfl Tryz.sizeOf17 .nil)⟩, Tryz.isAgg18, Tryz.sizeOf18⟩ <|
  Tab.ok.cons (d := _) (T := _) ⟨⟨_, Tryz.underlying19, (.cons rfl Tryz.sizeOf17 .nil)⟩, Tryz.isAgg19, Tryz.sizeOf19⟩ <|
  Tab.ok.cons (d := _) (T := _) ⟨Tryz.underlying20, Tryz.isAgg20, Tryz.sizeOf20⟩ <|
  Tab.ok.cons (d := _) (T := _) ⟨Tryz.underlying21, Tryz.isAgg21, Tryz.sizeOf21⟩ <|
  Tab.ok.cons (d := _) (T := _) ⟨Tryz.underlying22, Tryz.sizeOf3, Tryz.isAgg22, Tryz.sizeOf22⟩ <|
  Tab.ok.cons (d := _) (T := _) ⟨Tryz.underlying23, Tryz.isAgg23, Tryz.sizeOf23⟩ <|
  Tab.ok.cons (d := _) (T := _) ⟨Tryz.underlying24, Tryz.isAgg24, Tryz.sizeOf24⟩ <|
  Tab.ok.cons (d := _) (T := _) ⟨Tryz.underlying25, Tryz.isAgg25, Tryz.sizeOf25⟩ <|
  Tab.ok.cons (d := _) (T := _) ⟨Tryz.underlying26, Tryz.isAgg26, Tryz.sizeOf26⟩ <|
  Tab.ok.cons (d := _) (T := _) ⟨Tryz.underlying27, Tryz.sizeOf5, Tryz.isAgg27, Tryz.sizeOf27⟩ <|
  Tab.ok.cons (d := _) (T := _) ⟨Tryz.underlying28, Tryz.sizeOf27, Tryz.isAgg28, Tryz.sizeOf28⟩ <|
  Tab.ok.cons (d := _) (T := _) ⟨⟨_, Tryz.underlying29, (.cons rfl Tryz.sizeOf28 (.cons rfl Tryz.sizeOf3 .nil))⟩, Tryz.isAgg29, Tryz.sizeOf29⟩ <|
  Tab.ok.cons (d := _) (T := _) ⟨⟨_, Tryz.underlying30, (.cons rfl Tryz.sizeOf28 (.cons rfl Tryz.sizeOf3 .nil))⟩, Tryz.isAgg30, Tryz.sizeOf30⟩ <|
  Tab.ok.cons (d := _) (T := _) ⟨Tryz.underlying31, Tryz.isAgg31, Tryz.sizeOf31⟩ <|
  Tab.ok.cons (d := _) (T := _) ⟨Tryz.underlying32, Tryz.isAgg32, Tryz.sizeOf32⟩ <|
  Tab.ok.cons (d := _) (T := _) ⟨Tryz.underlying33, Tryz.isAgg33, Tryz.sizeOf33⟩ <|
  Tab.ok.cons (d := _) (T := _) ⟨Tryz.underlying34, Tryz.isAgg34, Tryz.sizeOf34⟩ <|
  Tab.ok.cons (d := _) (T := _) ⟨⟨_, Tryz.underlying35, (.cons rfl Tryz.sizeOf3 (.cons rfl Tryz.sizeOf34 (.cons rfl Tryz.sizeOf9 .nil)))⟩, Tryz.isAgg35, Tryz.sizeOf35⟩ <|
  Tab.ok.cons (d := _) (T := _) ⟨⟨_, Tryz.underlying36, (.cons rfl Tryz.sizeOf3 (.cons rfl Tryz.sizeOf34 (.cons rfl Tryz.sizeOf9 .nil)))⟩, Tryz.isAgg36, Tryz.sizeOf36⟩ <|
  Tab.ok.cons (d := _) (T := _) ⟨Tryz.underlying38, Tryz.isAgg38, Tryz.sizeOf38⟩ <|
  Tab.ok.cons (d := _) (T := _) ⟨Tryz.underlying39, Tryz.sizeOf60, Tryz.isAgg39, Tryz.sizeOf39⟩ <|
  Tab.ok.cons (d := _) (T := _) ⟨Tryz.underlying41, Tryz.isAgg41, Tryz.sizeOf41⟩ <|
  Tab.ok.cons (d := _) (T := _) ⟨Tryz.underlying43, Tryz.isAgg43, Tryz.sizeOf43⟩ <|
  Tab.ok.cons (d := _) (T := _) ⟨Tryz.underlying45, Tryz.isAgg45, Tryz.sizeOf45⟩ <|
  Tab.ok.cons (d := _) (T := _) ⟨Tryz.underlying46, Tryz.isAgg46, Tryz.sizeOf46⟩ <|
  Tab.ok.cons (d := _) (T := _) ⟨Tryz.underlying47, Tryz.isAgg47, Tryz.sizeOf47⟩ <|
  Tab.ok.cons (d := _) (T := _) ⟨Tryz.underlying48, Tryz.isAgg48, Tryz.sizeOf48⟩ <|
  Tab.ok.cons (d := _) (T := _) ⟨Tryz.underlying49, Tryz.isAgg49, Tryz.sizeOf49⟩ <|
  Tab.ok.cons (d := _) (T := _) ⟨Tryz.underlying50, Tryz.isAgg50, Tryz.sizeOf50⟩ <|
  Tab.ok.cons (d := _) (T := _) ⟨Tryz.underlying51, Tryz.isAgg51, Tryz.sizeOf51⟩ <|
  Tab.ok.cons (d := _) (T := _) ⟨Tryz.underlying52, Tryz.isAgg52, Tryz.sizeOf52⟩ <|
  Tab.ok.cons (d := _) (T := _) ⟨Tryz.underlying53, Tryz.sizeOf56, Tryz.isAgg53, Tryz.sizeOf53⟩ <|
  Tab.ok.cons (d := _) (T := _) ⟨Tryz.underlying54, Tryz.isAgg54, Tryz.sizeOf54⟩ <|
  Tab.ok.cons (d := _) (T := _) ⟨⟨_, Tryz.underlying55, (.cons rfl Tryz.sizeOf3 (.cons rfl Tryz.sizeOf2 (.cons rfl Tryz.sizeOf9 (.cons rfl Tryz.sizeOf9 (.cons rfl Tryz.sizeOf36 .nil)))))⟩, Tryz.isAgg55, Tryz.sizeOf55⟩ <|
  Tab.ok.cons (d := _) (T := _) ⟨⟨_, Tryz.underlying56, (.cons rfl Tryz.sizeOf3 (.cons rfl Tryz.sizeOf2 (.cons rfl Tryz.sizeOf9 (.cons rfl Tryz.sizeOf9 (.cons rfl Tryz.sizeOf36 .nil)))))⟩, Tryz.isAgg56, Tryz.sizeOf56⟩ <|
  Tab.ok.cons (d := _) (T := _) ⟨Tryz.underlying57, Tryz.isAgg57, Tryz.sizeOf57⟩ <|
  Tab.ok.cons (d := _) (T := _) ⟨Tryz.underlying58, Tryz.isAgg58, Tryz.sizeOf58⟩ <|
  Tab.ok.cons (d := _) (T := _) ⟨⟨_, Tryz.underlying59, (.cons rfl Tryz.sizeOf9 (.cons rfl Tryz.sizeOf36 .nil))⟩, Tryz.isAgg59, Tryz.sizeOf59⟩ <|
  Tab.ok.cons (d := _) (T := _) ⟨⟨_, Tryz.underlying60, (.cons rfl Tryz.sizeOf9 (.cons rfl Tryz.sizeOf36 .nil))⟩, Tryz.isAgg60, Tryz.sizeOf60⟩ <|
  Tab.ok.cons (d := _) (T := _) ⟨Tryz.underlying61, Tryz.isAgg61, Tryz.sizeOf61⟩ <|
  Tab.ok.cons (d := _) (T := _) ⟨Tryz.underlying62, Tryz.isAgg62, Tryz.sizeOf62⟩ <|
  Tab.ok.cons (d := _) (T := _) ⟨Tryz.underlying63, Tryz.sizeOf70, Tryz.isAgg63, Tryz.sizeOf63⟩ <|
  Tab.ok.cons (d := _) (T := _) ⟨⟨_, Tryz.underlying64, (.cons rfl Tryz.sizeOf39 (.cons rfl Tryz.sizeOf63 .nil))⟩, Tryz.isAgg64, Tryz.sizeOf64⟩ <|
  Tab.ok.cons (d := _) (T := _) ⟨⟨_, Tryz.underlying65, (.cons rfl Tryz.sizeOf39 (.cons rfl Tryz.sizeOf63 .nil))⟩, Tryz.isAgg65, Tryz.sizeOf65⟩ <|
  Tab.ok.cons (d := _) (T := _) ⟨Tryz.underlying66, Tryz.isAgg66, Tryz.sizeOf66⟩ <|
  Tab.ok.cons (d := _) (T := _) ⟨Tryz.underlying67, Tryz.isAgg67, Tryz.sizeOf67⟩ <|
  Tab.ok.cons (d := _) (T := _) ⟨Tryz.underlying68, Tryz.isAgg68, Tryz.sizeOf68⟩ <|
  Tab.ok.cons (d := _) (T := _) ⟨⟨_, Tryz.underlying69, (.cons rfl Tryz.sizeOf2 (.cons rfl Tryz.sizeOf9 (.cons rfl Tryz.sizeOf36 .nil)))⟩, Tryz.isAgg69, Tryz.sizeOf69⟩ <|
  Tab.ok.cons (d := _) (T := _) ⟨⟨_, Tryz.underlying70, (.cons rfl Tryz.sizeOf2 (.cons rfl Tryz.sizeOf9 (.cons rfl Tryz.sizeOf36 .nil)))⟩, Tryz.isAgg70, Tryz.sizeOf70⟩ <|
  Tab.ok.cons (d := _) (T := _) ⟨Tryz.underlying71, Tryz.isAgg71, Tryz.sizeOf71⟩ <|
  Tab.ok.cons (d := _) (T := _) ⟨Tryz.underlying72, Tryz.isAgg72, Tryz.sizeOf72⟩ <|
  Tab.ok.cons (d := _) (T := _) ⟨Tryz.underlying73, Tryz.isAgg73, Tryz.sizeOf73⟩ <|
  Tab.ok.cons (d := _) (T := _) ⟨Tryz.underlying74, Tryz.isAgg74, Tryz.sizeOf74⟩ <|
  Tab.ok.cons (d := _) (T := _) ⟨Tryz.underlying75, Tryz.isAgg75, Tryz.sizeOf75⟩ <|
  Tab.ok.cons (d := _) (T := _) ⟨Tryz.underlying76, Tryz.isAgg76, Tryz.sizeOf76⟩ <|
  Tab.ok.cons (d := _) (T := _) ⟨Tryz.underlying77, Tryz.isAgg77, Tryz.sizeOf77⟩ <|
  Tab.ok.cons (d := _) (T := _) ⟨Tryz.underlying78, Tryz.isAgg78, Tryz.sizeOf78⟩ <|
  Tab.ok.cons (d := _) (T := _) ⟨Tryz.underlying79, Tryz.isAgg79, Tryz.sizeOf79⟩ <|
  Tab.ok.cons (d := _) (T := _) ⟨Tryz.underlying80, Tryz.isAgg80, Tryz.sizeOf80⟩ <|
  Tab.ok.cons (d := _) (T := _) ⟨Tryz.underlying81, Tryz.sizeOf3, Tryz.isAgg81, Tryz.sizeOf81⟩ <|
  Tab.ok.cons (d := _) (T := _) ⟨⟨_, Tryz.underlying82, (.cons rfl Tryz.sizeOf9 (.cons rfl Tryz.sizeOf2 (.cons rfl Tryz.sizeOf4 (.cons rfl Tryz.sizeOf81 .nil))))⟩, Tryz.isAgg82, Tryz.sizeOf82⟩ <|
  Tab.ok.cons (d := _) (T := _) ⟨⟨_, Tryz.underlying83, (.cons rfl Tryz.sizeOf9 (.cons rfl Tryz.sizeOf2 (.cons rfl Tryz.sizeOf4 (.cons rfl Tryz.sizeOf81 .nil))))⟩, Tryz.isAgg83, Tryz.sizeOf83⟩ <|
  Tab.ok.cons (d := _) (T := _) ⟨Tryz.underlying84, Tryz.isAgg84, Tryz.sizeOf84⟩ <|
  Tab.ok.cons (d := _) (T := _) ⟨Tryz.underlying85, Tryz.isAgg85, Tryz.sizeOf85⟩ <|
  Tab.ok.cons (d := _) (T := _) ⟨Tryz.underlying87, Tryz.isAgg87, Tryz.sizeOf87⟩ <|
  Tab.ok.cons (d := _) (T := _) ⟨Tryz.underlying88, Tryz.isAgg88, Tryz.sizeOf88⟩ <|
  Tab.ok.cons (d := _) (T := _) ⟨Tryz.underlying90, Tryz.isAgg90, Tryz.sizeOf90⟩ <|
  Tab.ok.cons (d := _) (T := _) ⟨Tryz.underlying91, Tryz.sizeOf9, Tryz.isAgg91, Tryz.sizeOf91⟩ <|
  Tab.ok.cons (d := _) (T := _) ⟨Tryz.underlying92, Tryz.sizeOf83, Tryz.isAgg92, Tryz.sizeOf92⟩ <|
  Tab.ok.cons (d := _) (T := _) ⟨⟨_, Tryz.underlying93, (.cons rfl Tryz.sizeOf2 (.cons rfl Tryz.sizeOf92 .nil))⟩, Tryz.isAgg93, Tryz.sizeOf93⟩ <|
  Tab.ok.cons (d := _) (T := _) ⟨⟨_, Tryz.underlying94, (.cons rfl Tryz.sizeOf2 (.cons rfl Tryz.sizeOf92 .nil))⟩, Tryz.isAgg94, Tryz.sizeOf94⟩ <|
  Tab.ok.cons (d := _) (T := _) ⟨Tryz.underlying96, Tryz.isAgg96, Tryz.sizeOf96⟩ <|
  Tab.ok.cons (d := _) (T := _) ⟨Tryz.underlying97, Tryz.isAgg97, Tryz.sizeOf97⟩ <|
  Tab.ok.cons (d := _) (T := _) ⟨Tryz.underlying98, Tryz.isAgg98, Tryz.sizeOf98⟩ <|
  Tab.ok.cons (d := _) (T := _) ⟨Tryz.underlying99, Tryz.isAgg99, Tryz.sizeOf99⟩ <|
  Tab.ok.cons (d := _) (T := _) ⟨Tryz.underlying100, Tryz.isAgg100, Tryz.sizeOf100⟩ <|
  Tab.ok.cons (d := _) (T := _) ⟨Tryz.underlying101, Tryz.sizeOf143, Tryz.isAgg101, Tryz.sizeOf101⟩ <|
  Tab.ok.cons (d := _) (T := _) ⟨Tryz.underlying102, Tryz.isAgg102, Tryz.sizeOf102⟩ <|
  Tab.ok.cons (d := _) (T := _) ⟨Tryz.underlying104, Tryz.isAgg104, Tryz.sizeOf104⟩ <|
  Tab.ok.cons (d := _) (T := _) ⟨Tryz.underlying105, Tryz.isAgg105, Tryz.sizeOf105⟩ <|
  Tab.ok.cons (d := _) (T := _) ⟨Tryz.underlying106, Tryz.isAgg106, Tryz.sizeOf106⟩ <|
  Tab.ok.cons (d := _) (T := _) ⟨Tryz.underlying107, Tryz.isAgg107, Tryz.sizeOf107⟩ <|
  Tab.ok.cons (d := _) (T := _) ⟨Tryz.underlying108, Tryz.isAgg108, Tryz.sizeOf108⟩ <|
  Tab.ok.cons (d := _) (T := _) ⟨⟨_, Tryz.underlying109, (.cons rfl Tryz.sizeOf107 (.cons rfl Tryz.sizeOf108 .nil))⟩, Tryz.isAgg109, Tryz.sizeOf109⟩ <|
  Tab.ok.cons (d := _) (T := _) ⟨⟨_, Tryz.underlying110, (.cons rfl Tryz.sizeOf107 (.cons rfl Tryz.sizeOf108 .nil))⟩, Tryz.isAgg110, Tryz.sizeOf110⟩ <|
  Tab.ok.cons (d := _) (T := _) ⟨Tryz.underlying111, Tryz.isAgg111, Tryz.sizeOf111⟩ <|
  Tab.ok.cons (d := _) (T := _) ⟨⟨_, Tryz.underlying112, (.cons rfl Tryz.sizeOf9 (.cons rfl Tryz.sizeOf36 (.cons rfl Tryz.sizeOf2 (.cons rfl Tryz.sizeOf36 .nil))))⟩, Tryz.isAgg112, Tryz.sizeOf112⟩ <|
  Tab.ok.cons (d := _) (T := _) ⟨⟨_, Tryz.underlying113, (.cons rfl Tryz.sizeOf9 (.cons rfl Tryz.sizeOf36 (.cons rfl Tryz.sizeOf2 (.cons rfl Tryz.sizeOf36 .nil))))⟩, Tryz.isAgg113, Tryz.sizeOf113⟩ <|
  Tab.ok.cons (d := _) (T := _) ⟨Tryz.underlying115, Tryz.isAgg115, Tryz.sizeOf115⟩ <|
  Tab.ok.cons (d := _) (T := _) ⟨Tryz.underlying116, Tryz.isAgg116, Tryz.sizeOf116⟩ <|
  Tab.ok.cons (d := _) (T := _) ⟨Tryz.underlying117, Tryz.isAgg117, Tryz.sizeOf117⟩ <|
  Tab.ok.cons (d := _) (T := _) ⟨Tryz.underlying119, Tryz.isAgg119, Tryz.sizeOf119⟩ <|
  Tab.ok.cons (d := _) (T := _) ⟨Tryz.underlying120, Tryz.isAgg120, Tryz.sizeOf120⟩ <|
  Tab.ok.cons (d := _) (T := _) ⟨Tryz.underlying121, Tryz.isAgg121, Tryz.sizeOf121⟩ <|
  Tab.ok.cons (d := _) (T := _) ⟨Tryz.underlying122, Tryz.sizeOf113, Tryz.isAgg122, Tryz.sizeOf122⟩ <|
  Tab.ok.cons (d := _) (T := _) ⟨Tryz.underlying124, Tryz.isAgg124, Tryz.sizeOf124⟩ <|
  Tab.ok.cons (d := _) (T := _) ⟨Tryz.underlying125, Tryz.isAgg125, Tryz.sizeOf125⟩ <|
  Tab.ok.cons (d := _) (T := _) ⟨Tryz.underlying126, Tryz.isAgg126, Tryz.sizeOf126⟩ <|
  Tab.ok.cons (d := _) (T := _) ⟨Tryz.underlying127, Tryz.isAgg127, Tryz.sizeOf127⟩ <|
  Tab.ok.cons (d := _) (T := _) ⟨Tryz.underlying128, Tryz.isAgg128, Tryz.sizeOf128⟩ <|
  Tab.ok.cons (d := _) (T := _) ⟨Tryz.underlying129, Tryz.isAgg129, Tryz.sizeOf129⟩ <|
  Tab.ok.cons (d := _) (T := _) ⟨Tryz.underlying130, Tryz.isAgg130, Tryz.sizeOf130⟩ <|
  Tab.ok.cons (d := _) (T := _) ⟨Tryz.underlying131, Tryz.isAgg131, Tryz.sizeOf131⟩ <|
  Tab.ok.cons (d := _) (T := _) ⟨Tryz.underlying132, Tryz.isAgg132, Tryz.sizeOf132⟩ <|
  Tab.ok.cons (d := _) (T := _) ⟨⟨_, Tryz.underlying133, (.cons rfl Tryz.sizeOf107 (.cons rfl Tryz.sizeOf83 .nil))⟩, Tryz.isAgg133, Tryz.sizeOf133⟩ <|
  Tab.ok.cons (d := _) (T := _) ⟨⟨_, Tryz.underlying134, (.cons rfl Tryz.sizeOf107 (.cons rfl Tryz.sizeOf83 .nil))⟩, Tryz.isAgg134, Tryz.sizeOf134⟩ <|
  Tab.ok.cons (d := _) (T := _) ⟨Tryz.underlying135, Tryz.isAgg135, Tryz.sizeOf135⟩ <|
  Tab.ok.cons (d := _) (T := _) ⟨Tryz.underlying136, Tryz.isAgg136, Tryz.sizeOf136⟩ <|
  Tab.ok.cons (d := _) (T := _) ⟨Tryz.underlying137, Tryz.isAgg137, Tryz.sizeOf137⟩ <|
  Tab.ok.cons (d := _) (T := _) ⟨Tryz.underlying138, Tryz.isAgg138, Tryz.sizeOf138⟩ <|
  Tab.ok.cons (d := _) (T := _) ⟨Tryz.underlying139, Tryz.isAgg139, Tryz.sizeOf139⟩ <|
  Tab.ok.cons (d := _) (T := _) ⟨Tryz.underlying140, Tryz.isAgg140, Tryz.sizeOf140⟩ <|
  Tab.ok.cons (d := _) (T := _) ⟨Tryz.underlying141, Tryz.isAgg141, Tryz.sizeOf141⟩ <|
  Tab.ok.cons (d := _) (T := _) ⟨⟨_, Tryz.underlying142, (.cons rfl Tryz.sizeOf3 (.cons rfl Tryz.sizeOf27 .nil))⟩, Tryz.isAgg142, Tryz.sizeOf142⟩ <|
  Tab.ok.cons (d := _) (T := _) ⟨⟨_, Tryz.underlying143, (.cons rfl Tryz.sizeOf3 (.cons rfl Tryz.sizeOf27 .nil))⟩, Tryz.isAgg143, Tryz.sizeOf143⟩ <|
  Tab.ok.cons (d := _) (T := _) ⟨Tryz.underlying144, Tryz.isAgg144, Tryz.sizeOf144⟩ <|
  Tab.ok.cons (d := _) (T := _) ⟨Tryz.underlying145, Tryz.isAgg145, Tryz.sizeOf145⟩ <|
  Tab.ok.cons (d := _) (T := _) ⟨Tryz.underlying146, Tryz.isAgg146, Tryz.sizeOf146⟩ <|
  Tab.ok.cons (d := _) (T := _) ⟨Tryz.underlying147, Tryz.isAgg147, Tryz.sizeOf147⟩ <|
  Tab.ok.cons (d := _) (T := _) ⟨Tryz.underlying148, Tryz.isAgg148, Tryz.sizeOf148⟩ <|
  Tab.ok.cons (d := _) (T := _) ⟨Tryz.underlying149, Tryz.isAgg149, Tryz.sizeOf149⟩ <|
  Tab.ok.cons (d := _) (T := _) ⟨Tryz.underlying150, Tryz.isAgg150, Tryz.sizeOf150⟩ <|
  Tab.ok.cons (d := _) (T := _) ⟨Tryz.underlying151, Tryz.isAgg151, Tryz.sizeOf151⟩ <|
  Tab.ok.cons (d := _) (T := _) ⟨Tryz.underlying152, Tryz.isAgg152, Tryz.sizeOf152⟩ <|
  Tab.ok.cons (d := _) (T := _) ⟨⟨_, Tryz.underlying153, (.cons rfl Tryz.sizeOf107 (.cons rfl Tryz.sizeOf94 (.cons rfl Tryz.sizeOf152 .nil)))⟩, Tryz.isAgg153, Tryz.sizeOf153⟩ <|
  Tab.ok.cons (d := _) (T := _) ⟨⟨_, Tryz.underlying154, (.cons rfl Tryz.sizeOf107 (.cons rfl Tryz.sizeOf94 (.cons rfl Tryz.sizeOf152 .nil)))⟩, Tryz.isAgg154, Tryz.sizeOf154⟩ <|
  Tab.ok.cons (d := _) (T := _) ⟨Tryz.underlying155, Tryz.isAgg155, Tryz.sizeOf155⟩ <|
  Tab.ok.cons (d := _) (T := _) ⟨Tryz.underlying156, Tryz.isAgg156, Tryz.sizeOf156⟩ <|
  Tab.ok.cons (d := _) (T := _) ⟨Tryz.underlying157, Tryz.isAgg157, Tryz.sizeOf157⟩ <|
  Tab.ok.cons (d := _) (T := _) ⟨⟨_, Tryz.underlying158, (.cons rfl Tryz.sizeOf4 (.cons rfl Tryz.sizeOf122 (.cons rfl Tryz.sizeOf91 (.cons rfl Tryz.sizeOf22 .nil))))⟩, Tryz.isAgg158, Tryz.sizeOf158⟩ <|
  Tab.ok.cons (d := _) (T := _) ⟨⟨_, Tryz.underlying159, (.cons rfl Tryz.sizeOf4 (.cons rfl Tryz.sizeOf122 (.cons rfl Tryz.sizeOf91 (.cons rfl Tryz.sizeOf22 .nil))))⟩, Tryz.isAgg159, Tryz.sizeOf159⟩ <|
  Tab.ok.cons (d := _) (T := _) ⟨Tryz.underlying160, Tryz.isAgg160, Tryz.sizeOf160⟩ <|
  Tab.ok.cons (d := _) (T := _) ⟨Tryz.underlying162, Tryz.isAgg162, Tryz.sizeOf162⟩ <|
  Tab.ok.cons (d := _) (T := _) ⟨Tryz.underlying163, Tryz.isAgg163, Tryz.sizeOf163⟩ <|
  Tab.ok.cons (d := _) (T := _) ⟨Tryz.underlying164, Tryz.isAgg164, Tryz.sizeOf164⟩ <|
  Tab.ok.cons (d := _) (T := _) ⟨Tryz.underlying165, Tryz.isAgg165, Tryz.sizeOf165⟩ <|
  Tab.ok.cons (d := _) (T := _) ⟨Tryz.underlying166, Tryz.isAgg166, Tryz.sizeOf166⟩ <|
  Tab.ok.cons (d := _) (T := _) ⟨Tryz.underlying167, Tryz.isAgg167, Tryz.sizeOf167⟩ <|
  Tab.ok.cons (d := _) (T := _) ⟨Tryz.underlying168, Tryz.isAgg168, Tryz.sizeOf168⟩ <|
  Tab.ok.cons (d := _) (T := _) ⟨Tryz.underlying169, Tryz.isAgg169, Tryz.sizeOf169⟩ <|
  Tab.ok.cons (d := _) (T := _) ⟨⟨_, Tryz.underlying170, (.cons rfl Tryz.sizeOf9 (.cons rfl Tryz.sizeOf3 .nil))⟩, Tryz.isAgg170, Tryz.sizeOf170⟩ <|
  Tab.ok.cons (d := _) (T := _) ⟨⟨_, Tryz.underlying171, (.cons rfl Tryz.sizeOf9 (.cons rfl Tryz.sizeOf3 .nil))⟩, Tryz.isAgg171, Tryz.sizeOf171⟩ <|
  Tab.ok.cons (d := _) (T := _) ⟨Tryz.underlying172, Tryz.isAgg172, Tryz.sizeOf172⟩ <|
  Tab.ok.cons (d := _) (T := _) ⟨Tryz.underlying173, Tryz.isAgg173, Tryz.sizeOf173⟩ <|
  Tab.ok.cons (d := _) (T := _) ⟨Tryz.underlying175, Tryz.isAgg175, Tryz.sizeOf175⟩ <|
  Tab.ok.cons (d := _) (T := _) ⟨Tryz.underlying177, Tryz.isAgg177, Tryz.sizeOf177⟩ <|
  Tab.ok.cons (d := _) (T := _) ⟨Tryz.underlying178, Tryz.isAgg178, Tryz.sizeOf178⟩ <|
  Tab.ok.cons (d := _) (T := _) ⟨Tryz.underlying180, Tryz.isAgg180, Tryz.sizeOf180⟩ <|
  Tab.ok.cons (d := _) (T := _) ⟨⟨_, Tryz.underlying181, (.cons rfl Tryz.sizeOf107 (.cons rfl Tryz.sizeOf22 (.cons rfl Tryz.sizeOf122 .nil)))⟩, Tryz.isAgg181, Tryz.sizeOf181⟩ <|
  Tab.ok.cons (d := _) (T := _) ⟨⟨_, Tryz.underlying182, (.cons rfl Tryz.sizeOf107 (.cons rfl Tryz.sizeOf22 (.cons rfl Tryz.sizeOf122 .nil)))⟩, Tryz.isAgg182, Tryz.sizeOf182⟩ <|
  Tab.ok.cons (d := _) (T := _) ⟨Tryz.underlying183, Tryz.isAgg183, Tryz.sizeOf183⟩ <|
  Tab.ok.cons (d := _) (T := _) ⟨Tryz.underlying184, Tryz.isAgg184, Tryz.sizeOf184⟩ <|
  Tab.ok.cons (d := _) (T := _) ⟨⟨_, Tryz.underlying185, (.cons rfl Tryz.sizeOf9 (.cons rfl Tryz.sizeOf9 .nil))⟩, Tryz.isAgg185, Tryz.sizeOf185⟩ <|
  Tab.ok.cons (d := _) (T := _) ⟨⟨_, Tryz.underlying186, (.cons rfl Tryz.sizeOf9 (.cons rfl Tryz.sizeOf9 .nil))⟩, Tryz.isAgg186, Tryz.sizeOf186⟩ <|
  Tab.ok.cons (d := _) (T := _) ⟨Tryz.underlying187, Tryz.isAgg187, Tryz.sizeOf187⟩ <|
  Tab.ok.cons (d := _) (T := _) ⟨Tryz.underlying188, Tryz.isAgg188, Tryz.sizeOf188⟩ <|
  Tab.ok.cons (d := _) (T := _) ⟨Tryz.underlying189, Tryz.isAgg189, Tryz.sizeOf189⟩ <|
  Tab.ok.cons (d := _) (T := _) ⟨Tryz.underlying191, Tryz.isAgg191, Tryz.sizeOf191⟩ <|
  Tab.ok.cons (d := _) (T := _) ⟨Tryz.underlying193, Tryz.isAgg193, Tryz.sizeOf193⟩ <|
  Tab.ok.cons (d := _) (T := _) ⟨Tryz.underlying194, Tryz.isAgg194, Tryz.sizeOf194⟩ <|
  Tab.ok.cons (d := _) (T := _) ⟨Tryz.underlying195, Tryz.isAgg195, Tryz.sizeOf195⟩ <|
  Tab.ok.cons (d := _) (T := _) ⟨Tryz.underlying196, Tryz.isAgg196, Tryz.sizeOf196⟩ <|
  Tab.ok.cons (d := _) (T := _) ⟨⟨_, Tryz.underlying197, (.cons rfl Tryz.sizeOf31 .nil)⟩, Tryz.isAgg197, Tryz.sizeOf197⟩ <|
  Tab.ok.cons (d := _) (T := _) ⟨⟨_, Tryz.underlying198, (.cons rfl Tryz.sizeOf31 .nil)⟩, Tryz.isAgg198, Tryz.sizeOf198⟩ <|
  Tab.ok.cons (d := _) (T := _) ⟨Tryz.underlying199, Tryz.isAgg199, Tryz.sizeOf199⟩ <|
  Tab.ok.cons (d := _) (T := _) ⟨Tryz.underlying201, Tryz.isAgg201, Tryz.sizeOf201⟩ <|
  Tab.ok.cons (d := _) (T := _) ⟨Tryz.underlying202, Tryz.isAgg202, Tryz.sizeOf202⟩ <|
  Tab.ok.cons (d := _) (T := _) ⟨Tryz.underlying204, Tryz.isAgg204, Tryz.sizeOf204⟩ <|
  Tab.ok.cons (d := _) (T := _) ⟨Tryz.underlying205, Tryz.isAgg205, Tryz.sizeOf205⟩ <|
  Tab.ok.cons (d := _) (T := _) ⟨Tryz.underlying206, Tryz.isAgg206, Tryz.sizeOf206⟩ <|
  Tab.ok.cons (d := _) (T := _) ⟨Tryz.underlying207, Tryz.isAgg207, Tryz.sizeOf207⟩ <|
  Tab.ok.cons (d := _) (T := _) ⟨Tryz.underlying208, Tryz.isAgg208, Tryz.sizeOf208⟩ <|
  Tab.ok.cons (d := _) (T := _) ⟨Tryz.underlying209, Tryz.isAgg209, Tryz.sizeOf209⟩ <|
  Tab.ok.cons (d := _) (T := _) ⟨Tryz.underlying210, Tryz.isAgg210, Tryz.sizeOf210⟩ <|
  Tab.ok.cons (d := _) (T := _) ⟨Tryz.underlying211, Tryz.isAgg211, Tryz.sizeOf211⟩ <|
  Tab.ok.cons (d := _) (T := _) ⟨Tryz.underlying212, Tryz.isAgg212, Tryz.sizeOf212⟩ <|
  Tab.ok.cons (d := _) (T := _) ⟨Tryz.underlying213, Tryz.isAgg213, Tryz.sizeOf213⟩ <|
  Tab.ok.cons (d := _) (T := _) ⟨Tryz.underlying214, Tryz.isAgg214, Tryz.sizeOf214⟩ <|
  Tab.ok.cons (d := _) (T := _) ⟨Tryz.underlying215, Tryz.isAgg215, Tryz.sizeOf215⟩ <|
  Tab.ok.cons (d := _) (T := _) ⟨Tryz.underlying216, Tryz.isAgg216, Tryz.sizeOf216⟩ <|
  Tab.ok.cons (d := _) (T := _) ⟨Tryz.underlying217, Tryz.isAgg217, Tryz.sizeOf217⟩ <|
  Tab.ok.cons (d := _) (T := _) ⟨Tryz.underlying218, Tryz.isAgg218, Tryz.sizeOf218⟩ <|
  Tab.ok.cons (d := _) (T := _) ⟨Tryz.underlying219, Tryz.isAgg219, Tryz.sizeOf219⟩ <|
  Tab.ok.cons (d := _) (T := _) ⟨Tryz.underlying220, Tryz.isAgg220, Tryz.sizeOf220⟩ <|
  Tab.ok.cons (d := _) (T := _) ⟨Tryz.underlying221, Tryz.isAgg221, Tryz.sizeOf221⟩ <|
  Tab.ok.cons (d := _) (T := _) ⟨Tryz.underlying222, Tryz.isAgg222, Tryz.sizeOf222⟩ <|
  Tab.ok.cons (d := _) (T := _) ⟨Tryz.underlying223, Tryz.isAgg223, Tryz.sizeOf223⟩ <|
  Tab.ok.cons (d := _) (T := _) ⟨Tryz.underlying224, Tryz.isAgg224, Tryz.sizeOf224⟩ <|
  Tab.ok.cons (d := _) (T := _) ⟨Tryz.underlying226, Tryz.isAgg226, Tryz.sizeOf226⟩ <|
  Tab.ok.cons (d := _) (T := _) ⟨Tryz.underlying227, Tryz.isAgg227, Tryz.sizeOf227⟩ <|
  Tab.ok.cons (d := _) (T := _) ⟨Tryz.underlying228, Tryz.isAgg228, Tryz.sizeOf228⟩ <|
  Tab.ok.cons (d := _) (T := _) ⟨Tryz.underlying229, Tryz.isAgg229, Tryz.sizeOf229⟩ <|
  Tab.ok.cons (d := _) (T := _) ⟨Tryz.underlying230, Tryz.isAgg230, Tryz.sizeOf230⟩ <|
  Tab.ok.cons (d := _) (T := _) ⟨Tryz.underlying231, Tryz.isAgg231, Tryz.sizeOf231⟩ <|
  Tab.ok.cons (d := _) (T := _) ⟨Tryz.underlying232, Tryz.isAgg232, Tryz.sizeOf232⟩ <|
  Tab.ok.cons (d := _) (T := _) ⟨⟨_, Tryz.underlying233, (.cons rfl Tryz.sizeOf27 (.cons rfl Tryz.sizeOf4 .nil))⟩, Tryz.isAgg233, Tryz.sizeOf233⟩ <|
  Tab.ok.cons (d := _) (T := _) ⟨⟨_, Tryz.underlying234, (.cons rfl Tryz.sizeOf27 (.cons rfl Tryz.sizeOf4 .nil))⟩, Tryz.isAgg234, Tryz.sizeOf234⟩ <|
  Tab.ok.cons (d := _) (T := _) ⟨Tryz.underlying235, Tryz.isAgg235, Tryz.sizeOf235⟩ <|
  Tab.ok.cons (d := _) (T := _) ⟨Tryz.underlying237, Tryz.isAgg237, Tryz.sizeOf237⟩ <|
  Tab.ok.cons (d := _) (T := _) ⟨Tryz.underlying238, Tryz.isAgg238, Tryz.sizeOf238⟩ <|
  Tab.ok.cons (d := _) (T := _) ⟨Tryz.underlying239, Tryz.isAgg239, Tryz.sizeOf239⟩ <|
  Tab.ok.cons (d := _) (T := _) ⟨Tryz.underlying240, Tryz.isAgg240, Tryz.sizeOf240⟩ <|
  Tab.ok.cons (d := _) (T := _) ⟨Tryz.underlying241, Tryz.isAgg241, Tryz.sizeOf241⟩ <|
  Tab.ok.cons (d := _) (T := _) ⟨Tryz.underlying242, Tryz.isAgg242, Tryz.sizeOf242⟩ <|
  Tab.ok.cons (d := _) (T := _) ⟨Tryz.underlying244, Tryz.isAgg244, Tryz.sizeOf244⟩ <|
  Tab.ok.cons (d := _) (T := _) ⟨Tryz.underlying245, Tryz.isAgg245, Tryz.sizeOf245⟩ <|
  Tab.ok.cons (d := _) (T := _) ⟨Tryz.underlying246, Tryz.isAgg246, Tryz.sizeOf246⟩ <|
  Tab.ok.cons (d := _) (T := _) ⟨Tryz.underlying247, Tryz.isAgg247, Tryz.sizeOf247⟩ <|
  Tab.ok.cons (d := _) (T := _) ⟨Tryz.underlying248, Tryz.isAgg248, Tryz.sizeOf248⟩ <|
  Tab.ok.cons (d := _) (T := _) ⟨Tryz.underlying249, Tryz.isAgg249, Tryz.sizeOf249⟩ <|
  Tab.ok.cons (d := _) (T := _) ⟨Tryz.underlying250, Tryz.isAgg250, Tryz.sizeOf250⟩ <|
  Tab.ok.cons (d := _) (T := _) ⟨Tryz.underlying252, Tryz.isAgg252, Tryz.sizeOf252⟩ <|
  Tab.ok.cons (d := _) (T := _) ⟨Tryz.underlying253, Tryz.isAgg253, Tryz.sizeOf253⟩ <|
  Tab.ok.cons (d := _) (T := _) ⟨Tryz.underlying254, Tryz.isAgg254, Tryz.sizeOf254⟩ <|
  Tab.ok.cons (d := _) (T := _) ⟨Tryz.underlying255, Tryz.isAgg255, Tryz.sizeOf255⟩ <|
  Tab.ok.cons (d := _) (T := _) ⟨Tryz.underlying256, Tryz.isAgg256, Tryz.sizeOf256⟩ <|
  Tab.ok.cons (d := _) (T := _) ⟨Tryz.underlying257, Tryz.isAgg257, Tryz.sizeOf257⟩ <|
  Tab.ok.cons (d := _) (T := _) ⟨Tryz.underlying258, Tryz.isAgg258, Tryz.sizeOf258⟩ <|
  Tab.ok.cons (d := _) (T := _) ⟨Tryz.underlying259, Tryz.isAgg259, Tryz.sizeOf259⟩ <|
  Tab.ok.cons (d := _) (T := _) ⟨Tryz.underlying260, Tryz.isAgg260, Tryz.sizeOf260⟩ <|
  Tab.ok.cons (d := _) (T := _) ⟨Tryz.underlying262, Tryz.isAgg262, Tryz.sizeOf262⟩ <|
  Tab.ok.cons (d := _) (T := _) ⟨Tryz.underlying263, Tryz.isAgg263, Tryz.sizeOf263⟩ <|
  Tab.ok.cons (d := _) (T := _) ⟨Tryz.underlying264, Tryz.isAgg264, Tryz.sizeOf264⟩ <|
  Tab.ok.cons (d := _) (T := _) ⟨Tryz.underlying265, Tryz.isAgg265, Tryz.sizeOf265⟩ <|
  Tab.ok.cons (d := _) (T := _) ⟨Tryz.underlying266, Tryz.isAgg266, Tryz.sizeOf266⟩ <|
  Tab.ok.cons (d := _) (T := _) ⟨Tryz.underlying267, Tryz.isAgg267, Tryz.sizeOf267⟩ <|
  Tab.ok.cons (d := _) (T := _) ⟨Tryz.underlying268, Tryz.isAgg268, Tryz.sizeOf268⟩ <|
  Tab.ok.cons (d := _) (T := _) ⟨Tryz.underlying269, Tryz.isAgg269, Tryz.sizeOf269⟩ <|
  Tab.ok.cons (d := _) (T := _) ⟨Tryz.underlying270, Tryz.isAgg270, Tryz.sizeOf270⟩ <|
  Tab.ok.cons (d := _) (T := _) ⟨Tryz.underlying272, Tryz.isAgg272, Tryz.sizeOf272⟩ <|
  Tab.ok.cons (d := _) (T := _) ⟨Tryz.underlying273, Tryz.isAgg273, Tryz.sizeOf273⟩ <|
  Tab.ok.cons (d := _) (T := _) ⟨Tryz.underlying274, Tryz.isAgg274, Tryz.sizeOf274⟩ <|
  Tab.ok.cons (d := _) (T := _) ⟨Tryz.underlying275, Tryz.isAgg275, Tryz.sizeOf275⟩ <|
  Tab.ok.cons (d := _) (T := _) ⟨Tryz.underlying276, Tryz.isAgg276, Tryz.sizeOf276⟩ <|
  Tab.ok.cons (d := _) (T := _) ⟨Tryz.underlying278, Tryz.isAgg278, Tryz.sizeOf278⟩ <|
  Tab.ok.cons (d := _) (T := _) ⟨Tryz.underlying279, Tryz.isAgg279, Tryz.sizeOf279⟩ <|
  Tab.ok.cons (d := _) (T := _) ⟨Tryz.underlying280, Tryz.isAgg280, Tryz.sizeOf280⟩ <|
  Tab.ok.cons (d := _) (T := _) ⟨Tryz.underlying281, Tryz.isAgg281, Tryz.sizeOf281⟩ <|
  Tab.ok.cons (d := _) (T := _) ⟨⟨_, Tryz.underlying282, (.cons rfl Tryz.sizeOf17 (.cons rfl Tryz.sizeOf17 (.cons rfl Tryz.sizeOf17 (.cons rfl Tryz.sizeOf9 .nil))))⟩, Tryz.isAgg282, Tryz.sizeOf282⟩ <|
  Tab.ok.cons (d := _) (T := _) ⟨⟨_, Tryz.underlying283, (.cons rfl Tryz.sizeOf17 (.cons rfl Tryz.sizeOf17 (.cons rfl Tryz.sizeOf17 (.cons rfl Tryz.sizeOf9 .nil))))⟩, Tryz.isAgg283, Tryz.sizeOf283⟩ <|
  Tab.ok.cons (d := _) (T := _) ⟨Tryz.underlying284, Tryz.sizeOf16, Tryz.isAgg284, Tryz.sizeOf284⟩ <|
  Tab.ok.cons (d := _) (T := _) ⟨Tryz.underlying287, Tryz.isAgg287, Tryz.sizeOf287⟩ <|
  Tab.ok.cons (d := _) (T := _) ⟨Tryz.underlying288, Tryz.isAgg288, Tryz.sizeOf288⟩ <|
  Tab.ok.cons (d := _) (T := _) ⟨Tryz.underlying289, Tryz.isAgg289, Tryz.sizeOf289⟩ <|
  Tab.ok.cons (d := _) (T := _) ⟨Tryz.underlying290, Tryz.isAgg290, Tryz.sizeOf290⟩ <|
  Tab.ok.cons (d := _) (T := _) ⟨Tryz.underlying291, Tryz.isAgg291, Tryz.sizeOf291⟩ <|
  Tab.ok.cons (d := _) (T := _) ⟨Tryz.underlying292, Tryz.isAgg292, Tryz.sizeOf292⟩ <|
  Tab.ok.cons (d := _) (T := _) ⟨Tryz.underlying293, Tryz.isAgg293, Tryz.sizeOf293⟩ <|
  Tab.ok.cons (d := _) (T := _) ⟨⟨_, Tryz.underlying294, (.cons rfl Tryz.sizeOf12 (.cons rfl Tryz.sizeOf12 (.cons rfl Tryz.sizeOf258 (.cons rfl Tryz.sizeOf288 (.cons rfl Tryz.sizeOf5 (.cons rfl Tryz.sizeOf5 (.cons rfl Tryz.sizeOf289 (.cons rfl Tryz.sizeOf290 (.cons rfl Tryz.sizeOf291 (.cons rfl Tryz.sizeOf292 (.cons rfl Tryz.sizeOf293 .nil)))))))))))⟩, Tryz.isAgg294, Tryz.sizeOf294⟩ <|
  Tab.ok.cons (d := _) (T := _) ⟨⟨_, Tryz.underlying295, (.cons rfl Tryz.sizeOf12 (.cons rfl Tryz.sizeOf12 (.cons rfl Tryz.sizeOf258 (.cons rfl Tryz.sizeOf288 (.cons rfl Tryz.sizeOf5 (.cons rfl Tryz.sizeOf5 (.cons rfl Tryz.sizeOf289 (.cons rfl Tryz.sizeOf290 (.cons rfl Tryz.sizeOf291 (.cons rfl Tryz.sizeOf292 (.cons rfl Tryz.sizeOf293 .nil)))))))))))⟩, Tryz.isAgg295, Tryz.sizeOf295⟩ <|
  Tab.ok.cons (d := _) (T := _) ⟨Tryz.underlying297, Tryz.isAgg297, Tryz.sizeOf297⟩ <|
  Tab.ok.nil
theorem el22 : Elem Tryz.prog 22 3 1 := ⟨Tryz.underlying22, Tryz.sizeOf3, ⟨Tryz.t3, Tryz.typeInfo3, by decide, by decide⟩, ⟨_, Tryz.zeroValue3, rfl⟩⟩
theorem el27 : Elem Tryz.prog 27 5 1 := ⟨Tryz.underlying27, Tryz.sizeOf5, ⟨Tryz.t5, Tryz.typeInfo5, by decide, by decide⟩, ⟨_, Tryz.zeroValue5, rfl⟩⟩
theorem el39 : Elem Tryz.prog 39 60 4 := ⟨Tryz.underlying39, Tryz.sizeOf60, ⟨Tryz.t60, Tryz.typeInfo60, by decide, by decide⟩, ⟨_, Tryz.zeroValue60, rfl⟩⟩
theorem el91 : Elem Tryz.prog 91 9 1 := ⟨Tryz.underlying91, Tryz.sizeOf9, ⟨Tryz.t9, Tryz.typeInfo9, by decide, by decide⟩, ⟨_, Tryz.zeroValue9, rfl⟩⟩
theorem el101 : Elem Tryz.prog 101 143 2 := ⟨Tryz.underlying101, Tryz.sizeOf143, ⟨Tryz.t143, Tryz.typeInfo143, by decide, by decide⟩, ⟨_, Tryz.zeroValue143, rfl⟩⟩
theorem el122 : Elem Tryz.prog 122 113 8 := ⟨Tryz.underlying122, Tryz.sizeOf113, ⟨Tryz.t113, Tryz.typeInfo113, by decide, by decide⟩, ⟨_, Tryz.zeroValue113, rfl⟩⟩
theorem mixed : Tryz.prog.follows .mixedOrders = true := by kernel_rfl
end Go.Proofs.YtihpkgmfkbkffaaGreat.Sx
end

section
namespace Go.Proofs.YtihpkgmfkbkffaaGreat.Ro
open Go Go.Sx Go.ChangeShapes Go.WideShapes
theorem own : ownKnob Tryz.prog.godebug = none := by kernel_rfl
theorem laid : laidOutB Tryz.prog = true := by kernel_rfl
end Go.Proofs.YtihpkgmfkbkffaaGreat.Ro
end

section
namespace Go.Proofs.YtihpkgmfkbkffaaGreat.Sx
open Go Go.Sx Go.Pl
variable [Outer]

omit [Outer] in
/-- what a panic of ours tells -/
def flt (e : Int) : Value := .iface 198 (.agg ⟨[.int .i64 e]⟩)
omit [Outer] in
def brk (e : Int) : Int := if e = 0 then 8 else e

set_option maxHeartbeats 1000000 in
set_option maxRecDepth 100000 in
theorem guard_Break {e : Int} {hs : List Chunk} : FunP Tryz.prog 98 [.int .i64 e] hs (fun v' _ => False ∧ v' = .tuple ⟨[]⟩) (fun v' hs' => v' = flt (brk e) ∧ hs = hs') := by
  refine FunP.enter 7 Tryz.func98 rfl Tryz.ntmps98 rfl ?_
  refine TT.seq (.seq (.region (.pures hT 2 rfl (.nil (.seq (.cond rfl (fun c3 => ?_) (fun c3 => ?_)))))))
  ·
    have c3 : e = 0 := by simpa using c3
    refine TT.region (.pures hT 1 rfl (.nil (.seq (.region (.pures hT 1 rfl (.build hT rfl Tryz.zeroValue198 rfl rfl rfl rfl (.mkiface Tryz.underlying198 rfl rfl rfl rfl (.panic rfl rfl (PP.up ⟨by unfold brk; rw [if_pos c3]; rfl, rfl⟩)))))))))
  ·
    have c3 : ¬ e = 0 := by simpa using c3
    refine TT.skip (.seq (.region (.pures hT 1 rfl (.build hT rfl Tryz.zeroValue198 rfl rfl rfl rfl (.mkiface Tryz.underlying198 rfl rfl rfl rfl (.panic rfl rfl (PP.up ⟨by unfold brk; rw [if_neg c3]; rfl, rfl⟩)))))))

set_option maxHeartbeats 1000000 in
set_option maxRecDepth 100000 in
theorem guard_Check {e : Int} {hs : List Chunk} : Fun Tryz.prog 118 [.bool true, .int .i64 e] hs (fun v' hs' => v' = .tuple ⟨[]⟩ ∧ hs = hs') := by
  refine Fun.enter 8 Tryz.func118 rfl Tryz.ntmps118 rfl ?_
  refine TT.seq (.region (.pures hT 2 rfl (.nil (.seq (.cond_false rfl (.skip (.of (rs := []) [] hs rfl .nil sl ?_)))))))
  try dsimp only [one]
  exact ⟨rfl, rfl⟩

set_option maxHeartbeats 1000000 in
set_option maxRecDepth 100000 in
theorem guard_Fails {e : Int} {hs : List Chunk} : FunP Tryz.prog 118 [.bool false, .int .i64 e] hs (fun v' _ => False ∧ v' = .tuple ⟨[]⟩) (fun v' hs' => v' = flt (brk e) ∧ hs = hs') := by
  refine FunP.enter 8 Tryz.func118 rfl Tryz.ntmps118 rfl ?_
  refine TT.seq (.region (.pures hT 2 rfl (.nil (.seq (.cond_true rfl (.region (.pures hT 1 rfl (.callP Tryz.call98 rfl rfl rfl rfl (guard_Break) (fun _ _ h => by obtain ⟨rfl, rfl⟩ := h; exact PP.up ⟨rfl, rfl⟩) ?_))))))))
  rintro v_7 hs_7 h
  refine OT.nil (.ofP (rs := []) [] hs rfl .nil h.1.elim ?_)
  try dsimp only [one]
  exact h.1.elim

theorem guard_CheckB {b : Bool} {e : Int} {hs : List Chunk} : FunP Tryz.prog 118 [.bool b, .int .i64 e] hs (fun v' hs' => b = true ∧ v' = .tuple ⟨[]⟩ ∧ hs = hs') (fun v' hs' => b = false ∧ v' = flt (brk e) ∧ hs = hs') := by
  cases b with
  | true => exact (FunP.of guard_Check).mono (fun _ _ h => ⟨rfl, h⟩) fun _ _ h => h
  | false => exact guard_Fails.mono (fun _ _ h => h.1.elim) fun _ _ h => ⟨rfl, h⟩

omit [Outer] in
theorem brk_same {e : Int} (h : e ≠ 0) : brk e = e := by unfold brk; rw [if_neg h]

end Go.Proofs.YtihpkgmfkbkffaaGreat.Sx
end

section
namespace Go.Proofs.YtihpkgmfkbkffaaGreat.Sx
open Go Go.Sx Go.Pl
variable [Outer]

set_option maxRecDepth 100000 in
theorem guard_Try1_none {b : Nat} {e : Int} {fr : Nat × Nat} {hs : List Chunk} {w : World} (hm : Mem ([(b, blk [.int .i64 e] 31 fr)] :: hs) w) : CallsD Tryz.prog 127 ⟨[.pointer (some ⟨b, 0, none⟩)]⟩ .returning w fun x u w' => u = .returning ∧ ∃ v hs', x = .returned v ∧ hs' = [(b, blk [.int .i64 e] 31 fr)] :: hs ∧ Mem hs' w' := by
  refine callsD_recover (N := fun v hs' => hs' = [(b, blk [.int .i64 e] 31 fr)] :: hs) (u := .returning) (u' := .returning) (rv := .nilIface) (n := 12) Tryz.func127 rfl rfl rfl rfl (fun c cs h => .inr ⟨recover_none c cs h, rfl, rfl⟩) ?_ hm
  refine TT.block (.seq (.region ?_))
  refine OT.nil_nil Tryz.underlying20 rfl rfl rfl (.nil (.seq (.cond_true rfl (.region (.pures hT 1 rfl (.nil (.blk (.of (rs := []) [] _ rfl .nil (.refl _) ?_))))))))
  rfl

set_option maxRecDepth 100000 in
theorem guard_Try1_some {b : Nat} {e0 e : Int} {fr : Nat × Nat} {hs : List Chunk} {w : World} (hfr : thawed [Value.int .i64 e0] fr) (hm : Mem ([(b, blk [.int .i64 e0] 31 fr)] :: hs) w) : CallsD Tryz.prog 127 ⟨[.pointer (some ⟨b, 0, none⟩)]⟩ (.panicking [{ v := flt e, recovered := false }]) w fun x u w' => u = .panicking [{ v := flt e, recovered := true }] ∧ ∃ v hs', x = .returned v ∧ hs' = [(b, blk [.int .i64 e] 31 fr)] :: hs ∧ Mem hs' w' := by
  refine callsD_recover (N := fun v hs' => hs' = [(b, blk [.int .i64 e] 31 fr)] :: hs) (u := .panicking [{ v := flt e, recovered := false }]) (u' := .panicking [{ v := flt e, recovered := true }]) (rv := flt e) (n := 12) Tryz.func127 rfl rfl rfl rfl (fun c cs h => .inl (recover_some (flt e) c cs h)) ?_ hm
  refine TT.block (.seq (.region (.pures hT 1 rfl (.nil (.seq (.cond_false rfl ?_))))))
  refine TT.seq (.region ?_)
  refine OT.assert_ok Tryz.underlying198 rfl rfl rfl rfl (.pures hT 2 rfl (.nil (.seq (.cond_true rfl ?_))))
  refine TT.seq (.region (.alloc Tryz.zeroValue198 rfl rfl (fun b2 => ?_)))
  refine OT.store_all hT rfl rfl rfl rfl .head rfl rfl rfl (.inl (Nat.le_refl _)) (.nil (.seq (.region (.pures hT 1 rfl (.load rfl rfl (Ld.one hT rfl .one rfl) rfl ?_)))))
  refine OT.store_all hT rfl rfl rfl rfl (.tail .head) rfl rfl rfl hfr (.nil (.blk (.of (rs := []) [] ([(b, blk [.int .i64 e] 31 fr)] :: hs) rfl .nil sl ?_)))
  rfl

set_option maxRecDepth 100000 in
theorem guard_Try {g : Nat} {caps : List Value} {hs : List Chunk} {N : Value → List Chunk → Prop} {E : Int → List Chunk → Prop} (hc : ∀ args w, (callFunc g args).run Tryz.prog w = .ok (.enter g args) w) (hF : ∀ A : Chunk, FunP Tryz.prog g caps (A :: hs) (fun v hs' => ∃ hs1, hs' = A :: hs1 ∧ N v hs1) (fun v hs' => ∃ e hs1, hs' = A :: hs1 ∧ v = flt e ∧ E e hs1)) : Fun Tryz.prog 84 [.func (.func g) ⟨[]⟩ ⟨caps⟩] hs (fun v' hs' => (v' = .int .i64 0 ∧ ∃ v, N v hs') ∨ ∃ e, v' = .int .i64 e ∧ E e hs') := by
  intro w hm
  refine calls_of_wp_defers (R := Post (fun v' hs' => (v' = .int .i64 0 ∧ ∃ v, N v hs') ∨ ∃ e, v' = .int .i64 e ∧ E e hs')) Tryz.func84 rfl ?_
  have ha := Fits.start (fn := Tryz.f84) (vs := [.func (.func g) ⟨[]⟩ ⟨caps⟩]) (n := 8) rfl rfl
  refine wpD_seq (X := ⟨Tryz.prog, Tryz.f84, 8, Post (fun v' hs' => (v' = .int .i64 0 ∧ ∃ v, N v hs') ∨ ∃ e, v' = .int .i64 e ∧ E e hs')⟩) (ι := Nat) (fun _ => True) (fun b => [(2, .pointer (some ⟨b, 0, none⟩)), (0, .func (.func g) ⟨[]⟩ ⟨caps⟩)]) (fun b => [(b, blk [.int .i64 0] 31 (0, 0))] :: hs) ?_ ?_ ha hm
  · exact TT.region (.alloc Tryz.zeroValue31 rfl rfl (fun b => .nil (.cut b trivial (SubR.cons rfl (SubR.cons rfl (SubR.nil _))) (.refl _))))
  clear ha hm w
  intro b a w _ ha hm
  refine wpD_seq (X := ⟨Tryz.prog, Tryz.f84, 8, Post (fun v' hs' => (v' = .int .i64 0 ∧ ∃ v, N v hs') ∨ ∃ e, v' = .int .i64 e ∧ E e hs')⟩) (ι := Unit) (fun _ => True) (fun _ => [(2, .pointer (some ⟨b, 0, none⟩)), (0, .func (.func g) ⟨[]⟩ ⟨caps⟩)]) (fun _ => [(b, blk [.int .i64 0] 31 (0, 0))] :: hs) ?_ ?_ ha hm
  · exact TT.seq (.region (.pures hT 2 rfl (.nil (.seq (.cond_false rfl (.skip (.cut () trivial (SubR.cons rfl (SubR.cons rfl (SubR.nil _))) (.refl _))))))))
  clear ha hm w
  intro _ a w _ ha hm
  refine wp_seq (wp_region ?_)
  rw [wpOps_range]
  refine wpl_go rfl (r := .ok (.value (.func (.func 127) ⟨[]⟩ ⟨[.pointer (some ⟨b, 0, none⟩)]⟩)) w) (by have h2 := ha.ev (x := .tmp 2) rfl; simp [execOp, Instr.makeFunc, h2]) ?_
  rw [Oper.upon_value]
  have ha5 := ha.put (d := 5) rfl (.func (.func 127) ⟨[]⟩ ⟨[.pointer (some ⟨b, 0, none⟩)]⟩)
  generalize a.put (some 5) _ = a5 at ha5 ⊢
  refine wpl_go rfl (r := .ok (.defer ⟨.fn (.func 127) ⟨[.pointer (some ⟨b, 0, none⟩)]⟩, #[]⟩) w) (by have h5 := ha5.ev (x := .tmp 5) rfl; simp [execOp, resolve, Deferred.ofValue, h5]) ?_
  rw [Oper.upon_defer, ha5.defers]
  refine wp_seq (wp_region ?_)
  rw [wpOps_range]
  refine wpl_go rfl (r := .ok (.value (.func (.func g) ⟨[]⟩ ⟨caps⟩)) w) (by have h0 := ha5.ev (x := .tmp 0) rfl; exact congrArg (fun z => Result.ok (Next.value z) w) h0) ?_
  rw [Oper.upon_value]
  have ha6 := ha5.put (d := 6) rfl (.func (.func g) ⟨[]⟩ ⟨caps⟩)
  have h6 := ha6.ev (x := .tmp 6) rfl
  refine wpl_go rfl (r := .ok (.enter g ⟨caps⟩) w) (exec_callv (x := .tmp 6) h6 hc) ?_
  rw [Oper.upon_enter]
  refine (hF _ w hm).mono ?_
  rintro x w' (⟨v, hs', rfl, ⟨hs1, rfl, hN⟩, hM⟩ | ⟨v, hs', rfl, ⟨e, hs1, rfl, rfl, hE⟩, hM⟩)
  · refine wp_seq (wp_region ?_)
    rw [wpOps_range]
    obtain ⟨w2, hr, hm2⟩ := storeVar_run (P := Tryz.prog) (hT.ty (t := 31) rfl).sizeOf hM (o := 0) (v := .int .i64 0) rfl (Nat.le_refl _) rfl (.inl (Nat.le_refl _))
    have ha7 := ha6.put (d := 7) rfl v
    have h2 := ha7.ev (x := .tmp 2) rfl
    refine wpl_go rfl (r := .ok .skip w2) (exec_store (x := .tmp 2) (y := .const (.int .i64 0)) h2 rfl hr) ?_
    rw [Oper.upon_skip]
    refine wp_ret ?_
    have hm2 : Mem ([(b, blk [.int .i64 0] 31 (0, 0))] :: hs1) w2 := hm2
    refine leaves_cons (f := 127) (args := ⟨[.pointer (some ⟨b, 0, none⟩)]⟩) (by simp) (by simp [invoke, Tryz.call127]) ?_
    refine (guard_Try1_none hm2).mono ?_
    rintro x u w3 ⟨rfl, v', hs', rfl, rfl, hM3⟩
    exact ⟨.int .i64 0, Res.run ha7 hM3 (rs := [.cell 2 31]) (vs := [.int .i64 0]) (.cell rfl (Ld.one hT rfl .one rfl) .nil) rfl, .int .i64 0, hs1, rfl, .inl ⟨rfl, v, hN⟩, hM3.drop⟩
  · show Leaves _ _ _ _ [_] (.panicking _) _
    refine leaves_cons (f := 127) (args := ⟨[.pointer (some ⟨b, 0, none⟩)]⟩) (by simp) (by simp [invoke, Tryz.call127]) ?_
    refine (guard_Try1_some (.inl (Nat.le_refl _)) hM).mono ?_
    rintro x u w3 ⟨rfl, v', hs', rfl, rfl, hM3⟩
    exact ⟨.int .i64 e, Res.run ha6 hM3 (rs := [.cell 2 31]) (vs := [.int .i64 e]) (.cell rfl (Ld.one hT rfl .one rfl) .nil) rfl, .int .i64 e, hs1, rfl, .inr ⟨e, rfl, hE⟩, hM3.drop⟩

end Go.Proofs.YtihpkgmfkbkffaaGreat.Sx
end

section
namespace Go.Proofs.YtihpkgmfkbkffaaGreat.Sx
open Go Go.Sx Go.Pl
variable [Outer]

set_option maxHeartbeats 1000000 in
set_option maxRecDepth 100000 in
theorem alloc_is {no : Int} {hs : List Chunk} : Fun Tryz.prog 166 [.int .i64 no] hs (fun v' hs' => v' = .bool (decide (mayUse no)) ∧ hs = hs') := by
  refine Fun.enter 9 Tryz.func166 rfl Tryz.ntmps166 rfl ?_
  refine TT.seq (.region (.pures hT 1 rfl (.nil (.seq (.seq (.region (.pures hT 3 rfl (.split 5 rfl (fun g5 => ?_) (fun g5 => ?_)))))))))
  ·
    have g5 := of_decide_eq_true g5
    refine OT.pures hT 4 rfl (.nil (.seq (.ret (.of (rs := [.tmp 2]) [_] hs rfl (.tmp rfl .nil) sl ?_))))
    try dsimp only [one]
    exact ⟨congrArg Value.bool (decide_eq_decide.2 ⟨fun h => ⟨by omega, h⟩, fun h => h.2⟩), rfl⟩
  ·
    have g5 := of_decide_eq_false g5
    refine OT.pures hT 4 rfl (.nil (.seq (.ret (.of (rs := [.tmp 2]) [_] hs rfl (.tmp rfl .nil) sl ?_))))
    try dsimp only [one]
    exact ⟨congrArg Value.bool (decide_eq_false (fun h => by have := h.1; omega)).symm, rfl⟩

omit [Outer] in
set_option maxRecDepth 100000 in
theorem bit_all : ∀ x : Fin 256, ∀ k : Fin 8, (IntKind.u8.wrap (BitVec.ofInt 8 (((x.val : Nat) : Int).fdiv (2 ^ (min k.val 8))) &&& BitVec.ofInt 8 1).toNat == 1) = decide (x.val / 2 ^ k.val % 2 = 1) := by decide +kernel

set_option maxHeartbeats 1000000 in
set_option maxRecDepth 100000 in
theorem alloc_has {v : Value} {bs : List UInt8} {no : Int} {hs : List Chunk} (hr : Row Go.Sx.encB 1 hs v bs) (hl : bs.length = 256) : Fun Tryz.prog 158 [v, .int .i64 no] hs (fun v' hs' => v' = .bool (hasB bs no) ∧ hs = hs') := by
  refine Fun.enter 19 Tryz.func158 rfl Tryz.ntmps158 rfl ?_
  obtain ⟨a0, c0, hv⟩ := hr.len
  subst hv
  refine TT.seq (.region (.pures hT 1 rfl (.nil (.seq (.seq (.region (.pures hT 1 rfl (.call Tryz.call166 rfl rfl rfl rfl (alloc_is) ?_))))))))
  rintro v_6 hs_6 ⟨rfl, rfl⟩
  refine OT.pures hT 1 rfl (.split 7 rfl (fun g7 => ?_) (fun g7 => ?_))
  ·
    have g7 := of_decide_eq_true g7
    obtain ⟨n, rfl⟩ : ∃ n : Nat, no = n := ⟨no.toNat, by have := g7.1; omega⟩
    have hn := g7.2
    obtain ⟨c, hc⟩ := nth (l := bs) (i := n / 8) (by omega)
    refine OT.pures hT 3 rfl (.reg 10 rfl (v := .int .i64 ((n / 8 : Nat) : Int)) (int_eq (by rw [Int.tdiv_eq_ediv_of_nonneg (by omega), wrap_i64 (by omega) (by omega)]; omega)) (.index hT rfl rfl rfl rfl hr (by omega) (by rw [Int.toNat_natCast]; exact hc) rfl (fun ad_11 hel_11 => ?_)))
    refine OT.load rfl rfl (hel_11.ld_one hT rfl rfl) rfl (.pures hT 2 rfl (.reg 14 rfl (v := .int .i64 ((n % 8 : Nat) : Int)) (int_eq (by rw [Int.tmod_eq_emod_of_nonneg (by omega)]; omega)) (.shr hT rfl rfl rfl (by omega) rfl (.pures hT 4 rfl (.nil (.seq (.ret (.of (rs := [.tmp 4]) [_] hs rfl (.tmp rfl .nil) sl ?_))))))))
    try dsimp only [one]
    refine ⟨congrArg Value.bool ?_, rfl⟩
    have := bit_all ⟨c.toNat, c.toNat_lt⟩ ⟨n % 8, Nat.mod_lt _ (by decide)⟩
    unfold hasB
    have e : bs.getD ((n : Int).toNat / 8) 0 = c := by rw [Int.toNat_natCast, List.getD_eq_getElem?_getD, hc]; rfl
    rw [decide_eq_true g7, Bool.true_and, e, show (n : Int).toNat % 8 = n % 8 by rw [Int.toNat_natCast]]
    exact this
  ·
    have g7 := of_decide_eq_false g7
    refine OT.pures hT 12 rfl (.nil (.seq (.ret (.of (rs := [.tmp 4]) [_] hs rfl (.tmp rfl .nil) sl ?_))))
    try dsimp only [one]
    exact ⟨congrArg Value.bool (by unfold hasB; rw [decide_eq_false g7]; rfl), rfl⟩

end Go.Proofs.YtihpkgmfkbkffaaGreat.Sx
end

section
namespace Go.Proofs.YtihpkgmfkbkffaaGreat.Sx
open Go Go.Sx Go.Pl
variable [Outer]

set_option maxHeartbeats 1000000 in
set_option maxRecDepth 100000 in
theorem alloc_read {P : Value} {I : Chunk → Prop} {E : Int → Chunk → Prop} {pg : Int → Int × List UInt8} {H : Chunk} {r : List Chunk} (hP : Pgs Tryz.prog 5 P I E pg) (hI : I H) : Fun Tryz.prog 157 [P] (H :: r) (fun v' hs' => ∃ H' K w e bs, hs' = H' :: K :: r ∧ v' = .tuple ⟨[w, .int .i64 e]⟩ ∧ Own Go.Sx.encB 1 5 w bs K ∧ PgRes I E (whole256 (pg 1)) e bs H') := by
  refine Fun.enter 22 Tryz.func157 rfl Tryz.ntmps157 rfl ?_
  obtain ⟨ti, ui, rfl⟩ := hP.iface
  refine TT.seq (.region (.pures hT 2 rfl (.nil (.seq (.seq (.seq (.region (.pures hT 2 rfl (.nil (.seq (.cond_false rfl (.skip (.seq (.seq (.region (.pures hT 1 rfl (.page hP rfl rfl rfl rfl pl hI (by omega) (by omega) (fun H_10 K_10 w_10 e_10 bs_10 ho_10 hq_10 => ?_))))))))))))))))))
  obtain ⟨a10, c10, rfl⟩ := (ho_10.row (hs := [])).len
  refine OT.pures hT 5 rfl (.nil (.seq (.seq (.block (.seq (.region (.pures hT 3 rfl (.nil (.seq (.cond rfl (fun c13 => ?_) (fun c13 => ?_)))))))))))
  ·
    have c13 := bne_iff_ne.1 c13
    rcases hq_10 with ⟨h, _⟩ | ⟨h, rfl, hq⟩
    · exact absurd h c13
    refine TT.seq (.region (.pures hT 3 rfl (.nil (.seq (.ret (.of (rs := [.tmp 2, .tmp 3]) [_, _] (H_10 :: [] :: r) rfl (.tmp rfl (.tmp rfl .nil)) sl ?_))))))
    try dsimp only [one]
    refine ⟨H_10, [], _, e_10, [], rfl, rfl, Own.nil, .inr ⟨c13, rfl, ?_⟩⟩
    rcases hq with ⟨h1, h2⟩ | h2
    · exact .inl ⟨by unfold whole256; rw [if_pos (by rw [h1]; exact c13)]; exact h1, h2⟩
    · exact .inr h2
  ·
    have c13 := bne_eq_false_iff_eq.1 c13
    rcases hq_10 with ⟨rfl, hx, hI1⟩ | ⟨h, _⟩
    rotate_left
    · exact absurd c13 h
    refine TT.seq (.region (.pures hT 4 rfl (.nil (.seq (.cond rfl (fun c17 => ?_) (fun c17 => ?_))))))
    ·
      have c17 := bne_iff_ne.1 c17
      refine TT.seq (.region (.pures hT 2 rfl (.nil (.seq (.ret (.of (rs := [.tmp 2, .tmp 3]) [_, _] (H_10 :: [] :: r) rfl (.tmp rfl (.tmp rfl .nil)) sl ?_))))))
      try dsimp only [one]
      refine ⟨H_10, [], _, 1, [], rfl, rfl, Own.nil, .inr ⟨by decide, rfl, .inl ⟨?_, hI1⟩⟩⟩
      unfold whole256
      rw [hx, if_neg (by simp), if_pos (by dsimp only; omega)]
    ·
      have c17 := bne_eq_false_iff_eq.1 c17
      refine TT.skip (.blk (.seq (.seq (.region (.pures hT 3 rfl (.nil (.seq (.ret (.of (rs := [.tmp 2, .tmp 3]) [_, _] (H_10 :: K_10 :: r) rfl (.tmp rfl (.tmp rfl .nil)) sl ?_)))))))))
      try dsimp only [one]
      refine ⟨H_10, K_10, _, 0, bs_10, rfl, rfl, ho_10, .inl ⟨rfl, ?_, hI1⟩⟩
      unfold whole256
      rw [hx, if_neg (by simp), if_neg (by dsimp only; omega)]

omit [Outer] in
/-- what Used tells -/
def UsRes (I : Chunk → Prop) (E : Int → Chunk → Prop) (x : Int × List UInt8) (no : Int) (b : Bool) (e : Int) (H : Chunk) : Prop := (e = 0 ∧ (whole256 x).1 = 0 ∧ b = hasB (whole256 x).2 no ∧ I H) ∨ (e ≠ 0 ∧ b = false ∧ ((whole256 x).1 = e ∧ I H ∨ E e H))

omit [Outer] in
theorem whole_len {x : Int × List UInt8} {bs : List UInt8} (h : whole256 x = (0, bs)) : bs.length = 256 := by
  unfold whole256 at h
  split at h
  · rename_i h1; exact absurd (congrArg Prod.fst h) h1
  · split at h
    · exact absurd (congrArg Prod.fst h) (by simp)
    · rename_i h2; rw [h] at h2; exact Decidable.byContradiction h2

set_option maxHeartbeats 1000000 in
set_option maxRecDepth 100000 in
theorem alloc_Used {P : Value} {I : Chunk → Prop} {E : Int → Chunk → Prop} {pg : Int → Int × List UInt8} {H : Chunk} {r : List Chunk} (hP : Pgs Tryz.prog 5 P I E pg) (hI : I H) {no : Int} : Fun Tryz.prog 117 [P, .int .i64 no] (H :: r) (fun v' hs' => ∃ H' b e, hs' = H' :: r ∧ v' = .tuple ⟨[.bool b, .int .i64 e]⟩ ∧ UsRes I E (pg 1) no b e H') := by
  refine Fun.enter 19 Tryz.func117 rfl Tryz.ntmps117 rfl ?_
  refine TT.seq (.region (.pures hT 2 rfl (.nil (.seq (.seq (.region (.pures hT 1 rfl (.call Tryz.call157 rfl rfl rfl rfl (alloc_read hP hI) ?_))))))))
  rintro v_10 hs_10 ⟨H1, K1, w1, e1, bs1, rfl, rfl, ho1, hq1⟩
  refine OT.pures hT 5 rfl (.nil (.seq (.seq (.seq (.region (.pures hT 2 rfl (.nil (.seq (.cond rfl (fun c14 => ?_) (fun c14 => ?_))))))))))
  ·
    have c14 := bne_iff_ne.1 c14
    rcases hq1 with ⟨h, _⟩ | ⟨h, rfl, hq⟩
    · exact absurd h c14
    refine TT.seq (.region (.pures hT 3 rfl (.nil (.seq (.ret (.of (rs := [.tmp 4, .tmp 5]) [_, _] (H1 :: r) rfl (.tmp rfl (.tmp rfl .nil)) sl ?_))))))
    try dsimp only [one]
    exact ⟨H1, false, e1, rfl, rfl, .inr ⟨c14, rfl, hq⟩⟩
  ·
    have c14 := bne_eq_false_iff_eq.1 c14
    rcases hq1 with ⟨rfl, hx, hI1⟩ | ⟨h, _⟩
    rotate_left
    · exact absurd c14 h
    refine TT.skip (.seq (.seq (.region (.pures hT 2 rfl (.call Tryz.call158 rfl rfl rfl rfl (alloc_has (ho1.row.there) (whole_len hx)) ?_)))))
    rintro v_18 hs_18 ⟨rfl, rfl⟩
    refine OT.pures hT 2 rfl (.nil (.seq (.ret (.of (rs := [.tmp 4, .tmp 5]) [_, _] (H1 :: r) rfl (.tmp rfl (.tmp rfl .nil)) sl ?_))))
    try dsimp only [one]
    exact ⟨H1, _, 0, rfl, rfl, .inl ⟨rfl, by rw [hx], by rw [hx], hI1⟩⟩

end Go.Proofs.YtihpkgmfkbkffaaGreat.Sx
end

section
namespace Go.Proofs.YtihpkgmfkbkffaaGreat.Sx
open Go Go.Sx Go.Pl
variable [Outer]

set_option maxHeartbeats 1000000 in
set_option maxRecDepth 100000 in
theorem book_Page {b : Nat} {Q : Pages} {H : Chunk} {r : List Chunk} (hB : BkAt 30 b Q H) {no : Int} : Fun Tryz.prog 235 [.pointer (some ⟨b, 0, none⟩), .int .i64 no] (H :: r) (fun v' hs' => ∃ K w, hs' = H :: K :: r ∧ v' = .tuple ⟨[w, .int .i64 (pgOf Q no).1]⟩ ∧ Own Go.Sx.encB 1 5 w (pgOf Q no).2 K) := by
  refine Fun.enter 40 Tryz.func235 rfl Tryz.ntmps235 rfl ?_
  obtain ⟨vs, G, hS, rfl⟩ := hB.is
  refine TT.split (.seq (.region (.pures hT 2 rfl (.nil (.seq (.seq (.seq (.region (.pures hT 3 rfl (.split 8 rfl (fun g8 => ?_) (fun g8 => ?_)))))))))))
  ·
    have g8 := of_decide_eq_true g8
    refine OT.pures hT 3 rfl (.nil (.seq (.cond_true rfl (.seq (.region (.pures hT 2 rfl (.nil (.seq (.ret (.of (rs := [.tmp 4, .tmp 5]) [_, _] (([(b, blk (bkCells vs) 30 (0, 0))] ++ G) :: [] :: r) rfl (.tmp rfl (.tmp rfl .nil)) sl ?_))))))))))
    try dsimp only [one]
    exact ⟨[], _, rfl, by unfold pgOf; rw [if_neg (by unfold mayPage; omega)], by unfold pgOf; rw [if_neg (by unfold mayPage; omega)]; exact Own.nil⟩
  ·
    have g8 := of_decide_eq_false g8
    refine OT.pures hT 3 rfl (.nil (.seq (.cond rfl (fun c11 => ?_) (fun c11 => ?_))))
    ·
      have c11 := of_decide_eq_true c11
      refine TT.seq (.region (.pures hT 2 rfl (.nil (.seq (.ret (.of (rs := [.tmp 4, .tmp 5]) [_, _] (([(b, blk (bkCells vs) 30 (0, 0))] ++ G) :: [] :: r) rfl (.tmp rfl (.tmp rfl .nil)) sl ?_))))))
      try dsimp only [one]
      exact ⟨[], _, rfl, by unfold pgOf; rw [if_neg (by unfold mayPage; omega)], by unfold pgOf; rw [if_neg (by unfold mayPage; omega)]; exact Own.nil⟩
    ·
      have c11 := of_decide_eq_false c11
      obtain ⟨n, rfl⟩ : ∃ n : Nat, no = n := ⟨no.toNat, by omega⟩
      have hm : mayPage (n : Nat) := by unfold mayPage; omega
      obtain ⟨v, hv, hsl⟩ := hS.at_ n (by omega)
      have hpg : pgOf Q (n : Nat) = (0, Q (n : Nat)) := by unfold pgOf; rw [if_pos hm]
      have hlen := hsl.len
      obtain ⟨sp, sn, sc, rfl, hsN, hsS⟩ := hsl.slice
      refine TT.skip (.seq (.seq (.seq (.region (.pures hT 3 rfl (.load rfl rfl (Ld.one hT rfl hz (bk_bad hS.len)) rfl ?_))))))
      refine OT.pures hT 2 rfl (.pures hT 7 rfl (.nil (.seq (.cond_false rfl (.skip (.seq (.seq (.seq (.region (.pures hT 4 rfl (.index_at hT rfl rfl rfl rfl (by omega) (by omega) rfl (.load rfl rfl (Ld.slc hT rfl hz (bk_at hS.len hv (by omega))) rfl ?_))))))))))))
      refine OT.pures hT 1 rfl (.nil (.seq (.cond rfl (fun c31 => ?_) (fun c31 => ?_))))
      ·
        have hbs := hsN c31
        refine TT.seq (.region ?_)
        refine OT.make (enc := Go.Sx.encB) (z0 := (0 : UInt8)) (n := 256) el27 Tryz.zeroValue5 rfl rfl rfl rfl rfl (by omega) rfl (fun v_32 H_32 ho_32 => ?_)
        refine OT.pures hT 2 rfl (.nil (.seq (.ret (.of (rs := [.tmp 4, .tmp 5]) [_, _] (([(b, blk (bkCells vs) 30 (0, 0))] ++ G) :: H_32 :: r) rfl (.tmp rfl (.tmp rfl .nil)) sl ?_))))
        try dsimp only [one]
        rw [hpg]
        exact ⟨_, _, rfl, rfl, by rw [hbs]; exact ho_32⟩
      ·
        have hrow := hsS c31
        refine TT.skip (.seq (.seq (.region (.pures hT 4 rfl (.index_at hT rfl rfl rfl rfl (by omega) (by omega) rfl (.load rfl rfl (Ld.slc hT rfl hz (bk_at hS.len hv (by omega))) rfl ?_))))))
        refine OT.chunk0 ?_
        refine OT.append hT el27 rfl rfl rfl rfl pl (Own.nil (enc := Go.Sx.encB) (sz := 1) (e := 5)) (hrow.mono fun b o hb => .there (.there (has_one_there hb))) (ones_B _) (by simp only [List.length_nil]; omega) rfl (fun v_39 H_39 ho_39 => ?_)
        refine OT.pures hT 2 rfl (.nil (.seq (.ret (.of (rs := [.tmp 4, .tmp 5]) [_, _] (([(b, blk (bkCells vs) 30 (0, 0))] ++ G) :: H_39 :: r) rfl (.tmp rfl (.tmp rfl .nil)) sl ?_))))
        try dsimp only [one]
        rw [hpg]
        exact ⟨_, _, rfl, rfl, by rw [List.nil_append] at ho_39; exact ho_39⟩

theorem book_PgsI {b : Nat} {Q : Pages} {I : Chunk → Prop} (hI : ∀ H, I H → BkAt 30 b Q H) : Pgs Tryz.prog 5 (.iface 26 (.pointer (some ⟨b, 0, none⟩))) I (fun _ _ => False) (pgOf Q) :=
  ⟨26, _, 235, _, rfl, fun w => by kernel_rfl, Tryz.call235, fun no H r _ _ hB => (book_Page (hI H hB)).mono fun v' hs' ⟨K, w, h1, h2, h3⟩ => ⟨H, K, w, _, _, h1, h2, h3, by
    by_cases hm : mayPage no
    · exact .inl ⟨by unfold pgOf; rw [if_pos hm], by unfold pgOf; rw [if_pos hm], hB⟩
    · exact .inr ⟨by unfold pgOf; rw [if_neg hm]; decide, by unfold pgOf; rw [if_neg hm], .inl ⟨rfl, hB⟩⟩⟩⟩

theorem book_Pgs {b : Nat} {Q : Pages} : Pgs Tryz.prog 5 (.iface 26 (.pointer (some ⟨b, 0, none⟩))) (BkAt 30 b Q) (fun _ _ => False) (pgOf Q) := book_PgsI fun _ h => h

end Go.Proofs.YtihpkgmfkbkffaaGreat.Sx
end

section
namespace Go.Proofs.YtihpkgmfkbkffaaGreat.Sx
open Go Go.Sx Go.Pl
variable [Outer]

omit [Outer] in
theorem ext91 (b : Nat) (w : World) : (callFunc 91 #[.float .f64 b]).run Tryz.prog w = .ok (.value (.int .u64 (b : Nat))) w := by kernel_rfl

omit [Outer] in
theorem ext114 (b : Nat) (w : World) : (callFunc 114 #[.int .u64 (b : Nat)]).run Tryz.prog w = .ok (.value (.float .f64 b)) w := by kernel_rfl

set_option maxHeartbeats 1000000 in
set_option maxRecDepth 100000 in
theorem m_IsNaN {u : Nat} {hs : List Chunk} : Fun Tryz.prog 131 [.float .f64 u] hs (fun v' hs' => v' = .bool (nanN u) ∧ hs = hs') := by
  refine Fun.enter 6 Tryz.func131 rfl Tryz.ntmps131 rfl ?_
  refine TT.seq (.region (.pures hT 1 rfl (.nil (.seq (.seq (.region (.pures hT 2 rfl (.isnan rfl rfl rfl rfl (.pures hT 1 rfl (.nil (.seq (.ret (.of (rs := [.tmp 2]) [_] hs rfl (.tmp rfl .nil) sl ?_)))))))))))))
  try dsimp only [one]
  exact ⟨rfl, rfl⟩

set_option maxHeartbeats 1000000 in
set_option maxRecDepth 100000 in
theorem m_NaN {hs : List Chunk} : Fun Tryz.prog 216 [] hs (fun v' hs' => v' = .float .f64 9221120237041090561 ∧ hs = hs') := by
  refine Fun.enter 2 Tryz.func216 rfl Tryz.ntmps216 rfl ?_
  refine TT.seq (.region (.pures hT 1 rfl (.nil (.seq (.seq (.region (.extern (ext114 _) rfl rfl rfl rfl (.pures hT 1 rfl (.nil (.seq (.ret (.of (rs := [.tmp 0]) [_] hs rfl (.tmp rfl .nil) sl ?_))))))))))))
  try dsimp only [one]
  exact ⟨rfl, rfl⟩

set_option maxHeartbeats 1000000 in
set_option maxRecDepth 100000 in
theorem fl_Clean {u : Nat} {hs : List Chunk} : Fun Tryz.prog 92 [.float .f64 u] hs (fun v' hs' => v' = .float .f64 (cleanN u) ∧ hs = hs') := by
  refine Fun.enter 7 Tryz.func92 rfl Tryz.ntmps92 rfl ?_
  refine TT.seq (.region (.pures hT 1 rfl (.nil (.seq (.seq (.seq (.region (.pures hT 1 rfl (.call Tryz.call131 rfl rfl rfl rfl (m_IsNaN) ?_)))))))))
  rintro v_4 hs_4 ⟨rfl, rfl⟩
  refine OT.nil (.seq (.cond rfl (fun c4 => ?_) (fun c4 => ?_)))
  ·
    refine TT.seq (.region (.extern (ext114 _) rfl rfl rfl rfl (.pures hT 1 rfl (.nil (.seq (.ret (.of (rs := [.tmp 2]) [_] hs rfl (.tmp rfl .nil) sl ?_)))))))
    try dsimp only [one]
    exact ⟨by unfold cleanN; rw [c4]; rfl, rfl⟩
  ·
    refine TT.skip (.seq (.seq (.region (.pures hT 2 rfl (.nil (.seq (.ret (.of (rs := [.tmp 2]) [_] hs rfl (.tmp rfl .nil) sl ?_))))))))
    try dsimp only [one]
    exact ⟨by unfold cleanN; rw [c4]; rfl, rfl⟩

set_option maxHeartbeats 1000000 in
set_option maxRecDepth 100000 in
theorem fl_place {u : Nat} (hu : u < 2 ^ 64) {hs : List Chunk} : Fun Tryz.prog 217 [.float .f64 u] hs (fun v' hs' => v' = .int .u64 (placeN u : Nat) ∧ hs = hs') := by
  refine Fun.enter 17 Tryz.func217 rfl Tryz.ntmps217 rfl ?_
  refine TT.seq (.region (.pures hT 1 rfl (.nil (.seq (.seq (.region (.pures hT 1 rfl (.extern (ext91 _) rfl rfl rfl rfl (.pures hT 1 rfl (.nil (.seq (.seq (.block (.seq (.region (.pures hT 1 rfl (.call Tryz.call131 rfl rfl rfl rfl (m_IsNaN) ?_)))))))))))))))))
  rintro v_8 hs_8 ⟨rfl, rfl⟩
  refine OT.pures hT 1 rfl (.nil (.seq (.cond rfl (fun c6 => ?_) (fun c6 => ?_))))
  ·
    refine TT.seq (.region (.pures hT 1 rfl (.nil (.seq (.ret (.of (rs := [.tmp 2]) [_] hs rfl (.tmp rfl .nil) sl ?_))))))
    try dsimp only [one]
    exact ⟨by unfold placeN; rw [c6]; rfl, rfl⟩
  ·
    refine TT.seq (.region (.pures hT 4 rfl (.nil (.seq (.cond rfl (fun c9 => ?_) (fun c9 => ?_))))))
    ·
      have c9 := bne_iff_ne.1 c9
      refine TT.seq (.region (.pures hT 3 rfl (.nil (.seq (.ret (.of (rs := [.tmp 2]) [_] hs rfl (.tmp rfl .nil) sl ?_))))))
      try dsimp only [one]
      refine ⟨int_eq ?_, rfl⟩
      rw [and63 hu] at c9
      have h63 : 2 ^ 63 ≤ u := Decidable.byContradiction fun h => c9 (if_neg h)
      rw [not64 _ (by omega) (by omega)]
      unfold placeN; rw [c6, if_neg (by simp), if_pos h63]; omega
    ·
      have c9 := bne_eq_false_iff_eq.1 c9
      refine TT.skip (.blk (.seq (.seq (.region (.pures hT 3 rfl (.nil (.seq (.ret (.of (rs := [.tmp 2]) [_] hs rfl (.tmp rfl .nil) sl ?_)))))))))
      try dsimp only [one]
      refine ⟨int_eq ?_, rfl⟩
      unfold placeN; rw [c6, if_neg (by simp)]
      rw [and63 hu] at c9
      have h63 : ¬ 2 ^ 63 ≤ u := fun h => by rw [if_pos h] at c9; cases c9
      rw [if_neg h63, or63 (by omega)]

set_option maxHeartbeats 1000000 in
set_option maxRecDepth 100000 in
theorem fl_Bytes {u : Nat} (hu : u < 2 ^ 64) {hs : List Chunk} : Fun Tryz.prog 218 [.float .f64 u] hs (fun v' hs' => ∃ K, hs' = K :: hs ∧ Own Go.Sx.encB 1 5 v' (floatBytes u) K) := by
  refine Fun.enter 22 Tryz.func218 rfl Tryz.ntmps218 rfl ?_
  refine TT.seq (.region (.pures hT 1 rfl (.nil (.seq (.seq (.region (.pures hT 1 rfl (.call Tryz.call217 rfl rfl rfl rfl (fl_place hu) ?_))))))))
  rintro v_7 hs_7 ⟨rfl, rfl⟩
  refine OT.pures hT 1 rfl (.nil (.seq (.seq (.region (.pures hT 1 rfl (.nil (.seq (.seq (.seq (.region (.pures hT 1 rfl (.nil (.seq (.block (.chunk0 (.loop (ι := Nat × Value × Chunk) (fun j => (j.1) ≤ 8 ∧ Own Go.Sx.encB 1 5 (j.2.1) (beTo (placeN u) (j.1)) (j.2.2)) (fun j => 8 - (j.1)) (fun j => [(3, .int .u64 (placeN u : Nat)), (4, (j.2.1)), (8, .int .i64 ((j.1) : Nat))]) (fun j => (j.2.2) :: hs) (0, .slice none 0 0, []) ?_ (SubR.cons rfl (SubR.cons rfl (SubR.cons rfl (SubR.nil _)))) sl ?_))))))))))))))))
  · dsimp only
    exact ⟨by omega, Own.nil⟩
  rintro ⟨i, w, K⟩ hI
  dsimp only at hI
  obtain ⟨hi, ho⟩ := hI
  show TT _ _ _ [(3, .int .u64 (placeN u : Nat)), (4, w), (8, .int .i64 (i : Nat))] (K :: hs)
  have hbl := beTo_len (placeN u) i
  refine TT.seq (.region (.pures hT 1 rfl (.nil (.seq (.seq (.cond rfl (fun c9 => ?_) (fun c9 => ?_)))))))
  ·
    have c9 := of_decide_eq_true c9
    refine TT.skip (.seq (.seq (.block (.seq (.region (.pures hT 2 rfl (.nil (.seq (.region (.pures hT 5 rfl (.reg 15 rfl (v := .int .i64 ((8 * (7 - i) : Nat) : Int)) (int_eq (by rw [wrap_i64 (n := 7 - (i : Int)) (by omega) (by omega), wrap_i64 (by omega) (by omega)]; omega)) (.shr hT rfl rfl rfl (by omega) rfl (.pures hT 1 rfl ?_)))))))))))))
    refine OT.buildSlice (enc := Go.Sx.encB) (xs := [UInt8.ofNat (placeN u / 256 ^ (7 - i) % 256)]) (xos := [.tmp 17]) el27 rfl rfl rfl rfl (by rw [byte_at (by omega)]; rfl) (by simp [Value.cells]) (fun _ _ => rfl) rfl (by decide) rfl (fun v_18 H_18 ho_18 => ?_)
    refine OT.append hT el27 rfl rfl rfl rfl pl ho ho_18.row rfl (by simp only [List.length_cons, List.length_nil]; omega) rfl (fun v_19 H_19 ho_19 => ?_)
    refine OT.pures hT 1 rfl (.nil (.blk (.seq (.region (.pures hT 2 rfl (.nil (.loop (i + 1, v_19, H_19) ?_ ?_ (SubR.cons rfl (SubR.cons rfl (SubR.cons' rfl (by (try dsimp only); exact (int_eq (by rw [wrap_i64 (by omega) (by omega)]; omega))) (SubR.nil _)))) sl)))))))
    · dsimp only
      exact ⟨by omega, by rw [beTo_succ]; exact ho_19⟩
    · dsimp only
      omega
  ·
    have c9 := of_decide_eq_false c9
    obtain rfl : i = 8 := by omega
    refine TT.exit (.seq (.loop (.here (.seq (.seq (.region (.pures hT 2 rfl (.nil (.seq (.ret (.of (rs := [.tmp 2]) [_] (K :: hs) rfl (.tmp rfl .nil) sl ?_)))))))))))
    try dsimp only [one]
    exact ⟨K, rfl, ho⟩

set_option maxHeartbeats 1000000 in
set_option maxRecDepth 100000 in
theorem fl_Of {v : Value} {xs : List UInt8} {hs : List Chunk} (hr : Row Go.Sx.encB 1 hs v xs) : Fun Tryz.prog 210 [v] hs (fun v' hs' => v' = (.tuple ⟨[.float .f64 (ofF xs).1, .bool (ofF xs).2]⟩) ∧ hs = hs') := by
  refine Fun.enter 43 Tryz.func210 rfl Tryz.ntmps210 rfl ?_
  obtain ⟨a0, c0, hv⟩ := hr.len
  subst hv
  refine TT.seq (.region (.pures hT 2 rfl (.nil (.seq (.seq (.seq (.region (.pures hT 3 rfl (.nil (.seq (.cond rfl (fun c10 => ?_) (fun c10 => ?_))))))))))))
  ·
    have c10 := bne_iff_ne.1 c10
    refine TT.seq (.region (.pures hT 2 rfl (.nil (.seq (.ret (.of (rs := [.tmp 2, .tmp 3]) [_, _] hs rfl (.tmp rfl (.tmp rfl .nil)) sl ?_))))))
    try dsimp only [one]
    refine ⟨?_, rfl⟩
    unfold ofF; rw [if_pos (by omega)]
  ·
    have c10 := bne_eq_false_iff_eq.1 c10
    have hl8 : xs.length = 8 := by omega
    refine TT.skip (.seq (.seq (.region (.pures hT 1 rfl (.nil (.seq (.seq (.seq (.region (.pures hT 3 rfl (.nil (.seq (.block (.loop (ι := Nat) (fun j => (j) ≤ 8) (fun j => 8 - (j)) (fun j => [(4, .int .u64 (beN (xs.take (j)) : Nat)), (11, .slice a0 xs.length c0), (12, .int .i64 (xs.length : Nat)), (13, .int .i64 ((j) : Nat))]) (fun j => hs) (0) ?_ (SubR.cons rfl (SubR.cons rfl (SubR.cons rfl (SubR.cons rfl (SubR.nil _))))) sl ?_))))))))))))))
    · omega
    rintro i hi
    show TT _ _ _ [(4, .int .u64 (beN (xs.take i) : Nat)), (11, .slice a0 xs.length c0), (12, .int .i64 (xs.length : Nat)), (13, .int .i64 (i : Nat))] (hs)
    refine TT.seq (.region (.pures hT 1 rfl (.nil (.seq (.seq (.cond rfl (fun c14 => ?_) (fun c14 => ?_)))))))
    ·
      have c14 := of_decide_eq_true c14
      obtain ⟨c, hc⟩ := nth (l := xs) (i := i) (by omega)
      have hlt : beN (xs.take i) < 256 ^ 7 := Nat.lt_of_lt_of_le (beN_lt _) (Nat.pow_le_pow_right (by decide) (by rw [List.length_take]; omega))
      refine TT.skip (.seq (.seq (.block (.seq (.region (.index hT rfl rfl rfl rfl hr (by omega) (by rw [Int.toNat_natCast]; exact hc) rfl (fun ad_15 hel_15 => ?_)))))))
      refine OT.load rfl rfl (hel_15.ld_one hT rfl rfl) rfl (.pures hT 1 rfl (.nil (.seq (.region (.pures hT 6 rfl (.nil (.blk (.seq (.region (.pures hT 2 rfl (.nil (.loop (i + 1) ?_ ?_ (SubR.cons' rfl (by (try dsimp only); exact (int_eq (by rw [take_succ hc, beN_append, shl8 hlt, wrap_u64 (n := ((c.toNat : Nat) : Int)) (by omega) (by have := c.toNat_lt; omega), or_byte hlt]))) (SubR.cons rfl (SubR.cons rfl (SubR.cons' rfl (by (try dsimp only); exact (int_eq (by rw [wrap_i64 (by omega) (by omega)]; omega))) (SubR.nil _))))) sl))))))))))))
      · omega
      · omega
    ·
      have c14 := of_decide_eq_false c14
      obtain rfl : i = 8 := by omega
      rw [List.take_of_length_le (by omega)]
      have hu : beN xs < 2 ^ 64 := by have := beN_lt xs; rw [hl8] at this; exact this
      refine TT.exit (.seq (.loop (.here (.seq (.seq (.region (.pures hT 2 rfl (.reg 24 rfl (v := .int .u64 ((beN xs % 2 ^ 63 : Nat) : Int)) (int_eq (clear63 hu)) (.extern (ext114 _) rfl rfl rfl rfl (.pures hT 1 rfl (.nil (.seq (.seq (.block (.seq (.region (.pures hT 3 rfl (.nil (.seq (.cond rfl (fun c26 => ?_) (fun c26 => ?_)))))))))))))))))))))
      ·
        have c26 := beq_iff_eq.1 c26
        have hu0 : beN xs = 0 := by omega
        refine TT.seq (.region (.call Tryz.call216 rfl rfl rfl rfl (m_NaN) ?_))
        rintro v_29 hs_29 ⟨rfl, rfl⟩
        refine OT.call Tryz.call92 rfl rfl rfl rfl (fl_Clean) ?_
        rintro v_30 hs_30 ⟨rfl, rfl⟩
        refine OT.pures hT 2 rfl (.nil (.seq (.ret (.of (rs := [.tmp 2, .tmp 3]) [_, _] hs rfl (.tmp rfl (.tmp rfl .nil)) sl ?_))))
        try dsimp only [one]
        refine ⟨?_, rfl⟩
        unfold ofF floatGet
        rw [if_neg (by omega)]
        dsimp only
        rw [if_pos hu0, hu0]
        rfl
      ·
        have c26 := beq_eq_false_iff_ne.1 c26
        have hu0 : ¬ beN xs = 0 := by omega
        refine TT.seq (.region (.pures hT 4 rfl (.nil (.seq (.cond rfl (fun c31 => ?_) (fun c31 => ?_))))))
        ·
          have h63 : beN xs < 2 ^ 63 := by
            rw [and63 hu] at c31
            exact Decidable.byContradiction fun h => by rw [if_pos (by omega)] at c31; cases c31
          have hG : ofF xs = if placeN (2 ^ 64 - 1 - beN xs) = beN xs then (2 ^ 64 - 1 - beN xs, true) else (0, false) := by
            unfold ofF floatGet
            rw [if_neg (by omega)]
            dsimp only
            rw [if_neg hu0, if_pos h63]
            by_cases h : placeN (2 ^ 64 - 1 - beN xs) = beN xs
            · rw [if_pos h, if_pos h]
            · rw [if_neg h, if_neg h]
          refine TT.region (.pures hT 2 rfl (.reg 36 rfl (v := .int .u64 ((2 ^ 64 - 1 - beN xs : Nat) : Int)) (int_eq (by rw [not64 _ (by omega) (by omega)]; omega)) (.extern (ext114 _) rfl rfl rfl rfl (.pures hT 1 rfl (.nil (.blk (.seq (.seq (.seq (.region (.pures hT 1 rfl (.call Tryz.call217 rfl rfl rfl rfl (fl_place (by omega)) ?_))))))))))))
          rintro v_39 hs_39 ⟨rfl, rfl⟩
          refine OT.pures hT 2 rfl (.nil (.seq (.cond rfl (fun c41 => ?_) (fun c41 => ?_))))
          ·
            have c41 := bne_iff_ne.1 c41
            refine TT.seq (.region (.pures hT 2 rfl (.nil (.seq (.ret (.of (rs := [.tmp 2, .tmp 3]) [_, _] hs rfl (.tmp rfl (.tmp rfl .nil)) sl ?_))))))
            try dsimp only [one]
            refine ⟨?_, rfl⟩
            rw [hG, if_neg (by omega)]
          ·
            have c41 := bne_eq_false_iff_eq.1 c41
            refine TT.skip (.seq (.seq (.region (.pures hT 3 rfl (.nil (.seq (.ret (.of (rs := [.tmp 2, .tmp 3]) [_, _] hs rfl (.tmp rfl (.tmp rfl .nil)) sl ?_))))))))
            try dsimp only [one]
            refine ⟨?_, rfl⟩
            rw [hG, if_pos (by omega)]
        ·
          have h63 : ¬ beN xs < 2 ^ 63 := by
            rw [and63 hu] at c31
            intro h; rw [if_neg (by omega)] at c31; exact absurd c31 (by decide)
          have hG : ofF xs = if placeN (beN xs % 2 ^ 63) = beN xs then (beN xs % 2 ^ 63, true) else (0, false) := by
            unfold ofF floatGet
            rw [if_neg (by omega)]
            dsimp only
            rw [if_neg hu0, if_neg h63, show beN xs - 2 ^ 63 = beN xs % 2 ^ 63 by omega]
            by_cases h : placeN (beN xs % 2 ^ 63) = beN xs
            · rw [if_pos h, if_pos h]
            · rw [if_neg h, if_neg h]
          refine TT.skip (.blk (.seq (.seq (.seq (.region (.pures hT 1 rfl (.call Tryz.call217 rfl rfl rfl rfl (fl_place (by omega)) ?_)))))))
          rintro v_39 hs_39 ⟨rfl, rfl⟩
          refine OT.pures hT 2 rfl (.nil (.seq (.cond rfl (fun c41 => ?_) (fun c41 => ?_))))
          ·
            have c41 := bne_iff_ne.1 c41
            refine TT.seq (.region (.pures hT 2 rfl (.nil (.seq (.ret (.of (rs := [.tmp 2, .tmp 3]) [_, _] hs rfl (.tmp rfl (.tmp rfl .nil)) sl ?_))))))
            try dsimp only [one]
            refine ⟨?_, rfl⟩
            rw [hG, if_neg (by omega)]
          ·
            have c41 := bne_eq_false_iff_eq.1 c41
            refine TT.skip (.seq (.seq (.region (.pures hT 3 rfl (.nil (.seq (.ret (.of (rs := [.tmp 2, .tmp 3]) [_, _] hs rfl (.tmp rfl (.tmp rfl .nil)) sl ?_))))))))
            try dsimp only [one]
            refine ⟨?_, rfl⟩
            rw [hG, if_pos (by omega)]

end Go.Proofs.YtihpkgmfkbkffaaGreat.Sx
end

section
namespace Go.Proofs.YtihpkgmfkbkffaaGreat.Sx
open Go Go.Sx Go.Pl
variable [Outer]

set_option maxHeartbeats 1000000 in
set_option maxRecDepth 100000 in
theorem num_Put {v : Value} {xs : List UInt8} {H : Chunk} {r : List Chunk} {n : Int} (ho : Own Go.Sx.encB 1 5 v xs H) (h1 : -9223372036854775808 ≤ n) (h2 : n ≤ 9223372036854775807) (hl : xs.length ≤ 1073741824) : Fun Tryz.prog 76 [v, .int .i64 n] (H :: r) (fun v' hs' => ∃ H', hs' = H' :: r ∧ Own Go.Sx.encB 1 5 v' (xs ++ put n) H') := by
  refine Fun.enter 28 Tryz.func76 rfl Tryz.ntmps76 rfl ?_
  refine TT.seq ?_
  refine TT.region ?_
  refine OT.pures hT 1 rfl ?_
  refine OT.nil ?_
  refine KT.seq ?_
  refine TT.seq ?_
  refine TT.region ?_
  refine OT.pures hT 4 rfl ?_
  refine OT.nil ?_
  refine KT.seq ?_
  refine TT.cut (ι := Unit) (fun j => True) (fun j => [(0, v), (5, .int .u64 (zig n : Nat))]) (fun j => H :: r) ?_ ?_
  ·
    refine TT.seq ?_
    refine TT.region ?_
    refine OT.pures hT 2 rfl ?_
    refine OT.nil ?_
    refine KT.seq ?_
    refine TT.cond rfl (fun c10 => ?_) (fun c10 => ?_)
    ·
      have c10 := of_decide_eq_true c10
      refine TT.region ?_
      refine OT.pures hT 3 rfl ?_
      refine OT.nil ?_
      refine KT.cut (()) ?_ (SubR.cons rfl (SubR.cons' rfl (by (try dsimp only); exact (by rw [shl1_neg c10 h1, not64 _ (by omega) (by omega)]; refine int_eq ?_; unfold zig; rw [if_pos c10]; omega)) (SubR.nil _))) (by repeat (first | exact Sel.refl _ | refine Sel.empty ?_ | refine Sel.pull (by repeat (first | exact Pull.head | apply Pull.tail)) ?_ | refine Sel.drop ?_))
      · trivial
    ·
      have c10 := of_decide_eq_false c10
      refine TT.skip ?_
      refine KT.cut (()) ?_ (SubR.cons rfl (SubR.cons' rfl (by (try dsimp only); exact (by rw [shl1_pos (by omega) h2])) (SubR.nil _))) (by repeat (first | exact Sel.refl _ | refine Sel.empty ?_ | refine Sel.pull (by repeat (first | exact Pull.head | apply Pull.tail)) ?_ | refine Sel.drop ?_))
      · trivial
  ·
    rintro _ -
    show TT _ _ _ [(0, v), (5, .int .u64 (zig n : Nat))] (H :: r)
    refine TT.seq ?_
    refine TT.block ?_
    refine TT.loop (ι := Nat × (List UInt8) × Value × Chunk) (fun j => Own Go.Sx.encB 1 5 (j.2.2.1) (xs ++ (j.2.1)) (j.2.2.2) ∧ (j.2.1) ++ putU (j.1) = put n ∧ (j.1) < 18446744073709551616) (fun j => (j.1)) (fun j => [(0, (j.2.2.1)), (5, .int .u64 ((j.1) : Nat))]) (fun j => (j.2.2.2) :: r) (zig n, [], v, H) ?_ (SubR.cons rfl (SubR.cons rfl (SubR.nil _))) (by repeat (first | exact Sel.refl _ | refine Sel.empty ?_ | refine Sel.pull (by repeat (first | exact Pull.head | apply Pull.tail)) ?_ | refine Sel.drop ?_)) ?_
    · dsimp only
      exact ⟨by simpa using ho, rfl, zig_lt h1 h2⟩
    rintro ⟨u, ys, w, K⟩ hI
    dsimp only at hI
    obtain ⟨hO, hp, hu⟩ := hI
    show TT _ _ _ [(0, w), (5, .int .u64 (u : Nat))] (K :: r)
    have h10 : ys.length + (putU u).length ≤ 10 := by rw [← List.length_append, hp]; exact put_ten h1 h2
    refine TT.seq ?_
    refine TT.seq ?_
    refine TT.region ?_
    refine OT.pures hT 2 rfl ?_
    refine OT.nil ?_
    refine KT.seq ?_
    refine TT.cond rfl (fun c14 => ?_) (fun c14 => ?_)
    ·
      have c14 := of_decide_eq_true c14
      refine TT.skip ?_
      refine KT.seq ?_
      refine TT.block ?_
      refine TT.seq ?_
      refine TT.region ?_
      refine OT.pures hT 4 rfl ?_
      refine OT.buildSlice (enc := Go.Sx.encB) (xs := [UInt8.ofNat (u % 128 + 128)]) (xos := [.tmp 18]) el27 rfl rfl rfl rfl (by rw [byteOr]; rfl) (by simp [Value.cells]) (fun _ _ => rfl) rfl (by decide) rfl (fun v_19 H_19 ho_19 => ?_)
      refine OT.append hT el27 rfl rfl rfl rfl (by repeat (first | exact Pull.head | apply Pull.tail)) hO ho_19.row rfl (by simp; omega) rfl (fun v_20 H_20 ho_20 => ?_)
      refine OT.pures hT 1 rfl ?_
      refine OT.nil ?_
      refine KT.seq ?_
      refine TT.region ?_
      refine OT.pures hT 3 rfl ?_
      refine OT.nil ?_
      refine KT.blk ?_
      refine KT.loop (u / 128, ys ++ [UInt8.ofNat (u % 128 + 128)], v_20, H_20) ?_ ?_ (SubR.cons rfl (SubR.cons' rfl (by (try dsimp only); exact (by rw [shr7])) (SubR.nil _))) (by repeat (first | exact Sel.refl _ | refine Sel.empty ?_ | refine Sel.pull (by repeat (first | exact Pull.head | apply Pull.tail)) ?_ | refine Sel.drop ?_))
      · dsimp only
        exact ⟨by simpa using ho_20, by rw [← hp, putU_big (u := u) (by omega), List.append_assoc]; rfl, by omega⟩
      · dsimp only
        omega
    ·
      have c14 := of_decide_eq_false c14
      refine TT.exit ?_
      refine XT.seq ?_
      refine XT.loop ?_
      refine XT.here ?_
      refine KT.seq ?_
      refine TT.seq ?_
      refine TT.region ?_
      refine OT.pures hT 3 rfl ?_
      refine OT.buildSlice (enc := Go.Sx.encB) (xs := [UInt8.ofNat u]) (xos := [.tmp 25]) el27 rfl rfl rfl rfl (by rw [wrap_u8]; rfl) (by simp [Value.cells]) (fun _ _ => rfl) rfl (by decide) rfl (fun v_26 H_26 ho_26 => ?_)
      refine OT.append hT el27 rfl rfl rfl rfl (by repeat (first | exact Pull.head | apply Pull.tail)) hO ho_26.row rfl (by simp; omega) rfl (fun v_27 H_27 ho_27 => ?_)
      refine OT.pures hT 1 rfl ?_
      refine OT.nil ?_
      refine KT.seq ?_
      refine TT.ret ?_
      refine RT.of (rs := [.tmp 4]) [_] (H_27 :: r) rfl (.tmp rfl .nil) (by repeat (first | exact Sel.refl _ | refine Sel.empty ?_ | refine Sel.pull (by repeat (first | exact Pull.head | apply Pull.tail)) ?_ | refine Sel.drop ?_)) ?_
      try dsimp only [one]
      exact ⟨_, rfl, by rw [← hp, putU_small (u := u) (by omega), ← List.append_assoc]; exact ho_27⟩


set_option maxHeartbeats 1000000 in
set_option maxRecDepth 100000 in
theorem num_PutText {v : Value} {xs : List UInt8} {H : Chunk} {r : List Chunk} {s : ByteArray} (ho : Own Go.Sx.encB 1 5 v xs H) (hs : s.size ≤ 1073741824) (hl : xs.length ≤ 1073741824) : Fun Tryz.prog 77 [v, .string s] (H :: r) (fun v' hs' => ∃ H', hs' = H' :: r ∧ Own Go.Sx.encB 1 5 v' (xs ++ putText s) H') := by
  refine Fun.enter 11 Tryz.func77 rfl Tryz.ntmps77 rfl ?_
  refine TT.seq ?_
  refine TT.region ?_
  refine OT.pures hT 1 rfl ?_
  refine OT.nil ?_
  refine KT.seq ?_
  refine TT.seq ?_
  refine TT.region ?_
  refine OT.pures hT 3 rfl ?_
  refine OT.call Tryz.call76 rfl rfl rfl rfl (num_Put ho (by omega) (by omega) hl) ?_
  rintro v_8 hs_8 ⟨H1, rfl, ho1⟩
  refine OT.pures hT 1 rfl ?_
  refine OT.append_str (fun _ => rfl) hT el27 rfl rfl rfl rfl (by repeat (first | exact Pull.head | apply Pull.tail)) ho1 (by have := put_ten (n := s.size) (by omega) (by omega); have e : s.data.toList.length = s.size := Array.length_toList; rw [List.length_append, e]; omega) rfl (fun v_10 H_10 ho_10 => ?_)
  refine OT.pures hT 1 rfl ?_
  refine OT.nil ?_
  refine KT.seq ?_
  refine TT.ret ?_
  refine RT.of (rs := [.tmp 4]) [_] (H_10 :: r) rfl (.tmp rfl .nil) (by repeat (first | exact Sel.refl _ | refine Sel.empty ?_ | refine Sel.pull (by repeat (first | exact Pull.head | apply Pull.tail)) ?_ | refine Sel.drop ?_)) ?_
  try dsimp only [one]
  exact ⟨_, rfl, by unfold putText; rw [← List.append_assoc]; exact ho_10⟩


set_option maxHeartbeats 1000000 in
set_option maxRecDepth 100000 in
theorem num_Get {v : Value} {xs : List UInt8} {hs : List Chunk} (hr : Row Go.Sx.encB 1 hs v xs) (hl : xs.length ≤ 1073741824) : Fun Tryz.prog 120 [v] hs (fun v' hs' => v' = .tuple ⟨[.int .i64 (get xs).1, .int .i64 (get xs).2.1, .int .i64 (get xs).2.2]⟩ ∧ hs = hs') := by
  refine Fun.enter 50 Tryz.func120 rfl Tryz.ntmps120 rfl ?_
  obtain ⟨a0, c0, hv⟩ := hr.len
  subst hv
  refine TT.seq ?_
  refine TT.region ?_
  refine OT.pures hT 3 rfl ?_
  refine OT.nil ?_
  refine KT.seq ?_
  refine TT.seq ?_
  refine TT.region ?_
  refine OT.pures hT 1 rfl ?_
  refine OT.nil ?_
  refine KT.seq ?_
  refine TT.seq ?_
  refine TT.seq ?_
  refine TT.region ?_
  refine OT.pures hT 3 rfl ?_
  refine OT.nil ?_
  refine KT.seq ?_
  refine TT.block ?_
  refine TT.loop (ι := Nat × Nat) (fun j => (j.1) ≤ 9 ∧ (j.1) ≤ xs.length ∧ (j.2) < 128 ^ (j.1) ∧ getL (j.1) (j.2) (xs.drop (j.1)) = get xs) (fun j => xs.length - (j.1)) (fun j => [(5, .int .u64 ((j.2) : Nat)), (9, .slice a0 xs.length c0), (10, .int .i64 xs.length), (11, .int .i64 ((j.1) : Nat))]) (fun j => hs) (0, 0) ?_ (SubR.cons rfl (SubR.cons rfl (SubR.cons rfl (SubR.cons rfl (SubR.nil _))))) (by repeat (first | exact Sel.refl _ | refine Sel.empty ?_ | refine Sel.pull (by repeat (first | exact Pull.head | apply Pull.tail)) ?_ | refine Sel.drop ?_)) ?_
  · dsimp only
    exact ⟨by omega, by omega, by simp, rfl⟩
  rintro ⟨i, u⟩ hI
  dsimp only at hI
  obtain ⟨h9, hi, hu, hp⟩ := hI
  show TT _ _ _ [(5, .int .u64 (u : Nat)), (9, .slice a0 xs.length c0), (10, .int .i64 xs.length), (11, .int .i64 (i : Nat))] (hs)
  refine TT.seq ?_
  refine TT.region ?_
  refine OT.pures hT 1 rfl ?_
  refine OT.nil ?_
  refine KT.seq ?_
  refine TT.seq ?_
  refine TT.cond rfl (fun c12 => ?_) (fun c12 => ?_)
  ·
    have c12 := of_decide_eq_true c12
    obtain ⟨c, hc⟩ : ∃ c, xs[i]? = some c := ⟨_, List.getElem?_eq_getElem (by omega)⟩
    rw [List.drop_eq_getElem_cons (by omega), show xs[i]'(by omega) = c from by rw [List.getElem?_eq_getElem (by omega)] at hc; exact Option.some.inj hc, getL] at hp
    have hcl := c.toNat_lt
    refine TT.skip ?_
    refine KT.seq ?_
    refine TT.seq ?_
    refine TT.block ?_
    refine TT.seq ?_
    refine TT.region ?_
    refine OT.pures hT 1 rfl ?_
    refine OT.index hT rfl rfl rfl rfl hr (by omega) hc rfl (fun ad_14 hel_14 => ?_)
    refine OT.load rfl rfl (hel_14.ld_one hT rfl rfl) rfl ?_
    refine OT.pures hT 2 rfl ?_
    refine OT.nil ?_
    refine KT.seq ?_
    refine TT.seq ?_
    refine TT.seq ?_
    refine TT.region ?_
    refine OT.pures hT 3 rfl ?_
    refine OT.split 18 rfl (fun g18 => ?_) (fun g18 => ?_)
    ·
      have g18 := of_decide_eq_true (g18 : decide ((i : Int) = 9) = true)
      refine OT.pures hT 3 rfl ?_
      refine OT.nil ?_
      refine KT.seq ?_
      refine TT.cond rfl (fun c21 => ?_) (fun c21 => ?_)
      ·
        have c21 := of_decide_eq_true c21
        rw [if_pos ⟨by omega, by omega⟩] at hp
        refine TT.seq ?_
        refine TT.region ?_
        refine OT.pures hT 3 rfl ?_
        refine OT.nil ?_
        refine KT.seq ?_
        refine TT.ret ?_
        refine RT.of (rs := [.tmp 2, .tmp 3, .tmp 4]) [_, _, _] hs rfl (.tmp rfl (.tmp rfl (.tmp rfl .nil))) (by repeat (first | exact Sel.refl _ | refine Sel.empty ?_ | refine Sel.pull (by repeat (first | exact Pull.head | apply Pull.tail)) ?_ | refine Sel.drop ?_)) ?_
        try dsimp only [one]
        exact ⟨by rw [← hp], rfl⟩
      ·
        have c21 := of_decide_eq_false c21
        have c21 : ¬ (i = 9 ∧ 1 < c.toNat) := by omega
        rw [if_neg c21] at hp
        refine TT.skip ?_
        refine KT.seq ?_
        refine TT.seq ?_
        refine TT.region ?_
        refine OT.pures hT 6 rfl ?_
        refine OT.shl hT rfl rfl rfl (by rw [wrap_i64 (by omega) (by omega)]; omega) rfl ?_
        have c21 : ¬ (i = 9 ∧ 1 < c.toNat) := by omega
        have hst := get_step h9 hu c21
        refine OT.pures hT 1 rfl ?_
        refine OT.reg 29 rfl (int_eq (by rw [byteAnd, get_shl h9 (by omega), get_or h9 hu (by omega)])) ?_
        refine OT.pures hT 1 rfl ?_
        refine OT.nil ?_
        refine KT.seq ?_
        refine TT.seq ?_
        refine TT.seq ?_
        refine TT.region ?_
        refine OT.pures hT 2 rfl ?_
        refine OT.nil ?_
        refine KT.seq ?_
        refine TT.cond rfl (fun c31 => ?_) (fun c31 => ?_)
        ·
          have c31 := of_decide_eq_true c31
          try rw [if_neg c21] at hp
          rw [if_pos (by omega)] at hp
          refine TT.exit ?_
          refine XT.seq ?_
          refine XT.here ?_
          refine KT.seq ?_
          refine TT.region ?_
          refine OT.pures hT 2 rfl ?_
          refine OT.nil ?_
          refine KT.loop (i + 1, u + c.toNat % 128 * 128 ^ i) ?_ ?_ (SubR.cons rfl (SubR.cons rfl (SubR.cons rfl (SubR.cons' rfl (by (try dsimp only); exact (int_eq (by rw [wrap_i64 (by omega) (by omega)]; omega))) (SubR.nil _))))) (by repeat (first | exact Sel.refl _ | refine Sel.empty ?_ | refine Sel.pull (by repeat (first | exact Pull.head | apply Pull.tail)) ?_ | refine Sel.drop ?_))
          · dsimp only
            exact ⟨by omega, by omega, get_next hu, hp⟩
          · dsimp only
            omega
        ·
          have c31 := of_decide_eq_false c31
          try rw [if_neg c21] at hp
          rw [if_neg (by omega)] at hp
          refine TT.skip ?_
          refine KT.seq ?_
          refine TT.seq ?_
          refine TT.seq ?_
          refine TT.region ?_
          refine OT.pures hT 3 rfl ?_
          refine OT.split 34 rfl (fun g34 => ?_) (fun g34 => ?_)
          ·
            have g34 := of_decide_eq_true g34
            refine OT.pures hT 3 rfl ?_
            refine OT.nil ?_
            refine KT.seq ?_
            refine TT.cond rfl (fun c37 => ?_) (fun c37 => ?_)
            ·
              have c37 := of_decide_eq_true (c37 : decide ((c.toNat : Int) = 0) = true)
              rw [if_pos ⟨by omega, by omega⟩] at hp
              refine TT.seq ?_
              refine TT.region ?_
              refine OT.pures hT 3 rfl ?_
              refine OT.nil ?_
              refine KT.seq ?_
              refine TT.ret ?_
              refine RT.of (rs := [.tmp 2, .tmp 3, .tmp 4]) [_, _, _] hs rfl (.tmp rfl (.tmp rfl (.tmp rfl .nil))) (by repeat (first | exact Sel.refl _ | refine Sel.empty ?_ | refine Sel.pull (by repeat (first | exact Pull.head | apply Pull.tail)) ?_ | refine Sel.drop ?_)) ?_
              try dsimp only [one]
              exact ⟨by rw [← hp], rfl⟩
            ·
              have c37 := of_decide_eq_false (c37 : decide ((c.toNat : Int) = 0) = false)
              rw [if_neg (by omega)] at hp
              refine TT.skip ?_
              refine KT.seq ?_
              refine TT.seq ?_
              refine TT.region ?_
              refine OT.pures hT 2 rfl ?_
              refine OT.pures hT 1 rfl ?_
              refine OT.reg 40 rfl (int_eq (unzig_even hst)) ?_
              try rw [if_neg (by omega)] at hp
              refine OT.pures hT 1 rfl ?_
              refine OT.nil ?_
              refine KT.seq ?_
              refine TT.cut (ι := Unit) (fun j => True) (fun j => [(8, .int .i64 (unzig (u + c.toNat % 128 * 128 ^ i))), (6, .int .i64 (i : Nat))]) (fun j => hs) ?_ ?_
              ·
                refine TT.seq ?_
                refine TT.region ?_
                refine OT.pures hT 1 rfl ?_
                refine OT.pures hT 1 rfl ?_
                refine OT.reg 42 rfl (int_eq (and64_1 hst)) ?_
                refine OT.pures hT 1 rfl ?_
                refine OT.nil ?_
                refine KT.seq ?_
                refine TT.cond rfl (fun c43 => ?_) (fun c43 => ?_)
                ·
                  have c43 := of_decide_eq_true (c43 : decide (((u + c.toNat % 128 * 128 ^ i) % 2 : Nat) = (1 : Int)) = true)
                  refine TT.region ?_
                  refine OT.pures hT 3 rfl ?_
                  refine OT.nil ?_
                  refine KT.cut (()) ?_ (SubR.cons' rfl (by (try dsimp only); exact (int_eq (by rw [not64i (by omega) (by omega)]; unfold unzig; rw [if_pos (by omega)]))) (SubR.cons rfl (SubR.nil _))) (by repeat (first | exact Sel.refl _ | refine Sel.empty ?_ | refine Sel.pull (by repeat (first | exact Pull.head | apply Pull.tail)) ?_ | refine Sel.drop ?_))
                  · trivial
                ·
                  have c43 := of_decide_eq_false (c43 : decide (((u + c.toNat % 128 * 128 ^ i) % 2 : Nat) = (1 : Int)) = false)
                  refine TT.skip ?_
                  refine KT.cut (()) ?_ (SubR.cons' rfl (by (try dsimp only); exact (int_eq (by unfold unzig; rw [if_neg (by omega)]))) (SubR.cons rfl (SubR.nil _))) (by repeat (first | exact Sel.refl _ | refine Sel.empty ?_ | refine Sel.pull (by repeat (first | exact Pull.head | apply Pull.tail)) ?_ | refine Sel.drop ?_))
                  · trivial
              ·
                rintro _ -
                show TT _ _ _ [(8, .int .i64 (unzig (u + c.toNat % 128 * 128 ^ i))), (6, .int .i64 (i : Nat))] (hs)
                refine TT.seq ?_
                refine TT.region ?_
                refine OT.pures hT 6 rfl ?_
                refine OT.nil ?_
                refine KT.seq ?_
                refine TT.ret ?_
                refine RT.of (rs := [.tmp 2, .tmp 3, .tmp 4]) [_, _, _] hs rfl (.tmp rfl (.tmp rfl (.tmp rfl .nil))) (by repeat (first | exact Sel.refl _ | refine Sel.empty ?_ | refine Sel.pull (by repeat (first | exact Pull.head | apply Pull.tail)) ?_ | refine Sel.drop ?_)) ?_
                try dsimp only [one]
                refine ⟨?_, rfl⟩
                rw [← hp, wrap_i64 (n := (i : Int) + 1) (by omega) (by omega)]
                rfl
          ·
            have g34 := of_decide_eq_false g34
            refine OT.pures hT 3 rfl ?_
            refine OT.nil ?_
            refine KT.seq ?_
            refine TT.cond_false rfl ?_
            refine TT.skip ?_
            refine KT.seq ?_
            refine TT.seq ?_
            refine TT.region ?_
            refine OT.pures hT 2 rfl ?_
            refine OT.pures hT 1 rfl ?_
            refine OT.reg 40 rfl (int_eq (unzig_even hst)) ?_
            try rw [if_neg (by omega)] at hp
            refine OT.pures hT 1 rfl ?_
            refine OT.nil ?_
            refine KT.seq ?_
            refine TT.cut (ι := Unit) (fun j => True) (fun j => [(8, .int .i64 (unzig (u + c.toNat % 128 * 128 ^ i))), (6, .int .i64 (i : Nat))]) (fun j => hs) ?_ ?_
            ·
              refine TT.seq ?_
              refine TT.region ?_
              refine OT.pures hT 1 rfl ?_
              refine OT.pures hT 1 rfl ?_
              refine OT.reg 42 rfl (int_eq (and64_1 hst)) ?_
              refine OT.pures hT 1 rfl ?_
              refine OT.nil ?_
              refine KT.seq ?_
              refine TT.cond rfl (fun c43 => ?_) (fun c43 => ?_)
              ·
                have c43 := of_decide_eq_true (c43 : decide (((u + c.toNat % 128 * 128 ^ i) % 2 : Nat) = (1 : Int)) = true)
                refine TT.region ?_
                refine OT.pures hT 3 rfl ?_
                refine OT.nil ?_
                refine KT.cut (()) ?_ (SubR.cons' rfl (by (try dsimp only); exact (int_eq (by rw [not64i (by omega) (by omega)]; unfold unzig; rw [if_pos (by omega)]))) (SubR.cons rfl (SubR.nil _))) (by repeat (first | exact Sel.refl _ | refine Sel.empty ?_ | refine Sel.pull (by repeat (first | exact Pull.head | apply Pull.tail)) ?_ | refine Sel.drop ?_))
                · trivial
              ·
                have c43 := of_decide_eq_false (c43 : decide (((u + c.toNat % 128 * 128 ^ i) % 2 : Nat) = (1 : Int)) = false)
                refine TT.skip ?_
                refine KT.cut (()) ?_ (SubR.cons' rfl (by (try dsimp only); exact (int_eq (by unfold unzig; rw [if_neg (by omega)]))) (SubR.cons rfl (SubR.nil _))) (by repeat (first | exact Sel.refl _ | refine Sel.empty ?_ | refine Sel.pull (by repeat (first | exact Pull.head | apply Pull.tail)) ?_ | refine Sel.drop ?_))
                · trivial
            ·
              rintro _ -
              show TT _ _ _ [(8, .int .i64 (unzig (u + c.toNat % 128 * 128 ^ i))), (6, .int .i64 (i : Nat))] (hs)
              refine TT.seq ?_
              refine TT.region ?_
              refine OT.pures hT 6 rfl ?_
              refine OT.nil ?_
              refine KT.seq ?_
              refine TT.ret ?_
              refine RT.of (rs := [.tmp 2, .tmp 3, .tmp 4]) [_, _, _] hs rfl (.tmp rfl (.tmp rfl (.tmp rfl .nil))) (by repeat (first | exact Sel.refl _ | refine Sel.empty ?_ | refine Sel.pull (by repeat (first | exact Pull.head | apply Pull.tail)) ?_ | refine Sel.drop ?_)) ?_
              try dsimp only [one]
              refine ⟨?_, rfl⟩
              rw [← hp, wrap_i64 (n := (i : Int) + 1) (by omega) (by omega)]
              rfl
    ·
      have g18 := of_decide_eq_false (g18 : decide ((i : Int) = 9) = false)
      refine OT.pures hT 3 rfl ?_
      refine OT.nil ?_
      refine KT.seq ?_
      refine TT.cond_false rfl ?_
      refine TT.skip ?_
      refine KT.seq ?_
      refine TT.seq ?_
      refine TT.region ?_
      refine OT.pures hT 6 rfl ?_
      refine OT.shl hT rfl rfl rfl (by rw [wrap_i64 (by omega) (by omega)]; omega) rfl ?_
      have c21 : ¬ (i = 9 ∧ 1 < c.toNat) := by omega
      have hst := get_step h9 hu c21
      refine OT.pures hT 1 rfl ?_
      refine OT.reg 29 rfl (int_eq (by rw [byteAnd, get_shl h9 (by omega), get_or h9 hu (by omega)])) ?_
      refine OT.pures hT 1 rfl ?_
      refine OT.nil ?_
      refine KT.seq ?_
      refine TT.seq ?_
      refine TT.seq ?_
      refine TT.region ?_
      refine OT.pures hT 2 rfl ?_
      refine OT.nil ?_
      refine KT.seq ?_
      refine TT.cond rfl (fun c31 => ?_) (fun c31 => ?_)
      ·
        have c31 := of_decide_eq_true c31
        try rw [if_neg c21] at hp
        rw [if_pos (by omega)] at hp
        refine TT.exit ?_
        refine XT.seq ?_
        refine XT.here ?_
        refine KT.seq ?_
        refine TT.region ?_
        refine OT.pures hT 2 rfl ?_
        refine OT.nil ?_
        refine KT.loop (i + 1, u + c.toNat % 128 * 128 ^ i) ?_ ?_ (SubR.cons rfl (SubR.cons rfl (SubR.cons rfl (SubR.cons' rfl (by (try dsimp only); exact (int_eq (by rw [wrap_i64 (by omega) (by omega)]; omega))) (SubR.nil _))))) (by repeat (first | exact Sel.refl _ | refine Sel.empty ?_ | refine Sel.pull (by repeat (first | exact Pull.head | apply Pull.tail)) ?_ | refine Sel.drop ?_))
        · dsimp only
          exact ⟨by omega, by omega, get_next hu, hp⟩
        · dsimp only
          omega
      ·
        have c31 := of_decide_eq_false c31
        try rw [if_neg c21] at hp
        rw [if_neg (by omega)] at hp
        refine TT.skip ?_
        refine KT.seq ?_
        refine TT.seq ?_
        refine TT.seq ?_
        refine TT.region ?_
        refine OT.pures hT 3 rfl ?_
        refine OT.split 34 rfl (fun g34 => ?_) (fun g34 => ?_)
        ·
          have g34 := of_decide_eq_true g34
          refine OT.pures hT 3 rfl ?_
          refine OT.nil ?_
          refine KT.seq ?_
          refine TT.cond rfl (fun c37 => ?_) (fun c37 => ?_)
          ·
            have c37 := of_decide_eq_true (c37 : decide ((c.toNat : Int) = 0) = true)
            rw [if_pos ⟨by omega, by omega⟩] at hp
            refine TT.seq ?_
            refine TT.region ?_
            refine OT.pures hT 3 rfl ?_
            refine OT.nil ?_
            refine KT.seq ?_
            refine TT.ret ?_
            refine RT.of (rs := [.tmp 2, .tmp 3, .tmp 4]) [_, _, _] hs rfl (.tmp rfl (.tmp rfl (.tmp rfl .nil))) (by repeat (first | exact Sel.refl _ | refine Sel.empty ?_ | refine Sel.pull (by repeat (first | exact Pull.head | apply Pull.tail)) ?_ | refine Sel.drop ?_)) ?_
            try dsimp only [one]
            exact ⟨by rw [← hp], rfl⟩
          ·
            have c37 := of_decide_eq_false (c37 : decide ((c.toNat : Int) = 0) = false)
            rw [if_neg (by omega)] at hp
            refine TT.skip ?_
            refine KT.seq ?_
            refine TT.seq ?_
            refine TT.region ?_
            refine OT.pures hT 2 rfl ?_
            refine OT.pures hT 1 rfl ?_
            refine OT.reg 40 rfl (int_eq (unzig_even hst)) ?_
            try rw [if_neg (by omega)] at hp
            refine OT.pures hT 1 rfl ?_
            refine OT.nil ?_
            refine KT.seq ?_
            refine TT.cut (ι := Unit) (fun j => True) (fun j => [(8, .int .i64 (unzig (u + c.toNat % 128 * 128 ^ i))), (6, .int .i64 (i : Nat))]) (fun j => hs) ?_ ?_
            ·
              refine TT.seq ?_
              refine TT.region ?_
              refine OT.pures hT 1 rfl ?_
              refine OT.pures hT 1 rfl ?_
              refine OT.reg 42 rfl (int_eq (and64_1 hst)) ?_
              refine OT.pures hT 1 rfl ?_
              refine OT.nil ?_
              refine KT.seq ?_
              refine TT.cond rfl (fun c43 => ?_) (fun c43 => ?_)
              ·
                have c43 := of_decide_eq_true (c43 : decide (((u + c.toNat % 128 * 128 ^ i) % 2 : Nat) = (1 : Int)) = true)
                refine TT.region ?_
                refine OT.pures hT 3 rfl ?_
                refine OT.nil ?_
                refine KT.cut (()) ?_ (SubR.cons' rfl (by (try dsimp only); exact (int_eq (by rw [not64i (by omega) (by omega)]; unfold unzig; rw [if_pos (by omega)]))) (SubR.cons rfl (SubR.nil _))) (by repeat (first | exact Sel.refl _ | refine Sel.empty ?_ | refine Sel.pull (by repeat (first | exact Pull.head | apply Pull.tail)) ?_ | refine Sel.drop ?_))
                · trivial
              ·
                have c43 := of_decide_eq_false (c43 : decide (((u + c.toNat % 128 * 128 ^ i) % 2 : Nat) = (1 : Int)) = false)
                refine TT.skip ?_
                refine KT.cut (()) ?_ (SubR.cons' rfl (by (try dsimp only); exact (int_eq (by unfold unzig; rw [if_neg (by omega)]))) (SubR.cons rfl (SubR.nil _))) (by repeat (first | exact Sel.refl _ | refine Sel.empty ?_ | refine Sel.pull (by repeat (first | exact Pull.head | apply Pull.tail)) ?_ | refine Sel.drop ?_))
                · trivial
            ·
              rintro _ -
              show TT _ _ _ [(8, .int .i64 (unzig (u + c.toNat % 128 * 128 ^ i))), (6, .int .i64 (i : Nat))] (hs)
              refine TT.seq ?_
              refine TT.region ?_
              refine OT.pures hT 6 rfl ?_
              refine OT.nil ?_
              refine KT.seq ?_
              refine TT.ret ?_
              refine RT.of (rs := [.tmp 2, .tmp 3, .tmp 4]) [_, _, _] hs rfl (.tmp rfl (.tmp rfl (.tmp rfl .nil))) (by repeat (first | exact Sel.refl _ | refine Sel.empty ?_ | refine Sel.pull (by repeat (first | exact Pull.head | apply Pull.tail)) ?_ | refine Sel.drop ?_)) ?_
              try dsimp only [one]
              refine ⟨?_, rfl⟩
              rw [← hp, wrap_i64 (n := (i : Int) + 1) (by omega) (by omega)]
              rfl
        ·
          have g34 := of_decide_eq_false g34
          refine OT.pures hT 3 rfl ?_
          refine OT.nil ?_
          refine KT.seq ?_
          refine TT.cond_false rfl ?_
          refine TT.skip ?_
          refine KT.seq ?_
          refine TT.seq ?_
          refine TT.region ?_
          refine OT.pures hT 2 rfl ?_
          refine OT.pures hT 1 rfl ?_
          refine OT.reg 40 rfl (int_eq (unzig_even hst)) ?_
          try rw [if_neg (by omega)] at hp
          refine OT.pures hT 1 rfl ?_
          refine OT.nil ?_
          refine KT.seq ?_
          refine TT.cut (ι := Unit) (fun j => True) (fun j => [(8, .int .i64 (unzig (u + c.toNat % 128 * 128 ^ i))), (6, .int .i64 (i : Nat))]) (fun j => hs) ?_ ?_
          ·
            refine TT.seq ?_
            refine TT.region ?_
            refine OT.pures hT 1 rfl ?_
            refine OT.pures hT 1 rfl ?_
            refine OT.reg 42 rfl (int_eq (and64_1 hst)) ?_
            refine OT.pures hT 1 rfl ?_
            refine OT.nil ?_
            refine KT.seq ?_
            refine TT.cond rfl (fun c43 => ?_) (fun c43 => ?_)
            ·
              have c43 := of_decide_eq_true (c43 : decide (((u + c.toNat % 128 * 128 ^ i) % 2 : Nat) = (1 : Int)) = true)
              refine TT.region ?_
              refine OT.pures hT 3 rfl ?_
              refine OT.nil ?_
              refine KT.cut (()) ?_ (SubR.cons' rfl (by (try dsimp only); exact (int_eq (by rw [not64i (by omega) (by omega)]; unfold unzig; rw [if_pos (by omega)]))) (SubR.cons rfl (SubR.nil _))) (by repeat (first | exact Sel.refl _ | refine Sel.empty ?_ | refine Sel.pull (by repeat (first | exact Pull.head | apply Pull.tail)) ?_ | refine Sel.drop ?_))
              · trivial
            ·
              have c43 := of_decide_eq_false (c43 : decide (((u + c.toNat % 128 * 128 ^ i) % 2 : Nat) = (1 : Int)) = false)
              refine TT.skip ?_
              refine KT.cut (()) ?_ (SubR.cons' rfl (by (try dsimp only); exact (int_eq (by unfold unzig; rw [if_neg (by omega)]))) (SubR.cons rfl (SubR.nil _))) (by repeat (first | exact Sel.refl _ | refine Sel.empty ?_ | refine Sel.pull (by repeat (first | exact Pull.head | apply Pull.tail)) ?_ | refine Sel.drop ?_))
              · trivial
          ·
            rintro _ -
            show TT _ _ _ [(8, .int .i64 (unzig (u + c.toNat % 128 * 128 ^ i))), (6, .int .i64 (i : Nat))] (hs)
            refine TT.seq ?_
            refine TT.region ?_
            refine OT.pures hT 6 rfl ?_
            refine OT.nil ?_
            refine KT.seq ?_
            refine TT.ret ?_
            refine RT.of (rs := [.tmp 2, .tmp 3, .tmp 4]) [_, _, _] hs rfl (.tmp rfl (.tmp rfl (.tmp rfl .nil))) (by repeat (first | exact Sel.refl _ | refine Sel.empty ?_ | refine Sel.pull (by repeat (first | exact Pull.head | apply Pull.tail)) ?_ | refine Sel.drop ?_)) ?_
            try dsimp only [one]
            refine ⟨?_, rfl⟩
            rw [← hp, wrap_i64 (n := (i : Int) + 1) (by omega) (by omega)]
            rfl
  ·
    have c12 := of_decide_eq_false c12
    rw [List.drop_eq_nil_of_le (by omega), getL] at hp
    refine TT.exit ?_
    refine XT.seq ?_
    refine XT.loop ?_
    refine XT.here ?_
    refine KT.seq ?_
    refine TT.seq ?_
    refine TT.region ?_
    refine OT.pures hT 3 rfl ?_
    refine OT.nil ?_
    refine KT.seq ?_
    refine TT.ret ?_
    refine RT.of (rs := [.tmp 2, .tmp 3, .tmp 4]) [_, _, _] hs rfl (.tmp rfl (.tmp rfl (.tmp rfl .nil))) (by repeat (first | exact Sel.refl _ | refine Sel.empty ?_ | refine Sel.pull (by repeat (first | exact Pull.head | apply Pull.tail)) ?_ | refine Sel.drop ?_)) ?_
    try dsimp only [one]
    exact ⟨by rw [← hp], rfl⟩

set_option maxHeartbeats 1000000 in
set_option maxRecDepth 100000 in
theorem num_GetText {v : Value} {xs : List UInt8} {hs : List Chunk} (hr : Row Go.Sx.encB 1 hs v xs) (hl : xs.length ≤ 1073741824) : Fun Tryz.prog 160 [v] hs (fun v' hs' => v' = .tuple ⟨[.string (getText xs).1, .int .i64 (getText xs).2.1, .int .i64 (getText xs).2.2]⟩ ∧ hs = hs') := by
  refine Fun.enter 42 Tryz.func160 rfl Tryz.ntmps160 rfl ?_
  obtain ⟨a0, c0, hv⟩ := hr.len
  subst hv
  have hk := @get_k xs
  unfold getText
  generalize hg : get xs = p at *
  obtain ⟨n, kk, e⟩ := p
  dsimp only at *
  refine TT.seq ?_
  refine TT.region ?_
  refine OT.pures hT 3 rfl ?_
  refine OT.nil ?_
  refine KT.seq ?_
  refine TT.seq ?_
  refine TT.region ?_
  refine OT.pures hT 1 rfl ?_
  refine OT.call Tryz.call120 rfl rfl rfl rfl (num_Get hr hl) ?_
  rintro v_10 hs_10 ⟨rfl, rfl⟩
  rw [hg]
  dsimp only
  refine OT.pures hT 7 rfl ?_
  refine OT.nil ?_
  refine KT.seq ?_
  refine TT.seq ?_
  refine TT.block ?_
  refine TT.seq ?_
  refine TT.region ?_
  refine OT.pures hT 3 rfl ?_
  refine OT.nil ?_
  refine KT.seq ?_
  refine TT.cond rfl (fun c14 => ?_) (fun c14 => ?_)
  ·
    have c14 : ¬ e = 0 := by simpa using c14
    refine TT.seq ?_
    refine TT.region ?_
    refine OT.pures hT 4 rfl ?_
    refine OT.nil ?_
    refine KT.seq ?_
    refine TT.ret ?_
    refine RT.of (rs := [.tmp 2, .tmp 3, .tmp 4]) [_, _, _] hs rfl (.tmp rfl (.tmp rfl (.tmp rfl .nil))) (by repeat (first | exact Sel.refl _ | refine Sel.empty ?_ | refine Sel.pull (by repeat (first | exact Pull.head | apply Pull.tail)) ?_ | refine Sel.drop ?_)) ?_
    try dsimp only [one]
    refine ⟨?_, rfl⟩
    rw [if_pos c14]
  ·
    have c14 : e = 0 := by simpa using c14
    have hk := hk c14
    refine TT.seq ?_
    refine TT.region ?_
    refine OT.pures hT 3 rfl ?_
    refine OT.split 21 rfl (fun g21 => ?_) (fun g21 => ?_)
    ·
      have g21 := of_decide_eq_true g21
      refine OT.pures hT 4 rfl ?_
      refine OT.nil ?_
      refine KT.seq ?_
      refine TT.cond_true rfl ?_
      refine TT.seq ?_
      refine TT.region ?_
      refine OT.pures hT 3 rfl ?_
      refine OT.nil ?_
      refine KT.seq ?_
      refine TT.ret ?_
      refine RT.of (rs := [.tmp 2, .tmp 3, .tmp 4]) [_, _, _] hs rfl (.tmp rfl (.tmp rfl (.tmp rfl .nil))) (by repeat (first | exact Sel.refl _ | refine Sel.empty ?_ | refine Sel.pull (by repeat (first | exact Pull.head | apply Pull.tail)) ?_ | refine Sel.drop ?_)) ?_
      try dsimp only [one]
      refine ⟨?_, rfl⟩
      rw [if_neg (by omega), if_pos (by omega)]
    ·
      have g21 := of_decide_eq_false g21
      refine OT.pures hT 4 rfl ?_
      refine OT.nil ?_
      refine KT.seq ?_
      refine TT.cond rfl (fun c18 => ?_) (fun c18 => ?_)
      ·
        have c18 := of_decide_eq_true c18
        refine TT.seq ?_
        refine TT.region ?_
        refine OT.pures hT 3 rfl ?_
        refine OT.nil ?_
        refine KT.seq ?_
        refine TT.ret ?_
        refine RT.of (rs := [.tmp 2, .tmp 3, .tmp 4]) [_, _, _] hs rfl (.tmp rfl (.tmp rfl (.tmp rfl .nil))) (by repeat (first | exact Sel.refl _ | refine Sel.empty ?_ | refine Sel.pull (by repeat (first | exact Pull.head | apply Pull.tail)) ?_ | refine Sel.drop ?_)) ?_
        try dsimp only [one]
        refine ⟨?_, rfl⟩
        rw [if_neg (by omega), if_pos (by omega)]
      ·
        have c18 := of_decide_eq_false c18
        refine TT.seq ?_
        refine TT.region ?_
        refine OT.pures hT 7 rfl ?_
        refine OT.nil ?_
        refine KT.seq ?_
        refine TT.cond rfl (fun c25 => ?_) (fun c25 => ?_)
        ·
          have c25 := of_decide_eq_true c25
          rw [wrap_i64 (by omega) (by omega)] at c25
          refine TT.seq ?_
          refine TT.region ?_
          refine OT.pures hT 3 rfl ?_
          refine OT.nil ?_
          refine KT.seq ?_
          refine TT.ret ?_
          refine RT.of (rs := [.tmp 2, .tmp 3, .tmp 4]) [_, _, _] hs rfl (.tmp rfl (.tmp rfl (.tmp rfl .nil))) (by repeat (first | exact Sel.refl _ | refine Sel.empty ?_ | refine Sel.pull (by repeat (first | exact Pull.head | apply Pull.tail)) ?_ | refine Sel.drop ?_)) ?_
          try dsimp only [one]
          refine ⟨?_, rfl⟩
          rw [if_neg (by omega), if_neg (by omega), if_pos (by omega)]
        ·
          have c25 := of_decide_eq_false c25
          rw [wrap_i64 (by omega) (by omega)] at c25
          refine TT.skip ?_
          refine KT.blk ?_
          refine KT.seq ?_
          refine TT.seq ?_
          refine TT.region ?_
          refine OT.pures hT 5 rfl ?_
          refine OT.slice kk.toNat (kk + n).toNat hT rfl rfl rfl rfl rfl hr (.inr ⟨.i64, by rw [Int.toNat_of_nonneg (by omega)]⟩) (.inr ⟨.i64, by rw [Int.toNat_of_nonneg (by omega), wrap_i64 (by omega) (by omega)]⟩) (by omega) (by omega) rfl (fun v_37 hv_37 => ?_)
          refine OT.conv_bs (fun _ => rfl) hT rfl rfl rfl rfl rfl hv_37 rfl ?_
          refine OT.pures hT 6 rfl ?_
          refine OT.nil ?_
          refine KT.seq ?_
          refine TT.ret ?_
          refine RT.of (rs := [.tmp 2, .tmp 3, .tmp 4]) [_, _, _] hs rfl (.tmp rfl (.tmp rfl (.tmp rfl .nil))) (by repeat (first | exact Sel.refl _ | refine Sel.empty ?_ | refine Sel.pull (by repeat (first | exact Pull.head | apply Pull.tail)) ?_ | refine Sel.drop ?_)) ?_
          try dsimp only [one]
          refine ⟨?_, rfl⟩
          rw [if_neg (by omega), if_neg (by omega), if_neg (by omega), wrap_i64 (by omega) (by omega)]

end Go.Proofs.YtihpkgmfkbkffaaGreat.Sx
end

section
namespace Go.Proofs.YtihpkgmfkbkffaaGreat.Sx
open Go Go.Sx Go.Pl
variable [Outer]

set_option maxHeartbeats 1000000 in
set_option maxRecDepth 100000 in
theorem dt_zero {u : Nat} {hs : List Chunk} : Fun Tryz.prog 90 [.float .f64 u] hs (fun v' hs' => v' = .bool (decide (u = 0)) ∧ hs = hs') := by
  refine Fun.enter 6 Tryz.func90 rfl Tryz.ntmps90 rfl ?_
  refine TT.seq (.region (.pures hT 1 rfl (.nil (.seq (.seq (.region (.pures hT 1 rfl (.extern (ext91 _) rfl rfl rfl rfl (.pures hT 2 rfl (.nil (.seq (.ret (.of (rs := [.tmp 2]) [_] hs rfl (.tmp rfl .nil) sl ?_)))))))))))))
  try dsimp only [one]
  refine ⟨congrArg Value.bool ?_, rfl⟩
  rw [Bool.eq_iff_iff, beq_iff_eq, decide_eq_true_eq]
  omega

set_option maxHeartbeats 1000000 in
set_option maxRecDepth 100000 in
theorem dt_May {x : Vl} {hs : List Chunk} : Fun Tryz.prog 52 [.agg ⟨encVl x⟩] hs (fun v' hs' => v' = .bool (mayVl x) ∧ hs = hs') := by
  refine Fun.enter 41 Tryz.func52 rfl Tryz.ntmps52 rfl ?_
  refine TT.seq (.region (.box rfl rfl rfl (fun b_1 => ?_)))
  refine OT.pures hT 1 rfl (.nil (.seq (.seq (.seq (.region (.pures hT 1 rfl (.load rfl rfl (Ld.one hT rfl hz rfl) rfl ?_)))))))
  refine OT.nil (.seq (.block (.seq (.region (.pures hT 2 rfl (.nil (.seq (.cond rfl (fun c5 => ?_) (fun c5 => ?_)))))))))
  ·
    have c5 := beq_iff_eq.1 c5
    refine TT.seq (.region (.pures hT 1 rfl (.load rfl rfl (Ld.one hT rfl hz rfl) rfl ?_)))
    refine OT.call Tryz.call90 rfl rfl rfl rfl (dt_zero) ?_
    rintro v_9 hs_9 ⟨rfl, rfl⟩
    refine OT.pures hT 1 rfl (.split 10 rfl (fun g10 => ?_) (fun g10 => ?_))
    ·
      refine OT.pures hT 1 rfl (.load rfl rfl (Ld.one hT rfl hz rfl) rfl ?_)
      refine OT.pures hT 3 rfl (.nil (.seq (.ret (.of (rs := [.tmp 2]) [_] hs rfl (.tmp rfl .nil) sl ?_))))
      try dsimp only [one]
      refine ⟨congrArg Value.bool ?_, rfl⟩
      unfold mayVl
      rw [if_pos c5]
      rw [g10, Bool.true_and]
    ·
      refine OT.pures hT 5 rfl (.nil (.seq (.ret (.of (rs := [.tmp 2]) [_] hs rfl (.tmp rfl .nil) sl ?_))))
      try dsimp only [one]
      refine ⟨congrArg Value.bool ?_, rfl⟩
      unfold mayVl
      rw [if_pos c5]
      rw [g10, Bool.false_and]
  ·
    have c5 := beq_eq_false_iff_ne.1 c5
    refine TT.seq (.region (.pures hT 2 rfl (.nil (.seq (.cond rfl (fun c15 => ?_) (fun c15 => ?_))))))
    ·
      have c15 := beq_iff_eq.1 c15
      refine TT.seq (.draw (([(b_1, blk (encVl x) 36 (0, 0))] :: hs)) mixed (.takes (fuel := 13) hT [0] kr kr rfl (.take (fuel := 12) hT 1 rfl rfl kr kr kr rfl (.load rfl (Ld.one hT rfl hz rfl)) rfl ?_)))
      refine AT.takes (fuel := 10) hT [2, 3] kr kr rfl (.split 20 rfl (fun g20 => ?_) (fun g20 => ?_))
      ·
        refine AT.takes (fuel := 8) hT [4, 7] kr kr rfl (.take (fuel := 7) hT 5 rfl rfl kr kr kr rfl (.load rfl (Ld.one hT rfl hz rfl)) rfl ?_)
        refine AT.take (fuel := 6) hT 8 rfl rfl kr kr kr rfl (.load rfl (Ld.one hT rfl hz rfl)) rfl ?_
        refine AT.op (fuel := 5) 6 kr rfl sl (.extern (ext91 _) rfl rfl rfl rfl (.nil (.any (.op (fuel := 4) 9 kr rfl sl (.call Tryz.call92 rfl rfl rfl rfl (fl_Clean) ?_)))))
        rintro v_26 hs_26 ⟨rfl, rfl⟩
        refine OT.nil (.any (.op (fuel := 3) 10 kr rfl sl (.extern (ext91 _) rfl rfl rfl rfl (.nil (.any (.takes (fuel := 0) hT [11, 12, 13] kr kr rfl (.done kr sl (.seq (.ret (.of (rs := [.tmp 2]) [_] hs rfl (.tmp rfl .nil) sl ?_))))))))))
        try dsimp only [one]
        refine ⟨congrArg Value.bool ?_, rfl⟩
        unfold mayVl
        rw [if_neg c5, if_pos c15]
        rw [g20, Bool.true_and]
        rw [Bool.eq_iff_iff, beq_iff_eq, decide_eq_true_eq]
        omega
      ·
        refine AT.takes (fuel := 0) hT [4, 5, 6, 7, 8, 9, 10, 11, 12, 13] kr kr rfl (.done kr sl (.seq (.ret (.of (rs := [.tmp 2]) [_] hs rfl (.tmp rfl .nil) sl ?_))))
        try dsimp only [one]
        refine ⟨congrArg Value.bool ?_, rfl⟩
        unfold mayVl
        rw [if_neg c5, if_pos c15]
        rw [g20, Bool.false_and]
    ·
      have c15 := beq_eq_false_iff_ne.1 c15
      refine TT.seq (.region (.pures hT 2 rfl (.nil (.seq (.cond rfl (fun c30 => ?_) (fun c30 => ?_))))))
      ·
        have c30 := beq_iff_eq.1 c30
        refine TT.seq (.region (.pures hT 1 rfl (.load rfl rfl (Ld.one hT rfl hz rfl) rfl ?_)))
        refine OT.call Tryz.call90 rfl rfl rfl rfl (dt_zero) ?_
        rintro v_34 hs_34 ⟨rfl, rfl⟩
        refine OT.pures hT 1 rfl (.split 35 rfl (fun g35 => ?_) (fun g35 => ?_))
        ·
          refine OT.pures hT 1 rfl (.load rfl rfl (Ld.one hT rfl hz rfl) rfl ?_)
          refine OT.pures hT 4 rfl (.nil (.seq (.ret (.of (rs := [.tmp 2]) [_] hs rfl (.tmp rfl .nil) sl ?_))))
          try dsimp only [one]
          refine ⟨congrArg Value.bool ?_, rfl⟩
          unfold mayVl
          rw [if_neg c5, if_neg c15, if_pos c30]
          rw [g35, Bool.true_and]
          exact decide_eq_decide.2 (by omega)
        ·
          refine OT.pures hT 6 rfl (.nil (.seq (.ret (.of (rs := [.tmp 2]) [_] hs rfl (.tmp rfl .nil) sl ?_))))
          try dsimp only [one]
          refine ⟨congrArg Value.bool ?_, rfl⟩
          unfold mayVl
          rw [if_neg c5, if_neg c15, if_pos c30]
          rw [g35, Bool.false_and]
      ·
        have c30 := beq_eq_false_iff_ne.1 c30
        refine TT.skip (.blk (.seq (.seq (.region (.pures hT 1 rfl (.nil (.seq (.ret (.of (rs := [.tmp 2]) [_] hs rfl (.tmp rfl .nil) sl ?_)))))))))
        try dsimp only [one]
        refine ⟨congrArg Value.bool ?_, rfl⟩
        unfold mayVl
        rw [if_neg c5, if_neg c15, if_neg c30]

set_option maxHeartbeats 1000000 in
set_option maxRecDepth 100000 in
theorem dt_Put {v : Value} {xs : List UInt8} {H : Chunk} {r : List Chunk} {x : Vl} (ho : Own Go.Sx.encB 1 5 v xs H) (hk : -9223372036854775808 ≤ x.kind ∧ x.kind ≤ 9223372036854775807) (hf : x.f < 2 ^ 64) (hs : x.s.size ≤ 1073741824) (hl : xs.length ≤ 1000000) : Fun Tryz.prog 211 [v, .agg ⟨encVl x⟩] (H :: r) (fun v' hs' => ∃ H', hs' = H' :: r ∧ Own Go.Sx.encB 1 5 v' (xs ++ vlBytes x) H') := by
  refine Fun.enter 25 Tryz.func211 rfl Tryz.ntmps211 rfl ?_
  refine TT.seq (.region (.box rfl rfl rfl (fun b_3 => ?_)))
  refine OT.pures hT 1 rfl (.nil (.seq (.seq (.region (.pures hT 2 rfl (.load rfl rfl (Ld.one hT rfl hz rfl) rfl ?_))))))
  refine OT.call Tryz.call76 rfl rfl rfl rfl (Fun.pull pl (num_Put ho hk.1 hk.2 (Nat.le_trans hl (by decide)))) ?_
  rintro v_8 hs_8 ⟨H1, rfl, ho1⟩
  have hpl := put_ten hk.1 hk.2
  refine OT.pures hT 1 rfl (.nil (.seq (.seq (.seq (.region (.pures hT 1 rfl (.load rfl rfl (Ld.one hT rfl hz rfl) rfl ?_)))))))
  refine OT.nil (.seq (.block (.seq (.region (.pures hT 2 rfl (.nil (.seq (.cond rfl (fun c11 => ?_) (fun c11 => ?_)))))))))
  ·
    have c11 := beq_iff_eq.1 c11
    refine TT.seq (.region (.pures hT 2 rfl (.load rfl rfl (Ld.one hT rfl hz rfl) rfl ?_)))
    refine OT.call Tryz.call218 rfl rfl rfl rfl (fl_Bytes hf) ?_
    rintro v_16 hs_16 ⟨K2, rfl, ho2⟩
    refine OT.append hT el27 rfl rfl rfl rfl pl ho1 ho2.row rfl (by simp only [List.length_append, floatBytes_len]; omega) rfl (fun v_17 H_17 ho_17 => ?_)
    refine OT.pures hT 1 rfl (.nil (.seq (.ret (.of (rs := [.tmp 4]) [_] (H_17 :: r) rfl (.tmp rfl .nil) sl ?_))))
    try dsimp only [one]
    exact ⟨_, rfl, by unfold vlBytes; rw [if_pos c11, ← List.append_assoc]; exact ho_17⟩
  ·
    have c11 := beq_eq_false_iff_ne.1 c11
    refine TT.seq (.region (.pures hT 2 rfl (.nil (.seq (.cond rfl (fun c18 => ?_) (fun c18 => ?_))))))
    ·
      have c18 := beq_iff_eq.1 c18
      refine TT.seq (.region (.pures hT 2 rfl (.load rfl rfl (Ld.one hT rfl hz rfl) rfl ?_)))
      refine OT.call Tryz.call77 rfl rfl rfl rfl (num_PutText ho1 hs (by rw [List.length_append]; omega)) ?_
      rintro v_23 hs_23 ⟨H3, rfl, ho3⟩
      refine OT.pures hT 1 rfl (.nil (.seq (.ret (.of (rs := [.tmp 4]) [_] (H3 :: r) rfl (.tmp rfl .nil) sl ?_))))
      try dsimp only [one]
      exact ⟨_, rfl, by unfold vlBytes; rw [if_neg c11, if_pos c18, ← List.append_assoc]; exact ho3⟩
    ·
      have c18 := beq_eq_false_iff_ne.1 c18
      refine TT.skip (.blk (.seq (.seq (.region (.pures hT 2 rfl (.nil (.seq (.ret (.of (rs := [.tmp 4]) [_] (H1 :: r) rfl (.tmp rfl .nil) sl ?_)))))))))
      try dsimp only [one]
      exact ⟨_, rfl, by unfold vlBytes; rw [if_neg c11, if_neg c18, List.append_nil]; exact ho1⟩

end Go.Proofs.YtihpkgmfkbkffaaGreat.Sx
end

section
namespace Go.Proofs.YtihpkgmfkbkffaaGreat.Sx
open Go Go.Sx Go.Pl
variable [Outer]

set_option maxHeartbeats 2000000 in
set_option maxRecDepth 100000 in
theorem dt_Get {v : Value} {xs : List UInt8} {hs : List Chunk} (hr : Row Go.Sx.encB 1 hs v xs) (hl : xs.length ≤ 1073741824) : Fun Tryz.prog 196 [v] hs (fun v' hs' => v' = (.tuple ⟨[.agg ⟨encVl (vlGet xs).1⟩, .int .i64 (vlGet xs).2.1, .int .i64 (vlGet xs).2.2]⟩) ∧ hs = hs') := by
  refine Fun.enter 71 Tryz.func196 rfl Tryz.ntmps196 rfl ?_
  obtain ⟨a0, c0, hv⟩ := hr.len
  subst hv
  have hk := @get_k xs
  obtain ⟨k, a1, e, hg⟩ : ∃ k a e, get xs = (k, a, e) := ⟨_, _, _, rfl⟩
  rw [hg] at hk
  dsimp only at hk
  refine TT.seq (.region (.alloc Tryz.zeroValue36 rfl rfl (fun b_2 => ?_)))
  refine OT.pures hT 2 rfl (.nil (.seq (.seq (.region (.pures hT 1 rfl (.call Tryz.call120 rfl rfl rfl rfl (num_Get ro hl) ?_))))))
  rintro v_13 hs_13 ⟨rfl, rfl⟩
  rw [hg]
  dsimp only
  refine OT.pures hT 7 rfl (.nil (.seq (.seq (.seq (.region (.pures hT 2 rfl (.nil (.seq (.cond rfl (fun c18 => ?_) (fun c18 => ?_))))))))))
  ·
    have c18 := bne_iff_ne.1 c18
    refine TT.seq (.region (.build (cs := [.int .i64 0, .float .f64 0, .string ⟨#[]⟩]) hT rfl Tryz.zeroValue36 rfl rfl rfl rfl (.pures hT 1 rfl (.store_all hT rfl rfl rfl rfl pl rfl rfl rfl (.inl (Nat.le_refl _)) ?_))))
    refine OT.pures hT 2 rfl (.nil (.seq (.ret (.of (rs := [.cell 2 36, .tmp 3, .tmp 4]) [_, _, _] hs rfl (.cell rfl (Ld.struct_all hT rfl hz rfl) (.tmp rfl (.tmp rfl .nil))) sl ?_))))
    try dsimp only [one]
    exact ⟨by rw [vlGet_bad hg c18]; rfl, rfl⟩
  ·
    have c18 := bne_eq_false_iff_eq.1 c18
    obtain rfl : e = 0 := by omega
    have hk := hk rfl
    obtain ⟨a, rfl⟩ : ∃ a : Nat, a1 = a := ⟨a1.toNat, by omega⟩
    refine TT.skip (.seq (.seq (.region (.pures hT 1 rfl (.build (cs := [.int .i64 k, .float .f64 0, .string ⟨#[]⟩]) hT rfl Tryz.zeroValue36 rfl rfl rfl rfl (.alloc Tryz.zeroValue36 rfl rfl (fun b_8 => ?_)))))))
    refine OT.store_all hT rfl rfl rfl rfl pl rfl rfl rfl (.inl (Nat.le_refl _)) ?_
    refine OT.nil (.seq (.seq (.region (.pures hT 1 rfl (.nil (.seq (.seq (.seq (.region (.pures hT 1 rfl (.nil (.seq (.block (.seq (.region (.pures hT 2 rfl (.nil (.seq (.cond rfl (fun c25 => ?_) (fun c25 => ?_))))))))))))))))))))
    ·
      have c25 := beq_iff_eq.1 c25
      subst c25
      refine TT.skip (.blk (.seq (.seq (.seq (.region (.load rfl rfl (Ld.struct_all hT rfl hz rfl) rfl ?_))))))
      refine OT.call Tryz.call52 rfl rfl rfl rfl (dt_May (x := noVl)) ?_
      rintro v_64 hs_64 ⟨rfl, rfl⟩
      refine OT.pures hT 1 rfl (.nil (.seq (.cond rfl (fun c65 => ?_) (fun c65 => ?_))))
      ·
        exact absurd c65 (by decide +kernel)
      ·
        have hG : vlGet xs = if mayVl noVl = true then (noVl, (a : Int) + 0, 0) else (noVl, 0, 1) := by rw [vlGet_none hg, if_pos (by decide +kernel)]
        refine TT.skip (.seq (.seq (.region (.load rfl rfl (Ld.struct_all hT rfl hz rfl) rfl ?_))))
        refine OT.pures hT 3 rfl (.store_all hT rfl rfl rfl rfl pl rfl rfl rfl (.inl (Nat.le_refl _)) ?_)
        refine OT.pures hT 2 rfl (.nil (.seq (.ret (.of (rs := [.cell 2 36, .tmp 3, .tmp 4]) [_, _, _] hs rfl (.cell rfl (Ld.struct_all hT rfl hz rfl) (.tmp rfl (.tmp rfl .nil))) sl ?_))))
        try dsimp only [one]
        refine ⟨?_, rfl⟩
        rw [hG, if_pos (by simpa using c65), wrap_i64 (by omega) (by omega)]
        rfl
    ·
      have c25 := beq_eq_false_iff_ne.1 c25
      refine TT.seq (.region (.pures hT 2 rfl (.nil (.seq (.cond rfl (fun c27 => ?_) (fun c27 => ?_))))))
      ·
        have c27 := beq_iff_eq.1 c27
        subst c27
        refine TT.seq (.seq (.region (.pures hT 5 rfl (.nil (.seq (.cond rfl (fun c33 => ?_) (fun c33 => ?_)))))))
        ·
          have c33 := of_decide_eq_true c33
          have h8 : (xs.length : Int) - a < 8 := by rw [wrap_i64 (by omega) (by omega)] at c33; exact c33
          refine TT.seq (.region (.build (cs := [.int .i64 0, .float .f64 0, .string ⟨#[]⟩]) hT rfl Tryz.zeroValue36 rfl rfl rfl rfl (.store_all hT rfl rfl rfl rfl pl rfl rfl rfl (.inl (Nat.le_refl _)) ?_)))
          refine OT.pures hT 2 rfl (.nil (.seq (.ret (.of (rs := [.cell 2 36, .tmp 3, .tmp 4]) [_, _, _] hs rfl (.cell rfl (Ld.struct_all hT rfl hz rfl) (.tmp rfl (.tmp rfl .nil))) sl ?_))))
          try dsimp only [one]
          exact ⟨by rw [vlGet_short hg h8]; rfl, rfl⟩
        ·
          have c33 := of_decide_eq_false c33
          have h8 : ¬ (xs.length : Int) - a < 8 := by rw [wrap_i64 (by omega) (by omega)] at c33; exact c33
          have hl8 : ((xs.drop a).take 8).length = 8 := by rw [List.length_take, List.length_drop]; omega
          refine TT.skip (.seq (.seq (.region (.pures hT 1 rfl (.nil (.seq (.seq (.seq (.region (.pures hT 4 rfl (.slice a (a + 8) hT rfl rfl rfl rfl rfl (hr.there.there) (.inr ⟨.i64, rfl⟩) (.inr ⟨.i64, by rw [wrap_i64 (by omega) (by omega)]; rfl⟩) (by omega) (by omega) rfl (fun v_40 hv_40 => ?_))))))))))))
          rw [show (xs.take (a + 8)).drop a = (xs.drop a).take 8 by rw [List.drop_take, Nat.add_sub_cancel_left]] at hv_40
          refine OT.call Tryz.call210 rfl rfl rfl rfl (fl_Of hv_40) ?_
          rintro v_41 hs_41 ⟨rfl, rfl⟩
          refine OT.pures hT 4 rfl (.store hT rfl rfl rfl rfl pl rfl (by show 0 + 1 + 1 ≤ 3; omega) rfl (.inl (Nat.le_refl _)) (show splice [.int .i64 1, .float .f64 0, .string ⟨#[]⟩] (0 + 1) [.float .f64 (ofF ((xs.drop a).take 8)).1] = [.int .i64 1, .float .f64 (ofF ((xs.drop a).take 8)).1, .string ⟨#[]⟩] from rfl) ?_)
          refine OT.pures hT 1 rfl (.nil (.seq (.seq (.region (.pures hT 2 rfl (.nil (.seq (.cond rfl (fun c46 => ?_) (fun c46 => ?_)))))))))
          ·
            have c46 : ¬ (ofF ((xs.drop a).take 8)).2 = true := by simpa using c46
            refine TT.seq (.region (.build (cs := [.int .i64 0, .float .f64 0, .string ⟨#[]⟩]) hT rfl Tryz.zeroValue36 rfl rfl rfl rfl (.store_all hT rfl rfl rfl rfl pl rfl rfl rfl (.inl (Nat.le_refl _)) ?_)))
            refine OT.pures hT 2 rfl (.nil (.seq (.ret (.of (rs := [.cell 2 36, .tmp 3, .tmp 4]) [_, _, _] hs rfl (.cell rfl (Ld.struct_all hT rfl hz rfl) (.tmp rfl (.tmp rfl .nil))) sl ?_))))
            try dsimp only [one]
            exact ⟨by rw [vlGet_float hg h8, if_neg c46]; rfl, rfl⟩
          ·
            have c46 : (ofF ((xs.drop a).take 8)).2 = true := by simpa using c46
            have hG : vlGet xs = if mayVl ⟨1, (ofF ((xs.drop a).take 8)).1, ⟨#[]⟩⟩ = true then (⟨1, (ofF ((xs.drop a).take 8)).1, ⟨#[]⟩⟩, (a : Int) + 8, 0) else (noVl, 0, 1) := by rw [vlGet_float hg h8, if_pos c46]
            refine TT.skip (.seq (.region (.pures hT 1 rfl (.nil (.blk (.seq (.seq (.seq (.region (.load rfl rfl (Ld.struct_all hT rfl hz rfl) rfl ?_))))))))))
            refine OT.call Tryz.call52 rfl rfl rfl rfl (dt_May (x := ⟨1, (ofF ((xs.drop a).take 8)).1, ⟨#[]⟩⟩)) ?_
            rintro v_64 hs_64 ⟨rfl, rfl⟩
            refine OT.pures hT 1 rfl (.nil (.seq (.cond rfl (fun c65 => ?_) (fun c65 => ?_))))
            ·
              refine TT.seq (.region (.build (cs := [.int .i64 0, .float .f64 0, .string ⟨#[]⟩]) hT rfl Tryz.zeroValue36 rfl rfl rfl rfl (.store_all hT rfl rfl rfl rfl pl rfl rfl rfl (.inl (Nat.le_refl _)) ?_)))
              refine OT.pures hT 2 rfl (.nil (.seq (.ret (.of (rs := [.cell 2 36, .tmp 3, .tmp 4]) [_, _, _] hs rfl (.cell rfl (Ld.struct_all hT rfl hz rfl) (.tmp rfl (.tmp rfl .nil))) sl ?_))))
              try dsimp only [one]
              exact ⟨by rw [hG, if_neg (by simpa using c65)]; rfl, rfl⟩
            ·
              refine TT.skip (.seq (.seq (.region (.load rfl rfl (Ld.struct_all hT rfl hz rfl) rfl ?_))))
              refine OT.pures hT 3 rfl (.store_all hT rfl rfl rfl rfl pl rfl rfl rfl (.inl (Nat.le_refl _)) ?_)
              refine OT.pures hT 2 rfl (.nil (.seq (.ret (.of (rs := [.cell 2 36, .tmp 3, .tmp 4]) [_, _, _] hs rfl (.cell rfl (Ld.struct_all hT rfl hz rfl) (.tmp rfl (.tmp rfl .nil))) sl ?_))))
              try dsimp only [one]
              refine ⟨?_, rfl⟩
              rw [hG, if_pos (by simpa using c65), wrap_i64 (by omega) (by omega)]
              rfl
      ·
        have c27 := beq_eq_false_iff_ne.1 c27
        refine TT.seq (.region (.pures hT 2 rfl (.nil (.seq (.cond rfl (fun c48 => ?_) (fun c48 => ?_))))))
        ·
          have c48 := beq_iff_eq.1 c48
          subst c48
          refine TT.seq (.region (.pures hT 2 rfl (.slice a xs.length hT rfl rfl rfl rfl rfl (hr.there.there) (.inr ⟨.i64, rfl⟩) (.inl ⟨rfl, rfl⟩) (by omega) (by omega) rfl (fun v_53 hv_53 => ?_))))
          rw [List.take_length] at hv_53
          obtain ⟨s, n, e2, ht⟩ : ∃ s n e, getText (xs.drop a) = (s, n, e) := ⟨_, _, _, rfl⟩
          refine OT.call Tryz.call160 rfl rfl rfl rfl (num_GetText hv_53 (by rw [List.length_drop]; omega)) ?_
          rintro v_54 hs_54 ⟨rfl, rfl⟩
          rw [ht]
          dsimp only
          refine OT.pures hT 5 rfl (.store hT rfl rfl rfl rfl pl rfl (by show 0 + 2 + 1 ≤ 3; omega) rfl (.inl (Nat.le_refl _)) (show splice [.int .i64 2, .float .f64 0, .string ⟨#[]⟩] (0 + 2) [.string s] = [.int .i64 2, .float .f64 0, .string s] from rfl) ?_)
          refine OT.pures hT 2 rfl (.nil (.seq (.seq (.region (.pures hT 2 rfl (.nil (.seq (.cond rfl (fun c60 => ?_) (fun c60 => ?_)))))))))
          ·
            have c60 := bne_iff_ne.1 c60
            refine TT.seq (.region (.build (cs := [.int .i64 0, .float .f64 0, .string ⟨#[]⟩]) hT rfl Tryz.zeroValue36 rfl rfl rfl rfl (.pures hT 1 rfl (.store_all hT rfl rfl rfl rfl pl rfl rfl rfl (.inl (Nat.le_refl _)) ?_))))
            refine OT.pures hT 2 rfl (.nil (.seq (.ret (.of (rs := [.cell 2 36, .tmp 3, .tmp 4]) [_, _, _] hs rfl (.cell rfl (Ld.struct_all hT rfl hz rfl) (.tmp rfl (.tmp rfl .nil))) sl ?_))))
            try dsimp only [one]
            exact ⟨by rw [vlGet_text hg ht, if_pos c60]; rfl, rfl⟩
          ·
            have c60 := bne_eq_false_iff_eq.1 c60
            obtain rfl : e2 = 0 := by omega
            have hkn := @getText_k (xs.drop a)
            rw [ht] at hkn
            have hkn := hkn rfl
            dsimp only at hkn
            rw [List.length_drop] at hkn
            have hG : vlGet xs = if mayVl ⟨2, 0, s⟩ = true then (⟨2, 0, s⟩, (a : Int) + n, 0) else (noVl, 0, 1) := by rw [vlGet_text hg ht, if_neg (by simp)]
            refine TT.skip (.blk (.seq (.seq (.seq (.region (.load rfl rfl (Ld.struct_all hT rfl hz rfl) rfl ?_))))))
            refine OT.call Tryz.call52 rfl rfl rfl rfl (dt_May (x := ⟨2, 0, s⟩)) ?_
            rintro v_64 hs_64 ⟨rfl, rfl⟩
            refine OT.pures hT 1 rfl (.nil (.seq (.cond rfl (fun c65 => ?_) (fun c65 => ?_))))
            ·
              refine TT.seq (.region (.build (cs := [.int .i64 0, .float .f64 0, .string ⟨#[]⟩]) hT rfl Tryz.zeroValue36 rfl rfl rfl rfl (.store_all hT rfl rfl rfl rfl pl rfl rfl rfl (.inl (Nat.le_refl _)) ?_)))
              refine OT.pures hT 2 rfl (.nil (.seq (.ret (.of (rs := [.cell 2 36, .tmp 3, .tmp 4]) [_, _, _] hs rfl (.cell rfl (Ld.struct_all hT rfl hz rfl) (.tmp rfl (.tmp rfl .nil))) sl ?_))))
              try dsimp only [one]
              exact ⟨by rw [hG, if_neg (by simpa using c65)]; rfl, rfl⟩
            ·
              refine TT.skip (.seq (.seq (.region (.load rfl rfl (Ld.struct_all hT rfl hz rfl) rfl ?_))))
              refine OT.pures hT 3 rfl (.store_all hT rfl rfl rfl rfl pl rfl rfl rfl (.inl (Nat.le_refl _)) ?_)
              refine OT.pures hT 2 rfl (.nil (.seq (.ret (.of (rs := [.cell 2 36, .tmp 3, .tmp 4]) [_, _, _] hs rfl (.cell rfl (Ld.struct_all hT rfl hz rfl) (.tmp rfl (.tmp rfl .nil))) sl ?_))))
              try dsimp only [one]
              refine ⟨?_, rfl⟩
              rw [hG, if_pos (by simpa using c65), wrap_i64 (by omega) (by omega)]
              rfl
        ·
          have c48 := beq_eq_false_iff_ne.1 c48
          refine TT.seq (.region (.build (cs := [.int .i64 0, .float .f64 0, .string ⟨#[]⟩]) hT rfl Tryz.zeroValue36 rfl rfl rfl rfl (.store_all hT rfl rfl rfl rfl pl rfl rfl rfl (.inl (Nat.le_refl _)) ?_)))
          refine OT.pures hT 2 rfl (.nil (.seq (.ret (.of (rs := [.cell 2 36, .tmp 3, .tmp 4]) [_, _, _] hs rfl (.cell rfl (Ld.struct_all hT rfl hz rfl) (.tmp rfl (.tmp rfl .nil))) sl ?_))))
          try dsimp only [one]
          exact ⟨by rw [vlGet_kind hg c25 c27 c48]; rfl, rfl⟩

end Go.Proofs.YtihpkgmfkbkffaaGreat.Sx
end

section
namespace Go.Proofs.YtihpkgmfkbkffaaGreat.Sx
open Go Go.Sx Go.Pl
variable [Outer]

set_option maxHeartbeats 1000000 in
set_option maxRecDepth 100000 in
theorem ky_May {s : ByteArray} {hs : List Chunk} : Fun Tryz.prog 51 [.string s] hs (fun v' hs' => v' = .bool (mayKey s) ∧ hs = hs') := by
  refine Fun.enter 10 Tryz.func51 rfl Tryz.ntmps51 rfl ?_
  refine TT.seq (.region (.pures hT 1 rfl (.nil (.seq (.seq (.region (.pures hT 3 rfl (.split 5 rfl (fun g5 => ?_) (fun g5 => ?_)))))))))
  ·
    refine OT.pures hT 5 rfl (.nil (.seq (.ret (.of (rs := [.tmp 2]) [_] hs rfl (.tmp rfl .nil) sl ?_))))
    try dsimp only [one]
    refine ⟨congrArg Value.bool ?_, rfl⟩
    have g5 : decide (s = ⟨#[]⟩) = false := by simpa using g5
    have g5 := of_decide_eq_false g5
    unfold mayKey
    rw [decide_eq_true (show s ≠ ⟨#[]⟩ from g5), Bool.true_and]
    exact decide_eq_decide.2 (by omega)
  ·
    refine OT.pures hT 5 rfl (.nil (.seq (.ret (.of (rs := [.tmp 2]) [_] hs rfl (.tmp rfl .nil) sl ?_))))
    try dsimp only [one]
    refine ⟨congrArg Value.bool ?_, rfl⟩
    have g5 : decide (s = ⟨#[]⟩) = true := by simpa using g5
    have g5 := of_decide_eq_true g5
    unfold mayKey
    rw [decide_eq_false (show ¬ s ≠ ⟨#[]⟩ from fun h => h g5), Bool.false_and]

set_option maxHeartbeats 1000000 in
set_option maxRecDepth 100000 in
theorem ky_In {s a b : ByteArray} {hs : List Chunk} : Fun Tryz.prog 111 [.string s, .string a, .string b] hs (fun v' hs' => v' = .bool (keyIn s a b) ∧ hs = hs') := by
  refine Fun.enter 19 Tryz.func111 rfl Tryz.ntmps111 rfl ?_
  refine TT.seq (.region (.pures hT 1 rfl (.nil (.seq (.seq (.region (.pures hT 4 rfl (.split 10 rfl (fun g10 => ?_) (fun g10 => ?_)))))))))
  ·
    refine OT.pures hT 3 rfl (.split 13 rfl (fun g13 => ?_) (fun g13 => ?_))
    ·
      refine OT.pures hT 6 rfl (.nil (.seq (.ret (.of (rs := [.tmp 6]) [_] hs rfl (.tmp rfl .nil) sl ?_))))
      try dsimp only [one]
      refine ⟨congrArg Value.bool ?_, rfl⟩
      unfold keyIn
      rw [show (!kLt s a) = true from g10, g13]; rfl
    ·
      refine OT.pures hT 6 rfl (.nil (.seq (.ret (.of (rs := [.tmp 6]) [_] hs rfl (.tmp rfl .nil) sl ?_))))
      try dsimp only [one]
      refine ⟨congrArg Value.bool ?_, rfl⟩
      unfold keyIn
      rw [show (!kLt s a) = true from g10, g13]; rfl
  ·
    refine OT.pures hT 9 rfl (.nil (.seq (.ret (.of (rs := [.tmp 6]) [_] hs rfl (.tmp rfl .nil) sl ?_))))
    try dsimp only [one]
    refine ⟨congrArg Value.bool ?_, rfl⟩
    unfold keyIn
    rw [show (!kLt s a) = false from g10]; rfl

set_option maxHeartbeats 1000000 in
set_option maxRecDepth 100000 in
theorem ky_Mid {a b : ByteArray} (hb : b.size ≤ 1000000) {hs : List Chunk} : Fun Tryz.prog 201 [.string a, .string b] hs (fun v' hs' => v' = .string (keyMid a b) ∧ hs = hs') := by
  refine Fun.enter 21 Tryz.func201 rfl Tryz.ntmps201 rfl ?_
  refine TT.seq (.region (.pures hT 1 rfl (.nil (.seq (.seq (.seq (.region (.pures hT 4 rfl (.nil (.seq (.block (.reg 8 rfl (v := .int .i64 ((b.size + 1 : Nat) : Int)) (int_eq (by rw [wrap_i64 (by omega) (by omega)]; omega)) (.loop (ι := Nat) (fun j => (j) ≤ b.size + 1 ∧ ∀ q, q < (j) → kLt a (b.extract 0 q) = false) (fun j => b.size + 1 - (j)) (fun j => [(0, .string a), (1, .string b), (8, .int .i64 ((b.size + 1 : Nat) : Int)), (9, .int .i64 ((j) : Nat))]) (fun j => hs) (0) ?_ (SubR.cons rfl (SubR.cons rfl (SubR.cons rfl (SubR.cons rfl (SubR.nil _))))) sl ?_)))))))))))))
  · exact ⟨by omega, fun q hq => by omega⟩
  rintro i ⟨hi, hq⟩
  show TT _ _ _ [(0, .string a), (1, .string b), (8, .int .i64 ((b.size + 1 : Nat) : Int)), (9, .int .i64 (i : Nat))] (hs)
  refine TT.seq (.region (.pures hT 1 rfl (.nil (.seq (.seq (.cond rfl (fun c10 => ?_) (fun c10 => ?_)))))))
  ·
    have c10 := of_decide_eq_true c10
    refine TT.skip (.seq (.seq (.block (.seq (.region (.pures hT 2 rfl (.nil (.seq (.seq (.region (.pures hT 2 rfl (.slice_str 0 i hT rfl rfl rfl rfl rfl (.inl ⟨rfl, rfl⟩) (.inr ⟨_, rfl⟩) (by omega) (by omega) rfl (.pures hT 2 rfl (.nil (.seq (.cond rfl (fun c16 => ?_) (fun c16 => ?_)))))))))))))))))
    ·
      have c16 : kLt a (b.extract 0 i) = true := by rw [← kGt]; exact c16
      refine TT.seq (.region (.pures hT 2 rfl (.slice_str 0 i hT rfl rfl rfl rfl rfl (.inl ⟨rfl, rfl⟩) (.inr ⟨_, rfl⟩) (by omega) (by omega) rfl (.pures hT 1 rfl (.nil (.seq (.ret (.of (rs := [.tmp 4]) [_] hs rfl (.tmp rfl .nil) sl ?_))))))))
      try dsimp only [one]
      exact ⟨by rw [mid_at (by omega) hq c16], rfl⟩
    ·
      have c16 : kLt a (b.extract 0 i) = false := by rw [← kGt]; exact c16
      refine TT.skip (.blk (.seq (.region (.pures hT 2 rfl (.nil (.loop (i + 1) ?_ ?_ (SubR.cons rfl (SubR.cons rfl (SubR.cons rfl (SubR.cons' rfl (by (try dsimp only); exact (int_eq (by rw [wrap_i64 (by omega) (by omega)]; omega))) (SubR.nil _))))) sl))))))
      · exact ⟨by omega, fun q hq' => by by_cases e : q = i; rw [e]; exact c16; exact hq q (by omega)⟩
      · omega
  ·
    have c10 := of_decide_eq_false c10
    obtain rfl : i = b.size + 1 := by omega
    refine TT.exit (.seq (.loop (.here (.seq (.seq (.region (.pures hT 1 rfl (.nil (.seq (.ret (.of (rs := [.tmp 4]) [_] hs rfl (.tmp rfl .nil) sl ?_)))))))))))
    try dsimp only [one]
    exact ⟨by rw [mid_none hq], rfl⟩

end Go.Proofs.YtihpkgmfkbkffaaGreat.Sx
end

section
namespace Go.Proofs.YtihpkgmfkbkffaaGreat.Sx
open Go Go.Sx Go.Pl
variable [Outer]

set_option maxHeartbeats 1000000 in
set_option maxRecDepth 100000 in
theorem cl_none {x : Vl} {hs : List Chunk} : Fun Tryz.prog 140 [.agg ⟨encVl x⟩] hs (fun v' hs' => v' = .bool (decide (x.kind = 0)) ∧ hs = hs') := by
  refine Fun.enter 6 Tryz.func140 rfl Tryz.ntmps140 rfl ?_
  refine TT.seq (.region (.box rfl rfl rfl (fun b_1 => ?_)))
  refine OT.pures hT 1 rfl (.nil (.seq (.seq (.region (.pures hT 1 rfl (.load rfl rfl (Ld.one hT rfl hz rfl) rfl ?_))))))
  refine OT.pures hT 2 rfl (.nil (.seq (.ret (.of (rs := [.tmp 2]) [_] hs rfl (.tmp rfl .nil) sl ?_))))
  try dsimp only [one]
  refine ⟨congrArg Value.bool ?_, rfl⟩
  rw [Bool.eq_iff_iff, beq_iff_eq, decide_eq_true_eq]

set_option maxHeartbeats 1000000 in
set_option maxRecDepth 100000 in
theorem cl_May {x : Cell} {hs : List Chunk} : Fun Tryz.prog 99 [.agg ⟨encCell x⟩] hs (fun v' hs' => v' = .bool (mayCell x) ∧ hs = hs') := by
  refine Fun.enter 43 Tryz.func99 rfl Tryz.ntmps99 rfl ?_
  refine TT.seq (.region (.box rfl rfl rfl (fun b_1 => ?_)))
  refine OT.pures hT 1 rfl (.nil (.seq (.seq (.seq (.region (.pures hT 1 rfl (.load rfl rfl (Ld.one hT rfl hz rfl) rfl ?_)))))))
  refine OT.call Tryz.call51 rfl rfl rfl rfl (ky_May) ?_
  rintro v_5 hs_5 ⟨rfl, rfl⟩
  refine OT.pures hT 2 rfl (.split 7 rfl (fun g7 => ?_) (fun g7 => ?_))
  ·
    have h1 : mayKey x.key = false := by simpa using g7
    refine OT.pures hT 21 rfl (.nil (.seq (.cond_true rfl (.seq (.region (.pures hT 1 rfl (.nil (.seq (.ret (.of (rs := [.tmp 2]) [_] hs rfl (.tmp rfl .nil) sl ?_))))))))))
    try dsimp only [one]
    refine ⟨congrArg Value.bool ?_, rfl⟩
    unfold mayCell
    rw [h1]; simp
  ·
    have h1 : mayKey x.key = true := by simpa using g7
    refine OT.pures hT 1 rfl (.load rfl rfl (Ld.struct (vs := encVl x.val) hT rfl hz rfl rfl) rfl ?_)
    refine OT.call Tryz.call52 rfl rfl rfl rfl (dt_May) ?_
    rintro v_10 hs_10 ⟨rfl, rfl⟩
    refine OT.pures hT 3 rfl (.split 13 rfl (fun g13 => ?_) (fun g13 => ?_))
    ·
      have h2 : mayVl x.val = false := by simpa using g13
      refine OT.pures hT 15 rfl (.nil (.seq (.cond_true rfl (.seq (.region (.pures hT 1 rfl (.nil (.seq (.ret (.of (rs := [.tmp 2]) [_] hs rfl (.tmp rfl .nil) sl ?_))))))))))
      try dsimp only [one]
      refine ⟨congrArg Value.bool ?_, rfl⟩
      unfold mayCell
      rw [h2]; simp
    ·
      have h2 : mayVl x.val = true := by simpa using g13
      refine OT.pures hT 1 rfl (.load rfl rfl (Ld.struct (vs := encVl x.new) hT rfl hz rfl rfl) rfl ?_)
      refine OT.call Tryz.call52 rfl rfl rfl rfl (dt_May) ?_
      rintro v_16 hs_16 ⟨rfl, rfl⟩
      refine OT.pures hT 3 rfl (.split 19 rfl (fun g19 => ?_) (fun g19 => ?_))
      ·
        have h3 : mayVl x.new = false := by simpa using g19
        refine OT.pures hT 9 rfl (.nil (.seq (.cond_true rfl (.seq (.region (.pures hT 1 rfl (.nil (.seq (.ret (.of (rs := [.tmp 2]) [_] hs rfl (.tmp rfl .nil) sl ?_))))))))))
        try dsimp only [one]
        refine ⟨congrArg Value.bool ?_, rfl⟩
        unfold mayCell
        rw [h3]; simp
      ·
        have h3 : mayVl x.new = true := by simpa using g19
        refine OT.pures hT 1 rfl (.load rfl rfl (Ld.one hT rfl hz rfl) rfl ?_)
        refine OT.pures hT 3 rfl (.split 24 rfl (fun g24 => ?_) (fun g24 => ?_))
        ·
          have h4 : x.txn < 0 := of_decide_eq_true g24
          refine OT.pures hT 4 rfl (.nil (.seq (.cond_true rfl (.seq (.region (.pures hT 1 rfl (.nil (.seq (.ret (.of (rs := [.tmp 2]) [_] hs rfl (.tmp rfl .nil) sl ?_))))))))))
          try dsimp only [one]
          refine ⟨congrArg Value.bool ?_, rfl⟩
          unfold mayCell
          rw [decide_eq_false (show ¬ 0 ≤ x.txn by omega)]; simp
        ·
          have h4 : ¬ x.txn < 0 := of_decide_eq_false g24
          refine OT.pures hT 1 rfl (.load rfl rfl (Ld.one hT rfl hz rfl) rfl ?_)
          refine OT.pures hT 2 rfl (.nil (.seq (.cond rfl (fun c28 => ?_) (fun c28 => ?_))))
          ·
            have h5 : x.txn > 1099511627776 := of_decide_eq_true c28
            refine TT.seq (.region (.pures hT 1 rfl (.nil (.seq (.ret (.of (rs := [.tmp 2]) [_] hs rfl (.tmp rfl .nil) sl ?_))))))
            try dsimp only [one]
            refine ⟨congrArg Value.bool ?_, rfl⟩
            unfold mayCell
            rw [decide_eq_false (show ¬ x.txn ≤ 1099511627776 by omega)]; simp
          ·
            have h5 : ¬ x.txn > 1099511627776 := of_decide_eq_false c28
            refine TT.skip (.seq (.seq (.region (.pures hT 1 rfl (.load rfl rfl (Ld.one hT rfl hz rfl) rfl ?_)))))
            refine OT.pures hT 2 rfl (.split 32 rfl (fun g32 => ?_) (fun g32 => ?_))
            ·
              have h6 : 0 < x.txn := of_decide_eq_true g32
              refine OT.pures hT 11 rfl (.nil (.seq (.ret (.of (rs := [.tmp 2]) [_] hs rfl (.tmp rfl .nil) sl ?_))))
              try dsimp only [one]
              refine ⟨congrArg Value.bool ?_, rfl⟩
              unfold mayCell
              rw [h1, h2, h3, decide_eq_true (show 0 ≤ x.txn by omega), decide_eq_true (show x.txn ≤ 1099511627776 by omega)]
              rw [decide_eq_true h6]; rfl
            ·
              have h6 : ¬ 0 < x.txn := of_decide_eq_false g32
              refine OT.pures hT 1 rfl (.load rfl rfl (Ld.struct (vs := encVl x.new) hT rfl hz rfl rfl) rfl ?_)
              refine OT.call Tryz.call140 rfl rfl rfl rfl (cl_none) ?_
              rintro v_35 hs_35 ⟨rfl, rfl⟩
              refine OT.pures hT 1 rfl (.split 36 rfl (fun g36 => ?_) (fun g36 => ?_))
              ·
                have h7 : decide (x.new.kind = 0) = true := g36
                refine OT.pures hT 1 rfl (.load rfl rfl (Ld.struct (vs := encVl x.val) hT rfl hz rfl rfl) rfl ?_)
                refine OT.call Tryz.call140 rfl rfl rfl rfl (cl_none) ?_
                rintro v_39 hs_39 ⟨rfl, rfl⟩
                refine OT.pures hT 4 rfl (.nil (.seq (.ret (.of (rs := [.tmp 2]) [_] hs rfl (.tmp rfl .nil) sl ?_))))
                try dsimp only [one]
                refine ⟨congrArg Value.bool ?_, rfl⟩
                unfold mayCell
                rw [h1, h2, h3, decide_eq_true (show 0 ≤ x.txn by omega), decide_eq_true (show x.txn ≤ 1099511627776 by omega)]
                rw [decide_eq_false h6, h7]; rfl
              ·
                have h7 : decide (x.new.kind = 0) = false := g36
                refine OT.pures hT 7 rfl (.nil (.seq (.ret (.of (rs := [.tmp 2]) [_] hs rfl (.tmp rfl .nil) sl ?_))))
                try dsimp only [one]
                refine ⟨congrArg Value.bool ?_, rfl⟩
                unfold mayCell
                rw [h1, h2, h3, decide_eq_true (show 0 ≤ x.txn by omega), decide_eq_true (show x.txn ≤ 1099511627776 by omega)]
                rw [decide_eq_false h6, h7]; rfl

set_option maxHeartbeats 2000000 in
set_option maxRecDepth 100000 in
theorem cl_Put {v : Value} {xs : List UInt8} {H : Chunk} {r : List Chunk} {x : Cell} (ho : Own Go.Sx.encB 1 5 v xs H) (h1 : -9223372036854775808 ≤ x.val.kind ∧ x.val.kind ≤ 9223372036854775807) (h2 : -9223372036854775808 ≤ x.new.kind ∧ x.new.kind ≤ 9223372036854775807) (ht : -9223372036854775808 ≤ x.txn ∧ x.txn ≤ 9223372036854775807) (hf1 : x.val.f < 2 ^ 64) (hf2 : x.new.f < 2 ^ 64) (hk : x.key.size ≤ 1000) (hs1 : x.val.s.size ≤ 1000) (hs2 : x.new.s.size ≤ 1000) (hl : xs.length ≤ 100000) : Fun Tryz.prog 199 [v, .agg ⟨encCell x⟩] (H :: r) (fun v' hs' => ∃ H', hs' = H' :: r ∧ Own Go.Sx.encB 1 5 v' (xs ++ cellBytes x) H') := by
  refine Fun.enter 23 Tryz.func199 rfl Tryz.ntmps199 rfl ?_
  have a1 : (putText x.key).length ≤ 1010 := by
    have := put_ten (n := x.key.size) (by omega) (by omega)
    rw [putText_length]; omega
  have a2 : (vlBytes x.val).length ≤ 1020 := by
    have b1 := put_ten h1.1 h1.2
    have b2 := put_ten (n := x.val.s.size) (by omega) (by omega)
    unfold vlBytes
    rw [List.length_append]
    split
    · rw [floatBytes_len]; omega
    · split
      · rw [putText_length]; omega
      · simp; omega
  have a3 := put_ten ht.1 ht.2
  refine TT.seq (.region (.box rfl rfl rfl (fun b_3 => ?_)))
  refine OT.pures hT 1 rfl (.nil (.seq (.seq (.draw (([(b_3, blk (encCell x) 113 (0, 0))] :: r)) mixed (.takes (fuel := 7) hT [0, 1, 4, 7] kr kr rfl (.take (fuel := 6) hT 2 rfl rfl kr kr kr rfl (.load rfl (Ld.one hT rfl hz rfl)) rfl ?_))))))
  refine AT.take (fuel := 5) hT 5 rfl rfl kr kr kr rfl (.load rfl (Ld.struct (vs := encVl x.val) hT rfl hz rfl rfl)) rfl ?_
  refine AT.take (fuel := 4) hT 8 rfl rfl kr kr kr rfl (.load rfl (Ld.one hT rfl hz rfl)) rfl ?_
  refine AT.op (fuel := 3) 3 kr rfl sl (.call Tryz.call77 rfl rfl rfl rfl (Fun.pull pl (num_PutText ho (Nat.le_trans hk (by decide)) (Nat.le_trans hl (by decide)))) ?_)
  rintro v_8 hs_8 ⟨H1, rfl, ho1⟩
  refine OT.nil (.any (.op (fuel := 2) 6 kr rfl sl (.call Tryz.call211 rfl rfl rfl rfl (dt_Put ho1 h1 hf1 (Nat.le_trans hs1 (by decide)) (by rw [List.length_append]; omega)) ?_)))
  rintro v_11 hs_11 ⟨H2, rfl, ho2⟩
  refine OT.nil (.any (.op (fuel := 1) 9 kr rfl sl (.call Tryz.call76 rfl rfl rfl rfl (num_Put ho2 ht.1 ht.2 (by rw [List.length_append, List.length_append]; omega)) ?_)))
  rintro v_14 hs_14 ⟨H3, rfl, ho3⟩
  refine OT.nil (.any (.takes (fuel := 0) hT [10] kr kr rfl (.done kr sl (.seq (.seq (.seq (.region (.pures hT 1 rfl (.load rfl rfl (Ld.one hT rfl hz rfl) rfl ?_)))))))))
  refine OT.pures hT 1 rfl (.nil (.seq (.cond rfl (fun c17 => ?_) (fun c17 => ?_))))
  ·
    have c17 := of_decide_eq_true c17
    refine TT.region (.pures hT 2 rfl (.load rfl rfl (Ld.struct (vs := encVl x.new) hT rfl hz rfl rfl) rfl ?_))
    refine OT.call Tryz.call211 rfl rfl rfl rfl (dt_Put ho3 h2 hf2 (Nat.le_trans hs2 (by decide)) (by rw [List.length_append, List.length_append, List.length_append]; omega)) ?_
    rintro v_21 hs_21 ⟨H4, rfl, ho4⟩
    refine OT.pures hT 1 rfl (.nil (.seq (.seq (.region (.pures hT 2 rfl (.nil (.seq (.ret (.of (rs := [.tmp 4]) [_] (H4 :: r) rfl (.tmp rfl .nil) sl ?_)))))))))
    try dsimp only [one]
    exact ⟨_, rfl, by unfold cellBytes; rw [if_pos c17]; simp only [← List.append_assoc]; exact ho4⟩
  ·
    have c17 := of_decide_eq_false c17
    refine TT.skip (.seq (.seq (.region (.pures hT 2 rfl (.nil (.seq (.ret (.of (rs := [.tmp 4]) [_] (H3 :: r) rfl (.tmp rfl .nil) sl ?_))))))))
    try dsimp only [one]
    exact ⟨_, rfl, by unfold cellBytes; rw [if_neg c17, List.append_nil]; simp only [← List.append_assoc]; exact ho3⟩

end Go.Proofs.YtihpkgmfkbkffaaGreat.Sx
end

section
namespace Go.Proofs.YtihpkgmfkbkffaaGreat.Sx
open Go Go.Sx Go.Pl
variable [Outer]

set_option maxHeartbeats 4000000 in
set_option maxRecDepth 100000 in
theorem cl_Get {v : Value} {xs : List UInt8} {hs : List Chunk} (hr : Row Go.Sx.encB 1 hs v xs) (hl : xs.length ≤ 1000000) : Fun Tryz.prog 168 [v] hs (fun v' hs' => v' = (.tuple ⟨[.agg ⟨encCell (cellGet xs).1⟩, .int .i64 (cellGet xs).2.1, .int .i64 (cellGet xs).2.2]⟩) ∧ hs = hs') := by
  refine Fun.enter 77 Tryz.func168 rfl Tryz.ntmps168 rfl ?_
  obtain ⟨a0, c0, hv⟩ := hr.len
  subst hv
  have hk1 := @getText_k xs
  obtain ⟨k, a1, e1, h1⟩ : ∃ k a e, getText xs = (k, a, e) := ⟨_, _, _, rfl⟩
  rw [h1] at hk1
  dsimp only at hk1
  refine TT.seq (.region (.alloc Tryz.zeroValue113 rfl rfl (fun b_2 => ?_)))
  refine OT.pures hT 2 rfl (.nil (.seq (.seq (.region (.alloc Tryz.zeroValue113 rfl rfl (fun b_5 => ?_))))))
  refine OT.nil (.seq (.seq (.region (.pures hT 1 rfl (.nil (.seq (.seq (.region (.pures hT 1 rfl (.nil (.seq (.seq (.region (.pures hT 1 rfl (.nil (.seq (.seq (.seq (.region (.pures hT 1 rfl (.call Tryz.call160 rfl rfl rfl rfl (num_GetText hr.there.there (by omega)) ?_)))))))))))))))))))))
  rintro v_11 hs_11 ⟨rfl, rfl⟩
  rw [h1]
  dsimp only
  refine OT.pures hT 5 rfl (.store hT rfl rfl rfl rfl pl rfl (by show 0 + 0 + 1 ≤ 8; omega) rfl (.inl (Nat.le_refl _)) (show splice (encCell noCell) (0 + 0) ([.string k]) = encCell ⟨k, noVl, 0, noVl⟩ from rfl) ?_)
  refine OT.pures hT 2 rfl (.nil (.seq (.seq (.region (.pures hT 2 rfl (.nil (.seq (.cond rfl (fun c17 => ?_) (fun c17 => ?_)))))))))
  ·
    have c17 := bne_iff_ne.1 c17
    refine TT.seq (.region (.build (cs := encCell noCell) hT rfl Tryz.zeroValue113 rfl rfl rfl rfl (.pures hT 1 rfl (.store_all hT rfl rfl rfl rfl pl rfl rfl rfl (.inl (Nat.le_refl _)) ?_))))
    refine OT.pures hT 2 rfl (.nil (.seq (.ret (.of (rs := [.cell 2 113, .tmp 3, .tmp 4]) [_, _, _] hs rfl (.cell rfl (Ld.struct_all hT rfl hz rfl) (.tmp rfl (.tmp rfl .nil))) sl ?_))))
    try dsimp only [one]
    exact ⟨by rw [cg_text h1 c17]; rfl, rfl⟩
  ·
    have c17 := bne_eq_false_iff_eq.1 c17
    obtain rfl : e1 = 0 := by omega
    have hk1 := hk1 rfl
    obtain ⟨a, rfl⟩ : ∃ a : Nat, a1 = a := ⟨a1.toNat, by omega⟩
    refine TT.skip (.seq (.seq (.seq (.region (.pures hT 2 rfl (.slice a xs.length hT rfl rfl rfl rfl rfl hr.there.there (.inr ⟨.i64, rfl⟩) (.inl ⟨rfl, rfl⟩) (by omega) (by omega) rfl (fun v_23 hv_23 => ?_)))))))
    rw [List.take_length] at hv_23
    have hk2 := @vlGet_k (xs.drop a)
    obtain ⟨x, n1, e2, h2⟩ : ∃ x n e, vlGet (xs.drop a) = (x, n, e) := ⟨_, _, _, rfl⟩
    rw [h2] at hk2
    dsimp only at hk2
    rw [List.length_drop] at hk2
    refine OT.call Tryz.call196 rfl rfl rfl rfl (dt_Get hv_23 (by rw [List.length_drop]; omega)) ?_
    rintro v_24 hs_24 ⟨rfl, rfl⟩
    rw [h2]
    dsimp only
    refine OT.pures hT 5 rfl (.store hT rfl rfl rfl rfl pl rfl (by show 0 + 1 + 3 ≤ 8; omega) rfl (.inl (Nat.le_refl _)) (show splice (encCell ⟨k, noVl, 0, noVl⟩) (0 + 1) (encVl x) = encCell ⟨k, x, 0, noVl⟩ from rfl) ?_)
    refine OT.pures hT 2 rfl (.nil (.seq (.seq (.region (.pures hT 2 rfl (.nil (.seq (.cond rfl (fun c30 => ?_) (fun c30 => ?_)))))))))
    ·
      have c30 := bne_iff_ne.1 c30
      refine TT.seq (.region (.build (cs := encCell noCell) hT rfl Tryz.zeroValue113 rfl rfl rfl rfl (.pures hT 1 rfl (.store_all hT rfl rfl rfl rfl pl rfl rfl rfl (.inl (Nat.le_refl _)) ?_))))
      refine OT.pures hT 2 rfl (.nil (.seq (.ret (.of (rs := [.cell 2 113, .tmp 3, .tmp 4]) [_, _, _] hs rfl (.cell rfl (Ld.struct_all hT rfl hz rfl) (.tmp rfl (.tmp rfl .nil))) sl ?_))))
      try dsimp only [one]
      exact ⟨by rw [cg_val h1 h2 c30]; rfl, rfl⟩
    ·
      have c30 := bne_eq_false_iff_eq.1 c30
      obtain rfl : e2 = 0 := by omega
      have hk2 := hk2 rfl
      obtain ⟨n, rfl⟩ : ∃ n : Nat, n1 = n := ⟨n1.toNat, by omega⟩
      refine TT.skip (.seq (.seq (.region (.pures hT 4 rfl (.nil (.seq (.seq (.seq (.region (.pures hT 2 rfl (.reg 38 rfl (v := .int .i64 ((a + n : Nat) : Int)) (int_eq (by rw [wrap_i64 (by omega) (by omega)]; omega)) (.slice (a + n) xs.length hT rfl rfl rfl rfl rfl hr.there.there (.inr ⟨.i64, rfl⟩) (.inl ⟨rfl, rfl⟩) (by omega) (by omega) rfl (fun v_39 hv_39 => ?_)))))))))))))
      rw [List.take_length] at hv_39
      have hk3 := @get_k (xs.drop (a + n))
      obtain ⟨t, n21, e3, h3⟩ : ∃ x m e, get (xs.drop (a + n)) = (x, m, e) := ⟨_, _, _, rfl⟩
      rw [h3] at hk3
      dsimp only at hk3
      rw [List.length_drop] at hk3
      refine OT.call Tryz.call120 rfl rfl rfl rfl (num_Get hv_39 (by rw [List.length_drop]; omega)) ?_
      rintro v_40 hs_40 ⟨rfl, rfl⟩
      rw [h3]
      dsimp only
      refine OT.pures hT 5 rfl (.store hT rfl rfl rfl rfl pl rfl (by show 0 + 4 + 1 ≤ 8; omega) rfl (.inl (Nat.le_refl _)) (show splice (encCell ⟨k, x, 0, noVl⟩) (0 + 4) ([.int .i64 t]) = encCell ⟨k, x, t, noVl⟩ from rfl) ?_)
      refine OT.pures hT 2 rfl (.nil (.seq (.seq (.region (.pures hT 2 rfl (.nil (.seq (.cond rfl (fun c46 => ?_) (fun c46 => ?_)))))))))
      ·
        have c46 := bne_iff_ne.1 c46
        refine TT.seq (.region (.build (cs := encCell noCell) hT rfl Tryz.zeroValue113 rfl rfl rfl rfl (.pures hT 1 rfl (.store_all hT rfl rfl rfl rfl pl rfl rfl rfl (.inl (Nat.le_refl _)) ?_))))
        refine OT.pures hT 2 rfl (.nil (.seq (.ret (.of (rs := [.cell 2 113, .tmp 3, .tmp 4]) [_, _, _] hs rfl (.cell rfl (Ld.struct_all hT rfl hz rfl) (.tmp rfl (.tmp rfl .nil))) sl ?_))))
        try dsimp only [one]
        exact ⟨by rw [cg_txn h1 h2 h3 c46]; rfl, rfl⟩
      ·
        have c46 := bne_eq_false_iff_eq.1 c46
        obtain rfl : e3 = 0 := by omega
        have hk3 := hk3 rfl
        obtain ⟨n2, rfl⟩ : ∃ n : Nat, n21 = n := ⟨n21.toNat, by omega⟩
        refine TT.skip (.seq (.seq (.region (.pures hT 4 rfl (.nil (.seq (.seq (.seq (.region (.pures hT 1 rfl (.load rfl rfl (Ld.one hT rfl hz rfl) rfl ?_)))))))))))
        refine OT.pures hT 1 rfl (.nil (.seq (.cond rfl (fun c54 => ?_) (fun c54 => ?_))))
        ·
          have c54 := of_decide_eq_true c54
          refine TT.seq (.seq (.region (.pures hT 2 rfl (.reg 57 rfl (v := .int .i64 ((a + n + n2 : Nat) : Int)) (int_eq (by rw [wrap_i64 (n := (a : Int) + n) (by omega) (by omega), wrap_i64 (by omega) (by omega)]; omega)) (.slice (a + n + n2) xs.length hT rfl rfl rfl rfl rfl hr.there.there (.inr ⟨.i64, rfl⟩) (.inl ⟨rfl, rfl⟩) (by omega) (by omega) rfl (fun v_58 hv_58 => ?_))))))
          rw [List.take_length] at hv_58
          have hk4 := @vlGet_k (xs.drop (a + n + n2))
          obtain ⟨y, n3, e4, h4⟩ : ∃ x m e, vlGet (xs.drop (a + n + n2)) = (x, m, e) := ⟨_, _, _, rfl⟩
          rw [h4] at hk4
          dsimp only at hk4
          rw [List.length_drop] at hk4
          have hG := cg_new h1 h2 h3 c54 h4
          refine OT.call Tryz.call196 rfl rfl rfl rfl (dt_Get hv_58 (by rw [List.length_drop]; omega)) ?_
          rintro v_59 hs_59 ⟨rfl, rfl⟩
          rw [h4]
          dsimp only
          refine OT.pures hT 5 rfl (.store hT rfl rfl rfl rfl pl rfl (by show 0 + 5 + 3 ≤ 8; omega) rfl (.inl (Nat.le_refl _)) (show splice (encCell ⟨k, x, t, noVl⟩) (0 + 5) (encVl y) = encCell ⟨k, x, t, y⟩ from rfl) ?_)
          refine OT.pures hT 2 rfl (.nil (.seq (.seq (.region (.pures hT 2 rfl (.nil (.seq (.cond rfl (fun c65 => ?_) (fun c65 => ?_)))))))))
          ·
            have c65 := bne_iff_ne.1 c65
            refine TT.seq (.region (.build (cs := encCell noCell) hT rfl Tryz.zeroValue113 rfl rfl rfl rfl (.pures hT 1 rfl (.store_all hT rfl rfl rfl rfl pl rfl rfl rfl (.inl (Nat.le_refl _)) ?_))))
            refine OT.pures hT 2 rfl (.nil (.seq (.ret (.of (rs := [.cell 2 113, .tmp 3, .tmp 4]) [_, _, _] hs rfl (.cell rfl (Ld.struct_all hT rfl hz rfl) (.tmp rfl (.tmp rfl .nil))) sl ?_))))
            try dsimp only [one]
            exact ⟨by rw [hG, if_pos c65]; rfl, rfl⟩
          ·
            have c65 := bne_eq_false_iff_eq.1 c65
            obtain rfl : e4 = 0 := by omega
            have hk4 := hk4 rfl
            rw [if_neg (by simp)] at hG
            refine TT.skip (.seq (.region (.pures hT 4 rfl (.nil (.seq (.seq (.seq (.region (.load rfl rfl (Ld.struct_all hT rfl hz rfl) rfl ?_)))))))))
            refine OT.call Tryz.call99 rfl rfl rfl rfl (cl_May (x := ⟨k, x, t, y⟩)) ?_
            rintro v_72 hs_72 ⟨rfl, rfl⟩
            refine OT.pures hT 1 rfl (.nil (.seq (.cond rfl (fun c73 => ?_) (fun c73 => ?_))))
            ·
              refine TT.seq (.region (.build (cs := encCell noCell) hT rfl Tryz.zeroValue113 rfl rfl rfl rfl (.store_all hT rfl rfl rfl rfl pl rfl rfl rfl (.inl (Nat.le_refl _)) ?_)))
              refine OT.pures hT 2 rfl (.nil (.seq (.ret (.of (rs := [.cell 2 113, .tmp 3, .tmp 4]) [_, _, _] hs rfl (.cell rfl (Ld.struct_all hT rfl hz rfl) (.tmp rfl (.tmp rfl .nil))) sl ?_))))
              try dsimp only [one]
              exact ⟨by rw [hG, if_neg (by simpa using c73)]; rfl, rfl⟩
            ·
              refine TT.skip (.seq (.seq (.region (.load rfl rfl (Ld.struct_all hT rfl hz rfl) rfl ?_))))
              refine OT.pures hT 1 rfl (.store_all hT rfl rfl rfl rfl pl rfl rfl rfl (.inl (Nat.le_refl _)) ?_)
              refine OT.pures hT 2 rfl (.nil (.seq (.ret (.of (rs := [.cell 2 113, .tmp 3, .tmp 4]) [_, _, _] hs rfl (.cell rfl (Ld.struct_all hT rfl hz rfl) (.tmp rfl (.tmp rfl .nil))) sl ?_))))
              try dsimp only [one]
              refine ⟨?_, rfl⟩
              rw [hG, if_pos (by simpa using c73)]
              simp only [wrap_i64 (n := (a : Int) + n) (by omega) (by omega), wrap_i64 (n := (a : Int) + n + n2) (by omega) (by omega)]
              first | rfl | (rw [wrap_i64 (by omega) (by omega)]; rfl) | (rw [Int.add_zero]; rfl)
        ·
          have c54 := of_decide_eq_false c54
          have hG := cg_old h1 h2 h3 c54
          refine TT.skip (.seq (.seq (.seq (.region (.load rfl rfl (Ld.struct_all hT rfl hz rfl) rfl ?_)))))
          refine OT.call Tryz.call99 rfl rfl rfl rfl (cl_May (x := ⟨k, x, t, noVl⟩)) ?_
          rintro v_72 hs_72 ⟨rfl, rfl⟩
          refine OT.pures hT 1 rfl (.nil (.seq (.cond rfl (fun c73 => ?_) (fun c73 => ?_))))
          ·
            refine TT.seq (.region (.build (cs := encCell noCell) hT rfl Tryz.zeroValue113 rfl rfl rfl rfl (.store_all hT rfl rfl rfl rfl pl rfl rfl rfl (.inl (Nat.le_refl _)) ?_)))
            refine OT.pures hT 2 rfl (.nil (.seq (.ret (.of (rs := [.cell 2 113, .tmp 3, .tmp 4]) [_, _, _] hs rfl (.cell rfl (Ld.struct_all hT rfl hz rfl) (.tmp rfl (.tmp rfl .nil))) sl ?_))))
            try dsimp only [one]
            exact ⟨by rw [hG, if_neg (by simpa using c73)]; rfl, rfl⟩
          ·
            refine TT.skip (.seq (.seq (.region (.load rfl rfl (Ld.struct_all hT rfl hz rfl) rfl ?_))))
            refine OT.pures hT 1 rfl (.store_all hT rfl rfl rfl rfl pl rfl rfl rfl (.inl (Nat.le_refl _)) ?_)
            refine OT.pures hT 2 rfl (.nil (.seq (.ret (.of (rs := [.cell 2 113, .tmp 3, .tmp 4]) [_, _, _] hs rfl (.cell rfl (Ld.struct_all hT rfl hz rfl) (.tmp rfl (.tmp rfl .nil))) sl ?_))))
            try dsimp only [one]
            refine ⟨?_, rfl⟩
            rw [hG, if_pos (by simpa using c73)]
            simp only [wrap_i64 (n := (a : Int) + n) (by omega) (by omega), wrap_i64 (n := (a : Int) + n + n2) (by omega) (by omega)]
            first | rfl | (rw [wrap_i64 (by omega) (by omega)]; rfl) | (rw [Int.add_zero]; rfl)

end Go.Proofs.YtihpkgmfkbkffaaGreat.Sx
end

section
namespace Go.Proofs.YtihpkgmfkbkffaaGreat.Sx
open Go Go.Sx Go.Pl
variable [Outer]

omit [Outer] in
theorem ones_cell (x : Cell) : ones (encCell x) = true := rfl

set_option maxHeartbeats 4000000 in
set_option maxRecDepth 100000 in
theorem nd_May {cs : List Value} {n : Nd} {hs : List Chunk} (h : NdAt hs cs n) (hlc : n.cells.length ≤ 1000000) (hlk : n.keys.length ≤ 1000000) (hli : n.kids.length ≤ 1000000) : Fun Tryz.prog 138 [.agg ⟨cs⟩] hs (fun v' hs' => v' = .bool (decide (MayNd n)) ∧ hs = hs') := by
  refine Fun.enter 114 Tryz.func138 rfl Tryz.ntmps138 rfl ?_
  obtain ⟨vc, vk, vi, rfl, hc, hk, hi⟩ := h.is
  obtain ⟨ac, cc, e1⟩ := hc.len
  obtain ⟨ak, ck, e2⟩ := hk.len
  obtain ⟨ai, ci, e3⟩ := hi.len
  subst e1 e2 e3
  refine TT.seq (.region (.box rfl rfl rfl (fun b_1 => ?_)))
  refine OT.pures hT 1 rfl (.nil (.seq (.seq (.seq (.region (.pures hT 1 rfl (.load rfl rfl (Ld.slc hT rfl hz rfl) rfl ?_)))))))
  refine OT.pures hT 2 rfl (.nil (.seq (.block (.loop (ι := Nat) (fun j => (j) ≤ n.cells.length ∧ (0 < (j) → n.leaf = true) ∧ (∀ c ∈ n.cells.take (j), mayCell c = true) ∧ rising ((n.cells.take (j)).map Cell.key)) (fun j => n.cells.length - (j)) (fun j => [(1, .pointer (some ⟨b_1, 0, none⟩)), (10, .slice ac n.cells.length cc), (11, .int .i64 (n.cells.length : Nat)), (12, .int .i64 ((j) : Nat))]) (fun j => [(b_1, blk [.bool n.leaf, .slice ac n.cells.length cc, .slice ak n.keys.length ck, .slice ai n.kids.length ci] 159 (0, 0))] :: hs) (0) ?_ (SubR.cons rfl (SubR.cons rfl (SubR.cons rfl (SubR.cons rfl (SubR.nil _))))) sl ?_))))
  · exact ⟨by omega, by omega, by simp, by simp [rising]⟩
  rintro i ⟨hin, hlf, hmy, hrs⟩
  show TT _ _ _ [(1, .pointer (some ⟨b_1, 0, none⟩)), (10, .slice ac n.cells.length cc), (11, .int .i64 (n.cells.length : Nat)), (12, .int .i64 (i : Nat))] ([(b_1, blk [.bool n.leaf, .slice ac n.cells.length cc, .slice ak n.keys.length ck, .slice ai n.kids.length ci] 159 (0, 0))] :: hs)
  refine TT.seq (.region (.pures hT 1 rfl (.nil (.seq (.seq (.cond rfl (fun c13 => ?_) (fun c13 => ?_)))))))
  ·
    have c13 := of_decide_eq_true c13
    obtain ⟨x, hx⟩ := nth (l := n.cells) (i := i) (by omega)
    refine TT.skip (.seq (.seq (.block (.seq (.region (.pures hT 1 rfl (.index hT rfl rfl rfl rfl hc.there (by omega) (by rw [Int.toNat_natCast]; exact hx) rfl (fun ad_15 hel_15 => ?_))))))))
    refine OT.load rfl rfl (hel_15.ld_struct hT rfl) rfl (.alloc Tryz.zeroValue113 rfl rfl (fun b_4 => ?_))
    refine OT.pures hT 1 rfl (.store_all hT rfl rfl rfl rfl pl (by rfl) rfl (ones_cell x) (.inl (Nat.le_refl _)) ?_)
    refine OT.nil (.seq (.seq (.draw (([(b_4, blk (encCell x) 113 (0, 0))] :: [(b_1, blk [.bool n.leaf, .slice ac n.cells.length cc, .slice ak n.keys.length ck, .slice ai n.kids.length ci] 159 (0, 0))] :: hs)) mixed (.takes (fuel := 23) hT [0] kr kr rfl (.take (fuel := 22) hT 1 rfl rfl kr kr kr rfl (.load rfl (Ld.one hT rfl hz rfl)) rfl ?_)))))
    refine AT.takes (fuel := 20) hT [2, 3] kr kr rfl (.split 20 rfl (fun g20 => ?_) (fun g20 => ?_))
    ·
      have hl0 : n.leaf = false := by simpa using g20
      refine AT.takes (fuel := 0) hT [4, 5, 6, 7, 8, 9, 10, 11, 12, 13, 14, 15, 16, 17, 18, 19, 20, 21, 22, 23] kr kr rfl (.done kr sl (.seq (.cond_true rfl (.seq (.region (.pures hT 1 rfl (.nil (.seq (.ret (.of (rs := [.tmp 2]) [_] hs rfl (.tmp rfl .nil) sl ?_))))))))))
      try dsimp only [one]
      refine ⟨congrArg Value.bool (decide_eq_false fun hm => ?_).symm, rfl⟩
      have := (may_cell hm hx).1; rw [hl0] at this; cases this
    ·
      have hl1 : n.leaf = true := by simpa using g20
      refine AT.take (fuel := 19) hT 4 rfl rfl kr kr kr rfl (.load rfl (Ld.struct_all hT rfl hz rfl)) rfl ?_
      refine AT.op (fuel := 18) 5 kr rfl sl (.call Tryz.call99 rfl rfl rfl rfl (cl_May) ?_)
      rintro v_22 hs_22 ⟨rfl, rfl⟩
      refine OT.nil (.any (.takes (fuel := 15) hT [6, 7, 8] kr kr rfl (.split 25 rfl (fun g25 => ?_) (fun g25 => ?_))))
      ·
        have hm0 : mayCell x = false := by simpa using g25
        refine AT.takes (fuel := 0) hT [9, 10, 11, 12, 13, 14, 15, 16, 17, 18, 19, 20, 21, 22, 23] kr kr rfl (.done kr sl (.seq (.cond_true rfl (.seq (.region (.pures hT 1 rfl (.nil (.seq (.ret (.of (rs := [.tmp 2]) [_] hs rfl (.tmp rfl .nil) sl ?_))))))))))
        try dsimp only [one]
        refine ⟨congrArg Value.bool (decide_eq_false fun hm => ?_).symm, rfl⟩
        have := (may_cell hm hx).2.1; rw [hm0] at this; cases this
      ·
        have hm1 : mayCell x = true := by simpa using g25
        refine AT.takes (fuel := 12) hT [9, 10, 11] kr kr rfl (.split 28 rfl (fun g28 => ?_) (fun g28 => ?_))
        ·
          have hi0 : 0 < i := by have := of_decide_eq_true g28; omega
          obtain ⟨p, hp⟩ := nth (l := n.cells) (i := i - 1) (by omega)
          refine AT.takes (fuel := 8) hT [12, 14, 15, 19] kr kr rfl (.take (fuel := 7) hT 13 rfl rfl kr kr kr rfl (.load rfl (Ld.slc hT rfl hz rfl)) rfl ?_)
          refine AT.take (fuel := 6) hT 20 rfl rfl kr kr kr rfl (.load rfl (Ld.one hT rfl hz rfl)) rfl ?_
          refine AT.reg 32 rfl (v := .int .i64 ((i - 1 : Nat) : Int)) (int_eq (by rw [wrap_i64 (by omega) (by omega)]; omega)) (.index (fuel := 5) hT 16 rfl kr kr kr rfl rfl rfl rfl hc.there.there (by omega) (by rw [Int.toNat_natCast]; exact hp) rfl (fun ad_33 hel_33 => ?_))
          obtain ⟨eb_33, eo_33, rfl, hfld_33⟩ := hel_33.at (P := Tryz.prog)
          refine AT.takes (fuel := 4) hT [17] kr kr rfl (.take (fuel := 3) hT 18 rfl rfl kr kr kr rfl (.load rfl (hfld_33 hT rfl rfl)) rfl (.takes (fuel := 0) hT [21, 22, 23] kr kr rfl (.done kr sl (.seq (.cond rfl (fun c40 => ?_) (fun c40 => ?_))))))
          ·
            refine TT.seq (.region (.pures hT 1 rfl (.nil (.seq (.ret (.of (rs := [.tmp 2]) [_] hs rfl (.tmp rfl .nil) sl ?_))))))
            try dsimp only [one]
            refine ⟨congrArg Value.bool (decide_eq_false fun hm => ?_).symm, rfl⟩
            have h9 := (may_cell hm hx).2.2 hi0 p hp
            have c40 : (!kLt p.key x.key) = true := c40
            rw [h9] at c40; cases c40
          ·
            refine TT.skip (.blk (.seq (.region (.pures hT 2 rfl (.nil (.loop (i + 1) ?_ ?_ (SubR.cons rfl (SubR.cons rfl (SubR.cons rfl (SubR.cons' rfl (by (try dsimp only); exact (int_eq (by rw [wrap_i64 (by omega) (by omega)]; omega))) (SubR.nil _))))) sl))))))
            · refine ⟨by omega, fun _ => hl1, ?_, (rising_take hx).2 ⟨hrs, fun _ q hq => ?_⟩⟩
              · rw [take_succ hx]
                intro c hcm
                rcases List.mem_append.1 hcm with hcm | hcm
                · exact hmy c hcm
                · rw [List.mem_singleton] at hcm; subst hcm; exact hm1
              · rw [hp] at hq; cases hq
                have c40 : (!kLt p.key x.key) = false := c40
                simpa using c40
            · omega
        ·
          have hi0 : i = 0 := by have := of_decide_eq_false g28; omega
          refine AT.takes (fuel := 0) hT [12, 13, 14, 15, 16, 17, 18, 19, 20, 21, 22, 23] kr kr rfl (.done kr sl (.seq (.cond_false rfl (.skip (.blk (.seq (.region (.pures hT 2 rfl (.nil (.loop (i + 1) ?_ ?_ (SubR.cons rfl (SubR.cons rfl (SubR.cons rfl (SubR.cons' rfl (by (try dsimp only); exact (int_eq (by rw [wrap_i64 (by omega) (by omega)]; omega))) (SubR.nil _))))) sl))))))))))
          · refine ⟨by omega, fun _ => hl1, ?_, (rising_take hx).2 ⟨hrs, fun h0 => by omega⟩⟩
            rw [take_succ hx]
            intro c hcm
            rcases List.mem_append.1 hcm with hcm | hcm
            · exact hmy c hcm
            · rw [List.mem_singleton] at hcm; subst hcm; exact hm1
          · omega
  ·
    have c13 := of_decide_eq_false c13
    obtain rfl : i = n.cells.length := by omega
    rw [List.take_length] at hmy hrs
    refine TT.exit (.seq (.loop (.here (.seq (.seq (.seq (.region (.pures hT 1 rfl (.load rfl rfl (Ld.one hT rfl hz rfl) rfl ?_)))))))))
    refine OT.nil (.seq (.cond rfl (fun c43 => ?_) (fun c43 => ?_)))
    ·
      refine TT.seq (.region (.pures hT 1 rfl (.load rfl rfl (Ld.slc hT rfl hz rfl) rfl ?_)))
      refine OT.pures hT 3 rfl (.split 48 rfl (fun g48 => ?_) (fun g48 => ?_))
      ·
        have hk0 : n.keys.length = 0 := by simpa using g48
        refine OT.pures hT 1 rfl (.load rfl rfl (Ld.slc hT rfl hz rfl) rfl ?_)
        refine OT.pures hT 4 rfl (.nil (.seq (.ret (.of (rs := [.tmp 2]) [_] hs rfl (.tmp rfl .nil) sl ?_))))
        try dsimp only [one]
        refine ⟨congrArg Value.bool ?_, rfl⟩
        rw [Bool.eq_iff_iff, beq_iff_eq, decide_eq_true_eq, may_leaf c43]
        constructor
        · intro h; exact ⟨List.length_eq_zero_iff.1 hk0, List.length_eq_zero_iff.1 (by omega), hmy, hrs⟩
        · intro h; rw [h.2.1]; rfl
      ·
        have hk0 : n.keys.length ≠ 0 := by simpa using g48
        refine OT.pures hT 6 rfl (.nil (.seq (.ret (.of (rs := [.tmp 2]) [_] hs rfl (.tmp rfl .nil) sl ?_))))
        try dsimp only [one]
        refine ⟨congrArg Value.bool (decide_eq_false fun hm => ?_).symm, rfl⟩
        exact hk0 (by rw [((may_leaf c43).1 hm).1]; rfl)
    ·
      have hce : n.cells = [] := by
        cases e : n.cells with
        | nil => rfl
        | cons a l => have := hlf (by rw [e]; simp); rw [c43] at this; cases this
      refine TT.skip (.seq (.seq (.seq (.region (.pures hT 1 rfl (.load rfl rfl (Ld.slc hT rfl hz rfl) rfl ?_))))))
      refine OT.pures hT 2 rfl (.nil (.seq (.block (.loop (ι := Nat) (fun j => (j) ≤ n.keys.length ∧ (∀ c ∈ n.keys.take (j), mayKey c = true) ∧ rising ((n.keys.take (j)).map id)) (fun j => n.keys.length - (j)) (fun j => [(1, .pointer (some ⟨b_1, 0, none⟩)), (55, .slice ak n.keys.length ck), (56, .int .i64 (n.keys.length : Nat)), (57, .int .i64 ((j) : Nat))]) (fun j => [(b_1, blk [.bool n.leaf, .slice ac n.cells.length cc, .slice ak n.keys.length ck, .slice ai n.kids.length ci] 159 (0, 0))] :: hs) (0) ?_ (SubR.cons rfl (SubR.cons rfl (SubR.cons rfl (SubR.cons rfl (SubR.nil _))))) sl ?_))))
      · exact ⟨by omega, by simp, by simp [rising]⟩
      rintro i ⟨hin, hmk, hrk⟩
      show TT _ _ _ [(1, .pointer (some ⟨b_1, 0, none⟩)), (55, .slice ak n.keys.length ck), (56, .int .i64 (n.keys.length : Nat)), (57, .int .i64 (i : Nat))] ([(b_1, blk [.bool n.leaf, .slice ac n.cells.length cc, .slice ak n.keys.length ck, .slice ai n.kids.length ci] 159 (0, 0))] :: hs)
      refine TT.seq (.region (.pures hT 1 rfl (.nil (.seq (.seq (.cond rfl (fun c58 => ?_) (fun c58 => ?_)))))))
      ·
        have c58 := of_decide_eq_true c58
        obtain ⟨x, hx⟩ := nth (l := n.keys) (i := i) (by omega)
        refine TT.skip (.seq (.seq (.block (.seq (.region (.pures hT 1 rfl (.index hT rfl rfl rfl rfl hk.there (by omega) (by rw [Int.toNat_natCast]; exact hx) rfl (fun ad_60 hel_60 => ?_))))))))
        refine OT.load rfl rfl (hel_60.ld_one hT rfl rfl) rfl (.pures hT 2 rfl (.nil (.seq (.seq (.region (.pures hT 1 rfl (.call Tryz.call51 rfl rfl rfl rfl (ky_May) ?_)))))))
        rintro v_63 hs_63 ⟨rfl, rfl⟩
        refine OT.pures hT 2 rfl (.split 65 rfl (fun g65 => ?_) (fun g65 => ?_))
        ·
          have hm0 : mayKey x = false := by simpa using g65
          refine OT.pures hT 13 rfl (.nil (.seq (.cond_true rfl (.seq (.region (.pures hT 1 rfl (.nil (.seq (.ret (.of (rs := [.tmp 2]) [_] hs rfl (.tmp rfl .nil) sl ?_))))))))))
          try dsimp only [one]
          refine ⟨congrArg Value.bool (decide_eq_false fun hm => ?_).symm, rfl⟩
          have := (may_key hm c43 hx).1; rw [hm0] at this; cases this
        ·
          have hm1 : mayKey x = true := by simpa using g65
          refine OT.pures hT 3 rfl (.split 68 rfl (fun g68 => ?_) (fun g68 => ?_))
          ·
            have hi0 : 0 < i := by have := of_decide_eq_true g68; omega
            obtain ⟨p, hp⟩ := nth (l := n.keys) (i := i - 1) (by omega)
            refine OT.pures hT 1 rfl (.load rfl rfl (Ld.slc hT rfl hz rfl) rfl ?_)
            refine OT.pures hT 2 rfl (.reg 72 rfl (v := .int .i64 ((i - 1 : Nat) : Int)) (int_eq (by rw [wrap_i64 (by omega) (by omega)]; omega)) (.index hT rfl rfl rfl rfl hk.there (by omega) (by rw [Int.toNat_natCast]; exact hp) rfl (fun ad_73 hel_73 => ?_)))
            refine OT.load rfl rfl (hel_73.ld_one hT rfl rfl) rfl (.pures hT 4 rfl (.nil (.seq (.cond rfl (fun c78 => ?_) (fun c78 => ?_)))))
            ·
              refine TT.seq (.region (.pures hT 1 rfl (.nil (.seq (.ret (.of (rs := [.tmp 2]) [_] hs rfl (.tmp rfl .nil) sl ?_))))))
              try dsimp only [one]
              refine ⟨congrArg Value.bool (decide_eq_false fun hm => ?_).symm, rfl⟩
              have h9 := (may_key hm c43 hx).2 hi0 p hp
              have c78 : (!kLt p x) = true := c78
              rw [h9] at c78; cases c78
            ·
              refine TT.skip (.blk (.seq (.region (.pures hT 2 rfl (.nil (.loop (i + 1) ?_ ?_ (SubR.cons rfl (SubR.cons rfl (SubR.cons rfl (SubR.cons' rfl (by (try dsimp only); exact (int_eq (by rw [wrap_i64 (by omega) (by omega)]; omega))) (SubR.nil _))))) sl))))))
              · refine ⟨by omega, ?_, (rising_take hx).2 ⟨hrk, fun _ q hq => ?_⟩⟩
                · rw [take_succ hx]
                  intro c hcm
                  rcases List.mem_append.1 hcm with hcm | hcm
                  · exact hmk c hcm
                  · rw [List.mem_singleton] at hcm; subst hcm; exact hm1
                · rw [hp] at hq; cases hq
                  have c78 : (!kLt p x) = false := c78
                  simpa using c78
              · omega
          ·
            have hi0 : i = 0 := by have := of_decide_eq_false g68; omega
            refine OT.pures hT 10 rfl (.nil (.seq (.cond_false rfl (.skip (.blk (.seq (.region (.pures hT 2 rfl (.nil (.loop (i + 1) ?_ ?_ (SubR.cons rfl (SubR.cons rfl (SubR.cons rfl (SubR.cons' rfl (by (try dsimp only); exact (int_eq (by rw [wrap_i64 (by omega) (by omega)]; omega))) (SubR.nil _))))) sl))))))))))
            · refine ⟨by omega, ?_, (rising_take hx).2 ⟨hrk, fun h0 => by omega⟩⟩
              rw [take_succ hx]
              intro c hcm
              rcases List.mem_append.1 hcm with hcm | hcm
              · exact hmk c hcm
              · rw [List.mem_singleton] at hcm; subst hcm; exact hm1
            · omega
      ·
        have c58 := of_decide_eq_false c58
        obtain rfl : i = n.keys.length := by omega
        rw [List.take_length] at hmk hrk
        rw [List.map_id] at hrk
        refine TT.exit (.seq (.loop (.here (.seq (.seq (.seq (.region (.pures hT 1 rfl (.load rfl rfl (Ld.slc hT rfl hz rfl) rfl ?_)))))))))
        refine OT.pures hT 2 rfl (.nil (.seq (.block (.loop (ι := Nat) (fun j => (j) ≤ n.kids.length ∧ ∀ c ∈ n.kids.take (j), 2 ≤ c ∧ c < 32) (fun j => n.kids.length - (j)) (fun j => [(1, .pointer (some ⟨b_1, 0, none⟩)), (81, .slice ai n.kids.length ci), (82, .int .i64 (n.kids.length : Nat)), (83, .int .i64 ((j) : Nat))]) (fun j => [(b_1, blk [.bool n.leaf, .slice ac n.cells.length cc, .slice ak n.keys.length ck, .slice ai n.kids.length ci] 159 (0, 0))] :: hs) (0) ?_ (SubR.cons rfl (SubR.cons rfl (SubR.cons rfl (SubR.cons rfl (SubR.nil _))))) sl ?_))))
        · exact ⟨by omega, by simp⟩
        rintro i ⟨hin, hmi⟩
        show TT _ _ _ [(1, .pointer (some ⟨b_1, 0, none⟩)), (81, .slice ai n.kids.length ci), (82, .int .i64 (n.kids.length : Nat)), (83, .int .i64 (i : Nat))] ([(b_1, blk [.bool n.leaf, .slice ac n.cells.length cc, .slice ak n.keys.length ck, .slice ai n.kids.length ci] 159 (0, 0))] :: hs)
        refine TT.seq (.region (.pures hT 1 rfl (.nil (.seq (.seq (.cond rfl (fun c84 => ?_) (fun c84 => ?_)))))))
        ·
          have c84 := of_decide_eq_true c84
          obtain ⟨x, hx⟩ := nth (l := n.kids) (i := i) (by omega)
          refine TT.skip (.seq (.seq (.block (.seq (.region (.index hT rfl rfl rfl rfl hi.there (by omega) (by rw [Int.toNat_natCast]; exact hx) rfl (fun ad_85 hel_85 => ?_)))))))
          refine OT.load rfl rfl (hel_85.ld_one hT rfl rfl) rfl (.pures hT 1 rfl (.nil (.seq (.seq (.region (.pures hT 3 rfl (.split 89 rfl (fun g89 => ?_) (fun g89 => ?_))))))))
          ·
            have hx2 : x < 2 := of_decide_eq_true g89
            refine OT.pures hT 3 rfl (.nil (.seq (.cond_true rfl (.seq (.region (.pures hT 1 rfl (.nil (.seq (.ret (.of (rs := [.tmp 2]) [_] hs rfl (.tmp rfl .nil) sl ?_))))))))))
            try dsimp only [one]
            refine ⟨congrArg Value.bool (decide_eq_false fun hm => ?_).symm, rfl⟩
            have := ((may_ways c43).1 hm).2.2.2.1 x (List.mem_of_getElem? hx); omega
          ·
            have hx2 : ¬ x < 2 := of_decide_eq_false g89
            refine OT.pures hT 3 rfl (.nil (.seq (.cond rfl (fun c92 => ?_) (fun c92 => ?_))))
            ·
              have hx3 : x ≥ 32 := of_decide_eq_true c92
              refine TT.seq (.region (.pures hT 1 rfl (.nil (.seq (.ret (.of (rs := [.tmp 2]) [_] hs rfl (.tmp rfl .nil) sl ?_))))))
              try dsimp only [one]
              refine ⟨congrArg Value.bool (decide_eq_false fun hm => ?_).symm, rfl⟩
              have := ((may_ways c43).1 hm).2.2.2.1 x (List.mem_of_getElem? hx); omega
            ·
              have hx3 : ¬ x ≥ 32 := of_decide_eq_false c92
              refine TT.skip (.blk (.seq (.region (.pures hT 2 rfl (.nil (.loop (i + 1) ?_ ?_ (SubR.cons rfl (SubR.cons rfl (SubR.cons rfl (SubR.cons' rfl (by (try dsimp only); exact (int_eq (by rw [wrap_i64 (by omega) (by omega)]; omega))) (SubR.nil _))))) sl))))))
              · refine ⟨by omega, ?_⟩
                rw [take_succ hx]
                intro c hcm
                rcases List.mem_append.1 hcm with hcm | hcm
                · exact hmi c hcm
                · rw [List.mem_singleton] at hcm; subst hcm; omega
              · omega
        ·
          have c84 := of_decide_eq_false c84
          obtain rfl : i = n.kids.length := by omega
          rw [List.take_length] at hmi
          refine TT.exit (.seq (.loop (.here (.seq (.seq (.region (.pures hT 1 rfl (.load rfl rfl (Ld.slc hT rfl hz rfl) rfl ?_))))))))
          refine OT.pures hT 3 rfl (.split 98 rfl (fun g98 => ?_) (fun g98 => ?_))
          ·
            have hk1 : (n.kids.length : Int) ≥ 1 := of_decide_eq_true g98
            refine OT.pures hT 1 rfl (.load rfl rfl (Ld.slc hT rfl hz rfl) rfl ?_)
            refine OT.pures hT 4 rfl (.split 104 rfl (fun g104 => ?_) (fun g104 => ?_))
            ·
              have hk2 : (n.kids.length : Int) ≤ 32 := of_decide_eq_true g104
              refine OT.pures hT 1 rfl (.load rfl rfl (Ld.slc hT rfl hz rfl) rfl ?_)
              refine OT.pures hT 2 rfl (.load rfl rfl (Ld.slc hT rfl hz rfl) rfl ?_)
              refine OT.pures hT 5 rfl (.nil (.seq (.ret (.of (rs := [.tmp 2]) [_] hs rfl (.tmp rfl .nil) sl ?_))))
              try dsimp only [one]
              refine ⟨congrArg Value.bool ?_, rfl⟩
              rw [wrap_i64 (by omega) (by omega), Bool.eq_iff_iff, beq_iff_eq, decide_eq_true_eq, may_ways c43]
              constructor
              · intro h; exact ⟨hce, hmk, hrk, hmi, by omega, by omega, by omega⟩
              · intro h; omega
            ·
              have hk2 : ¬ (n.kids.length : Int) ≤ 32 := of_decide_eq_false g104
              refine OT.pures hT 10 rfl (.nil (.seq (.ret (.of (rs := [.tmp 2]) [_] hs rfl (.tmp rfl .nil) sl ?_))))
              try dsimp only [one]
              refine ⟨congrArg Value.bool (decide_eq_false fun hm => ?_).symm, rfl⟩
              have := ((may_ways c43).1 hm).2.2.2.2.2.1; omega
          ·
            have hk1 : ¬ (n.kids.length : Int) ≥ 1 := of_decide_eq_false g98
            refine OT.pures hT 16 rfl (.nil (.seq (.ret (.of (rs := [.tmp 2]) [_] hs rfl (.tmp rfl .nil) sl ?_))))
            try dsimp only [one]
            refine ⟨congrArg Value.bool (decide_eq_false fun hm => ?_).symm, rfl⟩
            have := ((may_ways c43).1 hm).2.2.2.2.1; omega

end Go.Proofs.YtihpkgmfkbkffaaGreat.Sx
end
