/- Several texts in one. What the small logic wants to know of this program's types: printed by a program of ours off the loaded program; Lean checks each. Of the seat: how its memory is laid. What is read of arguments that hold slices. The device: what each of its functions does. Printed by a program of ours off the loaded program and our notes; Lean checks it. The device, what it is told; pages. Printed by a program of ours off the loaded program and our notes; Lean checks it. A device behind a crash; pages. Printed by a program of ours off the loaded program and our notes; Lean checks it. Pages of four sectors: read, written; a page of some bytes. Printed by a program of ours off the loaded program and our notes; Lean checks it. Sums; a text on two sectors. Printed by a program of ours off the loaded program and our notes; Lean checks it. A text on two sectors: written, saved, told. Printed by a program of ours off the loaded program and our notes; Lean checks it. A text on two sectors: made, opened. Printed by a program of ours off the loaded program and our notes; Lean checks it. Numbers and texts as bytes: what the program's num does, and the document's. Printed by a program of ours off the loaded program and our notes; Lean checks it. The log: made, read, put, appended. Printed by a program of ours off the loaded program and our notes; Lean checks it. -/
import Derived.Test.YtoalhcodigpgkaaGreatDoorMA
import Derived.Test.YtoalhcodigpgkaaGreatDoorChecked
import Derived.Test.YtoalhcodigpgkaaGreatDoorME
import Derived.Test.YtoalhcodigpgkaaGreatDoorMC
import Derived.Test.YtoalhcodigpgkaaGreatDoorMB

section
namespace Go.Proofs.YtoalhcodigpgkaaGreatDoor.Sx
open Go Go.Sx

def tab : Tab := [
  (1, .one (.func #[] #[] false)),
  (2, .one (.int .i64)),
  (3, .one (.int .i64)),
  (4, .one .bool),
  (5, .one (.int .u8)),
  (6, .one (.int .u8)),
  (7, .struct [(0, 1), (1, 1), (2, 1), (3, 1)] 4),
  (8, .struct [(0, 1), (1, 1), (2, 1), (3, 1)] 4),
  (9, .one .string),
  (10, .one .string),
  (11, .one .string),
  (12, .one (.int .u64)),
  (13, .struct [(0, 1), (1, 1)] 2),
  (14, .struct [(0, 1), (1, 1)] 2),
  (15, .one (.pointer 182)),
  (16, .one (.pointer 185)),
  (17, .one (.pointer 192)),
  (18, .struct [(0, 1)] 1),
  (19, .struct [(0, 1)] 1),
  (20, .one (.interface #[])),
  (21, .one (.int .i32)),
  (22, .slice 3 1),
  (23, .slice 4 1),
  (24, .one (.func #[] #[4] false)),
  (25, .one (.pointer 66)),
  (26, .one (.int .i64)),
  (28, .one (.func #[29] #[25, 26] false)),
  (29, .one (.pointer 69)),
  (30, .one (.func #[3] #[29] false)),
  (31, .arr 96 5 1),
  (32, .one (.func #[37] #[26] false)),
  (33, .slice 5 1),
  (34, .one (.func #[33] #[33] false)),
  (35, .struct [(0, 1), (1, 1)] 2),
  (36, .struct [(0, 1), (1, 1)] 2),
  (37, .slice 36 2),
  (38, .one (.func #[3] #[26] false)),
  (39, .one (.func #[] #[26] false)),
  (40, .one (.func #[] #[22] false)),
  (42, .one (.func #[3] #[33, 26] false)),
  (43, .one (.func #[22, 22, 23] #[4] false)),
  (44, .slice 50 4),
  (45, .arr 96 9 1),
  (46, .arr 96 9 1),
  (47, .slice 46 96),
  (48, .slice 78 3),
  (49, .struct [(0, 1), (1, 1), (2, 1), (3, 1)] 4),
  (50, .struct [(0, 1), (1, 1), (2, 1), (3, 1)] 4),
  (51, .one (.func #[48, 3] #[37] false)),
  (52, .one (.func #[37] #[4] false)),
  (53, .one (.func #[37] #[46] false)),
  (54, .one (.func #[3] #[] false)),
  (55, .one (.func #[23] #[29] true)),
  (56, .one (.func #[25] #[4] false)),
  (57, .one (.func #[44] #[4] false)),
  (58, .one (.func #[] #[3] false)),
  (59, .one (.func #[29, 3, 33] #[26] false)),
  (60, .one (.pointer 97)),
  (62, .one (.func #[29] #[60, 26] false)),
  (63, .one (.pointer 100)),
  (64, .one (.func #[29, 60] #[63] false)),
  (65, .struct [(0, 1), (1, 1), (2, 1)] 3),
  (66, .struct [(0, 1), (1, 1), (2, 1)] 3),
  (67, .slice 83 129),
  (68, .struct [(0, 1), (1, 1), (2, 1), (3, 1), (4, 1)] 5),
  (69, .struct [(0, 1), (1, 1), (2, 1), (3, 1), (4, 1)] 5),
  (70, .one (.func #[37] #[33] false)),
  (71, .one (.func #[3] #[4] false)),
  (73, .one (.func #[33] #[2, 26] false)),
  (74, .one (.func #[26] #[26] false)),
  (75, .one (.func #[3, 33, 2] #[26] false)),
  (76, .one (.func #[33, 3] #[33] false)),
  (77, .struct [(0, 1), (1, 1), (2, 1)] 3),
  (78, .struct [(0, 1), (1, 1), (2, 1)] 3),
  (79, .one (.func #[2] #[26] false)),
  (80, .one (.func #[] #[2] false)),
  (81, .arr 64 5 1),
  (82, .struct [(0, 64), (64, 64), (128, 1)] 129),
  (83, .struct [(0, 64), (64, 64), (128, 1)] 129),
  (84, .slice 33 1),
  (86, .one (.func #[29] #[60, 84, 26] false)),
  (88, .one (.func #[33] #[37, 26] false)),
  (89, .one (.func #[3, 33] #[26] false)),
  (90, .one (.pointer 125)),
  (92, .one (.func #[29, 3, 33] #[90, 26] false)),
  (93, .one (.func #[2, 2] #[33] false)),
  (94, .arr 65536 5 1),
  (95, .slice 2 1),
  (96, .struct [(0, 1), (1, 1), (2, 65536), (65538, 1), (65539, 1), (65540, 1), (65541, 1), (65542, 1)] 65543),
  (97, .struct [(0, 1), (1, 1), (2, 65536), (65538, 1), (65539, 1), (65540, 1), (65541, 1), (65542, 1)] 65543),
  (98, .slice 106 1),
  (99, .struct [(0, 1), (1, 1), (2, 1)] 3),
  (100, .struct [(0, 1), (1, 1), (2, 1)] 3),
  (101, .one (.func #[33, 2] #[33] false)),
  (102, .one (.func #[33, 9] #[33] false)),
  (103, .one (.func #[9, 9] #[9] false)),
  (104, .one (.func #[33] #[] false)),
  (105, .one (.int .u64)),
  (106, .one (.pointer 109)),
  (107, .one (.func #[3] #[106] false)),
  (108, .struct [(0, 1), (1, 1), (2, 1), (3, 1)] 4),
  (109, .struct [(0, 1), (1, 1), (2, 1), (3, 1)] 4),
  (110, .one (.func #[98, 111] #[3] false)),
  (111, .one (.func #[106] #[4] false)),
  (112, .one (.func #[98] #[26] true)),
  (113, .one (.func #[33] #[26] false)),
  (114, .one (.func #[22] #[] false)),
  (115, .one (.func #[29, 3] #[33, 26] false)),
  (116, .one (.func #[29, 3] #[90, 26] false)),
  (118, .one (.func #[33] #[2, 3, 26] false)),
  (119, .one (.func #[] #[33] false)),
  (120, .one (.func #[33, 33] #[4] false)),
  (122, .one (.func #[33] #[36, 3] false)),
  (123, .one (.func #[29, 3] #[4] false)),
  (124, .struct [(0, 1), (1, 1), (2, 1), (3, 1), (4, 1)] 5),
  (125, .struct [(0, 1), (1, 1), (2, 1), (3, 1), (4, 1)] 5),
  (126, .one (.func #[3, 2, 33] #[26] false)),
  (127, .one (.int .u64)),
  (128, .one (.func #[9, 5] #[9] false)),
  (129, .arr 256 4 1),
  (130, .arr 256 4 1),
  (132, .one (.func #[9] #[130, 4] false)),
  (133, .one (.func #[9, 134] #[9] false)),
  (134, .one (.pointer 130)),
  (135, .one (.pointer 5)),
  (136, .one (.func #[2] #[135] false)),
  (137, .one (.func #[98, 3, 3] #[98] false)),
  (138, .one (.func #[22, 3, 3, 3] #[] false)),
  (139, .one (.func #[105] #[3] false)),
  (140, .one (.func #[33] #[127] false)),
  (141, .one (.int .u32)),
  (142, .one (.func #[33] #[141] false)),
  (144, .one (.func #[33] #[9, 3, 26] false)),
  (145, .one (.func #[33, 127] #[] false)),
  (146, .one (.func #[5] #[4] false)),
  (148, .one (.func #[9] #[21, 3] false)),
  (149, .one (.func #[9, 21] #[4] false)),
  (150, .one (.func #[22, 3, 3] #[] false)),
  (151, .one (.int .i64)),
  (153, .one (.func #[22, 3, 3] #[3, 151] false)),
  (154, .one (.func #[22, 3, 3] #[4] false)),
  (155, .one (.func #[3, 3] #[4] false)),
  (156, .one (.func #[22, 3, 3, 3] #[3] false)),
  (158, .one (.func #[22, 3, 3, 3] #[3, 4] false)),
  (159, .one (.func #[141] #[3] false)),
  (160, .one (.func #[127] #[3] false)),
  (161, .one (.func #[141, 33] #[141] false)),
  (162, .one (.func #[9, 21] #[3] false)),
  (163, .one (.int .u64)),
  (164, .one (.func #[3] #[105] false)),
  (165, .one (.func #[] #[127] false)),
  (166, .one (.func #[22, 3, 167] #[3] false)),
  (167, .one (.pointer 3)),
  (168, .one (.func #[22, 3, 3, 3, 167] #[3] false)),
  (169, .one (.func #[9, 5] #[3] false)),
  (170, .one (.func #[21] #[4] false)),
  (171, .one (.func #[3] #[3] false)),
  (172, .one (.func #[9, 9] #[3] false)),
  (173, .one (.pointer 163)),
  (175, .one (.func #[22, 3, 3, 167] #[3, 3] false)),
  (176, .arr 256 5 1),
  (177, .struct [(0, 1), (1, 1)] 2),
  (178, .struct [(0, 1), (1, 1)] 2),
  (179, .arr 16 178 2),
  (180, .one (.func #[] #[9] false)),
  (181, .struct [(0, 1), (1, 1), (2, 1), (3, 1)] 4),
  (182, .struct [(0, 1), (1, 1), (2, 1), (3, 1)] 4),
  (183, .arr 0 16 1),
  (186, .one (.int .u8)),
  (187, .one (.int .u8)),
  (188, .one (.func #[193, 193] #[4] false)),
  (189, .one (.int .i32)),
  (190, .one (.int .i32)),
  (191, .struct [(0, 1), (1, 1), (2, 1), (3, 1), (4, 1), (5, 1), (6, 1), (7, 1), (8, 1), (9, 1), (10, 1)] 11),
  (192, .struct [(0, 1), (1, 1), (2, 1), (3, 1), (4, 1), (5, 1), (6, 1), (7, 1), (8, 1), (9, 1), (10, 1)] 11),
  (193, .one .unsafePointer)]
theorem hT : tab.ok Tryz.prog :=
  Tab.ok.cons (d := _) (T := _) ⟨Tryz.underlying1, Tryz.isAgg1, Tryz.sizeOf1⟩ <|
  Tab.ok.cons (d := _) (T := _) ⟨Tryz.underlying2, Tryz.isAgg2, Tryz.sizeOf2⟩ <|
  Tab.ok.cons (d := _) (T := _) ⟨Tryz.underlying3, Tryz.isAgg3, Tryz.sizeOf3⟩ <|
  Tab.ok.cons (d := _) (T := _) ⟨Tryz.underlying4, Tryz.isAgg4, Tryz.sizeOf4⟩ <|
  Tab.ok.cons (d := _) (T := _) ⟨Tryz.underlying5, Tryz.isAgg5, Tryz.sizeOf5⟩ <|
  Tab.ok.cons (d := _) (T := _) ⟨Tryz.underlying6, Tryz.isAgg6, Tryz.sizeOf6⟩ <|
  Tab.ok.cons (d := _) (T := _) ⟨⟨_, Tryz.underlying7, (.cons rfl Tryz.sizeOf2 (.cons rfl Tryz.sizeOf3 (.cons rfl Tryz.sizeOf4 (.cons rfl Tryz.sizeOf6 .nil))))⟩, Tryz.isAgg7, Tryz.sizeOf7⟩ <|
  Tab.ok.cons (d := _) (T := _) ⟨⟨_, Tryz.underlying8, (.cons rfl Tryz.sizeOf2 (.cons rfl Tryz.sizeOf3 (.cons rfl Tryz.sizeOf4 (.cons rfl Tryz.sizeOf6 .nil))))⟩, Tryz.isAgg8, Tryz.sizeOf8⟩ <|
  Tab.ok.cons (d := _) (T := _) ⟨Tryz.underlying9, Tryz.isAgg9, Tryz.sizeOf9⟩ <|
  Tab.ok.cons (d := _) (T := _) ⟨Tryz.underlying10, Tryz.isAgg10, Tryz.sizeOf10⟩ <|
  Tab.ok.cons (d := _) (T := _) ⟨Tryz.underlying11, Tryz.isAgg11, Tryz.sizeOf11⟩ <|
  Tab.ok.cons (d := _) (T := _) ⟨Tryz.underlying12, Tryz.isAgg12, Tryz.sizeOf12⟩ <|
  Tab.ok.cons (d := _) (T := _) ⟨⟨_, Tryz.underlying13, (.cons rfl Tryz.sizeOf9 (.cons rfl Tryz.sizeOf12 .nil))⟩, Tryz.isAgg13, Tryz.sizeOf13⟩ <|
  Tab.ok.cons (d := _) (T := _) ⟨⟨_, Tryz.underlying14, (.cons rfl Tryz.sizeOf9 (.cons rfl Tryz.sizeOf12 .nil))⟩, Tryz.isAgg14, Tryz.sizeOf14⟩ <|
  Tab.ok.cons (d := _) (T := _) ⟨Tryz.underlying15, Tryz.isAgg15, Tryz.sizeOf15⟩ <|
  Tab.ok.cons (d := _) (T := _) ⟨Tryz.underlying16, Tryz.isAgg16, Tryz.sizeOf16⟩ <|
  Tab.ok.cons (d := _) (T := _) ⟨Tryz.underlying17, Tryz.isAgg17, Tryz.sizeOf17⟩ <|
  Tab.ok.cons (d := _) (T := _) ⟨⟨_, Tryz.underlying18, (.cons rfl Tryz.sizeOf17 .nil)⟩, Tryz.isAgg18, Tryz.sizeOf18⟩ <|
  Tab.ok.cons (d := _) (T := _) ⟨⟨_, Tryz.underlying19, (.cons rfl Tryz.sizeOf17 .nil)⟩, Tryz.isAgg19, Tryz.sizeOf19⟩ <|
  Tab.ok.cons (d := _) (T := _) ⟨Tryz.underlying20, Tryz.isAgg20, Tryz.sizeOf20⟩ <|
  Tab.ok.cons (d := _) (T := _) ⟨Tryz.underlying21, Tryz.isAgg21, Tryz.sizeOf21⟩ <|
  Tab.ok.cons (d := _) (T := _) ⟨Tryz.underlying22, Tryz.sizeOf3, Tryz.isAgg22, Tryz.sizeOf22⟩ <|
  Tab.ok.cons (d := _) (T := _) ⟨Tryz.underlying23, Tryz.sizeOf4, Tryz.isAgg23, Tryz.sizeOf23⟩ <|
  Tab.ok.cons (d := _) (T := _) ⟨Tryz.underlying24, Tryz.isAgg24, Tryz.sizeOf24⟩ <|
  Tab.ok.cons (d := _) (T := _) ⟨Tryz.underlying25, Tryz.isAgg25, Tryz.sizeOf25⟩ <|
  Tab.ok.cons (d := _) (T := _) ⟨Tryz.underlying26, Tryz.isAgg26, Tryz.sizeOf26⟩ <|
  Tab.ok.cons (d := _) (T := _) ⟨Tryz.underlying28, Tryz.isAgg28, Tryz.sizeOf28⟩ <|
  Tab.ok.cons (d := _) (T := _) ⟨Tryz.underlying29, Tryz.isAgg29, Tryz.sizeOf29⟩ <|
  Tab.ok.cons (d := _) (T := _) ⟨Tryz.underlying30, Tryz.isAgg30, Tryz.sizeOf30⟩ <|
  Tab.ok.cons (d := _) (T := _) ⟨Tryz.underlying31, Tryz.sizeOf5, Tryz.isAgg31, Tryz.sizeOf31⟩ <|
  Tab.ok.cons (d := _) (T := _) ⟨Tryz.underlying32, Tryz.isAgg32, Tryz.sizeOf32⟩ <|
  Tab.ok.cons (d := _) (T := _) ⟨Tryz.underlying33, Tryz.sizeOf5, Tryz.isAgg33, Tryz.sizeOf33⟩ <|
  Tab.ok.cons (d := _) (T := _) ⟨Tryz.underlying34, Tryz.isAgg34, Tryz.sizeOf34⟩ <|
  Tab.ok.cons (d := _) (T := _) ⟨⟨_, Tryz.underlying35, (.cons rfl Tryz.sizeOf3 (.cons rfl Tryz.sizeOf33 .nil))⟩, Tryz.isAgg35, Tryz.sizeOf35⟩ <|
  Tab.ok.cons (d := _) (T := _) ⟨⟨_, Tryz.underlying36, (.cons rfl Tryz.sizeOf3 (.cons rfl Tryz.sizeOf33 .nil))⟩, Tryz.isAgg36, Tryz.sizeOf36⟩ <|
  Tab.ok.cons (d := _) (T := _) ⟨Tryz.underlying37, Tryz.sizeOf36, Tryz.isAgg37, Tryz.sizeOf37⟩ <|
  Tab.ok.cons (d := _) (T := _) ⟨Tryz.underlying38, Tryz.isAgg38, Tryz.sizeOf38⟩ <|
  Tab.ok.cons (d := _) (T := _) ⟨Tryz.underlying39, Tryz.isAgg39, Tryz.sizeOf39⟩ <|
  Tab.ok.cons (d := _) (T := _) ⟨Tryz.underlying40, Tryz.isAgg40, Tryz.sizeOf40⟩ <|
  Tab.ok.cons (d := _) (T := _) ⟨Tryz.underlying42, Tryz.isAgg42, Tryz.sizeOf42⟩ <|
  Tab.ok.cons (d := _) (T := _) ⟨Tryz.underlying43, Tryz.isAgg43, Tryz.sizeOf43⟩ <|
  Tab.ok.cons (d := _) (T := _) ⟨Tryz.underlying44, Tryz.sizeOf50, Tryz.isAgg44, Tryz.sizeOf44⟩ <|
  Tab.ok.cons (d := _) (T := _) ⟨Tryz.underlying45, Tryz.sizeOf9, Tryz.isAgg45, Tryz.sizeOf45⟩ <|
  Tab.ok.cons (d := _) (T := _) ⟨Tryz.underlying46, Tryz.sizeOf9, Tryz.isAgg46, Tryz.sizeOf46⟩ <|
  Tab.ok.cons (d := _) (T := _) ⟨Tryz.underlying47, Tryz.sizeOf46, Tryz.isAgg47, Tryz.sizeOf47⟩ <|
  Tab.ok.cons (d := _) (T := _) ⟨Tryz.underlying48, Tryz.sizeOf78, Tryz.isAgg48, Tryz.sizeOf48⟩ <|
  Tab.ok.cons (d := _) (T := _) ⟨⟨_, Tryz.underlying49, (.cons rfl Tryz.sizeOf3 (.cons rfl Tryz.sizeOf3 (.cons rfl Tryz.sizeOf48 (.cons rfl Tryz.sizeOf23 .nil))))⟩, Tryz.isAgg49, Tryz.sizeOf49⟩ <|
  Tab.ok.cons (d := _) (T := _) ⟨⟨_, Tryz.underlying50, (.cons rfl Tryz.sizeOf3 (.cons rfl Tryz.sizeOf3 (.cons rfl Tryz.sizeOf48 (.cons rfl Tryz.sizeOf23 .nil))))⟩, Tryz.isAgg50, Tryz.sizeOf50⟩ <|
  Tab.ok.cons (d := _) (T := _) ⟨Tryz.underlying51, Tryz.isAgg51, Tryz.sizeOf51⟩ <|
  Tab.ok.cons (d := _) (T := _) ⟨Tryz.underlying52, Tryz.isAgg52, Tryz.sizeOf52⟩ <|
  Tab.ok.cons (d := _) (T := _) ⟨Tryz.underlying53, Tryz.isAgg53, Tryz.sizeOf53⟩ <|
  Tab.ok.cons (d := _) (T := _) ⟨Tryz.underlying54, Tryz.isAgg54, Tryz.sizeOf54⟩ <|
  Tab.ok.cons (d := _) (T := _) ⟨Tryz.underlying55, Tryz.isAgg55, Tryz.sizeOf55⟩ <|
  Tab.ok.cons (d := _) (T := _) ⟨Tryz.underlying56, Tryz.isAgg56, Tryz.sizeOf56⟩ <|
  Tab.ok.cons (d := _) (T := _) ⟨Tryz.underlying57, Tryz.isAgg57, Tryz.sizeOf57⟩ <|
  Tab.ok.cons (d := _) (T := _) ⟨Tryz.underlying58, Tryz.isAgg58, Tryz.sizeOf58⟩ <|
  Tab.ok.cons (d := _) (T := _) ⟨Tryz.underlying59, Tryz.isAgg59, Tryz.sizeOf59⟩ <|
  Tab.ok.cons (d := _) (T := _) ⟨Tryz.underlying60, Tryz.isAgg60, Tryz.sizeOf60⟩ <|
  Tab.ok.cons (d := _) (T := _) ⟨Tryz.underlying62, Tryz.isAgg62, Tryz.sizeOf62⟩ <|
  Tab.ok.cons (d := _) (T := _) ⟨Tryz.underlying63, Tryz.isAgg63, Tryz.sizeOf63⟩ <|
  Tab.ok.cons (d := _) (T := _) ⟨Tryz.underlying64, Tryz.isAgg64, Tryz.sizeOf64⟩ <|
  Tab.ok.cons (d := _) (T := _) ⟨⟨_, Tryz.underlying65, (.cons rfl Tryz.sizeOf60 (.cons rfl Tryz.sizeOf63 (.cons rfl Tryz.sizeOf4 .nil)))⟩, Tryz.isAgg65, Tryz.sizeOf65⟩ <|
  Tab.ok.cons (d := _) (T := _) ⟨⟨_, Tryz.underlying66, (.cons rfl Tryz.sizeOf60 (.cons rfl Tryz.sizeOf63 (.cons rfl Tryz.sizeOf4 .nil)))⟩, Tryz.isAgg66, Tryz.sizeOf66⟩ <|
  Tab.ok.cons (d := _) (T := _) ⟨Tryz.underlying67, Tryz.sizeOf83, Tryz.isAgg67, Tryz.sizeOf67⟩ <|
  Tab.ok.cons (d := _) (T := _) ⟨⟨_, Tryz.underlying68, (.cons rfl Tryz.sizeOf67 (.cons rfl Tryz.sizeOf3 (.cons rfl Tryz.sizeOf4 (.cons rfl Tryz.sizeOf3 (.cons rfl Tryz.sizeOf4 .nil)))))⟩, Tryz.isAgg68, Tryz.sizeOf68⟩ <|
  Tab.ok.cons (d := _) (T := _) ⟨⟨_, Tryz.underlying69, (.cons rfl Tryz.sizeOf67 (.cons rfl Tryz.sizeOf3 (.cons rfl Tryz.sizeOf4 (.cons rfl Tryz.sizeOf3 (.cons rfl Tryz.sizeOf4 .nil)))))⟩, Tryz.isAgg69, Tryz.sizeOf69⟩ <|
  Tab.ok.cons (d := _) (T := _) ⟨Tryz.underlying70, Tryz.isAgg70, Tryz.sizeOf70⟩ <|
  Tab.ok.cons (d := _) (T := _) ⟨Tryz.underlying71, Tryz.isAgg71, Tryz.sizeOf71⟩ <|
  Tab.ok.cons (d := _) (T := _) ⟨Tryz.underlying73, Tryz.isAgg73, Tryz.sizeOf73⟩ <|
  Tab.ok.cons (d := _) (T := _) ⟨Tryz.underlying74, Tryz.isAgg74, Tryz.sizeOf74⟩ <|
  Tab.ok.cons (d := _) (T := _) ⟨Tryz.underlying75, Tryz.isAgg75, Tryz.sizeOf75⟩ <|
  Tab.ok.cons (d := _) (T := _) ⟨Tryz.underlying76, Tryz.isAgg76, Tryz.sizeOf76⟩ <|
  Tab.ok.cons (d := _) (T := _) ⟨⟨_, Tryz.underlying77, (.cons rfl Tryz.sizeOf3 (.cons rfl Tryz.sizeOf33 (.cons rfl Tryz.sizeOf4 .nil)))⟩, Tryz.isAgg77, Tryz.sizeOf77⟩ <|
  Tab.ok.cons (d := _) (T := _) ⟨⟨_, Tryz.underlying78, (.cons rfl Tryz.sizeOf3 (.cons rfl Tryz.sizeOf33 (.cons rfl Tryz.sizeOf4 .nil)))⟩, Tryz.isAgg78, Tryz.sizeOf78⟩ <|
  Tab.ok.cons (d := _) (T := _) ⟨Tryz.underlying79, Tryz.isAgg79, Tryz.sizeOf79⟩ <|
  Tab.ok.cons (d := _) (T := _) ⟨Tryz.underlying80, Tryz.isAgg80, Tryz.sizeOf80⟩ <|
  Tab.ok.cons (d := _) (T := _) ⟨Tryz.underlying81, Tryz.sizeOf5, Tryz.isAgg81, Tryz.sizeOf81⟩ <|
  Tab.ok.cons (d := _) (T := _) ⟨⟨_, Tryz.underlying82, (.cons rfl Tryz.sizeOf81 (.cons rfl Tryz.sizeOf81 (.cons rfl Tryz.sizeOf4 .nil)))⟩, Tryz.isAgg82, Tryz.sizeOf82⟩ <|
  Tab.ok.cons (d := _) (T := _) ⟨⟨_, Tryz.underlying83, (.cons rfl Tryz.sizeOf81 (.cons rfl Tryz.sizeOf81 (.cons rfl Tryz.sizeOf4 .nil)))⟩, Tryz.isAgg83, Tryz.sizeOf83⟩ <|
  Tab.ok.cons (d := _) (T := _) ⟨Tryz.underlying84, Tryz.sizeOf33, Tryz.isAgg84, Tryz.sizeOf84⟩ <|
  Tab.ok.cons (d := _) (T := _) ⟨Tryz.underlying86, Tryz.isAgg86, Tryz.sizeOf86⟩ <|
  Tab.ok.cons (d := _) (T := _) ⟨Tryz.underlying88, Tryz.isAgg88, Tryz.sizeOf88⟩ <|
  Tab.ok.cons (d := _) (T := _) ⟨Tryz.underlying89, Tryz.isAgg89, Tryz.sizeOf89⟩ <|
  Tab.ok.cons (d := _) (T := _) ⟨Tryz.underlying90, Tryz.isAgg90, Tryz.sizeOf90⟩ <|
  Tab.ok.cons (d := _) (T := _) ⟨Tryz.underlying92, Tryz.isAgg92, Tryz.sizeOf92⟩ <|
  Tab.ok.cons (d := _) (T := _) ⟨Tryz.underlying93, Tryz.isAgg93, Tryz.sizeOf93⟩ <|
  Tab.ok.cons (d := _) (T := _) ⟨Tryz.underlying94, Tryz.sizeOf5, Tryz.isAgg94, Tryz.sizeOf94⟩ <|
  Tab.ok.cons (d := _) (T := _) ⟨Tryz.underlying95, Tryz.sizeOf2, Tryz.isAgg95, Tryz.sizeOf95⟩ <|
  Tab.ok.cons (d := _) (T := _) ⟨⟨_, Tryz.underlying96, (.cons rfl Tryz.sizeOf29 (.cons rfl Tryz.sizeOf90 (.cons rfl Tryz.sizeOf94 (.cons rfl Tryz.sizeOf2 (.cons rfl Tryz.sizeOf2 (.cons rfl Tryz.sizeOf2 (.cons rfl Tryz.sizeOf95 (.cons rfl Tryz.sizeOf4 .nil))))))))⟩, Tryz.isAgg96, Tryz.sizeOf96⟩ <|
  Tab.ok.cons (d := _) (T := _) ⟨⟨_, Tryz.underlying97, (.cons rfl Tryz.sizeOf29 (.cons rfl Tryz.sizeOf90 (.cons rfl Tryz.sizeOf94 (.cons rfl Tryz.sizeOf2 (.cons rfl Tryz.sizeOf2 (.cons rfl Tryz.sizeOf2 (.cons rfl Tryz.sizeOf95 (.cons rfl Tryz.sizeOf4 .nil))))))))⟩, Tryz.isAgg97, Tryz.sizeOf97⟩ <|
  Tab.ok.cons (d := _) (T := _) ⟨Tryz.underlying98, Tryz.sizeOf106, Tryz.isAgg98, Tryz.sizeOf98⟩ <|
  Tab.ok.cons (d := _) (T := _) ⟨⟨_, Tryz.underlying99, (.cons rfl Tryz.sizeOf29 (.cons rfl Tryz.sizeOf60 (.cons rfl Tryz.sizeOf98 .nil)))⟩, Tryz.isAgg99, Tryz.sizeOf99⟩ <|
  Tab.ok.cons (d := _) (T := _) ⟨⟨_, Tryz.underlying100, (.cons rfl Tryz.sizeOf29 (.cons rfl Tryz.sizeOf60 (.cons rfl Tryz.sizeOf98 .nil)))⟩, Tryz.isAgg100, Tryz.sizeOf100⟩ <|
  Tab.ok.cons (d := _) (T := _) ⟨Tryz.underlying101, Tryz.isAgg101, Tryz.sizeOf101⟩ <|
  Tab.ok.cons (d := _) (T := _) ⟨Tryz.underlying102, Tryz.isAgg102, Tryz.sizeOf102⟩ <|
  Tab.ok.cons (d := _) (T := _) ⟨Tryz.underlying103, Tryz.isAgg103, Tryz.sizeOf103⟩ <|
  Tab.ok.cons (d := _) (T := _) ⟨Tryz.underlying104, Tryz.isAgg104, Tryz.sizeOf104⟩ <|
  Tab.ok.cons (d := _) (T := _) ⟨Tryz.underlying105, Tryz.isAgg105, Tryz.sizeOf105⟩ <|
  Tab.ok.cons (d := _) (T := _) ⟨Tryz.underlying106, Tryz.isAgg106, Tryz.sizeOf106⟩ <|
  Tab.ok.cons (d := _) (T := _) ⟨Tryz.underlying107, Tryz.isAgg107, Tryz.sizeOf107⟩ <|
  Tab.ok.cons (d := _) (T := _) ⟨⟨_, Tryz.underlying108, (.cons rfl Tryz.sizeOf3 (.cons rfl Tryz.sizeOf33 (.cons rfl Tryz.sizeOf4 (.cons rfl Tryz.sizeOf2 .nil))))⟩, Tryz.isAgg108, Tryz.sizeOf108⟩ <|
  Tab.ok.cons (d := _) (T := _) ⟨⟨_, Tryz.underlying109, (.cons rfl Tryz.sizeOf3 (.cons rfl Tryz.sizeOf33 (.cons rfl Tryz.sizeOf4 (.cons rfl Tryz.sizeOf2 .nil))))⟩, Tryz.isAgg109, Tryz.sizeOf109⟩ <|
  Tab.ok.cons (d := _) (T := _) ⟨Tryz.underlying110, Tryz.isAgg110, Tryz.sizeOf110⟩ <|
  Tab.ok.cons (d := _) (T := _) ⟨Tryz.underlying111, Tryz.isAgg111, Tryz.sizeOf111⟩ <|
  Tab.ok.cons (d := _) (T := _) ⟨Tryz.underlying112, Tryz.isAgg112, Tryz.sizeOf112⟩ <|
  Tab.ok.cons (d := _) (T := _) ⟨Tryz.underlying113, Tryz.isAgg113, Tryz.sizeOf113⟩ <|
  Tab.ok.cons (d := _) (T := _) ⟨Tryz.underlying114, Tryz.isAgg114, Tryz.sizeOf114⟩ <|
  Tab.ok.cons (d := _) (T := _) ⟨Tryz.underlying115, Tryz.isAgg115, Tryz.sizeOf115⟩ <|
  Tab.ok.cons (d := _) (T := _) ⟨Tryz.underlying116, Tryz.isAgg116, Tryz.sizeOf116⟩ <|
  Tab.ok.cons (d := _) (T := _) ⟨Tryz.underlying118, Tryz.isAgg118, Tryz.sizeOf118⟩ <|
  Tab.ok.cons (d := _) (T := _) ⟨Tryz.underlying119, Tryz.isAgg119, Tryz.sizeOf119⟩ <|
  Tab.ok.cons (d := _) (T := _) ⟨Tryz.underlying120, Tryz.isAgg120, Tryz.sizeOf120⟩ <|
  Tab.ok.cons (d := _) (T := _) ⟨Tryz.underlying122, Tryz.isAgg122, Tryz.sizeOf122⟩ <|
  Tab.ok.cons (d := _) (T := _) ⟨Tryz.underlying123, Tryz.isAgg123, Tryz.sizeOf123⟩ <|
  Tab.ok.cons (d := _) (T := _) ⟨⟨_, Tryz.underlying124, (.cons rfl Tryz.sizeOf29 (.cons rfl Tryz.sizeOf3 (.cons rfl Tryz.sizeOf3 (.cons rfl Tryz.sizeOf2 (.cons rfl Tryz.sizeOf33 .nil)))))⟩, Tryz.isAgg124, Tryz.sizeOf124⟩ <|
  Tab.ok.cons (d := _) (T := _) ⟨⟨_, Tryz.underlying125, (.cons rfl Tryz.sizeOf29 (.cons rfl Tryz.sizeOf3 (.cons rfl Tryz.sizeOf3 (.cons rfl Tryz.sizeOf2 (.cons rfl Tryz.sizeOf33 .nil)))))⟩, Tryz.isAgg125, Tryz.sizeOf125⟩ <|
  Tab.ok.cons (d := _) (T := _) ⟨Tryz.underlying126, Tryz.isAgg126, Tryz.sizeOf126⟩ <|
  Tab.ok.cons (d := _) (T := _) ⟨Tryz.underlying127, Tryz.isAgg127, Tryz.sizeOf127⟩ <|
  Tab.ok.cons (d := _) (T := _) ⟨Tryz.underlying128, Tryz.isAgg128, Tryz.sizeOf128⟩ <|
  Tab.ok.cons (d := _) (T := _) ⟨Tryz.underlying129, Tryz.sizeOf4, Tryz.isAgg129, Tryz.sizeOf129⟩ <|
  Tab.ok.cons (d := _) (T := _) ⟨Tryz.underlying130, Tryz.sizeOf4, Tryz.isAgg130, Tryz.sizeOf130⟩ <|
  Tab.ok.cons (d := _) (T := _) ⟨Tryz.underlying132, Tryz.isAgg132, Tryz.sizeOf132⟩ <|
  Tab.ok.cons (d := _) (T := _) ⟨Tryz.underlying133, Tryz.isAgg133, Tryz.sizeOf133⟩ <|
  Tab.ok.cons (d := _) (T := _) ⟨Tryz.underlying134, Tryz.isAgg134, Tryz.sizeOf134⟩ <|
  Tab.ok.cons (d := _) (T := _) ⟨Tryz.underlying135, Tryz.isAgg135, Tryz.sizeOf135⟩ <|
  Tab.ok.cons (d := _) (T := _) ⟨Tryz.underlying136, Tryz.isAgg136, Tryz.sizeOf136⟩ <|
  Tab.ok.cons (d := _) (T := _) ⟨Tryz.underlying137, Tryz.isAgg137, Tryz.sizeOf137⟩ <|
  Tab.ok.cons (d := _) (T := _) ⟨Tryz.underlying138, Tryz.isAgg138, Tryz.sizeOf138⟩ <|
  Tab.ok.cons (d := _) (T := _) ⟨Tryz.underlying139, Tryz.isAgg139, Tryz.sizeOf139⟩ <|
  Tab.ok.cons (d := _) (T := _) ⟨Tryz.underlying140, Tryz.isAgg140, Tryz.sizeOf140⟩ <|
  Tab.ok.cons (d := _) (T := _) ⟨Tryz.underlying141, Tryz.isAgg141, Tryz.sizeOf141⟩ <|
  Tab.ok.cons (d := _) (T := _) ⟨Tryz.underlying142, Tryz.isAgg142, Tryz.sizeOf142⟩ <|
  Tab.ok.cons (d := _) (T := _) ⟨Tryz.underlying144, Tryz.isAgg144, Tryz.sizeOf144⟩ <|
  Tab.ok.cons (d := _) (T := _) ⟨Tryz.underlying145, Tryz.isAgg145, Tryz.sizeOf145⟩ <|
  Tab.ok.cons (d := _) (T := _) ⟨Tryz.underlying146, Tryz.isAgg146, Tryz.sizeOf146⟩ <|
  Tab.ok.cons (d := _) (T := _) ⟨Tryz.underlying148, Tryz.isAgg148, Tryz.sizeOf148⟩ <|
  Tab.ok.cons (d := _) (T := _) ⟨Tryz.underlying149, Tryz.isAgg149, Tryz.sizeOf149⟩ <|
  Tab.ok.cons (d := _) (T := _) ⟨Tryz.underlying150, Tryz.isAgg150, Tryz.sizeOf150⟩ <|
  Tab.ok.cons (d := _) (T := _) ⟨Tryz.underlying151, Tryz.isAgg151, Tryz.sizeOf151⟩ <|
  Tab.ok.cons (d := _) (T := _) ⟨Tryz.underlying153, Tryz.isAgg153, Tryz.sizeOf153⟩ <|
  Tab.ok.cons (d := _) (T := _) ⟨Tryz.underlying154, Tryz.isAgg154, Tryz.sizeOf154⟩ <|
  Tab.ok.cons (d := _) (T := _) ⟨Tryz.underlying155, Tryz.isAgg155, Tryz.sizeOf155⟩ <|
  Tab.ok.cons (d := _) (T := _) ⟨Tryz.underlying156, Tryz.isAgg156, Tryz.sizeOf156⟩ <|
  Tab.ok.cons (d := _) (T := _) ⟨Tryz.underlying158, Tryz.isAgg158, Tryz.sizeOf158⟩ <|
  Tab.ok.cons (d := _) (T := _) ⟨Tryz.underlying159, Tryz.isAgg159, Tryz.sizeOf159⟩ <|
  Tab.ok.cons (d := _) (T := _) ⟨Tryz.underlying160, Tryz.isAgg160, Tryz.sizeOf160⟩ <|
  Tab.ok.cons (d := _) (T := _) ⟨Tryz.underlying161, Tryz.isAgg161, Tryz.sizeOf161⟩ <|
  Tab.ok.cons (d := _) (T := _) ⟨Tryz.underlying162, Tryz.isAgg162, Tryz.sizeOf162⟩ <|
  Tab.ok.cons (d := _) (T := _) ⟨Tryz.underlying163, Tryz.isAgg163, Tryz.sizeOf163⟩ <|
  Tab.ok.cons (d := _) (T := _) ⟨Tryz.underlying164, Tryz.isAgg164, Tryz.sizeOf164⟩ <|
  Tab.ok.cons (d := _) (T := _) ⟨Tryz.underlying165, Tryz.isAgg165, Tryz.sizeOf165⟩ <|
  Tab.ok.cons (d := _) (T := _) ⟨Tryz.underlying166, Tryz.isAgg166, Tryz.sizeOf166⟩ <|
  Tab.ok.cons (d := _) (T := _) ⟨Tryz.underlying167, Tryz.isAgg167, Tryz.sizeOf167⟩ <|
  Tab.ok.cons (d := _) (T := _) ⟨Tryz.underlying168, Tryz.isAgg168, Tryz.sizeOf168⟩ <|
  Tab.ok.cons (d := _) (T := _) ⟨Tryz.underlying169, Tryz.isAgg169, Tryz.sizeOf169⟩ <|
  Tab.ok.cons (d := _) (T := _) ⟨Tryz.underlying170, Tryz.isAgg170, Tryz.sizeOf170⟩ <|
  Tab.ok.cons (d := _) (T := _) ⟨Tryz.underlying171, Tryz.isAgg171, Tryz.sizeOf171⟩ <|
  Tab.ok.cons (d := _) (T := _) ⟨Tryz.underlying172, Tryz.isAgg172, Tryz.sizeOf172⟩ <|
  Tab.ok.cons (d := _) (T := _) ⟨Tryz.underlying173, Tryz.isAgg173, Tryz.sizeOf173⟩ <|
  Tab.ok.cons (d := _) (T := _) ⟨Tryz.underlying175, Tryz.isAgg175, Tryz.sizeOf175⟩ <|
  Tab.ok.cons (d := _) (T := _) ⟨Tryz.underlying176, Tryz.sizeOf5, Tryz.isAgg176, Tryz.sizeOf176⟩ <|
  Tab.ok.cons (d := _) (T := _) ⟨⟨_, Tryz.underlying177, (.cons rfl Tryz.sizeOf5 (.cons rfl Tryz.sizeOf5 .nil))⟩, Tryz.isAgg177, Tryz.sizeOf177⟩ <|
  Tab.ok.cons (d := _) (T := _) ⟨⟨_, Tryz.underlying178, (.cons rfl Tryz.sizeOf5 (.cons rfl Tryz.sizeOf5 .nil))⟩, Tryz.isAgg178, Tryz.sizeOf178⟩ <|
  Tab.ok.cons (d := _) (T := _) ⟨Tryz.underlying179, Tryz.sizeOf178, Tryz.isAgg179, Tryz.sizeOf179⟩ <|
  Tab.ok.cons (d := _) (T := _) ⟨Tryz.underlying180, Tryz.isAgg180, Tryz.sizeOf180⟩ <|
  Tab.ok.cons (d := _) (T := _) ⟨⟨_, Tryz.underlying181, (.cons rfl Tryz.sizeOf17 (.cons rfl Tryz.sizeOf17 (.cons rfl Tryz.sizeOf17 (.cons rfl Tryz.sizeOf9 .nil))))⟩, Tryz.isAgg181, Tryz.sizeOf181⟩ <|
  Tab.ok.cons (d := _) (T := _) ⟨⟨_, Tryz.underlying182, (.cons rfl Tryz.sizeOf17 (.cons rfl Tryz.sizeOf17 (.cons rfl Tryz.sizeOf17 (.cons rfl Tryz.sizeOf9 .nil))))⟩, Tryz.isAgg182, Tryz.sizeOf182⟩ <|
  Tab.ok.cons (d := _) (T := _) ⟨Tryz.underlying183, Tryz.sizeOf16, Tryz.isAgg183, Tryz.sizeOf183⟩ <|
  Tab.ok.cons (d := _) (T := _) ⟨Tryz.underlying186, Tryz.isAgg186, Tryz.sizeOf186⟩ <|
  Tab.ok.cons (d := _) (T := _) ⟨Tryz.underlying187, Tryz.isAgg187, Tryz.sizeOf187⟩ <|
  Tab.ok.cons (d := _) (T := _) ⟨Tryz.underlying188, Tryz.isAgg188, Tryz.sizeOf188⟩ <|
  Tab.ok.cons (d := _) (T := _) ⟨Tryz.underlying189, Tryz.isAgg189, Tryz.sizeOf189⟩ <|
  Tab.ok.cons (d := _) (T := _) ⟨Tryz.underlying190, Tryz.isAgg190, Tryz.sizeOf190⟩ <|
  Tab.ok.cons (d := _) (T := _) ⟨⟨_, Tryz.underlying191, (.cons rfl Tryz.sizeOf12 (.cons rfl Tryz.sizeOf12 (.cons rfl Tryz.sizeOf141 (.cons rfl Tryz.sizeOf186 (.cons rfl Tryz.sizeOf5 (.cons rfl Tryz.sizeOf5 (.cons rfl Tryz.sizeOf187 (.cons rfl Tryz.sizeOf188 (.cons rfl Tryz.sizeOf135 (.cons rfl Tryz.sizeOf189 (.cons rfl Tryz.sizeOf190 .nil)))))))))))⟩, Tryz.isAgg191, Tryz.sizeOf191⟩ <|
  Tab.ok.cons (d := _) (T := _) ⟨⟨_, Tryz.underlying192, (.cons rfl Tryz.sizeOf12 (.cons rfl Tryz.sizeOf12 (.cons rfl Tryz.sizeOf141 (.cons rfl Tryz.sizeOf186 (.cons rfl Tryz.sizeOf5 (.cons rfl Tryz.sizeOf5 (.cons rfl Tryz.sizeOf187 (.cons rfl Tryz.sizeOf188 (.cons rfl Tryz.sizeOf135 (.cons rfl Tryz.sizeOf189 (.cons rfl Tryz.sizeOf190 .nil)))))))))))⟩, Tryz.isAgg192, Tryz.sizeOf192⟩ <|
  Tab.ok.cons (d := _) (T := _) ⟨Tryz.underlying193, Tryz.isAgg193, Tryz.sizeOf193⟩ <|
  Tab.ok.nil
theorem el22 : Elem Tryz.prog 22 3 1 := ⟨Tryz.underlying22, Tryz.sizeOf3, ⟨Tryz.t3, Tryz.typeInfo3, by decide, by decide⟩, ⟨_, Tryz.zeroValue3, rfl⟩⟩
theorem el23 : Elem Tryz.prog 23 4 1 := ⟨Tryz.underlying23, Tryz.sizeOf4, ⟨Tryz.t4, Tryz.typeInfo4, by decide, by decide⟩, ⟨_, Tryz.zeroValue4, rfl⟩⟩
theorem el33 : Elem Tryz.prog 33 5 1 := ⟨Tryz.underlying33, Tryz.sizeOf5, ⟨Tryz.t5, Tryz.typeInfo5, by decide, by decide⟩, ⟨_, Tryz.zeroValue5, rfl⟩⟩
theorem el37 : Elem Tryz.prog 37 36 2 := ⟨Tryz.underlying37, Tryz.sizeOf36, ⟨Tryz.t36, Tryz.typeInfo36, by decide, by decide⟩, ⟨_, Tryz.zeroValue36, rfl⟩⟩
theorem el44 : Elem Tryz.prog 44 50 4 := ⟨Tryz.underlying44, Tryz.sizeOf50, ⟨Tryz.t50, Tryz.typeInfo50, by decide, by decide⟩, ⟨_, Tryz.zeroValue50, rfl⟩⟩
theorem el47 : Elem Tryz.prog 47 46 96 := ⟨Tryz.underlying47, Tryz.sizeOf46, ⟨Tryz.t46, Tryz.typeInfo46, by decide, by decide⟩, ⟨_, Tryz.zeroValue46, rfl⟩⟩
theorem el48 : Elem Tryz.prog 48 78 3 := ⟨Tryz.underlying48, Tryz.sizeOf78, ⟨Tryz.t78, Tryz.typeInfo78, by decide, by decide⟩, ⟨_, Tryz.zeroValue78, rfl⟩⟩
theorem el67 : Elem Tryz.prog 67 83 129 := ⟨Tryz.underlying67, Tryz.sizeOf83, ⟨Tryz.t83, Tryz.typeInfo83, by decide, by decide⟩, ⟨_, Tryz.zeroValue83, rfl⟩⟩
theorem el84 : Elem Tryz.prog 84 33 1 := ⟨Tryz.underlying84, Tryz.sizeOf33, ⟨Tryz.t33, Tryz.typeInfo33, by decide, by decide⟩, ⟨_, Tryz.zeroValue33, rfl⟩⟩
theorem el95 : Elem Tryz.prog 95 2 1 := ⟨Tryz.underlying95, Tryz.sizeOf2, ⟨Tryz.t2, Tryz.typeInfo2, by decide, by decide⟩, ⟨_, Tryz.zeroValue2, rfl⟩⟩
theorem el98 : Elem Tryz.prog 98 106 1 := ⟨Tryz.underlying98, Tryz.sizeOf106, ⟨Tryz.t106, Tryz.typeInfo106, by decide, by decide⟩, ⟨_, Tryz.zeroValue106, rfl⟩⟩
theorem mixed : Tryz.prog.follows .mixedOrders = true := by kernel_rfl
end Go.Proofs.YtoalhcodigpgkaaGreatDoor.Sx
end

section
namespace Go.Proofs.YtoalhcodigpgkaaGreatDoor.Ro
open Go Go.Sx Go.ChangeShapes Go.WideShapes
theorem own : ownKnob Tryz.prog.godebug = none := by kernel_rfl
theorem laid : laidOutB Tryz.prog = true := by kernel_rfl
end Go.Proofs.YtoalhcodigpgkaaGreatDoor.Ro
end

section
namespace Go.Proofs.YtoalhcodigpgkaaGreatDoor.Ro
open Go Go.Sx Go.Pl Go.ChangeShapes Go.WideShapes
set_option linter.constructorNameAsVariable false
theorem c3 : Tryz.prog.cellsOf 3 = 1 := by kernel_rfl
theorem c4 : Tryz.prog.cellsOf 4 = 1 := by kernel_rfl
theorem c33 : Tryz.prog.cellsOf 33 = 1 := by kernel_rfl
theorem c78 : Tryz.prog.cellsOf 78 = 3 := by kernel_rfl
set_option maxRecDepth 100000 in
theorem reads_raw (w : World) : ReadsAt Tryz.prog w 78 encRaw fun a => Row Go.Sx.encB 1 [all w] a.v a.b := by
  intro H enc base held n cs x h
  have hl := struct_len Tryz.underlying78 h
  rw [c78] at hl
  obtain ⟨a, h0, _⟩ := field_at Tryz.underlying78 (i := 0) (f := { name := "No", type := 3, offset := 0, embedded := false, tag := "", pkgPath := "", byteOffset := 0 }) rfl (Reads.at (reads_i64 Tryz.underlying3)) h
  obtain ⟨b, h1, hb, _⟩ := field_at Tryz.underlying78 (i := 1) (f := { name := "B", type := 33, offset := 1, embedded := false, tag := "", pkgPath := "", byteOffset := 8 }) rfl (readsAt_slice (e := Go.Sx.encB) (sz := 1) Tryz.underlying33 (by kernel_rfl) (by decide) (Reads.at (reads_u8 Tryz.underlying5)) (fun _ => .inl rfl)) h
  obtain ⟨c, h2, _⟩ := field_at Tryz.underlying78 (i := 2) (f := { name := "Odd", type := 4, offset := 2, embedded := false, tag := "", pkgPath := "", byteOffset := 32 }) rfl (Reads.at (reads_bool Tryz.underlying4)) h
  dsimp only at h0 h1 h2
  rw [c3] at h0
  rw [c33] at h1
  rw [c4] at h2
  refine ⟨⟨a, b.1, b.2, c⟩, ?_, hb⟩
  match cs, hl with
  | [p, q, r], _ =>
    simp only [List.drop_zero, List.take_succ_cons, List.take_zero, List.drop_succ_cons] at h0 h1 h2
    have e0 : p = .int .i64 a := by injection h0
    have e1 : q = b.1 := by injection h1
    have e2 : r = .bool c := by injection h2
    rw [e0, e1, e2]; rfl
theorem raws_of {w : World} {v : Value} {xs : List Raw} (h1 : Row encRaw 3 [all w] v xs) (h2 : xs.length ≤ maxLen) (h3 : ∀ a ∈ xs, Row Go.Sx.encB 1 [all w] a.v a.b) : RawsAt [all w] v xs := ⟨h1, h3, Nat.le_trans h2 (by decide)⟩
set_option maxRecDepth 100000 in
theorem open_raws {H : Type} {enc : TypeId × Value → H} {w : World} {r : Reach} {b0 : Nat} {v : Value} {d : DataW H} {p : List MemPlace} (hok : Value.okWide Tryz.prog w r b0 48 v) (h : DataW.Trod enc Tryz.prog w 0 (fun _ => true) true 48 v d p) : ∃ xs : List Raw, RawsAt [all w] v xs := by
  obtain ⟨xs, h1, h2, h3⟩ := open_row_at (e := encRaw) (sz := 3) Tryz.underlying48 (by kernel_rfl) (by decide) (reads_raw w) hok h (fun _ => .inl rfl)
  exact ⟨xs, raws_of h1 h2 h3⟩
theorem c50 : Tryz.prog.cellsOf 50 = 4 := by kernel_rfl
theorem c48 : Tryz.prog.cellsOf 48 = 1 := by kernel_rfl
theorem c23 : Tryz.prog.cellsOf 23 = 1 := by kernel_rfl
set_option maxRecDepth 100000 in
theorem reads_cop (w : World) : ReadsAt Tryz.prog w 50 encCOp fun o => COpAt [all w] o := by
  intro H enc base held n cs x h
  have hl := struct_len Tryz.underlying50 h
  rw [c50] at hl
  obtain ⟨a, h0, ha⟩ := field_at Tryz.underlying50 (i := 0) (f := { name := "Kind", type := 3, offset := 0, embedded := false, tag := "", pkgPath := "", byteOffset := 0 }) rfl (Reads.at (reads_i64 Tryz.underlying3)) h
  obtain ⟨b, h1, hb⟩ := field_at Tryz.underlying50 (i := 1) (f := { name := "No", type := 3, offset := 1, embedded := false, tag := "", pkgPath := "", byteOffset := 8 }) rfl (Reads.at (reads_i64 Tryz.underlying3)) h
  obtain ⟨c, h2, hc1, hc2, hc3⟩ := field_at Tryz.underlying50 (i := 2) (f := { name := "L", type := 48, offset := 2, embedded := false, tag := "", pkgPath := "", byteOffset := 16 }) rfl (readsAt_slice (e := encRaw) (sz := 3) Tryz.underlying48 (by kernel_rfl) (by decide) (reads_raw w) (fun _ => .inl rfl)) h
  obtain ⟨k, h3, hk, _⟩ := field_at Tryz.underlying50 (i := 3) (f := { name := "Keep", type := 23, offset := 3, embedded := false, tag := "", pkgPath := "", byteOffset := 40 }) rfl (readsAt_slice (e := Go.Sx.encBool) (sz := 1) Tryz.underlying23 (by kernel_rfl) (by decide) (Reads.at (reads_bool Tryz.underlying4)) (fun _ => .inl rfl)) h
  dsimp only at h0 h1 h2 h3
  rw [c3] at h0 h1
  rw [c48] at h2
  rw [c23] at h3
  refine ⟨⟨a, b, c.1, c.2, k.1, k.2⟩, ?_, ha, hb, raws_of hc1 hc2 hc3, hk⟩
  match cs, hl with
  | [p, q, r, s], _ =>
    simp only [List.drop_zero, List.take_succ_cons, List.take_zero, List.drop_succ_cons] at h0 h1 h2 h3
    have e0 : p = .int .i64 a := by injection h0
    have e1 : q = .int .i64 b := by injection h1
    have e2 : r = c.1 := by injection h2
    have e3 : s = k.1 := by injection h3
    rw [e0, e1, e2, e3]; rfl
set_option maxRecDepth 100000 in
theorem open_cops {H : Type} {enc : TypeId × Value → H} {w : World} {r : Reach} {b0 : Nat} {v : Value} {d : DataW H} {p : List MemPlace} (hok : Value.okWide Tryz.prog w r b0 44 v) (h : DataW.Trod enc Tryz.prog w 0 (fun _ => true) true 44 v d p) : ∃ xs : List COp, Row encCOp 4 [all w] v xs ∧ xs.length ≤ maxLen ∧ ∀ o ∈ xs, COpAt [all w] o :=
  open_row_at (e := encCOp) (sz := 4) Tryz.underlying44 (by kernel_rfl) (by decide) (reads_cop w) hok h (fun _ => .inl rfl)
end Go.Proofs.YtoalhcodigpgkaaGreatDoor.Ro
end

section
namespace Go.Proofs.YtoalhcodigpgkaaGreatDoor.Sx
open Go Go.Sx Go.Pl
variable [Outer]

set_option maxHeartbeats 1000000 in
set_option maxRecDepth 100000 in
theorem bytes_Clone {v : Value} {xs : List UInt8} {hs : List Chunk} (hr : Row Go.Sx.encB 1 hs v xs) (hl : xs.length ≤ 1073741824) : Fun Tryz.prog 57 [v] hs (fun v' hs' => ∃ H', hs' = H' :: hs ∧ Own Go.Sx.encB 1 5 v' xs H') := by
  refine Fun.enter 8 Tryz.func57 rfl Tryz.ntmps57 rfl ?_
  obtain ⟨a0, c0, hv⟩ := hr.len
  subst hv
  refine TT.seq (.region (.pures hT 1 rfl (.nil (.seq (.seq (.seq (.region (.pures hT 2 rfl (.nil (.seq (.cond rfl (fun c4 => ?_) (fun c4 => ?_))))))))))))
  ·
    obtain rfl : a0 = none := by cases a0 with | none => rfl | some x => cases c4
    have hx := hr.of_none
    refine TT.seq (.region (.pures hT 1 rfl (.nil (.seq (.ret (.of (rs := [.tmp 2]) [_] ([] :: hs) rfl (.tmp rfl .nil) sl ?_))))))
    dsimp only [one]
    exact ⟨_, rfl, by rw [hx]; exact Own.nil⟩
  ·
    refine TT.skip (.seq (.seq (.region ?_)))
    refine OT.buildSlice (enc := Go.Sx.encB) (xs := ([] : List UInt8)) (xos := []) el33 rfl rfl rfl rfl rfl (by simp [Value.cells]) (fun _ _ => rfl) rfl (by decide) rfl (fun v_5 H_5 ho_5 => ?_)
    refine OT.pures hT 1 rfl ?_
    refine OT.append hT el33 rfl rfl rfl rfl pl ho_5 ro (ones_bytes _) (by simp; omega) rfl (fun v_7 H_7 ho_7 => ?_)
    refine OT.pures hT 1 rfl (.nil (.seq (.ret (.of (rs := [.tmp 2]) [_] (H_7 :: hs) rfl (.tmp rfl .nil) sl ?_))))
    dsimp only [one]
    exact ⟨_, rfl, ho_7⟩

set_option maxHeartbeats 1000000 in
set_option maxRecDepth 100000 in
theorem dev_New {n : Int} {r : List Chunk} : Fun Tryz.prog 7 [.int .i64 n] r (fun v' hs' => ∃ H', hs' = H' :: r ∧ IsDev 83 69 v' (Dev.new n) H') := by
  refine Fun.enter 9 Tryz.func7 rfl Tryz.ntmps7 rfl ?_
  refine TT.seq (.region (.pures hT 1 rfl (.nil (.seq (.seq (.region (.pures hT 3 rfl ?_)))))))
  refine OT.makeN (enc := encSec) (z0 := sec0) (n := (min (max n 1) 2048).toNat) el67 Tryz.zeroValue83 kr rfl rfl (congrArg some (int_eq (by omega))) (congrArg some (int_eq (by omega))) (by omega) rfl (fun v_6 H_6 ho_6 => ?_)
  obtain ⟨a6, c6, hv6⟩ := (ho_6.row (hs := r)).len
  subst hv6
  refine OT.build hT rfl Tryz.zeroValue69 rfl rfl rfl rfl (.box rfl rfl rfl (fun b_8 => ?_))
  refine OT.pures hT 1 rfl (.nil (.seq (.ret (.of (rs := [.tmp 2]) [_] (([(b_8, blk _ 69 (0, 0))] ++ H_6) :: r) rfl (.tmp rfl .nil) sl ?_))))
  dsimp only [one]
  exact ⟨_, rfl, ⟨Dev.new_ok n, ⟨b_8, a6, c6, H_6, 0, 0, rfl, by simpa [Dev.new] using ho_6, (fun _ h => by cases h), by simp only [Dev.new]; rfl⟩⟩⟩

set_option maxHeartbeats 1000000 in
set_option maxRecDepth 100000 in
theorem dev_Len {p : Value} {d : Dev} {H : Chunk} {r : List Chunk} (hd : IsDev 83 69 p d H) : Fun Tryz.prog 23 [p] (H :: r) (fun v' hs' => v' = .int .i64 d.secs.length ∧ H :: r = hs') := by
  refine Fun.enter 10 Tryz.func23 rfl Tryz.ntmps23 rfl ?_
  obtain ⟨b, a, c, K, calls, fu, hpp, hO, hfu, hH⟩ := hd.is
  have hpos := hd.ok.pos
  have hmost := hd.ok.most
  subst hpp
  subst hH
  refine TT.split (.seq (.region (.pures hT 1 rfl (.nil (.seq (.seq (.seq (.region (.pures hT 2 rfl (.nil (.seq (.cond_false rfl (.skip (.seq (.seq (.region (.pures hT 3 rfl (.load rfl rfl (Ld.slc hT rfl hz rfl) rfl ?_))))))))))))))))))
  refine OT.pures hT 2 rfl (.nil (.seq (.ret (.of (rs := [.tmp 2]) [_] (([(b, blk [.slice a d.secs.length c, .int .i64 calls, .bool d.fuse.isSome, .int .i64 fu, .bool d.dead] 69 (0, 0))] ++ K) :: r) rfl (.tmp rfl .nil) sl ?_))))
  dsimp only [one]
  exact ⟨rfl, rfl⟩

set_option maxHeartbeats 1000000 in
set_option maxRecDepth 100000 in
theorem dev_at {p : Value} {d : Dev} {H : Chunk} {r : List Chunk} (hd : IsDev 83 69 p d H) {i : Int} : Fun Tryz.prog 72 [p, .int .i64 i] (H :: r) (fun v' hs' => v' = .int .i64 (d.at i) ∧ H :: r = hs') := by
  refine Fun.enter 20 Tryz.func72 rfl Tryz.ntmps72 rfl ?_
  obtain ⟨b, a, c, K, calls, fu, hpp, hO, hfu, hH⟩ := hd.is
  have hpos := hd.ok.pos
  have hmost := hd.ok.most
  subst hpp
  subst hH
  refine TT.split (.seq (.region (.pures hT 1 rfl (.nil (.seq (.seq (.block (.seq (.region (.pures hT 3 rfl (.nil (.seq (.cond_false rfl (.seq (.region (.pures hT 3 rfl (.split 11 rfl (fun g11 => ?_) (fun g11 => ?_))))))))))))))))))
  ·
    have g11 := of_decide_eq_true g11
    refine OT.pures hT 9 rfl (.nil (.seq (.cond_true rfl (.seq (.region (.pures hT 1 rfl (.nil (.seq (.ret (.of (rs := [.tmp 4]) [_] (([(b, blk [.slice a d.secs.length c, .int .i64 calls, .bool d.fuse.isSome, .int .i64 fu, .bool d.dead] 69 (0, 0))] ++ K) :: r) rfl (.tmp rfl .nil) sl ?_))))))))))
    dsimp only [one]
    exact ⟨by unfold Dev.at; rw [if_neg (by unfold Dev.in; omega)], rfl⟩
  ·
    have g11 := of_decide_eq_false g11
    refine OT.pures hT 4 rfl (.load rfl rfl (Ld.slc hT rfl hz rfl) rfl ?_)
    refine OT.pures hT 4 rfl (.nil (.seq (.cond rfl (fun c8 => ?_) (fun c8 => ?_))))
    ·
      have c8 := of_decide_eq_true c8
      refine TT.seq (.region (.pures hT 1 rfl (.nil (.seq (.ret (.of (rs := [.tmp 4]) [_] (([(b, blk [.slice a d.secs.length c, .int .i64 calls, .bool d.fuse.isSome, .int .i64 fu, .bool d.dead] 69 (0, 0))] ++ K) :: r) rfl (.tmp rfl .nil) sl ?_))))))
      dsimp only [one]
      exact ⟨by unfold Dev.at; rw [if_neg (by unfold Dev.in; omega)], rfl⟩
    ·
      have c8 := of_decide_eq_false c8
      refine TT.skip (.blk (.seq (.seq (.region (.pures hT 1 rfl (.nil (.seq (.ret (.of (rs := [.tmp 4]) [_] (([(b, blk [.slice a d.secs.length c, .int .i64 calls, .bool d.fuse.isSome, .int .i64 fu, .bool d.dead] 69 (0, 0))] ++ K) :: r) rfl (.tmp rfl .nil) sl ?_)))))))))
      dsimp only [one]
      exact ⟨by unfold Dev.at; rw [if_pos (by unfold Dev.in; omega)], rfl⟩

set_option maxHeartbeats 1000000 in
set_option maxRecDepth 100000 in
theorem dev_Read {p : Value} {d : Dev} {H : Chunk} {r : List Chunk} (hd : IsDev 83 69 p d H) {i : Int} : Fun Tryz.prog 75 [p, .int .i64 i] (H :: r) (fun v' hs' => ∃ w H', v' = .tuple ⟨[w, .int .i64 (d.read i).2]⟩ ∧ hs' = H' :: H :: r ∧ Own Go.Sx.encB 1 5 w (d.read i).1 H') := by
  refine Fun.enter 22 Tryz.func75 rfl Tryz.ntmps75 rfl ?_
  refine TT.seq (.region (.pures hT 2 rfl (.nil (.seq (.seq (.seq (.region (.pures hT 2 rfl (.call Tryz.call72 rfl rfl rfl rfl (dev_at hd) ?_)))))))))
  rintro v_9 hs_9 ⟨rfl, rfl⟩
  refine OT.pures hT 1 rfl (.nil (.seq (.seq (.region (.pures hT 2 rfl (.nil (.seq (.cond rfl (fun c11 => ?_) (fun c11 => ?_)))))))))
  ·
    have hin : ¬ d.in i := by intro h; unfold Dev.at at c11; rw [if_pos h] at c11; cases c11
    have hat : d.at i = 3 := by unfold Dev.at; rw [if_neg hin]
    have hrd : d.read i = ([], 3) := by unfold Dev.read; rw [if_neg hin]
    rw [hat, hrd]
    refine TT.seq (.region (.pures hT 3 rfl (.nil (.seq (.ret (.of (rs := [.tmp 4, .tmp 5]) [_, _] ([] :: H :: r) rfl (.tmp rfl (.tmp rfl .nil)) sl ?_))))))
    dsimp only [one]
    exact ⟨_, _, rfl, rfl, Own.nil⟩
  ·
    have hin : d.in i := by refine Classical.byContradiction fun h => ?_; unfold Dev.at at c11; rw [if_neg h] at c11; cases c11
    have hrd : d.read i = ((d.sec i).now, 0) := by unfold Dev.read; rw [if_pos hin]
    have hsok := Dev.sec_ok hd.ok hin
    have hs64 := hsok.1
    rw [hrd]
    obtain ⟨b, a, c, K, calls, fu, hpp, hO, hfu, hH⟩ := hd.is
    have hpos := hd.ok.pos
    have hmost := hd.ok.most
    subst hpp
    subst hH
    refine TT.split ?_
    have hin' : 0 ≤ i ∧ i < d.secs.length := hin
    refine TT.skip (.seq (.seq (.region (.pures hT 3 rfl (.load rfl rfl (Ld.slc hT rfl hz rfl) rfl ?_)))))
    refine OT.pures hT 1 rfl (.index hT rfl rfl rfl rfl ro (by omega) (Dev.sec_at hin) rfl (fun ad_18 hel_18 => ?_))
    obtain ⟨eb, eo, rfl, _⟩ := hel_18.at (P := Tryz.prog)
    refine OT.pures hT 1 rfl (.slice_arr 0 64 hT rfl rfl rfl rfl rfl (.inl ⟨rfl, rfl⟩) (.inl ⟨rfl, rfl⟩) (by omega) (by omega) (by omega) rfl (.call Tryz.call57 rfl rfl rfl rfl (bytes_Clone (hel_18.piece (enc' := Go.Sx.encB) (sz' := 1) (ys := (d.sec i).now) (fun _ _ => rfl) 0 (n := 64) (by rw [hs64]) (by omega) (sec_now hsok) (by omega)) (by omega)) ?_))
    rintro v_21 hs_21 ⟨H1, rfl, ho1⟩
    refine OT.pures hT 2 rfl (.nil (.seq (.ret (.of (rs := [.tmp 4, .tmp 5]) [_, _] (H1 :: ([(b, blk [.slice a d.secs.length c, .int .i64 calls, .bool d.fuse.isSome, .int .i64 fu, .bool d.dead] 69 (0, 0))] ++ K) :: r) rfl (.tmp rfl (.tmp rfl .nil)) sl ?_))))
    dsimp only [one]
    exact ⟨_, _, rfl, rfl, ho1⟩

set_option maxHeartbeats 1000000 in
set_option maxRecDepth 100000 in
theorem dev_burns {p : Value} {d : Dev} {H : Chunk} {r : List Chunk} (hd : IsDev 83 69 p d H) (hg : d.gone = false) : Fun Tryz.prog 47 [p] (H :: r) (fun v' hs' => ∃ H', hs' = H' :: r ∧ v' = .tuple ⟨[]⟩ ∧ IsDev 83 69 p d.burn H') := by
  refine Fun.enter 20 Tryz.func47 rfl Tryz.ntmps47 rfl ?_
  obtain ⟨b, a, c, K, calls, fu, hpp, hO, hfu, hH⟩ := hd.is
  have hpos := hd.ok.pos
  have hmost := hd.ok.most
  subst hpp
  subst hH
  refine TT.split (.seq (.seq (.region (.pures hT 3 rfl (.load rfl rfl (Ld.one hT rfl hz rfl) rfl ?_)))))
  refine OT.nil (.seq (.cond rfl (fun c5 => ?_) (fun c5 => ?_)))
  ·
    obtain ⟨n, hn⟩ : ∃ n, d.fuse = some n := by cases hf : d.fuse with | none => rw [hf] at c5; cases c5 | some n => exact ⟨n, rfl⟩
    have hfn := hfu n hn
    have hnm := hd.ok.fuse n hn
    subst hfn
    have hn0 : n ≠ 0 := by intro h; subst h; unfold Dev.gone at hg; rw [hn] at hg; simp at hg
    refine TT.region (.pures hT 3 rfl (.load rfl rfl (Ld.one hT rfl hz rfl) rfl ?_))
    refine OT.pures hT 3 rfl (.store hT rfl rfl rfl rfl pl rfl (Nat.le_of_ble_eq_true rfl) rfl (.inl (Nat.le_refl _)) (cs' := [.slice a d.secs.length c, .int .i64 calls, .bool d.fuse.isSome, .int .i64 (n - 1 : Nat), .bool d.dead]) (by rw [wrap_i64 (by omega) (by omega)]; rw [show (n : Int) - 1 = ((n - 1 : Nat) : Int) by omega]; rfl) ?_)
    refine OT.nil (.seq (.region (.pures hT 3 rfl (.load rfl rfl (Ld.one hT rfl hz rfl) rfl ?_))))
    refine OT.pures hT 3 rfl (.store hT rfl rfl rfl rfl pl rfl (Nat.le_of_ble_eq_true rfl) rfl (.inl (Nat.le_refl _)) (cs' := [.slice a d.secs.length c, .int .i64 (IntKind.i64.wrap (calls + 1)), .bool d.fuse.isSome, .int .i64 (n - 1 : Nat), .bool d.dead]) rfl ?_)
    refine OT.nil (.of (rs := []) [] (([(b, blk [.slice a d.secs.length c, .int .i64 (IntKind.i64.wrap (calls + 1)), .bool d.fuse.isSome, .int .i64 (n - 1 : Nat), .bool d.dead] 69 (0, 0))] ++ K) :: r) rfl .nil sl ?_)
    dsimp only [one]
    exact ⟨_, rfl, rfl, ⟨Dev.burn_ok hd.ok, ⟨b, a, c, K, _, _, rfl, hO, (fun m h => by unfold Dev.burn at h; dsimp only at h; rw [hn] at h; rw [← Option.some.inj h]), by unfold Dev.burn; rw [hn]; rfl⟩⟩⟩
  ·
    have hn : d.fuse = none := by cases hf : d.fuse with | none => rfl | some n => rw [hf] at c5; cases c5
    refine TT.skip (.seq (.region (.pures hT 3 rfl (.load rfl rfl (Ld.one hT rfl hz rfl) rfl ?_))))
    refine OT.pures hT 3 rfl (.store hT rfl rfl rfl rfl pl rfl (Nat.le_of_ble_eq_true rfl) rfl (.inl (Nat.le_refl _)) (cs' := [.slice a d.secs.length c, .int .i64 (IntKind.i64.wrap (calls + 1)), .bool d.fuse.isSome, .int .i64 fu, .bool d.dead]) rfl ?_)
    refine OT.nil (.of (rs := []) [] (([(b, blk [.slice a d.secs.length c, .int .i64 (IntKind.i64.wrap (calls + 1)), .bool d.fuse.isSome, .int .i64 fu, .bool d.dead] 69 (0, 0))] ++ K) :: r) rfl .nil sl ?_)
    dsimp only [one]
    exact ⟨_, rfl, rfl, ⟨Dev.burn_ok hd.ok, ⟨b, a, c, K, _, fu, rfl, hO, (fun m h => by unfold Dev.burn at h; dsimp only at h; rw [hn] at h; cases h), by unfold Dev.burn; rw [hn]; rfl⟩⟩⟩

set_option maxHeartbeats 1000000 in
set_option maxRecDepth 100000 in
theorem dev_Dead {p : Value} {d : Dev} {H : Chunk} {r : List Chunk} (hd : IsDev 83 69 p d H) : Fun Tryz.prog 42 [p] (H :: r) (fun v' hs' => v' = .bool d.gone ∧ H :: r = hs') := by
  refine Fun.enter 24 Tryz.func42 rfl Tryz.ntmps42 rfl ?_
  obtain ⟨b, a, c, K, calls, fu, hpp, hO, hfu, hH⟩ := hd.is
  have hpos := hd.ok.pos
  have hmost := hd.ok.most
  subst hpp
  subst hH
  refine TT.split (.seq (.region (.pures hT 1 rfl (.nil (.seq (.seq (.region (.pures hT 3 rfl (.pures hT 3 rfl (.load rfl rfl (Ld.one hT rfl hz rfl) rfl ?_))))))))))
  refine OT.pures hT 2 rfl (.split 11 rfl (fun g11 => ?_) (fun g11 => ?_))
  ·
    refine OT.pures hT 13 rfl (.nil (.seq (.ret (.of (rs := [.tmp 2]) [_] (([(b, blk [.slice a d.secs.length c, .int .i64 calls, .bool d.fuse.isSome, .int .i64 fu, .bool d.dead] 69 (0, 0))] ++ K) :: r) rfl (.tmp rfl .nil) sl ?_))))
    dsimp only [one]
    exact ⟨by unfold Dev.gone; rw [show d.dead = true from g11]; rfl, rfl⟩
  ·
    refine OT.pures hT 3 rfl (.load rfl rfl (Ld.one hT rfl hz rfl) rfl ?_)
    refine OT.pures hT 1 rfl (.split 16 rfl (fun g16 => ?_) (fun g16 => ?_))
    ·
      refine OT.pures hT 3 rfl (.load rfl rfl (Ld.one hT rfl hz rfl) rfl ?_)
      refine OT.pures hT 4 rfl (.nil (.seq (.ret (.of (rs := [.tmp 2]) [_] (([(b, blk [.slice a d.secs.length c, .int .i64 calls, .bool d.fuse.isSome, .int .i64 fu, .bool d.dead] 69 (0, 0))] ++ K) :: r) rfl (.tmp rfl .nil) sl ?_))))
      dsimp only [one]
      refine ⟨?_, rfl⟩
      obtain ⟨n, hn⟩ : ∃ n, d.fuse = some n := by cases hf : d.fuse with | none => rw [hf] at g16; cases g16 | some n => exact ⟨n, rfl⟩
      have hfn := hfu n hn
      subst hfn
      unfold Dev.gone
      rw [show d.dead = false from g11, hn]
      by_cases h0 : n = 0
      · subst h0; rfl
      · rw [show ((n : Int) == 0) = false from beq_eq_false_iff_ne.2 (by omega), show (some n == some 0) = false from beq_eq_false_iff_ne.2 (by simpa using h0)]; rfl
    ·
      refine OT.pures hT 8 rfl (.nil (.seq (.ret (.of (rs := [.tmp 2]) [_] (([(b, blk [.slice a d.secs.length c, .int .i64 calls, .bool d.fuse.isSome, .int .i64 fu, .bool d.dead] 69 (0, 0))] ++ K) :: r) rfl (.tmp rfl .nil) sl ?_))))
      dsimp only [one]
      refine ⟨?_, rfl⟩
      have hn : d.fuse = none := by cases hf : d.fuse with | none => rfl | some n => rw [hf] at g16; cases g16
      unfold Dev.gone
      rw [show d.dead = false from g11, hn]; rfl

end Go.Proofs.YtoalhcodigpgkaaGreatDoor.Sx
end

section
namespace Go.Proofs.YtoalhcodigpgkaaGreatDoor.Sx
open Go Go.Sx Go.Pl
variable [Outer]

set_option maxHeartbeats 1000000 in
set_option maxRecDepth 100000 in
theorem dev_Write {p : Value} {d : Dev} {H : Chunk} {r : List Chunk} (hd : IsDev 83 69 p d H) {i : Int} {vb : Value} {bs : List UInt8} (hr : Row Go.Sx.encB 1 r vb bs) : Fun Tryz.prog 46 [p, .int .i64 i, vb] (H :: r) (fun v' hs' => ∃ H', hs' = H' :: r ∧ v' = .int .i64 (d.write i bs).2 ∧ IsDev 83 69 p (d.write i bs).1 H') := by
  refine Fun.enter 38 Tryz.func46 rfl Tryz.ntmps46 rfl ?_
  obtain ⟨ab, cb, hvb⟩ := hr.len
  subst hvb
  have hmost := hd.ok.most
  have hwok := Dev.write_ok hd.ok i bs
  refine TT.seq (.region (.pures hT 1 rfl (.nil (.seq (.seq (.seq (.region (.pures hT 1 rfl (.call Tryz.call42 rfl rfl rfl rfl (dev_Dead hd) ?_)))))))))
  rintro v_9 hs_9 ⟨rfl, rfl⟩
  refine OT.nil (.seq (.cond rfl (fun c9 => ?_) (fun c9 => ?_)))
  ·
    have hwr : d.write i bs = (d, 5) := by unfold Dev.write; rw [if_pos c9]
    rw [hwr]
    refine TT.seq (.region (.pures hT 1 rfl (.nil (.seq (.ret (.of (rs := [.tmp 6]) [_] (H :: r) rfl (.tmp rfl .nil) sl ?_))))))
    dsimp only [one]
    exact ⟨_, rfl, rfl, hd⟩
  ·
    have hng : ¬ d.gone = true := by rw [show d.gone = false from c9]; decide
    refine TT.skip (.seq (.seq (.seq (.region (.pures hT 2 rfl (.call Tryz.call72 rfl rfl rfl rfl (dev_at hd) ?_))))))
    rintro v_12 hs_12 ⟨rfl, rfl⟩
    refine OT.pures hT 1 rfl (.nil (.seq (.seq (.region (.pures hT 2 rfl (.nil (.seq (.cond rfl (fun c14 => ?_) (fun c14 => ?_)))))))))
    ·
      have hin : ¬ d.in i := by intro h; unfold Dev.at at c14; rw [if_pos h] at c14; cases c14
      have hat : d.at i = 3 := by unfold Dev.at; rw [if_neg hin]
      have hwr : d.write i bs = (d, 3) := by unfold Dev.write; rw [if_neg hng, if_pos hin]
      rw [hat, hwr]
      refine TT.seq (.region (.pures hT 2 rfl (.nil (.seq (.ret (.of (rs := [.tmp 6]) [_] (H :: r) rfl (.tmp rfl .nil) sl ?_))))))
      dsimp only [one]
      exact ⟨_, rfl, rfl, hd⟩
    ·
      have hin : d.in i := by refine Classical.byContradiction fun h => ?_; unfold Dev.at at c14; rw [if_neg h] at c14; cases c14
      have hsok := Dev.sec_ok hd.ok hin
      have hs64 := hsok.1
      have hin' : 0 ≤ i ∧ i < d.secs.length := hin
      refine TT.skip (.seq (.seq (.seq (.region (.pures hT 3 rfl (.nil (.seq (.cond rfl (fun c18 => ?_) (fun c18 => ?_)))))))))
      ·
        have c18 := of_decide_eq_true c18
        have hwr : d.write i bs = (d, 1) := by unfold Dev.write; rw [if_neg hng, if_neg (by simpa using hin), if_pos (by omega)]
        rw [hwr]
        refine TT.seq (.region (.pures hT 1 rfl (.nil (.seq (.ret (.of (rs := [.tmp 6]) [_] (H :: r) rfl (.tmp rfl .nil) sl ?_))))))
        dsimp only [one]
        exact ⟨_, rfl, rfl, hd⟩
      ·
        have c18 := of_decide_eq_false c18
        have hwr : d.write i bs = ({ d.burn with secs := d.secs.set i.toNat ((d.sec i).put bs) }, 0) := by unfold Dev.write; rw [if_neg hng, if_neg (by simpa using hin), if_neg (by omega)]
        rw [hwr] at hwok ⊢
        refine TT.skip (.seq (.seq (.region (.pures hT 1 rfl (.call Tryz.call47 rfl rfl rfl rfl (dev_burns hd c9) ?_)))))
        rintro v_20 hs_20 ⟨H1, rfl, rfl, hd1⟩
        obtain ⟨b, a, c, K, calls, fu, hpp, hO, hfu, hH⟩ := hd1.is
        subst hpp
        subst hH
        refine OT.split_chunk (.nil (.seq (.seq (.region (.pures hT 3 rfl (.load rfl rfl (Ld.slc hT rfl hz rfl) rfl ?_))))))
        refine OT.pures hT 1 rfl (.index_own hT rfl rfl rfl rfl hO (by omega) hin'.2 rfl (fun eb eo ec hv_26 => ?_))
        injection hv_26 with e1 _ e3
        subst e1
        subst e3
        refine OT.pures hT 1 rfl (.slice_arr 0 64 hT rfl rfl rfl rfl rfl (.inl ⟨rfl, rfl⟩) (.inl ⟨rfl, rfl⟩) (by omega) (by omega) (by omega) rfl (.pures hT 1 rfl (.copy_el i.toNat 0 hT rfl rfl rfl rfl pl hO (Dev.sec_at hin) (by omega) ro (by omega) (ones_bytes _) (by rw [List.take_of_length_le (by omega)]; exact splice_now hsok (by omega)) rfl (fun H_30 ho_30 => ?_))))
        refine OT.nil (.seq (.seq (.region (.pures hT 3 rfl (.load rfl rfl (Ld.slc hT rfl hz rfl) rfl ?_)))))
        refine OT.pures hT 1 rfl (.index_own hT rfl rfl rfl rfl ho_30 (by omega) (by rw [List.length_set]; exact hin'.2) rfl (fun eb2 eo2 ec2 hv_36 => ?_))
        injection hv_36 with e1 _ e3
        injection e1 with e1
        injection e1 with e1 e2
        subst e1
        subst e2
        subst e3
        refine OT.pures hT 1 rfl (.store_el i.toNat 128 hT rfl rfl rfl rfl pl ho_30 (List.getElem?_set_self (show i.toNat < d.secs.length by omega)) (by omega) rfl (by decide) rfl (splice_loose (s := ⟨bs ++ (d.sec i).now.drop bs.length, (d.sec i).lasts, (d.sec i).loose⟩) ⟨by rw [List.length_append, List.length_drop]; omega, hsok.2⟩ true) (fun H_w ho_w => ?_))
        refine OT.nil (.seq (.seq (.region (.pures hT 1 rfl (.nil (.seq (.ret (.of (rs := [.tmp 6]) [_] (([(b, blk [.slice (some ⟨eb, eo, none⟩) d.burn.secs.length c, .int .i64 calls, .bool d.burn.fuse.isSome, .int .i64 fu, .bool d.burn.dead] 69 (0, 0))] ++ H_w) :: r) rfl (.tmp rfl .nil) sl ?_))))))))
        dsimp only [one]
        rw [List.set_set] at ho_w
        exact ⟨_, rfl, rfl, IsDev.of hwok (List.length_set ..).symm ho_w hfu rfl rfl⟩

set_option maxHeartbeats 1000000 in
set_option maxRecDepth 100000 in
theorem dev_Flush {p : Value} {d : Dev} {H : Chunk} {r : List Chunk} (hd : IsDev 83 69 p d H) : Fun Tryz.prog 25 [p] (H :: r) (fun v' hs' => ∃ H', hs' = H' :: r ∧ v' = .int .i64 d.flush.2 ∧ IsDev 83 69 p d.flush.1 H') := by
  refine Fun.enter 39 Tryz.func25 rfl Tryz.ntmps25 rfl ?_
  have hmost := hd.ok.most
  have hpos := hd.ok.pos
  have hwok := Dev.flush_ok hd.ok
  refine TT.seq (.region (.pures hT 1 rfl (.nil (.seq (.seq (.seq (.region (.pures hT 1 rfl (.call Tryz.call42 rfl rfl rfl rfl (dev_Dead hd) ?_)))))))))
  rintro v_5 hs_5 ⟨rfl, rfl⟩
  refine OT.nil (.seq (.cond rfl (fun c5 => ?_) (fun c5 => ?_)))
  ·
    have hwr : d.flush = (d, 5) := by unfold Dev.flush; rw [if_pos c5]
    rw [hwr]
    refine TT.seq (.region (.pures hT 1 rfl (.nil (.seq (.ret (.of (rs := [.tmp 2]) [_] (H :: r) rfl (.tmp rfl .nil) sl ?_))))))
    dsimp only [one]
    exact ⟨_, rfl, rfl, hd⟩
  ·
    have hng : ¬ d.gone = true := by rw [show d.gone = false from c5]; decide
    have hwr : d.flush = ({ d.burn with secs := d.secs.map Sec.rest }, 0) := by unfold Dev.flush; rw [if_neg hng]
    rw [hwr] at hwok ⊢
    refine TT.skip (.seq (.seq (.region (.pures hT 1 rfl (.call Tryz.call47 rfl rfl rfl rfl (dev_burns hd c5) ?_)))))
    rintro v_7 hs_7 ⟨H1, rfl, rfl, hd1⟩
    obtain ⟨b, a, c, K, calls, fu, hpp, hO, hfu, hH⟩ := hd1.is
    subst hpp
    subst hH
    refine OT.split_chunk ?_
    obtain ⟨eb, eo, ec, _, _, hva, _⟩ := hO.over hpos
    injection hva with e1 _ e3
    subst e1
    subst e3
    refine OT.nil (.seq (.seq (.seq (.region (.pures hT 3 rfl (.load rfl rfl (Ld.slc hT rfl hz rfl) rfl ?_))))))
    refine OT.pures hT 2 rfl (.nil (.seq (.block (.loop (ι := Nat × Chunk) (fun j => (j.1) ≤ d.secs.length ∧ Own encSec 129 83 (.slice (some ⟨eb, eo, none⟩) d.secs.length c) (restTo d.secs (j.1)) (j.2)) (fun j => d.secs.length - (j.1)) (fun j => [(0, .pointer (some ⟨b, 0, none⟩)), (12, .int .i64 d.secs.length), (13, .int .i64 ((j.1) : Nat))]) (fun j => [(b, blk [.slice (some ⟨eb, eo, none⟩) d.secs.length c, .int .i64 calls, .bool d.burn.fuse.isSome, .int .i64 fu, .bool d.burn.dead] 69 (0, 0))] :: (j.2) :: r) (0, K) ?_ (SubR.cons rfl (SubR.cons rfl (SubR.cons rfl (SubR.nil _)))) sl ?_))))
    · dsimp only
      exact ⟨by omega, by rw [restTo_zero]; exact hO⟩
    rintro ⟨j, W⟩ hI
    dsimp only at hI
    obtain ⟨hj, hW⟩ := hI
    show TT _ _ _ [(0, .pointer (some ⟨b, 0, none⟩)), (12, .int .i64 d.secs.length), (13, .int .i64 (j : Nat))] ([(b, blk [.slice (some ⟨eb, eo, none⟩) d.secs.length c, .int .i64 calls, .bool d.burn.fuse.isSome, .int .i64 fu, .bool d.burn.dead] 69 (0, 0))] :: W :: r)
    refine TT.seq (.region (.pures hT 1 rfl (.nil (.seq (.seq (.cond rfl (fun c14 => ?_) (fun c14 => ?_)))))))
    ·
      have c14 := of_decide_eq_true c14
      obtain ⟨s, hs⟩ := nth (l := d.secs) (i := j) (by omega)
      have hsok := hd.ok.secs s (List.mem_of_getElem? hs)
      have hs64 := hsok.1
      have hat := restTo_at hs
      have hlen := restTo_length d.secs j
      refine TT.skip (.seq (.seq (.block (.seq (.region (.pures hT 2 rfl (.nil (.seq (.draw ([(b, blk [.slice (some ⟨eb, eo, none⟩) d.secs.length c, .int .i64 calls, .bool d.burn.fuse.isSome, .int .i64 fu, .bool d.burn.dead] 69 (0, 0))] :: r) mixed (.takes (fuel := 12) hT [0, 1, 2, 4, 5, 6, 7, 9, 10, 11, 12, 14] kr kr rfl (.take (fuel := 11) hT 3 rfl rfl kr kr kr rfl (.load rfl (Ld.slc hT rfl hz rfl)) rfl ?_)))))))))))
      refine AT.take (fuel := 10) hT 8 rfl rfl kr kr kr rfl (.load rfl (Ld.slc hT rfl hz rfl)) rfl ?_
      refine AT.take (fuel := 9) hT 13 rfl rfl kr kr kr rfl (.load rfl (Ld.slc hT rfl hz rfl)) rfl ?_
      refine AT.op (fuel := 8) 15 kr rfl sl (.index_own hT rfl rfl rfl rfl hW (by omega) (by omega) rfl (fun eb1 eo1 ec1 hv_31 => ?_))
      injection hv_31 with e1 _ e3
      injection e1 with e1
      injection e1 with e1 e2
      subst e1
      subst e2
      subst e3
      refine OT.nil (.any (.takes (fuel := 7) hT [16] kr kr rfl (.op (fuel := 6) 17 kr rfl sl (.load rfl rfl ((hW.el_at (i := ((j : Nat) : Int).toNat) (by rw [Int.toNat_natCast]; exact hat)).there.ld_part hT rfl 0 (sec_now hsok) (by decide)) rfl (.nil (.any (.op (fuel := 5) 18 kr rfl sl (.index_own hT rfl rfl rfl rfl hW (by omega) (by omega) rfl (fun eb2 eo2 ec2 hv_34 => ?_)))))))))
      injection hv_34 with e1 _ e3
      injection e1 with e1
      injection e1 with e1 e2
      subst e1
      subst e2
      subst e3
      refine OT.nil (.any (.takes (fuel := 4) hT [19] kr kr rfl (.op (fuel := 3) 20 kr rfl sl (.store_el j 64 hT rfl rfl rfl rfl pl hW hat (by omega) (by show (s.now.flatMap Go.Sx.encB).length = 64 * 1; rw [length_bytes, hs64]) (by decide) (by exact ones_bytes _) (by exact splice_lasts hsok hs64) (fun H_x ho_x => ?_)))))
      refine OT.nil (.any (.op (fuel := 2) 21 kr rfl sl (.index_own hT rfl rfl rfl rfl ho_x (by omega) (by rw [List.length_set]; omega) rfl (fun eb3 eo3 ec3 hv_36 => ?_))))
      injection hv_36 with e1 _ e3
      injection e1 with e1
      injection e1 with e1 e2
      subst e1
      subst e2
      subst e3
      refine OT.nil (.any (.takes (fuel := 1) hT [22] kr kr rfl (.op (fuel := 0) 23 kr rfl sl (.store_el j 128 hT rfl rfl rfl rfl pl ho_x (List.getElem?_set_self (by omega)) (by omega) rfl (by decide) rfl (splice_loose (s := ⟨s.now, s.now, s.loose⟩) ⟨hs64, hs64⟩ false) (fun H_y ho_y => ?_)))))
      refine OT.nil (.any (.done kr sl (.blk (.seq (.region (.pures hT 2 rfl (.nil ?_)))))))
      rw [List.set_set] at ho_y
      have ho_y := (restTo_set hs) ▸ ho_y
      refine KT.loop (j + 1, H_y) ?_ ?_ (SubR.cons rfl (SubR.cons rfl (SubR.cons' rfl (by (try dsimp only); exact (int_eq (by rw [wrap_i64 (by omega) (by omega)]; omega))) (SubR.nil _)))) sl
      · dsimp only
        exact ⟨by omega, ho_y⟩
      · dsimp only
        omega
    ·
      have c14 := of_decide_eq_false c14
      obtain rfl : j = d.secs.length := by omega
      rw [restTo_all] at hW
      refine TT.exit (.seq (.loop (.here (.seq (.seq (.region (.pures hT 1 rfl (.nil (.seq (.ret (.of (rs := [.tmp 2]) [_] (([(b, blk [.slice (some ⟨eb, eo, none⟩) d.secs.length c, .int .i64 calls, .bool d.burn.fuse.isSome, .int .i64 fu, .bool d.burn.dead] 69 (0, 0))] ++ W) :: r) rfl (.tmp rfl .nil) sl ?_)))))))))))
      dsimp only [one]
      exact ⟨_, rfl, rfl, IsDev.of hwok (List.length_map ..).symm hW hfu rfl rfl⟩

set_option maxHeartbeats 1000000 in
set_option maxRecDepth 100000 in
theorem dev_Fuse {p : Value} {d : Dev} {H : Chunk} {r : List Chunk} (hd : IsDev 83 69 p d H) {n : Int} (hn : n ≤ 9223372036854775807) : Fun Tryz.prog 19 [p, .int .i64 n] (H :: r) (fun v' hs' => ∃ H', hs' = H' :: r ∧ v' = .tuple ⟨[]⟩ ∧ IsDev 83 69 p (d.light n) H') := by
  refine Fun.enter 25 Tryz.func19 rfl Tryz.ntmps19 rfl ?_
  have hwok := Dev.light_ok hd.ok hn
  obtain ⟨b, a, c, K, calls, fu, hpp, hO, hfu, hH⟩ := hd.is
  have hpos := hd.ok.pos
  have hmost := hd.ok.most
  subst hpp
  subst hH
  refine TT.seq (.region (.pures hT 2 rfl (.nil (.seq (.cond_true rfl (.seq (.region (.pures hT 2 rfl (.call Tryz.call42 rfl rfl rfl rfl (dev_Dead hd) ?_)))))))))
  rintro v_8 hs_8 ⟨rfl, rfl⟩
  refine OT.split_chunk (.pures hT 1 rfl (.split 9 rfl (fun g9 => ?_) (fun g9 => ?_)))
  ·
    refine OT.pures hT 5 rfl (.store hT rfl rfl rfl rfl pl rfl (Nat.le_of_ble_eq_true rfl) rfl (.inl (Nat.le_refl _)) (cs' := [.slice a d.secs.length c, .int .i64 calls, .bool d.fuse.isSome, .int .i64 fu, .bool (d.gone || n == 0)]) (by rw [show d.gone = _ from g9]; rfl) ?_)
    refine OT.nil (.seq (.region (.pures hT 8 rfl (.store hT rfl rfl rfl rfl pl rfl (Nat.le_of_ble_eq_true rfl) rfl (.inl (Nat.le_refl _)) (cs' := [.slice a d.secs.length c, .int .i64 calls, .bool (decide (n ≥ 0)), .int .i64 fu, .bool (d.gone || n == 0)]) rfl ?_))))
    refine OT.pures hT 2 rfl (.store hT rfl rfl rfl rfl pl rfl (Nat.le_of_ble_eq_true rfl) rfl (.inl (Nat.le_refl _)) (cs' := [.slice a d.secs.length c, .int .i64 calls, .bool (decide (n ≥ 0)), .int .i64 (max n 0), .bool (d.gone || n == 0)]) rfl ?_)
    refine OT.nil (.of (rs := []) [] (([(b, blk [.slice a d.secs.length c, .int .i64 calls, .bool (decide (n ≥ 0)), .int .i64 (max n 0), .bool (d.gone || n == 0)] 69 (0, 0))] ++ K) :: r) rfl .nil sl ?_)
    dsimp only [one]
    refine ⟨_, rfl, rfl, IsDev.of hwok rfl hO (fun m h => ?_) ?_ rfl⟩
    · unfold Dev.light at h
      dsimp only at h
      split at h
      · have := Option.some.inj h; omega
      · cases h
    · unfold Dev.light
      dsimp only
      by_cases h : 0 ≤ n
      · rw [if_pos h, decide_eq_true h]; rfl
      · rw [if_neg h, decide_eq_false h]; rfl
  ·
    refine OT.pures hT 5 rfl (.store hT rfl rfl rfl rfl pl rfl (Nat.le_of_ble_eq_true rfl) rfl (.inl (Nat.le_refl _)) (cs' := [.slice a d.secs.length c, .int .i64 calls, .bool d.fuse.isSome, .int .i64 fu, .bool (d.gone || n == 0)]) (by rw [show d.gone = _ from g9]; rfl) ?_)
    refine OT.nil (.seq (.region (.pures hT 8 rfl (.store hT rfl rfl rfl rfl pl rfl (Nat.le_of_ble_eq_true rfl) rfl (.inl (Nat.le_refl _)) (cs' := [.slice a d.secs.length c, .int .i64 calls, .bool (decide (n ≥ 0)), .int .i64 fu, .bool (d.gone || n == 0)]) rfl ?_))))
    refine OT.pures hT 2 rfl (.store hT rfl rfl rfl rfl pl rfl (Nat.le_of_ble_eq_true rfl) rfl (.inl (Nat.le_refl _)) (cs' := [.slice a d.secs.length c, .int .i64 calls, .bool (decide (n ≥ 0)), .int .i64 (max n 0), .bool (d.gone || n == 0)]) rfl ?_)
    refine OT.nil (.of (rs := []) [] (([(b, blk [.slice a d.secs.length c, .int .i64 calls, .bool (decide (n ≥ 0)), .int .i64 (max n 0), .bool (d.gone || n == 0)] 69 (0, 0))] ++ K) :: r) rfl .nil sl ?_)
    dsimp only [one]
    refine ⟨_, rfl, rfl, IsDev.of hwok rfl hO (fun m h => ?_) ?_ rfl⟩
    · unfold Dev.light at h
      dsimp only at h
      split at h
      · have := Option.some.inj h; omega
      · cases h
    · unfold Dev.light
      dsimp only
      by_cases h : 0 ≤ n
      · rw [if_pos h, decide_eq_true h]; rfl
      · rw [if_neg h, decide_eq_false h]; rfl

end Go.Proofs.YtoalhcodigpgkaaGreatDoor.Sx
end

section
namespace Go.Proofs.YtoalhcodigpgkaaGreatDoor.Sx
open Go Go.Sx Go.Pl
variable [Outer]

set_option maxHeartbeats 1000000 in
set_option maxRecDepth 100000 in
theorem dev_Crash {p : Value} {d : Dev} {H : Chunk} {r : List Chunk} (hd : IsDev 83 69 p d H) {vk : Value} {ks : List Bool} (hk : Row Go.Sx.encBool 1 r vk ks) : Fun Tryz.prog 20 [p, vk] (H :: r) (fun v' hs' => ∃ H', hs' = H' :: H :: r ∧ IsDev 83 69 v' (d.crash ks) H') := by
  refine Fun.enter 57 Tryz.func20 rfl Tryz.ntmps20 rfl ?_
  obtain ⟨ak, ck, hvk⟩ := hk.len
  subst hvk
  have hwok := Dev.crash_ok hd.ok ks
  obtain ⟨b, a, c, K, calls, fu, hpp, hO, hfu, hH⟩ := hd.is
  have hpos := hd.ok.pos
  have hmost := hd.ok.most
  subst hpp
  subst hH
  refine TT.split (.seq (.region (.pures hT 1 rfl (.nil (.seq (.seq (.seq (.region (.pures hT 2 rfl (.nil (.seq (.cond_false rfl (.skip (.seq (.seq (.region (.pures hT 3 rfl (.load rfl rfl (Ld.slc hT rfl hz rfl) rfl ?_))))))))))))))))))
  refine OT.pures hT 1 rfl (.call Tryz.call7 rfl rfl rfl rfl (dev_New) ?_)
  rintro v_17 hs_17 ⟨H1, rfl, hd1⟩
  obtain ⟨b2, a2, c2, K2, calls2, fu2, hpp, hO2, hfu2, hH⟩ := hd1.is
  subst hpp
  subst hH
  refine OT.split_chunk ?_
  have hnl : (Dev.new d.secs.length).secs = List.replicate d.secs.length sec0 := by unfold Dev.new; rw [show (min (max (d.secs.length : Int) 1) 2048).toNat = d.secs.length by omega]
  have hnl' : (Dev.new d.secs.length).secs.length = d.secs.length := by rw [hnl, List.length_replicate]
  rw [hnl'] at hO2 ⊢
  rw [hnl] at hO2
  obtain ⟨eb, eo, ec, _, _, hva, _⟩ := hO2.over (by rw [List.length_replicate]; omega)
  injection hva with e1 _ e3
  subst e1
  subst e3
  refine OT.pures hT 1 rfl (.nil (.seq (.seq (.region (.pures hT 1 rfl (.nil (.seq (.seq (.seq (.region (.pures hT 3 rfl (.load rfl rfl (Ld.slc hT rfl hz rfl) rfl ?_))))))))))))
  refine OT.pures hT 2 rfl (.nil (.seq (.block (.loop (ι := Nat × Chunk) (fun j => (j.1) ≤ d.secs.length ∧ Own encSec 129 83 (.slice (some ⟨eb, eo, none⟩) d.secs.length c2) (crashTo ks d.secs (j.1)) (j.2)) (fun j => d.secs.length - (j.1)) (fun j => [(0, .pointer (some ⟨b, 0, none⟩)), (1, .slice ak ks.length ck), (5, .pointer (some ⟨b2, 0, none⟩)), (6, .int .i64 (looseN (d.secs.take (j.1)) : Nat)), (21, .slice a d.secs.length c), (22, .int .i64 d.secs.length), (23, .int .i64 ((j.1) : Nat))]) (fun j => [(b2, blk [.slice (some ⟨eb, eo, none⟩) d.secs.length c2, .int .i64 calls2, .bool false, .int .i64 fu2, .bool false] 69 (0, 0))] :: (j.2) :: [(b, blk [.slice a d.secs.length c, .int .i64 calls, .bool d.fuse.isSome, .int .i64 fu, .bool d.dead] 69 (0, 0))] :: K :: r) (0, K2) ?_ (SubR.cons rfl (SubR.cons rfl (SubR.cons rfl (SubR.cons' rfl (by (try dsimp only); exact (rfl)) (SubR.cons rfl (SubR.cons rfl (SubR.cons rfl (SubR.nil _)))))))) sl ?_))))
  · dsimp only
    exact ⟨by omega, by rw [crashTo_zero]; exact hO2⟩
  rintro ⟨i, W⟩ hI
  dsimp only at hI
  obtain ⟨hi, hW⟩ := hI
  show TT _ _ _ [(0, .pointer (some ⟨b, 0, none⟩)), (1, .slice ak ks.length ck), (5, .pointer (some ⟨b2, 0, none⟩)), (6, .int .i64 (looseN (d.secs.take i) : Nat)), (21, .slice a d.secs.length c), (22, .int .i64 d.secs.length), (23, .int .i64 (i : Nat))] ([(b2, blk [.slice (some ⟨eb, eo, none⟩) d.secs.length c2, .int .i64 calls2, .bool false, .int .i64 fu2, .bool false] 69 (0, 0))] :: W :: [(b, blk [.slice a d.secs.length c, .int .i64 calls, .bool d.fuse.isSome, .int .i64 fu, .bool d.dead] 69 (0, 0))] :: K :: r)
  refine TT.seq (.region (.pures hT 1 rfl (.nil (.seq (.seq (.cond rfl (fun c24 => ?_) (fun c24 => ?_)))))))
  ·
    have c24 := of_decide_eq_true c24
    obtain ⟨s, hs⟩ := nth (l := d.secs) (i := i) (by omega)
    have hsok := hd.ok.secs s (List.mem_of_getElem? hs)
    have hs64 := hsok.1
    have hl64 := hsok.2
    have hat := crashTo_at ks (l := d.secs) (i := i) (by omega)
    have hlen := crashTo_length ks (l := d.secs) hi
    have hnx := looseN_snoc hs
    have hlo := looseN_le (d.secs.take (i + 1))
    have hlo2 := List.length_take_le (i + 1) d.secs
    refine TT.skip (.seq (.seq (.block (.seq (.region (.pures hT 1 rfl (.index hT rfl rfl rfl rfl ro (by omega) hs rfl (fun ad_26 hel_26 => ?_))))))))
    refine OT.load rfl rfl (hel_26.ld_struct hT rfl) rfl (.alloc Tryz.zeroValue83 rfl rfl (fun b_8 => ?_))
    refine OT.pures hT 1 rfl (.store_all hT rfl rfl rfl rfl pl (by exact length_sec hsok) rfl (by exact ones_sec s) (.inl (Nat.le_refl _)) ?_)
    refine OT.nil (.seq (.seq (.region (.pures hT 1 rfl (.load rfl rfl (Ld.arr (b := b_8) (o := 0 + 64) hT rfl hz (sec_lasts hsok) (by rw [length_bytes, hl64])) rfl ?_)))))
    refine OT.alloc Tryz.zeroValue81 rfl rfl (fun b_9 => ?_)
    refine OT.store_all hT rfl rfl rfl rfl pl (by show (s.lasts.flatMap Go.Sx.encB).length = 64 * 1; rw [length_bytes, hl64]) rfl (by exact ones_bytes _) (.inl (Nat.le_refl _)) ?_
    refine OT.nil (.seq (.cut (ι := (List UInt8) × Nat) (fun j => (j.1).length = 64 ∧ crashSecs ks [s] (looseN (d.secs.take i)) = [⟨(j.1), (j.1), false⟩] ∧ (j.2) = looseN (d.secs.take (i + 1))) (fun j => [(0, .pointer (some ⟨b, 0, none⟩)), (1, .slice ak ks.length ck), (5, .pointer (some ⟨b2, 0, none⟩)), (6, .int .i64 ((j.2) : Nat)), (7, .int .i64 (i : Nat)), (9, .pointer (some ⟨b_9, 0, none⟩)), (21, .slice a d.secs.length c), (22, .int .i64 d.secs.length), (23, .int .i64 (i : Nat))]) (fun j => [(b_9, blk ((j.1).flatMap Go.Sx.encB) 81 (0, 0))] :: [(b2, blk [.slice (some ⟨eb, eo, none⟩) d.secs.length c2, .int .i64 calls2, .bool false, .int .i64 fu2, .bool false] 69 (0, 0))] :: W :: [(b, blk [.slice a d.secs.length c, .int .i64 calls, .bool d.fuse.isSome, .int .i64 fu, .bool d.dead] 69 (0, 0))] :: K :: r) ?_ ?_))
    ·
      refine TT.seq (.region (.pures hT 1 rfl (.load rfl rfl (Ld.one hT rfl hz (sec_loose hsok)) rfl ?_)))
      refine OT.nil (.seq (.cond rfl (fun c31 => ?_) (fun c31 => ?_)))
      ·
        rw [if_pos c31] at hnx
        refine TT.seq (.seq (.region (.pures hT 5 rfl (.split 36 rfl (fun g36 => ?_) (fun g36 => ?_)))))
        ·
          have g36 := of_decide_eq_true g36
          refine OT.pures hT 2 rfl ?_
          obtain ⟨kx, hkx⟩ := nth (l := ks) (i := looseN (d.secs.take i)) (by omega)
          refine OT.index hT rfl rfl rfl rfl ro (by omega) hkx rfl (fun ad_39 hel_39 => ?_)
          refine OT.load rfl rfl (hel_39.ld_one hT rfl rfl) rfl (.pures hT 1 rfl (.nil (.seq (.cond rfl (fun c41 => ?_) (fun c41 => ?_)))))
          ·
            have hkeep : (if ks.getD (looseN (d.secs.take i)) false = true then s.now else s.lasts) = s.now := by rw [List.getD_eq_getElem?_getD, hkx]; exact if_pos c41
            refine TT.region (.pures hT 1 rfl (.load rfl rfl (Ld.arr (b := b_8) (o := 0 + 0) hT rfl hz (sec_now hsok) (by rw [length_bytes, hs64])) rfl ?_))
            refine OT.store_all hT rfl rfl rfl rfl pl (by show (s.now.flatMap Go.Sx.encB).length = 64 * 1; rw [length_bytes, hs64]) (by show (s.lasts.flatMap Go.Sx.encB).length = 64 * 1; rw [length_bytes, hl64]) (by exact ones_bytes _) (.inl (Nat.le_refl _)) ?_
            refine OT.nil (.seq (.region (.pures hT 3 rfl (.nil (.cut (s.now, looseN (d.secs.take i) + 1) ?_ (SubR.cons rfl (SubR.cons rfl (SubR.cons rfl (SubR.cons' rfl (by (try dsimp only); exact (int_eq (by rw [wrap_i64 (by omega) (by omega)]; omega))) (SubR.cons rfl (SubR.cons rfl (SubR.cons rfl (SubR.cons rfl (SubR.cons rfl (SubR.nil _)))))))))) sl)))))
            · dsimp only
              exact ⟨hs64, by unfold crashSecs; rw [if_pos c31]; dsimp only; rw [hkeep]; rfl, hnx.symm⟩
          ·
            have hkeep : (if ks.getD (looseN (d.secs.take i)) false = true then s.now else s.lasts) = s.lasts := by rw [List.getD_eq_getElem?_getD, hkx]; exact if_neg (by rw [show kx = false from c41]; decide)
            refine TT.skip (.seq (.region (.pures hT 3 rfl (.nil (.cut (s.lasts, looseN (d.secs.take i) + 1) ?_ (SubR.cons rfl (SubR.cons rfl (SubR.cons rfl (SubR.cons' rfl (by (try dsimp only); exact (int_eq (by rw [wrap_i64 (by omega) (by omega)]; omega))) (SubR.cons rfl (SubR.cons rfl (SubR.cons rfl (SubR.cons rfl (SubR.cons rfl (SubR.nil _)))))))))) sl)))))
            · dsimp only
              exact ⟨hl64, by unfold crashSecs; rw [if_pos c31]; dsimp only; rw [hkeep]; rfl, hnx.symm⟩
        ·
          have g36 := of_decide_eq_false g36
          have hkeep : (if ks.getD (looseN (d.secs.take i)) false = true then s.now else s.lasts) = s.lasts := by rw [List.getD_eq_getElem?_getD, List.getElem?_eq_none (by omega)]; exact if_neg (by decide)
          refine OT.pures hT 5 rfl (.nil (.seq (.cond_false rfl (.skip (.seq (.region (.pures hT 3 rfl (.nil (.cut (s.lasts, looseN (d.secs.take i) + 1) ?_ (SubR.cons rfl (SubR.cons rfl (SubR.cons rfl (SubR.cons' rfl (by (try dsimp only); exact (int_eq (by rw [wrap_i64 (by omega) (by omega)]; omega))) (SubR.cons rfl (SubR.cons rfl (SubR.cons rfl (SubR.cons rfl (SubR.cons rfl (SubR.nil _)))))))))) sl)))))))))
          · dsimp only
            exact ⟨hl64, by unfold crashSecs; rw [if_pos c31]; dsimp only; rw [hkeep]; rfl, hnx.symm⟩
      ·
        rw [if_neg (by rw [c31]; decide)] at hnx
        refine TT.skip (.cut (s.lasts, looseN (d.secs.take i)) ?_ (SubR.cons rfl (SubR.cons rfl (SubR.cons rfl (SubR.cons rfl (SubR.cons rfl (SubR.cons rfl (SubR.cons rfl (SubR.cons rfl (SubR.cons rfl (SubR.nil _)))))))))) sl)
        · dsimp only
          exact ⟨hl64, by unfold crashSecs; rw [if_neg (by rw [c31]; decide)]; rfl, hnx.symm⟩
    ·
      rintro ⟨x, j2⟩ hI
      dsimp only at hI
      obtain ⟨hx, hcr, hj2⟩ := hI
      show TT _ _ _ [(0, .pointer (some ⟨b, 0, none⟩)), (1, .slice ak ks.length ck), (5, .pointer (some ⟨b2, 0, none⟩)), (6, .int .i64 (j2 : Nat)), (7, .int .i64 (i : Nat)), (9, .pointer (some ⟨b_9, 0, none⟩)), (21, .slice a d.secs.length c), (22, .int .i64 d.secs.length), (23, .int .i64 (i : Nat))] ([(b_9, blk (x.flatMap Go.Sx.encB) 81 (0, 0))] :: [(b2, blk [.slice (some ⟨eb, eo, none⟩) d.secs.length c2, .int .i64 calls2, .bool false, .int .i64 fu2, .bool false] 69 (0, 0))] :: W :: [(b, blk [.slice a d.secs.length c, .int .i64 calls, .bool d.fuse.isSome, .int .i64 fu, .bool d.dead] 69 (0, 0))] :: K :: r)
      refine TT.draw ([(b_9, blk (x.flatMap Go.Sx.encB) 81 (0, 0))] :: [(b2, blk [.slice (some ⟨eb, eo, none⟩) d.secs.length c2, .int .i64 calls2, .bool false, .int .i64 fu2, .bool false] 69 (0, 0))] :: [(b, blk [.slice a d.secs.length c, .int .i64 calls, .bool d.fuse.isSome, .int .i64 fu, .bool d.dead] 69 (0, 0))] :: K :: r) mixed (.takes (fuel := 6) hT [0, 1, 2, 4] kr kr rfl (.take (fuel := 5) hT 3 rfl rfl kr kr kr rfl (.load rfl (Ld.slc hT rfl hz rfl)) rfl ?_))
      refine AT.take (fuel := 4) hT 5 rfl rfl kr kr kr rfl (.load rfl (Ld.arr_all hT rfl hz (by rw [length_bytes, hx]))) rfl ?_
      refine AT.take (fuel := 3) hT 6 rfl rfl kr kr kr rfl (.load rfl (Ld.arr_all hT rfl hz (by rw [length_bytes, hx]))) rfl ?_
      refine AT.op (fuel := 2) 7 kr rfl sl (.build (cs := encSec ⟨x, x, false⟩) hT rfl Tryz.zeroValue83 rfl rfl ((show fillL _ Tryz.zeroCells83.toList _ = _ from (show Tryz.zeroCells83.toList = encSec sec0 by kernel_rfl) ▸ fill_sec hx)) rfl (.nil (.any (.op (fuel := 1) 8 kr rfl sl (.index_own hT rfl rfl rfl rfl hW (by omega) (by omega) rfl (fun eb1 eo1 ec1 hv_54 => ?_))))))
      injection hv_54 with e1 _ e3
      injection e1 with e1
      injection e1 with e1 e2
      subst e1
      subst e2
      subst e3
      refine OT.nil (.any (.op (fuel := 0) 9 kr rfl sl (.store_el i 0 hT rfl rfl rfl rfl pl hW hat (by omega) (by exact length_sec ⟨hx, hx⟩) (by decide) (by exact ones_sec _) (by exact splice_all (length_sec sec0_ok) (length_sec ⟨hx, hx⟩)) (fun H_y ho_y => ?_))))
      refine OT.nil (.any (.done kr sl (.blk (.seq (.region (.pures hT 2 rfl (.nil ?_)))))))
      have ho_y := (crashTo_set ks hs hcr) ▸ ho_y
      subst hj2
      refine KT.loop (i + 1, H_y) ?_ ?_ (SubR.cons rfl (SubR.cons rfl (SubR.cons rfl (SubR.cons rfl (SubR.cons rfl (SubR.cons rfl (SubR.cons' rfl (by (try dsimp only); exact (int_eq (by rw [wrap_i64 (by omega) (by omega)]; omega))) (SubR.nil _)))))))) sl
      · dsimp only
        exact ⟨by omega, ho_y⟩
      · dsimp only
        omega
  ·
    have c24 := of_decide_eq_false c24
    obtain rfl : i = d.secs.length := by omega
    rw [crashTo_all] at hW
    refine TT.exit (.seq (.loop (.here (.seq (.seq (.region (.pures hT 2 rfl (.nil (.seq (.ret (.of (rs := [.tmp 4]) [_] (([(b2, blk [.slice (some ⟨eb, eo, none⟩) d.secs.length c2, .int .i64 calls2, .bool false, .int .i64 fu2, .bool false] 69 (0, 0))] ++ W) :: ([(b, blk [.slice a d.secs.length c, .int .i64 calls, .bool d.fuse.isSome, .int .i64 fu, .bool d.dead] 69 (0, 0))] ++ K) :: r) rfl (.tmp rfl .nil) sl ?_)))))))))))
    dsimp only [one]
    exact ⟨_, rfl, IsDev.of hwok (crash_length ..).symm hW (fun m h => by unfold Dev.crash at h; cases h) rfl rfl⟩

end Go.Proofs.YtoalhcodigpgkaaGreatDoor.Sx
end

section
namespace Go.Proofs.YtoalhcodigpgkaaGreatDoor.Sx
open Go Go.Sx Go.Pl
variable [Outer]

set_option maxHeartbeats 1000000 in
set_option maxRecDepth 100000 in
theorem page_May {no : Int} {hs : List Chunk} : Fun Tryz.prog 45 [.int .i64 no] hs (fun v' hs' => v' = .bool (decide (mayPage no)) ∧ hs = hs') := by
  refine Fun.enter 9 Tryz.func45 rfl Tryz.ntmps45 rfl ?_
  refine TT.seq (.region (.pures hT 1 rfl (.nil (.seq (.seq (.region (.pures hT 3 rfl (.split 5 rfl (fun g5 => ?_) (fun g5 => ?_)))))))))
  ·
    have g5 := of_decide_eq_true g5
    refine OT.pures hT 4 rfl (.nil (.seq (.ret (.of (rs := [.tmp 2]) [_] hs rfl (.tmp rfl .nil) sl ?_))))
    dsimp only [one]
    refine ⟨?_, rfl⟩
    by_cases h : no < 96
    · rw [decide_eq_true h, decide_eq_true (by unfold mayPage; omega)]; rfl
    · rw [decide_eq_false h, decide_eq_false (by unfold mayPage; omega)]; rfl
  ·
    have g5 := of_decide_eq_false g5
    refine OT.pures hT 4 rfl (.nil (.seq (.ret (.of (rs := [.tmp 2]) [_] hs rfl (.tmp rfl .nil) sl ?_))))
    dsimp only [one]
    exact ⟨by rw [decide_eq_false (by unfold mayPage; omega)]; rfl, rfl⟩

set_option maxHeartbeats 1000000 in
set_option maxRecDepth 100000 in
theorem law9_Of {vb : Value} {bs : List UInt8} {r : List Chunk} (hr : Row Go.Sx.encB 1 r vb bs) (hl : bs.length ≤ 256) : Fun Tryz.prog 9 [vb] r (fun v' hs' => ∃ H', hs' = H' :: r ∧ Own Go.Sx.encB 1 5 v' (pageOf bs) H') := by
  refine Fun.enter 9 Tryz.func9 rfl Tryz.ntmps9 rfl ?_
  refine TT.seq (.region (.pures hT 1 rfl (.nil (.seq (.seq (.region ?_))))))
  refine OT.make (enc := Go.Sx.encB) (z0 := (0 : UInt8)) (n := 256) el33 Tryz.zeroValue5 rfl rfl rfl rfl rfl (by omega) rfl (fun v_4 H_4 ho_4 => ?_)
  obtain ⟨eb, eo, ec, _, _, hva, _⟩ := ho_4.over (by simp)
  rw [List.length_replicate] at hva
  subst hva
  obtain ⟨ab, cb, hvb⟩ := hr.len
  subst hvb
  refine OT.pures hT 1 rfl (.nil (.seq (.seq (.region (.pures hT 2 rfl (.copy_own 0 hT rfl rfl rfl rfl pl ho_4 hr.there (by simp; omega) (by simp) (ones_bytes _) rfl (fun H_7 ho_7 => ?_)))))))
  refine OT.nil (.seq (.seq (.region (.pures hT 2 rfl (.nil (.seq (.ret (.of (rs := [.tmp 2]) [_] (H_7 :: r) rfl (.tmp rfl .nil) sl ?_))))))))
  dsimp only [one]
  refine ⟨_, rfl, ?_⟩
  have e : over (List.replicate 256 (0 : UInt8)) 0 (bs.take 256) = pageOf bs := by
    unfold over pageOf noughts
    rw [show bs.take 256 = bs from List.take_of_length_le (by omega), List.take_zero, List.nil_append, Nat.zero_add, List.drop_replicate]
  rw [← e]; exact ho_7

set_option maxHeartbeats 1000000 in
set_option maxRecDepth 100000 in
theorem page_Read {p : Value} {d : Dev} {H : Chunk} {r : List Chunk} (hd : IsDev 83 69 p d H) {no : Int} : Fun Tryz.prog 64 [p, .int .i64 no] (H :: r) (fun v' hs' => ∃ w H', v' = .tuple ⟨[w, .int .i64 (readPage d no).2]⟩ ∧ hs' = H' :: H :: r ∧ Own Go.Sx.encB 1 5 w (readPage d no).1 H') := by
  refine Fun.enter 34 Tryz.func64 rfl Tryz.ntmps64 rfl ?_
  refine TT.seq (.region (.pures hT 2 rfl (.nil (.seq (.seq (.seq (.region (.pures hT 1 rfl (.call Tryz.call45 rfl rfl rfl rfl (page_May) ?_)))))))))
  rintro v_11 hs_11 ⟨rfl, rfl⟩
  refine OT.pures hT 1 rfl (.nil (.seq (.cond rfl (fun c12 => ?_) (fun c12 => ?_))))
  ·
    have c12 : ¬ mayPage no := of_decide_eq_false (by simpa using c12)
    have hrp : readPage d no = ([], 3) := by unfold readPage; rw [if_pos c12]
    rw [hrp]
    refine TT.seq (.region (.pures hT 2 rfl (.nil (.seq (.ret (.of (rs := [.tmp 4, .tmp 5]) [_, _] ([] :: H :: r) rfl (.tmp rfl (.tmp rfl .nil)) sl ?_))))))
    dsimp only [one]
    exact ⟨_, _, rfl, rfl, Own.nil⟩
  ·
    have c12 : mayPage no := of_decide_eq_true (by simpa using c12)
    have c12' : 0 ≤ no ∧ no < 96 := c12
    refine TT.skip (.seq (.seq (.region (.pures hT 1 rfl (.nil (.seq (.seq (.seq (.region (.pures hT 1 rfl (.nil (.seq (.block (.chunk0 (.loop (ι := Nat × Value × Chunk) (fun j => (j.1) ≤ 4 ∧ Own Go.Sx.encB 1 5 (j.2.1) (d.reads (2 + 4 * no) (j.1)) (j.2.2) ∧ (0 < (j.1) → d.in (2 + 4 * no + ((j.1) - 1 : Nat)))) (fun j => 4 - (j.1)) (fun j => [(0, p), (1, .int .i64 no), (6, (j.2.1)), (13, .int .i64 ((j.1) : Nat))]) (fun j => (j.2.2) :: H :: r) (0, .slice none 0 0, []) ?_ (SubR.cons rfl (SubR.cons rfl (SubR.cons rfl (SubR.cons rfl (SubR.nil _))))) sl ?_)))))))))))))))
    · dsimp only
      exact ⟨by omega, Own.nil, by omega⟩
    rintro ⟨k, w, W⟩ hI
    dsimp only at hI
    obtain ⟨hk, hW, hkin⟩ := hI
    show TT _ _ _ [(0, p), (1, .int .i64 no), (6, w), (13, .int .i64 (k : Nat))] (W :: H :: r)
    refine TT.seq (.region (.pures hT 1 rfl (.nil (.seq (.seq (.cond rfl (fun c14 => ?_) (fun c14 => ?_)))))))
    ·
      have c14 := of_decide_eq_true c14
      refine TT.skip (.seq (.seq (.block (.seq (.region (.pures hT 2 rfl (.nil (.seq (.seq (.region (.pures hT 6 rfl (.reg 22 rfl (v := .int .i64 (2 + 4 * no + (k : Nat))) (int_eq (by rw [wrap_i64 (n := 4 * no) (by omega) (by omega), wrap_i64 (n := 2 + 4 * no) (by omega) (by omega), wrap_i64 (by omega) (by omega)])) (.call Tryz.call75 rfl rfl rfl rfl (Fun.pull pl (dev_Read hd)) ?_)))))))))))))
      rintro v_23 hs_23 ⟨w1, H1, rfl, rfl, ho1⟩
      refine OT.pures hT 5 rfl (.nil (.seq (.seq (.seq (.region (.pures hT 2 rfl (.nil (.seq (.cond rfl (fun c27 => ?_) (fun c27 => ?_))))))))))
      ·
        have hin : ¬ d.in (2 + 4 * no + (k : Nat)) := by intro h; unfold Dev.read at c27; rw [if_pos h] at c27; cases c27
        have hrd : d.read (2 + 4 * no + (k : Nat)) = ([], 3) := by unfold Dev.read; rw [if_neg hin]
        have hrp : readPage d no = ([], 3) := by unfold readPage; rw [if_neg (by simpa using c12), if_neg (by unfold Dev.in at hin ⊢; omega)]
        rw [hrp, hrd]
        refine TT.seq (.region (.pures hT 3 rfl (.nil (.seq (.ret (.of (rs := [.tmp 4, .tmp 5]) [_, _] ([] :: H :: r) rfl (.tmp rfl (.tmp rfl .nil)) sl ?_))))))
        dsimp only [one]
        exact ⟨_, _, rfl, rfl, Own.nil⟩
      ·
        have hin : d.in (2 + 4 * no + (k : Nat)) := by refine Classical.byContradiction fun h => ?_; unfold Dev.read at c27; rw [if_neg h] at c27; cases c27
        have hrd : d.read (2 + 4 * no + (k : Nat)) = ((d.sec (2 + 4 * no + (k : Nat))).now, 0) := by unfold Dev.read; rw [if_pos hin]
        rw [hrd] at ho1
        dsimp only at ho1
        have hs64 := (Dev.sec_ok hd.ok hin).1
        have hin' : 0 ≤ 2 + 4 * no + (k : Nat) ∧ 2 + 4 * no + (k : Nat) < d.secs.length := hin
        have hrl := Dev.reads_length hd.ok k (2 + 4 * no) (by omega) (by omega)
        refine TT.skip (.seq (.region (.pures hT 2 rfl ?_)))
        refine OT.append hT el33 rfl rfl rfl rfl pl hW ro (ones_bytes _) (by omega) rfl (fun v_31 H_31 ho_31 => ?_)
        refine OT.pures hT 1 rfl (.nil (.blk (.seq (.region (.pures hT 2 rfl (.nil (.loop (k + 1, v_31, H_31) ?_ ?_ (SubR.cons rfl (SubR.cons rfl (SubR.cons rfl (SubR.cons' rfl (by (try dsimp only); exact (int_eq (by rw [wrap_i64 (by omega) (by omega)]; omega))) (SubR.nil _))))) sl)))))))
        · dsimp only
          exact ⟨by omega, by rw [Dev.reads_snoc]; exact ho_31, fun _ => by rw [Nat.add_sub_cancel]; exact hin⟩
        · dsimp only
          omega
    ·
      have c14 := of_decide_eq_false c14
      refine TT.exit (.seq (.loop (.here (.seq (.seq (.region (.pures hT 3 rfl (.nil (.seq (.ret (.of (rs := [.tmp 4, .tmp 5]) [_, _] (W :: H :: r) rfl (.tmp rfl (.tmp rfl .nil)) sl ?_)))))))))))
      dsimp only [one]
      obtain rfl : k = 4 := by omega
      have hin : d.in (2 + 4 * no + 3) := hkin (by omega)
      have hrp : readPage d no = (d.reads (2 + 4 * no) 4, 0) := by unfold readPage; rw [if_neg (by simpa using c12), if_pos hin]
      rw [hrp]
      exact ⟨_, _, rfl, rfl, hW⟩

set_option maxHeartbeats 1000000 in
set_option maxRecDepth 100000 in
theorem page_Write {p : Value} {d : Dev} {H : Chunk} {r : List Chunk} (hd : IsDev 83 69 p d H) {no : Int} {vb : Value} {bs : List UInt8} (hr : Row Go.Sx.encB 1 r vb bs) : Fun Tryz.prog 24 [p, .int .i64 no, vb] (H :: r) (fun v' hs' => ∃ H', hs' = H' :: r ∧ v' = .int .i64 (writePage d no bs).2 ∧ IsDev 83 69 p (writePage d no bs).1 H') := by
  refine Fun.enter 38 Tryz.func24 rfl Tryz.ntmps24 rfl ?_
  obtain ⟨ab, cb, hvb⟩ := hr.len
  subst hvb
  refine TT.seq (.region (.pures hT 1 rfl (.nil (.seq (.seq (.block (.seq (.region (.pures hT 1 rfl (.call Tryz.call45 rfl rfl rfl rfl (page_May) ?_))))))))))
  rintro v_11 hs_11 ⟨rfl, rfl⟩
  refine OT.pures hT 2 rfl (.nil (.seq (.cond rfl (fun c9 => ?_) (fun c9 => ?_))))
  ·
    have c9 : ¬ mayPage no := of_decide_eq_false (by simpa using c9)
    have hrp : writePage d no bs = (d, 3) := by unfold writePage; rw [if_pos c9]
    rw [hrp]
    refine TT.seq (.region (.pures hT 1 rfl (.nil (.seq (.ret (.of (rs := [.tmp 6]) [_] (H :: r) rfl (.tmp rfl .nil) sl ?_))))))
    dsimp only [one]
    exact ⟨_, rfl, rfl, hd⟩
  ·
    have c9 : mayPage no := of_decide_eq_true (by simpa using c9)
    have c9' : 0 ≤ no ∧ no < 96 := c9
    refine TT.seq (.region (.pures hT 4 rfl (.nil (.seq (.cond rfl (fun c13 => ?_) (fun c13 => ?_))))))
    ·
      have c13 : ¬ bs.length = 256 := by simp at c13; omega
      have hrp : writePage d no bs = (d, 1) := by unfold writePage; rw [if_neg (by simpa using c9), if_pos c13]
      rw [hrp]
      refine TT.seq (.region (.pures hT 1 rfl (.nil (.seq (.ret (.of (rs := [.tmp 6]) [_] (H :: r) rfl (.tmp rfl .nil) sl ?_))))))
      dsimp only [one]
      exact ⟨_, rfl, rfl, hd⟩
    ·
      have c13 : bs.length = 256 := by simp at c13; omega
      have hrp : writePage d no bs = d.writes (2 + 4 * no) (quarters bs) := by unfold writePage; rw [if_neg (by simpa using c9), if_neg (by simpa using c13)]
      rw [hrp]
      refine TT.skip (.blk (.seq (.seq (.seq (.region (.pures hT 1 rfl (.nil (.seq (.block (.loop (ι := Nat × Dev × Chunk) (fun j => (j.1) ≤ 4 ∧ IsDev 83 69 p (j.2.1) (j.2.2) ∧ d.writes (2 + 4 * no) (quarters bs) = (j.2.1).writes (2 + 4 * no + ((j.1) : Nat)) ((quarters bs).drop (j.1))) (fun j => 4 - (j.1)) (fun j => [(0, p), (1, .int .i64 no), (2, .slice ab bs.length cb), (17, .int .i64 ((j.1) : Nat))]) (fun j => (j.2.2) :: r) (0, d, H) ?_ (SubR.cons rfl (SubR.cons rfl (SubR.cons rfl (SubR.cons rfl (SubR.nil _))))) sl ?_))))))))))
      · dsimp only
        exact ⟨by omega, hd, by simp⟩
      rintro ⟨k, d2, W⟩ hI
      dsimp only at hI
      obtain ⟨hk, hW, heq⟩ := hI
      show TT _ _ _ [(0, p), (1, .int .i64 no), (2, .slice ab bs.length cb), (17, .int .i64 (k : Nat))] (W :: r)
      refine TT.seq (.region (.pures hT 1 rfl (.nil (.seq (.seq (.cond rfl (fun c18 => ?_) (fun c18 => ?_)))))))
      ·
        have c18 := of_decide_eq_true c18
        rw [quarters_at c13 (by omega), Dev.writes] at heq
        refine TT.skip (.seq (.seq (.block (.seq (.region (.pures hT 2 rfl (.nil (.seq (.seq (.region (.pures hT 12 rfl (.reg 25 rfl (v := .int .i64 (2 + 4 * no + (k : Nat))) (int_eq (by rw [wrap_i64 (n := 4 * no) (by omega) (by omega), wrap_i64 (n := 2 + 4 * no) (by omega) (by omega), wrap_i64 (by omega) (by omega)])) (.reg 28 rfl (v := .int .i64 ((64 * k : Nat) : Int)) (int_eq (by rw [wrap_i64 (by omega) (by omega)]; omega)) (.reg 31 rfl (v := .int .i64 ((64 * (k + 1) : Nat) : Int)) (int_eq (by rw [wrap_i64 (n := (k : Int) + 1) (by omega) (by omega), wrap_i64 (by omega) (by omega)]; omega)) (.slice_val (64 * k) (64 * (k + 1)) hT rfl rfl rfl rfl rfl (.inr ⟨_, rfl⟩) (.inr ⟨_, rfl⟩) (by omega) (by have := hr.cap_le; omega) rfl ?_)))))))))))))))
        refine OT.call Tryz.call46 rfl rfl rfl rfl (dev_Write hW (hr.sub (L := 64 * k) (M := 64 * (k + 1)) (by omega) (by omega))) ?_
        rintro v_33 hs_33 ⟨H1, rfl, rfl, hd1⟩
        refine OT.pures hT 1 rfl (.nil (.seq (.seq (.region (.pures hT 2 rfl (.nil (.seq (.cond rfl (fun c35 => ?_) (fun c35 => ?_)))))))))
        ·
          rw [if_pos (by simpa using c35)] at heq
          rw [heq]
          refine TT.seq (.region (.pures hT 2 rfl (.nil (.seq (.ret (.of (rs := [.tmp 6]) [_] (H1 :: r) rfl (.tmp rfl .nil) sl ?_))))))
          dsimp only [one]
          exact ⟨_, rfl, rfl, hd1⟩
        ·
          have c35 := by simpa using c35
          rw [if_neg (by omega)] at heq
          refine TT.skip (.blk (.seq (.region (.pures hT 2 rfl (.nil (.loop (k + 1, (d2.write (2 + 4 * no + (k : Nat)) ((bs.take (64 * (k + 1))).drop (64 * k))).1, H1) ?_ ?_ (SubR.cons rfl (SubR.cons rfl (SubR.cons rfl (SubR.cons' rfl (by (try dsimp only); exact (int_eq (by rw [wrap_i64 (by omega) (by omega)]; omega))) (SubR.nil _))))) sl))))))
          · dsimp only
            exact ⟨by omega, hd1, by rw [heq]; congr 1; omega⟩
          · dsimp only
            omega
      ·
        have c18 := of_decide_eq_false c18
        refine TT.exit (.seq (.loop (.here (.seq (.seq (.region (.pures hT 1 rfl (.nil (.seq (.ret (.of (rs := [.tmp 6]) [_] (W :: r) rfl (.tmp rfl .nil) sl ?_)))))))))))
        dsimp only [one]
        obtain rfl : k = 4 := by omega
        rw [heq]
        exact ⟨_, rfl, rfl, hW⟩

end Go.Proofs.YtoalhcodigpgkaaGreatDoor.Sx
end

section
namespace Go.Proofs.YtoalhcodigpgkaaGreatDoor.Sx
open Go Go.Sx Go.Pl
variable [Outer]

set_option maxHeartbeats 1000000 in
set_option maxRecDepth 100000 in
theorem crc_More {x : Int} {v : Value} {bs : List UInt8} {hs : List Chunk} (hr : Row Go.Sx.encB 1 hs v bs) (hl : bs.length ≤ 1073741824) : Fun Tryz.prog 104 [.int .u32 x, v] hs (fun v' hs' => v' = .int .u32 (u32not (crcAll (u32not x) bs)) ∧ hs = hs') := by
  refine Fun.enter 33 Tryz.func104 rfl Tryz.ntmps104 rfl ?_
  obtain ⟨a0, c0, hv⟩ := hr.len
  subst hv
  refine TT.seq (.region (.pures hT 1 rfl (.nil (.seq (.seq (.region (.pures hT 3 rfl (.nil (.seq (.seq (.seq (.region (.pures hT 3 rfl (.nil (.seq (.block (.loop (ι := Nat) (fun j => (j) ≤ bs.length) (fun j => bs.length - (j)) (fun j => [(5, .int .u32 (crcAll (u32not x) (bs.take (j)))), (10, .slice a0 bs.length c0), (11, .int .i64 bs.length), (12, .int .i64 ((j) : Nat))]) (fun j => hs) (0) ?_ (SubR.cons' rfl (by (try dsimp only); exact (rfl)) (SubR.cons rfl (SubR.cons rfl (SubR.cons rfl (SubR.nil _))))) sl ?_)))))))))))))))))
  · omega
  rintro i hi
  show TT _ _ _ [(5, .int .u32 (crcAll (u32not x) (bs.take i))), (10, .slice a0 bs.length c0), (11, .int .i64 bs.length), (12, .int .i64 (i : Nat))] (hs)
  refine TT.seq (.region (.pures hT 1 rfl (.nil (.seq (.seq (.cond rfl (fun c13 => ?_) (fun c13 => ?_)))))))
  ·
    have c13 := of_decide_eq_true c13
    obtain ⟨c, hc⟩ := nth (l := bs) (i := i) (by omega)
    refine TT.skip (.seq (.seq (.block (.seq (.region (.index hT rfl rfl rfl rfl hr (by omega) hc rfl (fun ad_14 hel_14 => ?_)))))))
    refine OT.load rfl rfl (hel_14.ld_one hT rfl rfl) rfl (.pures hT 1 rfl (.nil (.seq (.seq (.region (.pures hT 5 rfl (.nil (.seq (.seq (.region (.pures hT 1 rfl (.nil (.seq (.block (.loop (ι := Nat) (fun j => (j) ≤ 8) (fun j => 8 - (j)) (fun j => [(5, .int .u32 (crcBits (j) (u32xor (crcAll (u32not x) (bs.take i)) (IntKind.u32.wrap c.toNat)))), (10, .slice a0 bs.length c0), (11, .int .i64 bs.length), (12, .int .i64 (i : Nat)), (20, .int .i64 ((j) : Nat))]) (fun j => hs) (0) ?_ (SubR.cons' rfl (by (try dsimp only); exact (rfl)) (SubR.cons rfl (SubR.cons rfl (SubR.cons rfl (SubR.cons rfl (SubR.nil _)))))) sl ?_)))))))))))))))
    · omega
    rintro k hk
    show TT _ _ _ [(5, .int .u32 (crcBits k (u32xor (crcAll (u32not x) (bs.take i)) (IntKind.u32.wrap c.toNat)))), (10, .slice a0 bs.length c0), (11, .int .i64 bs.length), (12, .int .i64 (i : Nat)), (20, .int .i64 (k : Nat))] (hs)
    refine TT.seq (.region (.pures hT 1 rfl (.nil (.seq (.seq (.cond rfl (fun c21 => ?_) (fun c21 => ?_)))))))
    ·
      have c21 := of_decide_eq_true c21
      refine TT.skip (.seq (.seq (.block (.region (.pures hT 8 rfl (.nil (.blk (.seq (.region (.pures hT 2 rfl (.nil (.loop (k + 1) ?_ ?_ (SubR.cons' rfl (by (try dsimp only); exact (rfl)) (SubR.cons rfl (SubR.cons rfl (SubR.cons rfl (SubR.cons' rfl (by (try dsimp only); exact (int_eq (by rw [wrap_i64 (by omega) (by omega)]; omega))) (SubR.nil _)))))) sl))))))))))))
      · omega
      · omega
    ·
      have c21 := of_decide_eq_false c21
      obtain rfl : k = 8 := by omega
      refine TT.exit (.seq (.loop (.here (.blk (.seq (.region (.pures hT 2 rfl (.nil (.loop (i + 1) ?_ ?_ (SubR.cons' rfl (by (try dsimp only); exact (int_eq (by rw [take_succ hc]; unfold crcAll; rw [List.foldl_append]; rfl))) (SubR.cons rfl (SubR.cons rfl (SubR.cons' rfl (by (try dsimp only); exact (int_eq (by rw [wrap_i64 (by omega) (by omega)]; omega))) (SubR.nil _))))) sl)))))))))
      · omega
      · omega
  ·
    have c13 := of_decide_eq_false c13
    obtain rfl : i = bs.length := by omega
    refine TT.exit (.seq (.loop (.here (.seq (.seq (.region (.pures hT 3 rfl (.nil (.seq (.ret (.of (rs := [.tmp 4]) [_] hs rfl (.tmp rfl .nil) sl ?_)))))))))))
    dsimp only [one]
    exact ⟨by rw [List.take_length]; rfl, rfl⟩

set_option maxHeartbeats 1000000 in
set_option maxRecDepth 100000 in
theorem crc_Sum {v : Value} {bs : List UInt8} {hs : List Chunk} (hr : Row Go.Sx.encB 1 hs v bs) (hl : bs.length ≤ 1073741824) : Fun Tryz.prog 87 [v] hs (fun v' hs' => v' = .int .u32 (crcSum bs) ∧ hs = hs') := by
  refine Fun.enter 5 Tryz.func87 rfl Tryz.ntmps87 rfl ?_
  refine TT.seq (.region (.pures hT 1 rfl (.nil (.seq (.seq (.region (.pures hT 1 rfl (.call Tryz.call104 rfl rfl rfl rfl (crc_More hr hl) ?_))))))))
  rintro v_4 hs_4 ⟨rfl, rfl⟩
  refine OT.pures hT 1 rfl (.nil (.seq (.ret (.of (rs := [.tmp 2]) [_] hs rfl (.tmp rfl .nil) sl ?_))))
  dsimp only [one]
  exact ⟨rfl, rfl⟩

set_option maxHeartbeats 1000000 in
set_option maxRecDepth 100000 in
theorem super_put {b o n c q k cap : Nat} {xs : List UInt8} {H : Chunk} {r : List Chunk} {x : Nat} (ho : Own Go.Sx.encB 1 5 (.slice (some ⟨b, o, none⟩) n c) xs H) (hj : q + k ≤ xs.length) (hk : k ≤ 8) (hx : x < 18446744073709551616) : Fun Tryz.prog 89 [.slice (some ⟨b, o + q, none⟩) k cap, .int .u64 (x : Nat)] (H :: r) (fun v' hs' => ∃ H', hs' = H' :: r ∧ v' = .tuple ⟨[]⟩ ∧ Own Go.Sx.encB 1 5 (.slice (some ⟨b, o, none⟩) n c) (over xs q (be k x)) H') := by
  refine Fun.enter 23 Tryz.func89 rfl Tryz.ntmps89 rfl ?_
  refine TT.seq (.region (.pures hT 3 rfl (.nil (.seq (.block (.loop (ι := Nat × Chunk) (fun j => (j.1) ≤ k ∧ Own Go.Sx.encB 1 5 (.slice (some ⟨b, o, none⟩) n c) (over xs (q + (k - (j.1))) (be (j.1) x)) (j.2)) (fun j => k - (j.1)) (fun j => [(0, .slice (some ⟨b, o + q, none⟩) k cap), (1, .int .u64 (x : Nat)), (6, .int .i64 (k : Nat)), (7, .int .i64 ((j.1) : Nat))]) (fun j => (j.2) :: r) (0, H) ?_ (SubR.cons rfl (SubR.cons rfl (SubR.cons rfl (SubR.cons rfl (SubR.nil _))))) sl ?_))))))
  · dsimp only
    exact ⟨by omega, by show Own _ _ _ _ (over _ _ []) _; rw [over_nil]; exact ho⟩
  rintro ⟨i, W⟩ hI
  dsimp only at hI
  obtain ⟨hi, hW⟩ := hI
  show TT _ _ _ [(0, .slice (some ⟨b, o + q, none⟩) k cap), (1, .int .u64 (x : Nat)), (6, .int .i64 (k : Nat)), (7, .int .i64 (i : Nat))] (W :: r)
  refine TT.seq (.region (.pures hT 1 rfl (.nil (.seq (.seq (.cond rfl (fun c8 => ?_) (fun c8 => ?_)))))))
  ·
    have c8 := of_decide_eq_true c8
    have hol : (over xs (q + (k - i)) (be i x)).length = xs.length := length_over (by rw [be_length]; omega)
    obtain ⟨z, hz⟩ := nth (l := over xs (q + (k - i)) (be i x)) (i := q + (k - 1 - i)) (by omega)
    refine TT.skip (.seq (.seq (.block (.seq (.region (.pures hT 2 rfl (.nil (.seq (.region (.pures hT 9 rfl (.reg 15 rfl (v := .int .i64 ((k - 1 - i : Nat) : Int)) (int_eq (by rw [wrap_i64 (n := (k : Int) - 1) (by omega) (by omega), wrap_i64 (by omega) (by omega)]; omega)) (.reg 18 rfl (v := .int .i64 ((8 * i : Nat) : Int)) (int_eq (by rw [wrap_i64 (by omega) (by omega)]; omega)) (.shr hT rfl rfl rfl (by omega) rfl (.pures hT 1 rfl (.reg 20 rfl (v := .int .u8 ((UInt8.ofNat (x / 256 ^ i)).toNat : Int)) (int_eq (by rw [shr8 (by omega), byte_of])) (.index_raw hT rfl rfl rfl rfl (by omega) (by omega) rfl (.store_el (q + (k - 1 - i)) 0 hT rfl rfl rfl rfl pl hW hz (by omega) rfl (by decide) rfl (z' := UInt8.ofNat (x / 256 ^ i)) (by rfl) (fun H_y ho_y => ?_))))))))))))))))))
    refine OT.nil (.blk (.seq (.region (.pures hT 2 rfl (.nil ?_)))))
    have hW2 : Own Go.Sx.encB 1 5 (.slice (some ⟨b, o, none⟩) n c) (over xs (q + (k - (i + 1))) (be (i + 1) x)) H_y := by
      have e := over_step (xs := xs) (l := be i x) (p := q + (k - (i + 1))) (c := UInt8.ofNat (x / 256 ^ i)) (by rw [be_length]; omega)
      rw [show q + (k - (i + 1)) + 1 = q + (k - i) by omega, show q + (k - (i + 1)) = q + (k - 1 - i) by omega] at e
      rw [show q + (k - (i + 1)) = q + (k - 1 - i) by omega]
      exact e ▸ ho_y
    refine KT.loop (i + 1, H_y) ?_ ?_ (SubR.cons rfl (SubR.cons rfl (SubR.cons rfl (SubR.cons' rfl (by (try dsimp only); exact (int_eq (by rw [wrap_i64 (by omega) (by omega)]; omega))) (SubR.nil _))))) sl
    · dsimp only
      exact ⟨by omega, hW2⟩
    · dsimp only
      omega
  ·
    have c8 := of_decide_eq_false c8
    obtain rfl : i = k := by omega
    refine TT.exit (.seq (.loop (.here (.of (rs := []) [] (W :: r) rfl .nil sl ?_))))
    dsimp only [one]
    exact ⟨_, rfl, rfl, by rw [Nat.sub_self, Nat.add_zero] at hW; exact hW⟩

set_option maxHeartbeats 1000000 in
set_option maxRecDepth 100000 in
theorem super_get {v : Value} {bs : List UInt8} {hs : List Chunk} (hr : Row Go.Sx.encB 1 hs v bs) (hl : bs.length ≤ 8) : Fun Tryz.prog 86 [v] hs (fun v' hs' => v' = .int .u64 (fromBe bs : Nat) ∧ hs = hs') := by
  refine Fun.enter 19 Tryz.func86 rfl Tryz.ntmps86 rfl ?_
  obtain ⟨a0, c0, hv⟩ := hr.len
  subst hv
  refine TT.seq (.region (.pures hT 1 rfl (.nil (.seq (.seq (.region (.pures hT 1 rfl (.nil (.seq (.seq (.seq (.region (.pures hT 3 rfl (.nil (.seq (.block (.loop (ι := Nat) (fun j => (j) ≤ bs.length) (fun j => bs.length - (j)) (fun j => [(3, .int .u64 (fromBe (bs.take (j)) : Nat)), (6, .slice a0 bs.length c0), (7, .int .i64 bs.length), (8, .int .i64 ((j) : Nat))]) (fun j => hs) (0) ?_ (SubR.cons' rfl (by (try dsimp only); exact (rfl)) (SubR.cons rfl (SubR.cons rfl (SubR.cons rfl (SubR.nil _))))) sl ?_)))))))))))))))))
  · omega
  rintro i hi
  show TT _ _ _ [(3, .int .u64 (fromBe (bs.take i) : Nat)), (6, .slice a0 bs.length c0), (7, .int .i64 bs.length), (8, .int .i64 (i : Nat))] (hs)
  refine TT.seq (.region (.pures hT 1 rfl (.nil (.seq (.seq (.cond rfl (fun c9 => ?_) (fun c9 => ?_)))))))
  ·
    have c9 := of_decide_eq_true c9
    obtain ⟨c, hc⟩ := nth (l := bs) (i := i) (by omega)
    have hlt := fromBe_lt (bs.take i)
    have hlt : fromBe (bs.take i) < 72057594037927936 := Nat.lt_of_lt_of_le hlt (Nat.le_trans (Nat.pow_le_pow_right (by omega) (show (bs.take i).length ≤ 7 by rw [List.length_take]; omega)) (by decide))
    refine TT.skip (.seq (.seq (.block (.seq (.region (.index hT rfl rfl rfl rfl hr (by omega) hc rfl (fun ad_10 hel_10 => ?_)))))))
    refine OT.load rfl rfl (hel_10.ld_one hT rfl rfl) rfl (.pures hT 1 rfl (.nil (.seq (.region (.pures hT 6 rfl (.nil (.blk (.seq (.region (.pures hT 2 rfl (.nil (.loop (i + 1) ?_ ?_ (SubR.cons' rfl (by (try dsimp only); exact (int_eq (by rw [shl8or (by omega), take_succ hc, fromBe_snoc]))) (SubR.cons rfl (SubR.cons rfl (SubR.cons' rfl (by (try dsimp only); exact (int_eq (by rw [wrap_i64 (by omega) (by omega)]; omega))) (SubR.nil _))))) sl))))))))))))
    · omega
    · omega
  ·
    have c9 := of_decide_eq_false c9
    obtain rfl : i = bs.length := by omega
    refine TT.exit (.seq (.loop (.here (.seq (.seq (.region (.pures hT 2 rfl (.nil (.seq (.ret (.of (rs := [.tmp 2]) [_] hs rfl (.tmp rfl .nil) sl ?_)))))))))))
    dsimp only [one]
    exact ⟨by rw [List.take_length], rfl⟩

set_option maxHeartbeats 1000000 in
set_option maxRecDepth 100000 in
theorem super_there {p : Value} {d : Dev} {H : Chunk} {r : List Chunk} (hd : IsDev 83 69 p d H) {i : Int} (hi : -4611686018427387904 ≤ i ∧ i ≤ 4611686018427387904) : Fun Tryz.prog 73 [p, .int .i64 i] (H :: r) (fun v' hs' => v' = .bool (decide (0 ≤ i ∧ i < (d.secs.length : Int) - 1)) ∧ H :: r = hs') := by
  refine Fun.enter 14 Tryz.func73 rfl Tryz.ntmps73 rfl ?_
  have hmost := hd.ok.most
  refine TT.seq (.region (.pures hT 1 rfl (.nil (.seq (.seq (.region (.pures hT 3 rfl (.split 7 rfl (fun g7 => ?_) (fun g7 => ?_)))))))))
  ·
    have g7 := of_decide_eq_true g7
    refine OT.pures hT 2 rfl (.call Tryz.call23 rfl rfl rfl rfl (dev_Len hd) ?_)
    rintro v_10 hs_10 ⟨rfl, rfl⟩
    refine OT.pures hT 4 rfl (.nil (.seq (.ret (.of (rs := [.tmp 4]) [_] (H :: r) rfl (.tmp rfl .nil) sl ?_))))
    dsimp only [one]
    refine ⟨?_, rfl⟩
    rw [wrap_i64 (by omega) (by omega)]
    by_cases h : i < (d.secs.length : Int) - 1
    · rw [decide_eq_true h, decide_eq_true (by omega)]; rfl
    · rw [decide_eq_false h, decide_eq_false (by omega)]; rfl
  ·
    have g7 := of_decide_eq_false g7
    refine OT.pures hT 7 rfl (.nil (.seq (.ret (.of (rs := [.tmp 4]) [_] (H :: r) rfl (.tmp rfl .nil) sl ?_))))
    dsimp only [one]
    exact ⟨by rw [decide_eq_false (by omega)]; rfl, rfl⟩

end Go.Proofs.YtoalhcodigpgkaaGreatDoor.Sx
end

section
namespace Go.Proofs.YtoalhcodigpgkaaGreatDoor.Sx
open Go Go.Sx Go.Pl
variable [Outer]

set_option maxHeartbeats 2000000 in
set_option maxRecDepth 100000 in
theorem super_write {ps pd : Value} {at_ : Int} {s : Sup} {d : Dev} {HS HD : Chunk} {r : List Chunk} (hS : IsSup 5 125 ps pd at_ s HS) (hd : IsDev 83 69 pd d HD) (hat0 : 0 ≤ at_) (hat1 : at_ ≤ 1099511627776) {slot : Int} {n : Nat} {vb : Value} {bs : List UInt8} (hsl : 0 ≤ slot ∧ slot ≤ 1) (hn : n ≤ 4611686018427387905) (hr : Row Go.Sx.encB 1 r vb bs) (hl : bs.length ≤ 40) : Fun Tryz.prog 74 [ps, .int .i64 slot, .int .i64 (n : Nat), vb] (HS :: HD :: r) (fun v' hs' => ∃ HS' HD', hs' = HS' :: HD' :: r ∧ v' = .int .i64 (supWrite s d at_ slot n bs).2.2 ∧ IsSup 5 125 ps pd at_ (supWrite s d at_ slot n bs).1 HS' ∧ IsDev 83 69 pd (supWrite s d at_ slot n bs).2.1 HD') := by
  refine Fun.enter 70 Tryz.func74 rfl Tryz.ntmps74 rfl ?_
  obtain ⟨ab, cb, hvb⟩ := hr.len
  subst hvb
  have hbl := supBody_length (n := n) (b := bs) (by omega)
  have hsl64 := supSec_length (n := n) (b := bs) (by omega)
  have hcr := crcSum_range (supBody n bs)
  obtain ⟨b, v, K, hpp, hTx, hone, hHS⟩ := hS.is
  subst hpp
  subst hHS
  refine TT.split (.seq (.region (.pures hT 1 rfl (.nil (.seq (.seq (.region ?_)))))))
  refine OT.make (enc := Go.Sx.encB) (z0 := (0 : UInt8)) (n := 64) el33 Tryz.zeroValue5 rfl rfl rfl rfl rfl (by omega) rfl (fun v_12 H_12 ho_12 => ?_)
  obtain ⟨eb, eo, ec, _, _, hva, _, _, _, _, hec, _⟩ := ho_12.over (by simp)
  rw [List.length_replicate] at hva hec
  subst hva
  refine OT.pures hT 1 rfl (.nil (.seq (.seq (.region (.pures hT 1 rfl (.slice_own 4 12 hT rfl rfl rfl rfl rfl (.inr ⟨_, rfl⟩) (.inr ⟨_, rfl⟩) (by omega) (by omega) (by omega) rfl (.pures hT 2 rfl (.reg 16 rfl (v := .int .u64 (n : Nat)) (int_eq (wrap_u64 (by omega) (by omega))) (.call Tryz.call89 rfl rfl rfl rfl (Fun.pull pl (super_put (q := 4) (k := 8) ho_12 (by simp) (by omega) (by omega))) ?_)))))))))
  rintro v_17 hs_17 ⟨H1, rfl, rfl, ho1⟩
  have hl1 : (over (List.replicate 64 (0 : UInt8)) 4 (be 8 n)).length = 64 := by rw [length_over (by rw [be_length]; simp)]; simp
  refine OT.nil (.seq (.seq (.region (.pures hT 4 rfl (.reg 21 rfl (v := .int .u8 ((UInt8.ofNat bs.length).toNat : Int)) (int_eq (byte_of _)) (.index_raw hT rfl rfl rfl rfl (by omega) (by omega) rfl ?_))))))
  obtain ⟨z, hzz⟩ := nth (l := over (List.replicate 64 (0 : UInt8)) 4 (be 8 n)) (i := 12) (by omega)
  refine OT.store_el 12 0 hT rfl rfl rfl rfl pl ho1 hzz (by rfl) rfl (by decide) rfl (z' := UInt8.ofNat bs.length) (by rfl) (fun H_y ho_y => ?_)
  refine OT.nil (.seq (.seq (.region (.pures hT 1 rfl ?_))))
  rw [set_over (by omega)] at ho_y
  have hl2 : (over (over (List.replicate 64 (0 : UInt8)) 4 (be 8 n)) 12 [UInt8.ofNat bs.length]).length = 64 := by rw [length_over (by rw [hl1]; simp)]; exact hl1
  refine OT.slice_own 13 64 hT rfl rfl rfl rfl rfl (.inr ⟨_, rfl⟩) (.inl ⟨rfl, rfl⟩) (by omega) (by omega) (by omega) rfl (.pures hT 1 rfl (.copy_own 13 hT rfl rfl rfl rfl pl ho_y hr.there.there.there.there (by omega) (by omega) (ones_bytes _) rfl (fun H_26 ho_26 => ?_)))
  rw [List.take_of_length_le (by omega), sup_over (by omega)] at ho_26
  have hl3 : (noughts 4 ++ supBody n bs).length = 64 := by rw [List.length_append, noughts_length, hbl]
  refine OT.nil (.seq (.seq (.draw ([(b, blk [pd, .int .i64 at_, .int .i64 s.slot, .int .i64 (s.turn : Nat), v] 125 (0, 0))] :: K :: HD :: r) mixed (.takes (fuel := 5) hT [0, 2] kr kr rfl (.take (fuel := 4) hT 1 rfl rfl kr kr kr rfl (Fl.slice 0 4 hT rfl rfl rfl rfl (.inl ⟨rfl, rfl⟩) (.inr ⟨_, rfl⟩) (by omega) (by omega) (by omega)) rfl (.take (fuel := 3) hT 3 rfl rfl kr kr kr rfl (Fl.slice 4 64 hT rfl rfl rfl rfl (.inr ⟨_, rfl⟩) (.inl ⟨rfl, rfl⟩) (by omega) (by omega) (by omega)) rfl (.op (fuel := 2) 4 kr rfl sl (.call Tryz.call87 rfl rfl rfl rfl (crc_Sum (bs := supBody n bs) (by have h := ho_26.sub_row (hs := [(b, blk [pd, .int .i64 at_, .int .i64 s.slot, .int .i64 (s.turn : Nat), v] 125 (0, 0))] :: K :: HD :: r) (L := 4) (M := 64) (by omega) (by omega) (by omega); rw [List.take_of_length_le (by omega), List.drop_append_of_le_length (by rw [noughts_length]; omega), List.drop_eq_nil_of_le (by rw [noughts_length]; omega), List.nil_append] at h; exact h) (by omega)) ?_))))))))
  rintro v_31 hs_31 ⟨rfl, rfl⟩
  refine OT.nil (.any (.takes (fuel := 1) hT [5] kr kr rfl (.op (fuel := 0) 6 kr rfl sl (.reg 32 rfl (v := .int .u64 ((crcSum (supBody n bs)).toNat : Nat)) (int_eq (by rw [wrap_u64 (by omega) (by omega)]; omega)) (.call Tryz.call89 rfl rfl rfl rfl (Fun.pull pl (super_put (q := 0) (k := 4) ho_26 (by omega) (by omega) (by omega))) ?_)))))
  rintro v_33 hs_33 ⟨H2, rfl, rfl, ho2⟩
  rw [sup_over4] at ho2
  refine OT.nil (.any (.done kr sl (.seq (.seq (.seq (.draw ([(b, blk [pd, .int .i64 at_, .int .i64 s.slot, .int .i64 (s.turn : Nat), v] 125 (0, 0))] :: r) mixed (.takes (fuel := 5) hT [0, 1, 2, 4, 5, 6, 8, 10] kr kr rfl (.take (fuel := 4) hT 3 rfl rfl kr kr kr rfl (.load rfl (Ld.one hT rfl hz rfl)) rfl ?_))))))))
  refine AT.take (fuel := 3) hT 7 rfl rfl kr kr kr rfl (.load rfl (Ld.one hT rfl hz rfl)) rfl ?_
  refine AT.takes (fuel := 2) hT [9] kr kr rfl (.op (fuel := 1) 11 kr rfl sl (.reg 43 rfl (v := .int .i64 (at_ + slot)) (int_eq (wrap_i64 (by omega) (by omega))) (.call Tryz.call46 rfl rfl rfl rfl (Fun.pull pl (dev_Write hd ho2.row)) ?_)))
  rintro v_45 hs_45 ⟨HD1, rfl, rfl, hd1⟩
  refine OT.nil (.any (.takes (fuel := 0) hT [12] kr kr rfl (.done kr sl (.seq (.seq (.region (.pures hT 2 rfl (.nil (.seq (.cond rfl (fun c47 => ?_) (fun c47 => ?_)))))))))))
  ·
    have hw : (supWrite s d at_ slot n bs) = (s, (d.write (at_ + slot) (supSec n bs)).1, (d.write (at_ + slot) (supSec n bs)).2) := by unfold supWrite; rw [if_pos (by simpa using c47)]
    rw [hw]
    refine TT.seq (.region (.pures hT 2 rfl (.nil (.seq (.ret (.of (rs := [.tmp 8]) [_] (([(b, blk [pd, .int .i64 at_, .int .i64 s.slot, .int .i64 (s.turn : Nat), v] 125 (0, 0))] ++ K) :: HD1 :: r) rfl (.tmp rfl .nil) sl ?_))))))
    dsimp only [one]
    exact ⟨_, _, rfl, rfl, hS, hd1⟩
  ·
    have c47 : (d.write (at_ + slot) (supSec n bs)).2 = 0 := by simpa using c47
    refine TT.skip (.seq (.seq (.seq (.region (.pures hT 3 rfl (.load rfl rfl (Ld.one hT rfl hz rfl) rfl ?_))))))
    refine OT.call Tryz.call25 rfl rfl rfl rfl (Fun.pull pl (dev_Flush hd1)) ?_
    rintro v_53 hs_53 ⟨HD2, rfl, rfl, hd2⟩
    refine OT.pures hT 1 rfl (.nil (.seq (.seq (.region (.pures hT 2 rfl (.nil (.seq (.cond rfl (fun c55 => ?_) (fun c55 => ?_)))))))))
    ·
      have hw : (supWrite s d at_ slot n bs) = (s, (d.write (at_ + slot) (supSec n bs)).1.flush.1, (d.write (at_ + slot) (supSec n bs)).1.flush.2) := by unfold supWrite; rw [if_neg (by omega), if_pos (by simpa using c55)]
      rw [hw]
      refine TT.seq (.region (.pures hT 2 rfl (.nil (.seq (.ret (.of (rs := [.tmp 8]) [_] (([(b, blk [pd, .int .i64 at_, .int .i64 s.slot, .int .i64 (s.turn : Nat), v] 125 (0, 0))] ++ K) :: HD2 :: r) rfl (.tmp rfl .nil) sl ?_))))))
      dsimp only [one]
      exact ⟨_, _, rfl, rfl, hS, hd2⟩
    ·
      have c55 : (d.write (at_ + slot) (supSec n bs)).1.flush.2 = 0 := by simpa using c55
      have hw : (supWrite s d at_ slot n bs) = (⟨slot, n, bs⟩, (d.write (at_ + slot) (supSec n bs)).1.flush.1, 0) := by unfold supWrite; rw [if_neg (by omega), if_neg (by omega)]
      rw [hw]
      refine TT.skip (.seq (.seq (.region (.pures hT 6 rfl (.call Tryz.call57 rfl rfl rfl rfl (bytes_Clone (hr.there.there.there.there) (by omega)) ?_)))))
      rintro v_63 hs_63 ⟨HB, rfl, hoB⟩
      obtain ⟨a63, c63, hv63⟩ := (hoB.row (hs := r)).len
      subst hv63
      refine OT.pures hT 2 rfl (.store hT rfl rfl rfl rfl pl rfl (Nat.le_of_ble_eq_true rfl) rfl (.inl (Nat.le_refl _)) (cs' := [pd, .int .i64 at_, .int .i64 slot, .int .i64 (s.turn : Nat), v]) rfl ?_)
      refine OT.pures hT 2 rfl (.store hT rfl rfl rfl rfl pl rfl (Nat.le_of_ble_eq_true rfl) rfl (.inl (Nat.le_refl _)) (cs' := [pd, .int .i64 at_, .int .i64 slot, .int .i64 (n : Nat), v]) rfl ?_)
      refine OT.pures hT 2 rfl (.store hT rfl rfl rfl rfl pl rfl (Nat.le_of_ble_eq_true rfl) rfl (.inl (Nat.le_refl _)) (cs' := [pd, .int .i64 at_, .int .i64 slot, .int .i64 (n : Nat), .slice a63 bs.length c63]) rfl ?_)
      refine OT.nil (.seq (.seq (.region (.pures hT 1 rfl (.nil (.seq (.ret (.of (rs := [.tmp 8]) [_] (([(b, blk [pd, .int .i64 at_, .int .i64 slot, .int .i64 (n : Nat), .slice a63 bs.length c63] 125 (0, 0))] ++ HB) :: HD2 :: r) rfl (.tmp rfl .nil) sl ?_))))))))
      dsimp only [one]
      exact ⟨_, _, rfl, rfl, ⟨hsl, (by show bs.length ≤ 60; omega), ⟨b, _, HB, rfl, hoB, rfl, rfl⟩⟩, hd2⟩

set_option maxHeartbeats 1000000 in
set_option maxRecDepth 100000 in
theorem super_Save {ps pd : Value} {at_ : Int} {s : Sup} {d : Dev} {HS HD : Chunk} {r : List Chunk} (hS : IsSup 5 125 ps pd at_ s HS) (hd : IsDev 83 69 pd d HD) (hat0 : 0 ≤ at_) (hat1 : at_ ≤ 1099511627776) {vb : Value} {bs : List UInt8} (hn : s.turn ≤ 4611686018427387904) (hr : Row Go.Sx.encB 1 r vb bs) : Fun Tryz.prog 62 [ps, vb] (HS :: HD :: r) (fun v' hs' => ∃ HS' HD', hs' = HS' :: HD' :: r ∧ v' = .int .i64 (s.save d at_ bs).2.2 ∧ IsSup 5 125 ps pd at_ (s.save d at_ bs).1 HS' ∧ IsDev 83 69 pd (s.save d at_ bs).2.1 HD') := by
  refine Fun.enter 25 Tryz.func62 rfl Tryz.ntmps62 rfl ?_
  obtain ⟨ab, cb, hvb⟩ := hr.len
  subst hvb
  have hslot := hS.slot
  obtain ⟨b, v, K, hpp, hTx, hone, hHS⟩ := hS.is
  subst hpp
  subst hHS
  refine TT.split (.seq (.region (.pures hT 1 rfl (.nil (.seq (.seq (.block (.seq (.region (.pures hT 3 rfl (.nil (.seq (.cond_false rfl (.seq (.region (.pures hT 4 rfl (.nil (.seq (.cond rfl (fun c8 => ?_) (fun c8 => ?_))))))))))))))))))))
  ·
    have c8 := of_decide_eq_true c8
    have hw : (s.save d at_ bs) = (s, d, 1) := by unfold Sup.save; rw [if_pos (by omega)]
    rw [hw]
    refine TT.seq (.region (.pures hT 1 rfl (.nil (.seq (.ret (.of (rs := [.tmp 4]) [_] (([(b, blk [pd, .int .i64 at_, .int .i64 s.slot, .int .i64 (s.turn : Nat), v] 125 (0, 0))] ++ K) :: HD :: r) rfl (.tmp rfl .nil) sl ?_))))))
    dsimp only [one]
    exact ⟨_, _, rfl, rfl, hS, hd⟩
  ·
    have c8 := of_decide_eq_false c8
    have hw : (s.save d at_ bs) = supWrite s d at_ (1 - s.slot) (s.turn + 1) bs := by unfold Sup.save; rw [if_neg (by omega)]
    rw [hw]
    refine TT.skip (.blk (.seq (.seq (.draw (r) mixed (.takes (fuel := 6) hT [0, 1, 2, 3, 6, 7, 8, 11] kr kr rfl (.all (fuel := 5) [4, 9] kr (by decide) sl ?_))))))
    intro i hi
    simp only [List.mem_cons, List.not_mem_nil, or_false] at hi
    rcases hi with rfl | rfl
    ·
      refine ⟨_, rfl, ?_⟩
      refine OT.load rfl rfl (Ld.one hT rfl hz rfl) rfl ?_
      refine OT.nil (.any (.takes (fuel := 4) hT [5] kr kr rfl (.op (fuel := 3) 9 kr rfl sl (.load rfl rfl (Ld.one hT rfl hz rfl) rfl ?_))))
      refine OT.nil (.any (.takes (fuel := 2) hT [10] kr kr rfl (.op (fuel := 1) 12 kr rfl sl (.reg 17 rfl (v := .int .i64 (1 - s.slot)) (int_eq (wrap_i64 (by omega) (by omega))) (.reg 22 rfl (v := .int .i64 ((s.turn + 1 : Nat) : Int)) (int_eq (by rw [wrap_i64 (by omega) (by omega)]; omega)) (.call Tryz.call74 rfl rfl rfl rfl (Fun.join (super_write hS hd hat0 hat1 (by omega) (by omega) hr (by omega))) ?_))))))
      rintro v_24 hs_24 ⟨HS1, HD1, rfl, rfl, hS1, hd1⟩
      refine OT.nil (.any (.takes (fuel := 0) hT [13] kr kr rfl (.done kr sl (.seq (.ret (.of (rs := [.tmp 4]) [_] (HS1 :: HD1 :: r) rfl (.tmp rfl .nil) sl ?_))))))
      dsimp only [one]
      exact ⟨_, _, rfl, rfl, hS1, hd1⟩
    ·
      refine ⟨_, rfl, ?_⟩
      refine OT.load rfl rfl (Ld.one hT rfl hz rfl) rfl ?_
      refine OT.nil (.any (.takes (fuel := 4) hT [10] kr kr rfl (.op (fuel := 3) 4 kr rfl sl (.load rfl rfl (Ld.one hT rfl hz rfl) rfl ?_))))
      refine OT.nil (.any (.takes (fuel := 2) hT [5] kr kr rfl (.op (fuel := 1) 12 kr rfl sl (.reg 17 rfl (v := .int .i64 (1 - s.slot)) (int_eq (wrap_i64 (by omega) (by omega))) (.reg 22 rfl (v := .int .i64 ((s.turn + 1 : Nat) : Int)) (int_eq (by rw [wrap_i64 (by omega) (by omega)]; omega)) (.call Tryz.call74 rfl rfl rfl rfl (Fun.join (super_write hS hd hat0 hat1 (by omega) (by omega) hr (by omega))) ?_))))))
      rintro v_24 hs_24 ⟨HS1, HD1, rfl, rfl, hS1, hd1⟩
      refine OT.nil (.any (.takes (fuel := 0) hT [13] kr kr rfl (.done kr sl (.seq (.ret (.of (rs := [.tmp 4]) [_] (HS1 :: HD1 :: r) rfl (.tmp rfl .nil) sl ?_))))))
      dsimp only [one]
      exact ⟨_, _, rfl, rfl, hS1, hd1⟩

set_option maxHeartbeats 1000000 in
set_option maxRecDepth 100000 in
theorem super_Text {ps pd : Value} {at_ : Int} {s : Sup} {HS : Chunk} {r : List Chunk} (hS : IsSup 5 125 ps pd at_ s HS) : Fun Tryz.prog 68 [ps] (HS :: r) (fun v' hs' => ∃ H', hs' = H' :: HS :: r ∧ Own Go.Sx.encB 1 5 v' s.text H') := by
  refine Fun.enter 10 Tryz.func68 rfl Tryz.ntmps68 rfl ?_
  obtain ⟨b, v, K, hpp, hTx, hone, hHS⟩ := hS.is
  subst hpp
  subst hHS
  refine TT.split ?_
  have htl := hS.text
  obtain ⟨av, cv, hv⟩ := (hTx.row (hs := r)).len
  subst hv
  refine TT.seq (.region (.pures hT 1 rfl (.nil (.seq (.seq (.seq (.region (.pures hT 2 rfl (.nil (.seq (.cond_false rfl (.skip (.seq (.seq (.region (.pures hT 3 rfl (.load rfl rfl (Ld.slc hT rfl hz rfl) rfl ?_)))))))))))))))))
  refine OT.call Tryz.call57 rfl rfl rfl rfl (bytes_Clone (hTx.row.there) (by omega)) ?_
  rintro v_9 hs_9 ⟨HB, rfl, hoB⟩
  refine OT.pures hT 1 rfl (.nil (.seq (.ret (.of (rs := [.tmp 2]) [_] (HB :: ([(b, blk [pd, .int .i64 at_, .int .i64 s.slot, .int .i64 (s.turn : Nat), .slice av s.text.length cv] 125 (0, 0))] ++ K) :: r) rfl (.tmp rfl .nil) sl ?_))))
  dsimp only [one]
  exact ⟨_, rfl, hoB⟩

end Go.Proofs.YtoalhcodigpgkaaGreatDoor.Sx
end

section
namespace Go.Proofs.YtoalhcodigpgkaaGreatDoor.Sx
open Go Go.Sx Go.Pl
variable [Outer]

set_option maxHeartbeats 1000000 in
set_option maxRecDepth 100000 in
theorem super_Make {p : Value} {d : Dev} {H : Chunk} {r : List Chunk} (hd : IsDev 83 69 p d H) {at_ : Int} (hat0 : 0 ≤ at_) (hat1 : at_ ≤ 1099511627776) {vb : Value} {bs : List UInt8} (hr : Row Go.Sx.encB 1 r vb bs) : Fun Tryz.prog 48 [p, .int .i64 at_, vb] (H :: r) (fun v' hs' => ∃ ps HS' HD', hs' = HS' :: HD' :: r ∧ v' = .tuple ⟨[ps, .int .i64 (supMake d at_ bs).2.2]⟩ ∧ optSup 5 125 p at_ (supMake d at_ bs).1 ps HS' ∧ IsDev 83 69 p (supMake d at_ bs).2.1 HD') := by
  refine Fun.enter 45 Tryz.func48 rfl Tryz.ntmps48 rfl ?_
  obtain ⟨ab, cb, hvb⟩ := hr.len
  subst hvb
  obtain ⟨bp, hpd⟩ := hd.ptr
  subst hpd
  have hmost := hd.ok.most
  have hpos := hd.ok.pos
  refine TT.seq (.region (.pures hT 2 rfl (.nil (.seq (.seq (.block (.seq (.region (.pures hT 4 rfl (.nil (.seq (.cond rfl (fun c12 => ?_) (fun c12 => ?_)))))))))))))
  ·
    have c12 := of_decide_eq_true c12
    have hm : (supMake d at_ bs) = (none, d, 1) := by unfold supMake; rw [if_pos (by omega)]
    rw [hm]
    refine TT.seq (.region (.pures hT 2 rfl (.nil (.seq (.ret (.of (rs := [.tmp 6, .tmp 7]) [_, _] ([] :: H :: r) rfl (.tmp rfl (.tmp rfl .nil)) sl ?_))))))
    dsimp only [one]
    exact ⟨_, _, _, rfl, rfl, ⟨rfl, rfl⟩, hd⟩
  ·
    have c12 := of_decide_eq_false c12
    refine TT.seq (.region (.pures hT 2 rfl (.call Tryz.call73 rfl rfl rfl rfl (super_there hd (by omega)) ?_)))
    rintro v_19 hs_19 ⟨rfl, rfl⟩
    refine OT.pures hT 2 rfl (.nil (.seq (.cond rfl (fun c16 => ?_) (fun c16 => ?_))))
    ·
      have c16 : ¬ (0 ≤ at_ ∧ at_ < (d.secs.length : Int) - 1) := of_decide_eq_false (by rw [Bool.not_eq_true'] at c16; exact c16)
      have hm : (supMake d at_ bs) = (none, d, 3) := by unfold supMake; rw [if_neg (by omega), if_pos c16]
      rw [hm]
      refine TT.seq (.region (.pures hT 2 rfl (.nil (.seq (.ret (.of (rs := [.tmp 6, .tmp 7]) [_, _] ([] :: H :: r) rfl (.tmp rfl (.tmp rfl .nil)) sl ?_))))))
      dsimp only [one]
      exact ⟨_, _, _, rfl, rfl, ⟨rfl, rfl⟩, hd⟩
    ·
      have c16 : 0 ≤ at_ ∧ at_ < (d.secs.length : Int) - 1 := by simpa using c16
      refine TT.skip (.blk (.seq (.seq (.seq (.region (.pures hT 1 rfl (.nil (.seq (.block (.loop (ι := Nat × Dev × Chunk) (fun j => (j.1) ≤ 2 ∧ IsDev 83 69 (.pointer (some ⟨bp, 0, none⟩)) (j.2.1) (j.2.2) ∧ d.writes at_ [noughts 64, noughts 64] = (j.2.1).writes (at_ + ((j.1) : Nat)) ([noughts 64, noughts 64].drop (j.1))) (fun j => 2 - (j.1)) (fun j => [(0, .pointer (some ⟨bp, 0, none⟩)), (1, .int .i64 at_), (2, .slice ab bs.length cb), (21, .int .i64 ((j.1) : Nat))]) (fun j => (j.2.2) :: r) (0, d, H) ?_ (SubR.cons rfl (SubR.cons rfl (SubR.cons rfl (SubR.cons rfl (SubR.nil _))))) sl ?_))))))))))
      · dsimp only
        exact ⟨by omega, hd, by simp⟩
      rintro ⟨k, d2, W⟩ hI
      dsimp only at hI
      obtain ⟨hk, hW, heq⟩ := hI
      show TT _ _ _ [(0, .pointer (some ⟨bp, 0, none⟩)), (1, .int .i64 at_), (2, .slice ab bs.length cb), (21, .int .i64 (k : Nat))] (W :: r)
      refine TT.seq (.region (.pures hT 1 rfl (.nil (.seq (.seq (.cond rfl (fun c22 => ?_) (fun c22 => ?_)))))))
      ·
        have c22 := of_decide_eq_true c22
        have hdr : [noughts 64, noughts 64].drop k = noughts 64 :: [noughts 64, noughts 64].drop (k + 1) := by
          match k, (show k < 2 by omega) with
          | 0, _ => rfl
          | 1, _ => rfl
        rw [hdr] at heq
        conv at heq => rhs; rw [Dev.writes]
        refine TT.skip (.seq (.seq (.block (.seq (.region (.pures hT 2 rfl (.nil (.seq (.seq (.region (.pures hT 4 rfl ?_)))))))))))
        refine OT.make (enc := Go.Sx.encB) (z0 := (0 : UInt8)) (n := 64) el33 Tryz.zeroValue5 rfl rfl rfl rfl rfl (by omega) rfl (fun v_28 H_28 ho_28 => ?_)
        refine OT.reg 27 rfl (v := .int .i64 (at_ + (k : Nat))) (int_eq (wrap_i64 (by omega) (by omega))) (.call Tryz.call46 rfl rfl rfl rfl (Fun.pull pl (dev_Write hW ho_28.row)) ?_)
        rintro v_29 hs_29 ⟨W2, rfl, rfl, hW2⟩
        refine OT.pures hT 1 rfl (.nil (.seq (.seq (.region (.pures hT 2 rfl (.nil (.seq (.cond rfl (fun c31 => ?_) (fun c31 => ?_)))))))))
        ·
          have c31 : (d2.write (at_ + (k : Nat)) (noughts 64)).2 ≠ 0 := by simpa [noughts] using c31
          rw [if_pos c31] at heq
          have hm : (supMake d at_ bs) = (none, (d.writes at_ [noughts 64, noughts 64]).1, (d.writes at_ [noughts 64, noughts 64]).2) := by unfold supMake; rw [if_neg (by omega), if_neg (by simpa using c16), if_pos (by rw [heq]; exact c31)]
          rw [hm, heq]
          refine TT.seq (.region (.pures hT 3 rfl (.nil (.seq (.ret (.of (rs := [.tmp 6, .tmp 7]) [_, _] ([] :: W2 :: r) rfl (.tmp rfl (.tmp rfl .nil)) sl ?_))))))
          dsimp only [one]
          exact ⟨_, _, _, rfl, rfl, ⟨rfl, rfl⟩, hW2⟩
        ·
          have c31 : (d2.write (at_ + (k : Nat)) (noughts 64)).2 = 0 := by simpa [noughts] using c31
          rw [if_neg (by omega)] at heq
          refine TT.skip (.blk (.seq (.region (.pures hT 2 rfl (.nil (.loop (k + 1, (d2.write (at_ + (k : Nat)) (noughts 64)).1, W2) ?_ ?_ (SubR.cons rfl (SubR.cons rfl (SubR.cons rfl (SubR.cons' rfl (by (try dsimp only); exact (int_eq (by rw [wrap_i64 (by omega) (by omega)]; omega))) (SubR.nil _))))) sl))))))
          · dsimp only
            exact ⟨by omega, hW2, by rw [heq]; congr 1; omega⟩
          · dsimp only
            omega
      ·
        have c22 := of_decide_eq_false c22
        obtain rfl : k = 2 := by omega
        replace heq : d.writes at_ [noughts 64, noughts 64] = (d2, 0) := heq
        refine TT.exit (.seq (.loop (.here (.seq (.seq (.region (.pures hT 2 rfl (.build hT rfl Tryz.zeroValue125 rfl rfl rfl rfl (.box rfl rfl rfl (fun b_37 => ?_))))))))))
        refine OT.pures hT 1 rfl (.nil (.seq (.seq (.seq (.region (.pures hT 2 rfl (.call Tryz.call74 rfl rfl rfl rfl (super_write (s := ⟨0, 0, []⟩) (n := 1) (HS := [(b_37, blk [.pointer (some ⟨bp, 0, none⟩), .int .i64 at_, .int .i64 0, .int .i64 0, .slice none 0 0] 125 (0, 0))]) ⟨by dsimp only; omega, by simp, ⟨b_37, .slice none 0 0, [], rfl, Own.nil, rfl, rfl⟩⟩ hW hat0 hat1 (by omega) (by omega) hr (by omega)) ?_)))))))
        rintro v_40 hs_40 ⟨HS1, HD1, rfl, rfl, hS1, hd1⟩
        refine OT.pures hT 1 rfl (.nil (.seq (.seq (.region (.pures hT 2 rfl (.nil (.seq (.cond rfl (fun c42 => ?_) (fun c42 => ?_)))))))))
        ·
          have c42 : (supWrite ⟨0, 0, []⟩ d2 at_ 0 1 bs).2.2 ≠ 0 := by simpa using c42
          have hm : (supMake d at_ bs) = (none, (supWrite ⟨0, 0, []⟩ d2 at_ 0 1 bs).2.1, (supWrite ⟨0, 0, []⟩ d2 at_ 0 1 bs).2.2) := by unfold supMake; rw [if_neg (by omega), if_neg (by simpa using c16), heq]; dsimp only; rw [if_neg (by simp), if_pos c42]
          rw [hm]
          refine TT.seq (.region (.pures hT 3 rfl (.nil (.seq (.ret (.of (rs := [.tmp 6, .tmp 7]) [_, _] ([] :: HD1 :: r) rfl (.tmp rfl (.tmp rfl .nil)) sl ?_))))))
          dsimp only [one]
          exact ⟨_, _, _, rfl, rfl, ⟨rfl, rfl⟩, hd1⟩
        ·
          have c42 : (supWrite ⟨0, 0, []⟩ d2 at_ 0 1 bs).2.2 = 0 := by simpa using c42
          have hm : (supMake d at_ bs) = (some (supWrite ⟨0, 0, []⟩ d2 at_ 0 1 bs).1, (supWrite ⟨0, 0, []⟩ d2 at_ 0 1 bs).2.1, 0) := by unfold supMake; rw [if_neg (by omega), if_neg (by simpa using c16), heq]; dsimp only; rw [if_neg (by simp), if_neg (by omega)]
          rw [hm]
          refine TT.skip (.seq (.seq (.region (.pures hT 3 rfl (.nil (.seq (.ret (.of (rs := [.tmp 6, .tmp 7]) [_, _] (HS1 :: HD1 :: r) rfl (.tmp rfl (.tmp rfl .nil)) sl ?_))))))))
          dsimp only [one]
          exact ⟨_, _, _, rfl, rfl, hS1, hd1⟩

set_option maxHeartbeats 2000000 in
set_option maxRecDepth 100000 in
theorem super_Open {p : Value} {d : Dev} {H : Chunk} {r : List Chunk} (hd : IsDev 83 69 p d H) {at_ : Int} (hat0 : 0 ≤ at_) (hat1 : at_ ≤ 1099511627776) : Fun Tryz.prog 66 [p, .int .i64 at_] (H :: r) (fun v' hs' => ∃ ps HS', hs' = HS' :: H :: r ∧ v' = .tuple ⟨[ps, .int .i64 (supOpen d at_).2]⟩ ∧ optSup 5 125 p at_ (supOpen d at_).1 ps HS') := by
  refine Fun.enter 84 Tryz.func66 rfl Tryz.ntmps66 rfl ?_
  obtain ⟨bp, hpd⟩ := hd.ptr
  subst hpd
  have hmost := hd.ok.most
  have hpos := hd.ok.pos
  refine TT.seq (.region (.pures hT 2 rfl (.nil (.seq (.seq (.seq (.region (.pures hT 2 rfl (.call Tryz.call73 rfl rfl rfl rfl (super_there hd (by omega)) ?_)))))))))
  rintro v_13 hs_13 ⟨rfl, rfl⟩
  refine OT.pures hT 1 rfl (.nil (.seq (.cond rfl (fun c14 => ?_) (fun c14 => ?_))))
  ·
    have c14 : ¬ (0 ≤ at_ ∧ at_ < (d.secs.length : Int) - 1) := of_decide_eq_false (by rw [Bool.not_eq_true'] at c14; exact c14)
    have hm : (supOpen d at_) = (none, 3) := by unfold supOpen; rw [if_pos c14]
    rw [hm]
    refine TT.seq (.region (.pures hT 2 rfl (.nil (.seq (.ret (.of (rs := [.tmp 4, .tmp 5]) [_, _] ([] :: H :: r) rfl (.tmp rfl (.tmp rfl .nil)) sl ?_))))))
    dsimp only [one]
    exact ⟨_, _, rfl, rfl, ⟨rfl, rfl⟩⟩
  ·
    have c14 : 0 ≤ at_ ∧ at_ < (d.secs.length : Int) - 1 := by simpa using c14
    refine TT.skip (.seq (.seq (.region (.pures hT 2 rfl (.build hT rfl Tryz.zeroValue125 rfl rfl rfl rfl (.box rfl rfl rfl (fun b_18 => ?_)))))))
    refine OT.pures hT 1 rfl (.nil (.seq (.seq (.seq (.region (.pures hT 1 rfl (.nil (.seq (.block (.chunk0 (.loop (ι := Nat × Value × Chunk) (fun j => (j.1) ≤ 2 ∧ oneC (j.2.1) = true ∧ Own Go.Sx.encB 1 5 (j.2.1) (supTo d at_ (j.1)).text (j.2.2)) (fun j => 2 - (j.1)) (fun j => [(0, .pointer (some ⟨bp, 0, none⟩)), (1, .int .i64 at_), (6, .pointer (some ⟨b_18, 0, none⟩)), (19, .int .i64 ((j.1) : Nat))]) (fun j => [(b_18, blk [.pointer (some ⟨bp, 0, none⟩), .int .i64 at_, .int .i64 (supTo d at_ (j.1)).slot, .int .i64 ((supTo d at_ (j.1)).turn : Nat), (j.2.1)] 125 (0, 0))] :: (j.2.2) :: H :: r) (0, .slice none 0 0, []) ?_ (SubR.cons rfl (SubR.cons rfl (SubR.cons rfl (SubR.cons rfl (SubR.nil _))))) sl ?_)))))))))))
    · dsimp only
      exact ⟨by omega, rfl, Own.nil⟩
    rintro ⟨k, v, K⟩ hI
    dsimp only at hI
    obtain ⟨hk, hone, hO⟩ := hI
    show TT _ _ _ [(0, .pointer (some ⟨bp, 0, none⟩)), (1, .int .i64 at_), (6, .pointer (some ⟨b_18, 0, none⟩)), (19, .int .i64 (k : Nat))] ([(b_18, blk [.pointer (some ⟨bp, 0, none⟩), .int .i64 at_, .int .i64 (supTo d at_ k).slot, .int .i64 ((supTo d at_ k).turn : Nat), v] 125 (0, 0))] :: K :: H :: r)
    refine TT.seq (.region (.pures hT 1 rfl (.nil (.seq (.seq (.cond rfl (fun c20 => ?_) (fun c20 => ?_)))))))
    ·
      have c20 := of_decide_eq_true c20
      have hin : d.in (at_ + (k : Nat)) := by unfold Dev.in; omega
      have hrd : d.read (at_ + (k : Nat)) = ((d.sec (at_ + (k : Nat))).now, 0) := by unfold Dev.read; rw [if_pos hin]
      have hx := (Dev.sec_ok hd.ok hin).1
      have hok := supTo_ok d at_ hk
      refine TT.skip (.seq (.seq (.block (.seq (.region (.pures hT 2 rfl (.nil (.seq (.seq (.region (.pures hT 4 rfl (.reg 26 rfl (v := .int .i64 (at_ + (k : Nat))) (int_eq (wrap_i64 (by omega) (by omega))) (.call Tryz.call75 rfl rfl rfl rfl (Fun.pull pl (dev_Read hd)) ?_)))))))))))))
      rintro v_27 hs_27 ⟨w1, H1, rfl, rfl, ho1⟩
      rw [hrd] at ho1 ⊢
      dsimp only at ho1 ⊢
      obtain ⟨eb, eo, ec, _, _, hva, _, _, _, _, hec, _⟩ := ho1.over (by omega)
      rw [hx] at hva hec
      subst hva
      refine OT.pures hT 5 rfl (.nil (.seq (.seq (.seq (.region (.pures hT 2 rfl (.nil (.seq (.cond rfl (fun c31 => ?_) (fun c31 => ?_))))))))))
      ·
        exact absurd c31 (by decide)
      ·
        refine TT.skip (.seq (.seq (.region (.pures hT 1 rfl (.slice_own 4 12 hT rfl rfl rfl rfl rfl (.inr ⟨_, rfl⟩) (.inr ⟨_, rfl⟩) (by omega) (by omega) (by omega) rfl (.call Tryz.call86 rfl rfl rfl rfl (super_get (bs := (((d.sec (at_ + (k : Nat))).now).take 12).drop 4) (by have h := ho1.sub_row (hs := H :: [(b_18, blk [.pointer (some ⟨bp, 0, none⟩), .int .i64 at_, .int .i64 (supTo d at_ k).slot, .int .i64 ((supTo d at_ k).turn : Nat), v] 125 (0, 0))] :: K :: r) (L := 4) (M := 12) (by omega) (by omega) (by omega); exact h) (by rw [List.length_drop, List.length_take]; omega)) ?_))))))
        rintro v_35 hs_35 ⟨rfl, rfl⟩
        refine OT.pures hT 2 rfl (.nil (.seq (.seq (.draw (H1 :: H :: [(b_18, blk [.pointer (some ⟨bp, 0, none⟩), .int .i64 at_, .int .i64 (supTo d at_ k).slot, .int .i64 ((supTo d at_ k).turn : Nat), v] 125 (0, 0))] :: K :: r) mixed (.takes (fuel := 20) hT [0, 4] kr kr rfl (.take (fuel := 19) hT 1 rfl rfl kr kr kr rfl (Fl.slice 4 64 hT rfl rfl rfl rfl (.inr ⟨_, rfl⟩) (.inl ⟨rfl, rfl⟩) (by omega) (by omega) (by omega)) rfl (.take (fuel := 18) hT 5 rfl rfl kr kr kr rfl (Fl.slice 0 4 hT rfl rfl rfl rfl (.inl ⟨rfl, rfl⟩) (.inr ⟨_, rfl⟩) (by omega) (by omega) (by omega)) rfl (.op (fuel := 17) 2 kr rfl sl (.call Tryz.call87 rfl rfl rfl rfl (crc_Sum (bs := ((d.sec (at_ + (k : Nat))).now).drop 4) (by have h := ho1.sub_row (hs := H :: [(b_18, blk [.pointer (some ⟨bp, 0, none⟩), .int .i64 at_, .int .i64 (supTo d at_ k).slot, .int .i64 ((supTo d at_ k).turn : Nat), v] 125 (0, 0))] :: K :: r) (L := 4) (M := 64) (by omega) (by omega) (by omega); rw [List.take_of_length_le (by omega)] at h; exact h) (by rw [List.length_drop]; omega)) ?_)))))))))
        rintro v_39 hs_39 ⟨rfl, rfl⟩
        have hcr := crcSum_range (((d.sec (at_ + (k : Nat))).now).drop 4)
        refine OT.nil (.any (.takes (fuel := 16) hT [3] kr kr rfl (.op (fuel := 15) 6 kr rfl sl (.call Tryz.call86 rfl rfl rfl rfl (super_get (bs := ((d.sec (at_ + (k : Nat))).now).take 4) (by have h := ho1.sub_row (hs := H :: [(b_18, blk [.pointer (some ⟨bp, 0, none⟩), .int .i64 at_, .int .i64 (supTo d at_ k).slot, .int .i64 ((supTo d at_ k).turn : Nat), v] 125 (0, 0))] :: K :: r) (L := 0) (M := 4) (by omega) (by omega) (by omega); rw [List.drop_zero] at h; exact h) (by rw [List.length_take]; omega)) ?_))))
        rintro v_43 hs_43 ⟨rfl, rfl⟩
        refine OT.nil (.any (.takes (fuel := 13) hT [7, 8] kr kr rfl (.split 45 rfl (fun g45 => ?_) (fun g45 => ?_))))
        ·
          have g45 : crcSum (((d.sec (at_ + (k : Nat))).now).drop 4) = (fromBe (((d.sec (at_ + (k : Nat))).now).take 4) : Nat) := by have g := eq_of_beq g45; rw [wrap_u64 (by omega) (by omega)] at g; exact g
          refine AT.takes (fuel := 9) hT [9, 10, 11, 12] kr kr rfl (.take (fuel := 8) hT 13 rfl rfl kr kr kr rfl (.load rfl (Ld.one hT rfl hz rfl)) rfl ?_)
          refine AT.takes (fuel := 5) hT [14, 15, 16] kr kr rfl (.split 53 rfl (fun g53 => ?_) (fun g53 => ?_))
          ·
            have g53 : secTurn (d.sec (at_ + (k : Nat))).now > ((supTo d at_ k).turn : Int) := of_decide_eq_true g53
            have hx12 : ((d.sec (at_ + (k : Nat))).now)[12]? = some (((d.sec (at_ + (k : Nat))).now).getD 12 0) := by rw [List.getD_eq_getElem?_getD, List.getElem?_eq_getElem (by omega)]; rfl
            refine AT.takes (fuel := 4) hT [17] kr kr rfl (.index (fuel := 3) hT 18 rfl kr kr kr rfl rfl rfl rfl ho1.row (by omega) hx12 rfl (fun ad_55 hel_55 => ?_))
            refine AT.take (fuel := 2) hT 19 rfl rfl kr kr kr rfl (.load rfl (hel_55.ld_one hT rfl rfl)) rfl (.takes (fuel := 0) hT [20, 21] kr kr rfl (.done kr sl (.seq (.cond rfl (fun c58 => ?_) (fun c58 => ?_)))))
            ·
              have c58 := of_decide_eq_true c58
              have hst : supTo d at_ (k + 1) = ⟨k, (secTurn (d.sec (at_ + (k : Nat))).now).toNat, secText (d.sec (at_ + (k : Nat))).now⟩ := by show supStep _ _ _ = _; unfold supStep; rw [if_pos ⟨g45, g53, by omega⟩]
              refine TT.region (.pures hT 7 rfl (.index hT rfl rfl rfl rfl ho1.row (by omega) hx12 rfl (fun ad_66 hel_66 => ?_)))
              refine OT.load rfl rfl (hel_66.ld_one hT rfl rfl) rfl (.pures hT 1 rfl (.reg 68 rfl (v := .int .u8 ((13 + (((d.sec (at_ + (k : Nat))).now).getD 12 0).toNat : Nat) : Int)) (int_eq (by rw [IntKind.wrap_u8]; omega)) (.slice_own 13 (13 + (((d.sec (at_ + (k : Nat))).now).getD 12 0).toNat) hT rfl rfl rfl rfl rfl (.inr ⟨_, rfl⟩) (.inr ⟨_, rfl⟩) (by omega) (by omega) (by omega) rfl (.call Tryz.call57 rfl rfl rfl rfl (bytes_Clone (xs := secText (d.sec (at_ + (k : Nat))).now) (by have h := ho1.sub_row (hs := H :: [(b_18, blk [.pointer (some ⟨bp, 0, none⟩), .int .i64 at_, .int .i64 (supTo d at_ k).slot, .int .i64 ((supTo d at_ k).turn : Nat), v] 125 (0, 0))] :: K :: r) (L := 13) (M := 13 + (((d.sec (at_ + (k : Nat))).now).getD 12 0).toNat) (by omega) (by omega) (by omega); exact h) (by have := secText_length (x := (d.sec (at_ + (k : Nat))).now) (by omega); omega)) ?_))))
              rintro v_70 hs_70 ⟨HB, rfl, hoB⟩
              obtain ⟨a70, c70, hv70⟩ := (hoB.row (hs := r)).len
              subst hv70
              refine OT.reg 63 rfl (v := .int .i64 ((secTurn (d.sec (at_ + (k : Nat))).now).toNat : Nat)) (int_eq (by show secTurn _ = _; omega)) ?_
              refine OT.pures hT 2 rfl (.store hT rfl rfl rfl rfl pl rfl (Nat.le_of_ble_eq_true rfl) rfl (.inl (Nat.le_refl _)) (cs' := [.pointer (some ⟨bp, 0, none⟩), .int .i64 at_, .int .i64 (k : Nat), .int .i64 ((supTo d at_ k).turn : Nat), v]) rfl ?_)
              refine OT.pures hT 2 rfl (.store hT rfl rfl rfl rfl pl rfl (Nat.le_of_ble_eq_true rfl) rfl (.inl (Nat.le_refl _)) (cs' := [.pointer (some ⟨bp, 0, none⟩), .int .i64 at_, .int .i64 (k : Nat), .int .i64 ((secTurn (d.sec (at_ + (k : Nat))).now).toNat : Nat), v]) rfl ?_)
              refine OT.pures hT 2 rfl (.store hT rfl rfl rfl rfl pl rfl (Nat.le_of_ble_eq_true rfl) rfl (.inl (Nat.le_refl _)) (cs' := [.pointer (some ⟨bp, 0, none⟩), .int .i64 at_, .int .i64 (k : Nat), .int .i64 ((secTurn (d.sec (at_ + (k : Nat))).now).toNat : Nat), .slice a70 (secText (d.sec (at_ + (k : Nat))).now).length c70]) rfl ?_)
              refine OT.nil (.blk (.seq (.region (.pures hT 2 rfl (.nil (.loop (k + 1, .slice a70 (secText (d.sec (at_ + (k : Nat))).now).length c70, HB) ?_ ?_ (SubR.cons rfl (SubR.cons rfl (SubR.cons rfl (SubR.cons' rfl (by (try dsimp only); exact (int_eq (by rw [wrap_i64 (by omega) (by omega)]; omega))) (SubR.nil _))))) (by dsimp only; rw [hst]; exact sl)))))))
              · dsimp only
                exact ⟨by omega, rfl, by rw [hst]; exact hoB⟩
              · dsimp only
                omega
            ·
              have c58 := of_decide_eq_false c58
              have hst : supTo d at_ (k + 1) = supTo d at_ k := by show supStep _ _ _ = _; unfold supStep; rw [if_neg (by intro h; exact c58 (by have := h.2.2; omega))]
              refine TT.skip (.blk (.seq (.region (.pures hT 2 rfl (.nil (.loop (k + 1, v, K) ?_ ?_ (SubR.cons rfl (SubR.cons rfl (SubR.cons rfl (SubR.cons' rfl (by (try dsimp only); exact (int_eq (by rw [wrap_i64 (by omega) (by omega)]; omega))) (SubR.nil _))))) (by dsimp only; rw [hst]; exact sl)))))))
              · dsimp only
                exact ⟨by omega, hone, by rw [hst]; exact hO⟩
              · dsimp only
                omega
          ·
            have g53 : ¬ secTurn (d.sec (at_ + (k : Nat))).now > ((supTo d at_ k).turn : Int) := of_decide_eq_false g53
            have hst : supTo d at_ (k + 1) = supTo d at_ k := by show supStep _ _ _ = _; unfold supStep; rw [if_neg (by intro h; exact g53 h.2.1)]
            refine AT.takes (fuel := 0) hT [17, 18, 19, 20, 21] kr kr rfl (.done kr sl (.seq (.cond_false rfl (.skip (.blk (.seq (.region (.pures hT 2 rfl (.nil (.loop (k + 1, v, K) ?_ ?_ (SubR.cons rfl (SubR.cons rfl (SubR.cons rfl (SubR.cons' rfl (by (try dsimp only); exact (int_eq (by rw [wrap_i64 (by omega) (by omega)]; omega))) (SubR.nil _))))) (by dsimp only; rw [hst]; exact sl)))))))))))
            · dsimp only
              exact ⟨by omega, hone, by rw [hst]; exact hO⟩
            · dsimp only
              omega
        ·
          have g45 : ¬ crcSum (((d.sec (at_ + (k : Nat))).now).drop 4) = (fromBe (((d.sec (at_ + (k : Nat))).now).take 4) : Nat) := by intro h; have g := ne_of_beq_false g45; rw [wrap_u64 (by omega) (by omega)] at g; exact g h
          have hst : supTo d at_ (k + 1) = supTo d at_ k := by show supStep _ _ _ = _; unfold supStep; rw [if_neg (by intro h; exact g45 h.1)]
          refine AT.takes (fuel := 0) hT [9, 10, 11, 12, 13, 14, 15, 16, 17, 18, 19, 20, 21] kr kr rfl (.done kr sl (.seq (.cond_false rfl (.skip (.blk (.seq (.region (.pures hT 2 rfl (.nil (.loop (k + 1, v, K) ?_ ?_ (SubR.cons rfl (SubR.cons rfl (SubR.cons rfl (SubR.cons' rfl (by (try dsimp only); exact (int_eq (by rw [wrap_i64 (by omega) (by omega)]; omega))) (SubR.nil _))))) (by dsimp only; rw [hst]; exact sl)))))))))))
          · dsimp only
            exact ⟨by omega, hone, by rw [hst]; exact hO⟩
          · dsimp only
            omega
    ·
      have c20 := of_decide_eq_false c20
      obtain rfl : k = 2 := by omega
      have hok := supTo_ok d at_ hk
      refine TT.exit (.seq (.loop (.here (.seq (.seq (.seq (.region (.pures hT 3 rfl (.load rfl rfl (Ld.one hT rfl hz rfl) rfl ?_)))))))))
      refine OT.pures hT 1 rfl (.nil (.seq (.cond rfl (fun c82 => ?_) (fun c82 => ?_))))
      ·
        have c82 : (supTo d at_ 2).turn = 0 := by have := eq_of_beq c82; omega
        have hm : (supOpen d at_) = (none, 8) := by unfold supOpen; rw [if_neg (by simpa using c14), if_pos c82]
        rw [hm]
        refine TT.seq (.region (.pures hT 2 rfl (.nil (.seq (.ret (.of (rs := [.tmp 4, .tmp 5]) [_, _] ([] :: H :: r) rfl (.tmp rfl (.tmp rfl .nil)) sl ?_))))))
        dsimp only [one]
        exact ⟨_, _, rfl, rfl, ⟨rfl, rfl⟩⟩
      ·
        have c82 : ¬ (supTo d at_ 2).turn = 0 := by have := ne_of_beq_false c82; omega
        have hm : (supOpen d at_) = (some (supTo d at_ 2), 0) := by unfold supOpen; rw [if_neg (by simpa using c14), if_neg c82]
        rw [hm]
        refine TT.skip (.seq (.seq (.region (.pures hT 3 rfl (.nil (.seq (.ret (.of (rs := [.tmp 4, .tmp 5]) [_, _] (([(b_18, blk [.pointer (some ⟨bp, 0, none⟩), .int .i64 at_, .int .i64 (supTo d at_ 2).slot, .int .i64 ((supTo d at_ 2).turn : Nat), v] 125 (0, 0))] ++ K) :: H :: r) rfl (.tmp rfl (.tmp rfl .nil)) sl ?_))))))))
        dsimp only [one]
        exact ⟨_, _, rfl, rfl, ⟨hok.1, by have := hok.2.1; omega, ⟨b_18, v, K, rfl, hO, hone, rfl⟩⟩⟩

end Go.Proofs.YtoalhcodigpgkaaGreatDoor.Sx
end

section
namespace Go.Proofs.YtoalhcodigpgkaaGreatDoor.Sx
open Go Go.Sx Go.Pl
variable [Outer]

set_option maxHeartbeats 1000000 in
set_option maxRecDepth 100000 in
theorem num_Put {v : Value} {xs : List UInt8} {H : Chunk} {r : List Chunk} {n : Int} (ho : Own Go.Sx.encB 1 5 v xs H) (h1 : -9223372036854775808 ≤ n) (h2 : n ≤ 9223372036854775807) (hl : xs.length ≤ 1073741824) : Fun Tryz.prog 51 [v, .int .i64 n] (H :: r) (fun v' hs' => ∃ H', hs' = H' :: r ∧ Own Go.Sx.encB 1 5 v' (xs ++ put n) H') := by
  refine Fun.enter 28 Tryz.func51 rfl Tryz.ntmps51 rfl ?_
  refine TT.seq (.region (.pures hT 1 rfl (.nil (.seq (.seq (.region (.pures hT 4 rfl (.nil (.seq (.cut (ι := Unit) (fun j => True) (fun j => [(0, v), (5, .int .u64 (zig n : Nat))]) (fun j => H :: r) ?_ ?_))))))))))
  ·
    refine TT.seq (.region (.pures hT 2 rfl (.nil (.seq (.cond rfl (fun c10 => ?_) (fun c10 => ?_))))))
    ·
      have c10 := of_decide_eq_true c10
      refine TT.region (.pures hT 3 rfl (.nil (.cut (()) ?_ (SubR.cons rfl (SubR.cons' rfl (by (try dsimp only); exact (by rw [shl1_neg c10 h1, not64 _ (by omega) (by omega)]; refine int_eq ?_; unfold zig; rw [if_pos c10]; omega)) (SubR.nil _))) sl)))
      · trivial
    ·
      have c10 := of_decide_eq_false c10
      refine TT.skip (.cut (()) ?_ (SubR.cons rfl (SubR.cons' rfl (by (try dsimp only); exact (by rw [shl1_pos (by omega) h2])) (SubR.nil _))) sl)
      · trivial
  ·
    rintro _ -
    show TT _ _ _ [(0, v), (5, .int .u64 (zig n : Nat))] (H :: r)
    refine TT.seq (.block (.loop (ι := Nat × (List UInt8) × Value × Chunk) (fun j => Own Go.Sx.encB 1 5 (j.2.2.1) (xs ++ (j.2.1)) (j.2.2.2) ∧ (j.2.1) ++ putU (j.1) = put n ∧ (j.1) < 18446744073709551616) (fun j => (j.1)) (fun j => [(0, (j.2.2.1)), (5, .int .u64 ((j.1) : Nat))]) (fun j => (j.2.2.2) :: r) (zig n, [], v, H) ?_ (SubR.cons rfl (SubR.cons rfl (SubR.nil _))) sl ?_))
    · dsimp only
      exact ⟨by simpa using ho, rfl, zig_lt h1 h2⟩
    rintro ⟨u, ys, w, K⟩ hI
    dsimp only at hI
    obtain ⟨hO, hp, hu⟩ := hI
    show TT _ _ _ [(0, w), (5, .int .u64 (u : Nat))] (K :: r)
    have h10 : ys.length + (putU u).length ≤ 10 := by rw [← List.length_append, hp]; exact put_ten h1 h2
    refine TT.seq (.seq (.region (.pures hT 2 rfl (.nil (.seq (.cond rfl (fun c14 => ?_) (fun c14 => ?_)))))))
    ·
      have c14 := of_decide_eq_true c14
      refine TT.skip (.seq (.block (.seq (.region (.pures hT 4 rfl ?_)))))
      refine OT.buildSlice (enc := Go.Sx.encB) (xs := [UInt8.ofNat (u % 128 + 128)]) (xos := [.tmp 18]) el33 rfl rfl rfl rfl (by rw [byteOr]; rfl) (by simp [Value.cells]) (fun _ _ => rfl) rfl (by decide) rfl (fun v_19 H_19 ho_19 => ?_)
      refine OT.append hT el33 rfl rfl rfl rfl pl hO ho_19.row rfl (by simp; omega) rfl (fun v_20 H_20 ho_20 => ?_)
      refine OT.pures hT 1 rfl (.nil (.seq (.region (.pures hT 3 rfl (.nil (.blk (.loop (u / 128, ys ++ [UInt8.ofNat (u % 128 + 128)], v_20, H_20) ?_ ?_ (SubR.cons rfl (SubR.cons' rfl (by (try dsimp only); exact (by rw [shr7])) (SubR.nil _))) sl)))))))
      · dsimp only
        exact ⟨by simpa using ho_20, by rw [← hp, putU_big (u := u) (by omega), List.append_assoc]; rfl, by omega⟩
      · dsimp only
        omega
    ·
      have c14 := of_decide_eq_false c14
      refine TT.exit (.seq (.loop (.here (.seq (.seq (.region (.pures hT 3 rfl ?_)))))))
      refine OT.buildSlice (enc := Go.Sx.encB) (xs := [UInt8.ofNat u]) (xos := [.tmp 25]) el33 rfl rfl rfl rfl (by rw [wrap_u8]; rfl) (by simp [Value.cells]) (fun _ _ => rfl) rfl (by decide) rfl (fun v_26 H_26 ho_26 => ?_)
      refine OT.append hT el33 rfl rfl rfl rfl pl hO ho_26.row rfl (by simp; omega) rfl (fun v_27 H_27 ho_27 => ?_)
      refine OT.pures hT 1 rfl (.nil (.seq (.ret (.of (rs := [.tmp 4]) [_] (H_27 :: r) rfl (.tmp rfl .nil) sl ?_))))
      dsimp only [one]
      exact ⟨_, rfl, by rw [← hp, putU_small (u := u) (by omega), ← List.append_assoc]; exact ho_27⟩


set_option maxHeartbeats 1000000 in
set_option maxRecDepth 100000 in
theorem num_PutText {v : Value} {xs : List UInt8} {H : Chunk} {r : List Chunk} {s : ByteArray} (ho : Own Go.Sx.encB 1 5 v xs H) (hs : s.size ≤ 1073741824) (hl : xs.length ≤ 1073741824) : Fun Tryz.prog 52 [v, .string s] (H :: r) (fun v' hs' => ∃ H', hs' = H' :: r ∧ Own Go.Sx.encB 1 5 v' (xs ++ putText s) H') := by
  refine Fun.enter 11 Tryz.func52 rfl Tryz.ntmps52 rfl ?_
  refine TT.seq (.region (.pures hT 1 rfl (.nil (.seq (.seq (.region (.pures hT 3 rfl (.call Tryz.call51 rfl rfl rfl rfl (num_Put ho (by omega) (by omega) hl) ?_))))))))
  rintro v_8 hs_8 ⟨H1, rfl, ho1⟩
  refine OT.pures hT 1 rfl (.append_str (fun _ => rfl) hT el33 rfl rfl rfl rfl pl ho1 (by have := put_ten (n := s.size) (by omega) (by omega); have e : s.data.toList.length = s.size := Array.length_toList; rw [List.length_append, e]; omega) rfl (fun v_10 H_10 ho_10 => ?_))
  refine OT.pures hT 1 rfl (.nil (.seq (.ret (.of (rs := [.tmp 4]) [_] (H_10 :: r) rfl (.tmp rfl .nil) sl ?_))))
  dsimp only [one]
  exact ⟨_, rfl, by unfold putText; rw [← List.append_assoc]; exact ho_10⟩


set_option maxHeartbeats 1000000 in
set_option maxRecDepth 100000 in
theorem num_Get {v : Value} {xs : List UInt8} {hs : List Chunk} (hr : Row Go.Sx.encB 1 hs v xs) (hl : xs.length ≤ 1073741824) : Fun Tryz.prog 67 [v] hs (fun v' hs' => v' = .tuple ⟨[.int .i64 (get xs).1, .int .i64 (get xs).2.1, .int .i64 (get xs).2.2]⟩ ∧ hs = hs') := by
  refine Fun.enter 50 Tryz.func67 rfl Tryz.ntmps67 rfl ?_
  obtain ⟨a0, c0, hv⟩ := hr.len
  subst hv
  refine TT.seq (.region (.pures hT 3 rfl (.nil (.seq (.seq (.region (.pures hT 1 rfl (.nil (.seq (.seq (.seq (.region (.pures hT 3 rfl (.nil (.seq (.block (.loop (ι := Nat × Nat) (fun j => (j.1) ≤ 9 ∧ (j.1) ≤ xs.length ∧ (j.2) < 128 ^ (j.1) ∧ getL (j.1) (j.2) (xs.drop (j.1)) = get xs) (fun j => xs.length - (j.1)) (fun j => [(5, .int .u64 ((j.2) : Nat)), (9, .slice a0 xs.length c0), (10, .int .i64 xs.length), (11, .int .i64 ((j.1) : Nat))]) (fun j => hs) (0, 0) ?_ (SubR.cons rfl (SubR.cons rfl (SubR.cons rfl (SubR.cons rfl (SubR.nil _))))) sl ?_)))))))))))))))))
  · dsimp only
    exact ⟨by omega, by omega, by simp, rfl⟩
  rintro ⟨i, u⟩ hI
  dsimp only at hI
  obtain ⟨h9, hi, hu, hp⟩ := hI
  show TT _ _ _ [(5, .int .u64 (u : Nat)), (9, .slice a0 xs.length c0), (10, .int .i64 xs.length), (11, .int .i64 (i : Nat))] (hs)
  refine TT.seq (.region (.pures hT 1 rfl (.nil (.seq (.seq (.cond rfl (fun c12 => ?_) (fun c12 => ?_)))))))
  ·
    have c12 := of_decide_eq_true c12
    obtain ⟨c, hc⟩ : ∃ c, xs[i]? = some c := ⟨_, List.getElem?_eq_getElem (by omega)⟩
    rw [List.drop_eq_getElem_cons (by omega), show xs[i]'(by omega) = c from by rw [List.getElem?_eq_getElem (by omega)] at hc; exact Option.some.inj hc, getL] at hp
    have hcl := c.toNat_lt
    refine TT.skip (.seq (.seq (.block (.seq (.region (.pures hT 1 rfl (.index hT rfl rfl rfl rfl hr (by omega) hc rfl (fun ad_14 hel_14 => ?_))))))))
    refine OT.load rfl rfl (hel_14.ld_one hT rfl rfl) rfl (.pures hT 2 rfl (.nil (.seq (.seq (.seq (.region (.pures hT 3 rfl (.split 18 rfl (fun g18 => ?_) (fun g18 => ?_)))))))))
    ·
      have g18 := of_decide_eq_true (g18 : decide ((i : Int) = 9) = true)
      refine OT.pures hT 3 rfl (.nil (.seq (.cond rfl (fun c21 => ?_) (fun c21 => ?_))))
      ·
        have c21 := of_decide_eq_true c21
        rw [if_pos ⟨by omega, by omega⟩] at hp
        refine TT.seq (.region (.pures hT 3 rfl (.nil (.seq (.ret (.of (rs := [.tmp 2, .tmp 3, .tmp 4]) [_, _, _] hs rfl (.tmp rfl (.tmp rfl (.tmp rfl .nil))) sl ?_))))))
        dsimp only [one]
        exact ⟨by rw [← hp], rfl⟩
      ·
        have c21 := of_decide_eq_false c21
        have c21 : ¬ (i = 9 ∧ 1 < c.toNat) := by omega
        rw [if_neg c21] at hp
        refine TT.skip (.seq (.seq (.region (.pures hT 6 rfl (.shl hT rfl rfl rfl (by rw [wrap_i64 (by omega) (by omega)]; omega) rfl ?_)))))
        have c21 : ¬ (i = 9 ∧ 1 < c.toNat) := by omega
        have hst := get_step h9 hu c21
        refine OT.pures hT 1 rfl (.reg 29 rfl (int_eq (by rw [byteAnd, get_shl h9 (by omega), get_or h9 hu (by omega)])) (.pures hT 1 rfl (.nil (.seq (.seq (.seq (.region (.pures hT 2 rfl (.nil (.seq (.cond rfl (fun c31 => ?_) (fun c31 => ?_))))))))))))
        ·
          have c31 := of_decide_eq_true c31
          try rw [if_neg c21] at hp
          rw [if_pos (by omega)] at hp
          refine TT.exit (.seq (.here (.seq (.region (.pures hT 2 rfl (.nil (.loop (i + 1, u + c.toNat % 128 * 128 ^ i) ?_ ?_ (SubR.cons rfl (SubR.cons rfl (SubR.cons rfl (SubR.cons' rfl (by (try dsimp only); exact (int_eq (by rw [wrap_i64 (by omega) (by omega)]; omega))) (SubR.nil _))))) sl)))))))
          · dsimp only
            exact ⟨by omega, by omega, get_next hu, hp⟩
          · dsimp only
            omega
        ·
          have c31 := of_decide_eq_false c31
          try rw [if_neg c21] at hp
          rw [if_neg (by omega)] at hp
          refine TT.skip (.seq (.seq (.seq (.region (.pures hT 3 rfl (.split 34 rfl (fun g34 => ?_) (fun g34 => ?_)))))))
          ·
            have g34 := of_decide_eq_true g34
            refine OT.pures hT 3 rfl (.nil (.seq (.cond rfl (fun c37 => ?_) (fun c37 => ?_))))
            ·
              have c37 := of_decide_eq_true (c37 : decide ((c.toNat : Int) = 0) = true)
              rw [if_pos ⟨by omega, by omega⟩] at hp
              refine TT.seq (.region (.pures hT 3 rfl (.nil (.seq (.ret (.of (rs := [.tmp 2, .tmp 3, .tmp 4]) [_, _, _] hs rfl (.tmp rfl (.tmp rfl (.tmp rfl .nil))) sl ?_))))))
              dsimp only [one]
              exact ⟨by rw [← hp], rfl⟩
            ·
              have c37 := of_decide_eq_false (c37 : decide ((c.toNat : Int) = 0) = false)
              rw [if_neg (by omega)] at hp
              refine TT.skip (.seq (.seq (.region (.pures hT 2 rfl (.pures hT 1 rfl (.reg 40 rfl (int_eq (unzig_even hst)) ?_))))))
              try rw [if_neg (by omega)] at hp
              refine OT.pures hT 1 rfl (.nil (.seq (.cut (ι := Unit) (fun j => True) (fun j => [(8, .int .i64 (unzig (u + c.toNat % 128 * 128 ^ i))), (6, .int .i64 (i : Nat))]) (fun j => hs) ?_ ?_)))
              ·
                refine TT.seq (.region (.pures hT 1 rfl (.pures hT 1 rfl (.reg 42 rfl (int_eq (and64_1 hst)) (.pures hT 1 rfl (.nil (.seq (.cond rfl (fun c43 => ?_) (fun c43 => ?_)))))))))
                ·
                  have c43 := of_decide_eq_true (c43 : decide (((u + c.toNat % 128 * 128 ^ i) % 2 : Nat) = (1 : Int)) = true)
                  refine TT.region (.pures hT 3 rfl (.nil (.cut (()) ?_ (SubR.cons' rfl (by (try dsimp only); exact (int_eq (by rw [not64i (by omega) (by omega)]; unfold unzig; rw [if_pos (by omega)]))) (SubR.cons rfl (SubR.nil _))) sl)))
                  · trivial
                ·
                  have c43 := of_decide_eq_false (c43 : decide (((u + c.toNat % 128 * 128 ^ i) % 2 : Nat) = (1 : Int)) = false)
                  refine TT.skip (.cut (()) ?_ (SubR.cons' rfl (by (try dsimp only); exact (int_eq (by unfold unzig; rw [if_neg (by omega)]))) (SubR.cons rfl (SubR.nil _))) sl)
                  · trivial
              ·
                rintro _ -
                show TT _ _ _ [(8, .int .i64 (unzig (u + c.toNat % 128 * 128 ^ i))), (6, .int .i64 (i : Nat))] (hs)
                refine TT.seq (.region (.pures hT 6 rfl (.nil (.seq (.ret (.of (rs := [.tmp 2, .tmp 3, .tmp 4]) [_, _, _] hs rfl (.tmp rfl (.tmp rfl (.tmp rfl .nil))) sl ?_))))))
                dsimp only [one]
                refine ⟨?_, rfl⟩
                rw [← hp, wrap_i64 (n := (i : Int) + 1) (by omega) (by omega)]
                rfl
          ·
            have g34 := of_decide_eq_false g34
            refine OT.pures hT 3 rfl (.nil (.seq (.cond_false rfl (.skip (.seq (.seq (.region (.pures hT 2 rfl (.pures hT 1 rfl (.reg 40 rfl (int_eq (unzig_even hst)) ?_))))))))))
            try rw [if_neg (by omega)] at hp
            refine OT.pures hT 1 rfl (.nil (.seq (.cut (ι := Unit) (fun j => True) (fun j => [(8, .int .i64 (unzig (u + c.toNat % 128 * 128 ^ i))), (6, .int .i64 (i : Nat))]) (fun j => hs) ?_ ?_)))
            ·
              refine TT.seq (.region (.pures hT 1 rfl (.pures hT 1 rfl (.reg 42 rfl (int_eq (and64_1 hst)) (.pures hT 1 rfl (.nil (.seq (.cond rfl (fun c43 => ?_) (fun c43 => ?_)))))))))
              ·
                have c43 := of_decide_eq_true (c43 : decide (((u + c.toNat % 128 * 128 ^ i) % 2 : Nat) = (1 : Int)) = true)
                refine TT.region (.pures hT 3 rfl (.nil (.cut (()) ?_ (SubR.cons' rfl (by (try dsimp only); exact (int_eq (by rw [not64i (by omega) (by omega)]; unfold unzig; rw [if_pos (by omega)]))) (SubR.cons rfl (SubR.nil _))) sl)))
                · trivial
              ·
                have c43 := of_decide_eq_false (c43 : decide (((u + c.toNat % 128 * 128 ^ i) % 2 : Nat) = (1 : Int)) = false)
                refine TT.skip (.cut (()) ?_ (SubR.cons' rfl (by (try dsimp only); exact (int_eq (by unfold unzig; rw [if_neg (by omega)]))) (SubR.cons rfl (SubR.nil _))) sl)
                · trivial
            ·
              rintro _ -
              show TT _ _ _ [(8, .int .i64 (unzig (u + c.toNat % 128 * 128 ^ i))), (6, .int .i64 (i : Nat))] (hs)
              refine TT.seq (.region (.pures hT 6 rfl (.nil (.seq (.ret (.of (rs := [.tmp 2, .tmp 3, .tmp 4]) [_, _, _] hs rfl (.tmp rfl (.tmp rfl (.tmp rfl .nil))) sl ?_))))))
              dsimp only [one]
              refine ⟨?_, rfl⟩
              rw [← hp, wrap_i64 (n := (i : Int) + 1) (by omega) (by omega)]
              rfl
    ·
      have g18 := of_decide_eq_false (g18 : decide ((i : Int) = 9) = false)
      refine OT.pures hT 3 rfl (.nil (.seq (.cond_false rfl (.skip (.seq (.seq (.region (.pures hT 6 rfl (.shl hT rfl rfl rfl (by rw [wrap_i64 (by omega) (by omega)]; omega) rfl ?_)))))))))
      have c21 : ¬ (i = 9 ∧ 1 < c.toNat) := by omega
      have hst := get_step h9 hu c21
      refine OT.pures hT 1 rfl (.reg 29 rfl (int_eq (by rw [byteAnd, get_shl h9 (by omega), get_or h9 hu (by omega)])) (.pures hT 1 rfl (.nil (.seq (.seq (.seq (.region (.pures hT 2 rfl (.nil (.seq (.cond rfl (fun c31 => ?_) (fun c31 => ?_))))))))))))
      ·
        have c31 := of_decide_eq_true c31
        try rw [if_neg c21] at hp
        rw [if_pos (by omega)] at hp
        refine TT.exit (.seq (.here (.seq (.region (.pures hT 2 rfl (.nil (.loop (i + 1, u + c.toNat % 128 * 128 ^ i) ?_ ?_ (SubR.cons rfl (SubR.cons rfl (SubR.cons rfl (SubR.cons' rfl (by (try dsimp only); exact (int_eq (by rw [wrap_i64 (by omega) (by omega)]; omega))) (SubR.nil _))))) sl)))))))
        · dsimp only
          exact ⟨by omega, by omega, get_next hu, hp⟩
        · dsimp only
          omega
      ·
        have c31 := of_decide_eq_false c31
        try rw [if_neg c21] at hp
        rw [if_neg (by omega)] at hp
        refine TT.skip (.seq (.seq (.seq (.region (.pures hT 3 rfl (.split 34 rfl (fun g34 => ?_) (fun g34 => ?_)))))))
        ·
          have g34 := of_decide_eq_true g34
          refine OT.pures hT 3 rfl (.nil (.seq (.cond rfl (fun c37 => ?_) (fun c37 => ?_))))
          ·
            have c37 := of_decide_eq_true (c37 : decide ((c.toNat : Int) = 0) = true)
            rw [if_pos ⟨by omega, by omega⟩] at hp
            refine TT.seq (.region (.pures hT 3 rfl (.nil (.seq (.ret (.of (rs := [.tmp 2, .tmp 3, .tmp 4]) [_, _, _] hs rfl (.tmp rfl (.tmp rfl (.tmp rfl .nil))) sl ?_))))))
            dsimp only [one]
            exact ⟨by rw [← hp], rfl⟩
          ·
            have c37 := of_decide_eq_false (c37 : decide ((c.toNat : Int) = 0) = false)
            rw [if_neg (by omega)] at hp
            refine TT.skip (.seq (.seq (.region (.pures hT 2 rfl (.pures hT 1 rfl (.reg 40 rfl (int_eq (unzig_even hst)) ?_))))))
            try rw [if_neg (by omega)] at hp
            refine OT.pures hT 1 rfl (.nil (.seq (.cut (ι := Unit) (fun j => True) (fun j => [(8, .int .i64 (unzig (u + c.toNat % 128 * 128 ^ i))), (6, .int .i64 (i : Nat))]) (fun j => hs) ?_ ?_)))
            ·
              refine TT.seq (.region (.pures hT 1 rfl (.pures hT 1 rfl (.reg 42 rfl (int_eq (and64_1 hst)) (.pures hT 1 rfl (.nil (.seq (.cond rfl (fun c43 => ?_) (fun c43 => ?_)))))))))
              ·
                have c43 := of_decide_eq_true (c43 : decide (((u + c.toNat % 128 * 128 ^ i) % 2 : Nat) = (1 : Int)) = true)
                refine TT.region (.pures hT 3 rfl (.nil (.cut (()) ?_ (SubR.cons' rfl (by (try dsimp only); exact (int_eq (by rw [not64i (by omega) (by omega)]; unfold unzig; rw [if_pos (by omega)]))) (SubR.cons rfl (SubR.nil _))) sl)))
                · trivial
              ·
                have c43 := of_decide_eq_false (c43 : decide (((u + c.toNat % 128 * 128 ^ i) % 2 : Nat) = (1 : Int)) = false)
                refine TT.skip (.cut (()) ?_ (SubR.cons' rfl (by (try dsimp only); exact (int_eq (by unfold unzig; rw [if_neg (by omega)]))) (SubR.cons rfl (SubR.nil _))) sl)
                · trivial
            ·
              rintro _ -
              show TT _ _ _ [(8, .int .i64 (unzig (u + c.toNat % 128 * 128 ^ i))), (6, .int .i64 (i : Nat))] (hs)
              refine TT.seq (.region (.pures hT 6 rfl (.nil (.seq (.ret (.of (rs := [.tmp 2, .tmp 3, .tmp 4]) [_, _, _] hs rfl (.tmp rfl (.tmp rfl (.tmp rfl .nil))) sl ?_))))))
              dsimp only [one]
              refine ⟨?_, rfl⟩
              rw [← hp, wrap_i64 (n := (i : Int) + 1) (by omega) (by omega)]
              rfl
        ·
          have g34 := of_decide_eq_false g34
          refine OT.pures hT 3 rfl (.nil (.seq (.cond_false rfl (.skip (.seq (.seq (.region (.pures hT 2 rfl (.pures hT 1 rfl (.reg 40 rfl (int_eq (unzig_even hst)) ?_))))))))))
          try rw [if_neg (by omega)] at hp
          refine OT.pures hT 1 rfl (.nil (.seq (.cut (ι := Unit) (fun j => True) (fun j => [(8, .int .i64 (unzig (u + c.toNat % 128 * 128 ^ i))), (6, .int .i64 (i : Nat))]) (fun j => hs) ?_ ?_)))
          ·
            refine TT.seq (.region (.pures hT 1 rfl (.pures hT 1 rfl (.reg 42 rfl (int_eq (and64_1 hst)) (.pures hT 1 rfl (.nil (.seq (.cond rfl (fun c43 => ?_) (fun c43 => ?_)))))))))
            ·
              have c43 := of_decide_eq_true (c43 : decide (((u + c.toNat % 128 * 128 ^ i) % 2 : Nat) = (1 : Int)) = true)
              refine TT.region (.pures hT 3 rfl (.nil (.cut (()) ?_ (SubR.cons' rfl (by (try dsimp only); exact (int_eq (by rw [not64i (by omega) (by omega)]; unfold unzig; rw [if_pos (by omega)]))) (SubR.cons rfl (SubR.nil _))) sl)))
              · trivial
            ·
              have c43 := of_decide_eq_false (c43 : decide (((u + c.toNat % 128 * 128 ^ i) % 2 : Nat) = (1 : Int)) = false)
              refine TT.skip (.cut (()) ?_ (SubR.cons' rfl (by (try dsimp only); exact (int_eq (by unfold unzig; rw [if_neg (by omega)]))) (SubR.cons rfl (SubR.nil _))) sl)
              · trivial
          ·
            rintro _ -
            show TT _ _ _ [(8, .int .i64 (unzig (u + c.toNat % 128 * 128 ^ i))), (6, .int .i64 (i : Nat))] (hs)
            refine TT.seq (.region (.pures hT 6 rfl (.nil (.seq (.ret (.of (rs := [.tmp 2, .tmp 3, .tmp 4]) [_, _, _] hs rfl (.tmp rfl (.tmp rfl (.tmp rfl .nil))) sl ?_))))))
            dsimp only [one]
            refine ⟨?_, rfl⟩
            rw [← hp, wrap_i64 (n := (i : Int) + 1) (by omega) (by omega)]
            rfl
  ·
    have c12 := of_decide_eq_false c12
    rw [List.drop_eq_nil_of_le (by omega), getL] at hp
    refine TT.exit (.seq (.loop (.here (.seq (.seq (.region (.pures hT 3 rfl (.nil (.seq (.ret (.of (rs := [.tmp 2, .tmp 3, .tmp 4]) [_, _, _] hs rfl (.tmp rfl (.tmp rfl (.tmp rfl .nil))) sl ?_)))))))))))
    dsimp only [one]
    exact ⟨by rw [← hp], rfl⟩

set_option maxHeartbeats 1000000 in
set_option maxRecDepth 100000 in
theorem num_GetText {v : Value} {xs : List UInt8} {hs : List Chunk} (hr : Row Go.Sx.encB 1 hs v xs) (hl : xs.length ≤ 1073741824) : Fun Tryz.prog 88 [v] hs (fun v' hs' => v' = .tuple ⟨[.string (getText xs).1, .int .i64 (getText xs).2.1, .int .i64 (getText xs).2.2]⟩ ∧ hs = hs') := by
  refine Fun.enter 42 Tryz.func88 rfl Tryz.ntmps88 rfl ?_
  obtain ⟨a0, c0, hv⟩ := hr.len
  subst hv
  have hk := @get_k xs
  unfold getText
  generalize hg : get xs = p at *
  obtain ⟨n, kk, e⟩ := p
  dsimp only at *
  refine TT.seq (.region (.pures hT 3 rfl (.nil (.seq (.seq (.region (.pures hT 1 rfl (.call Tryz.call67 rfl rfl rfl rfl (num_Get hr hl) ?_))))))))
  rintro v_10 hs_10 ⟨rfl, rfl⟩
  rw [hg]
  dsimp only
  refine OT.pures hT 7 rfl (.nil (.seq (.seq (.block (.seq (.region (.pures hT 3 rfl (.nil (.seq (.cond rfl (fun c14 => ?_) (fun c14 => ?_)))))))))))
  ·
    have c14 : ¬ e = 0 := by simpa using c14
    refine TT.seq (.region (.pures hT 4 rfl (.nil (.seq (.ret (.of (rs := [.tmp 2, .tmp 3, .tmp 4]) [_, _, _] hs rfl (.tmp rfl (.tmp rfl (.tmp rfl .nil))) sl ?_))))))
    dsimp only [one]
    refine ⟨?_, rfl⟩
    rw [if_pos c14]
  ·
    have c14 : e = 0 := by simpa using c14
    have hk := hk c14
    refine TT.seq (.region (.pures hT 3 rfl (.split 21 rfl (fun g21 => ?_) (fun g21 => ?_))))
    ·
      have g21 := of_decide_eq_true g21
      refine OT.pures hT 4 rfl (.nil (.seq (.cond_true rfl (.seq (.region (.pures hT 3 rfl (.nil (.seq (.ret (.of (rs := [.tmp 2, .tmp 3, .tmp 4]) [_, _, _] hs rfl (.tmp rfl (.tmp rfl (.tmp rfl .nil))) sl ?_))))))))))
      dsimp only [one]
      refine ⟨?_, rfl⟩
      rw [if_neg (by omega), if_pos (by omega)]
    ·
      have g21 := of_decide_eq_false g21
      refine OT.pures hT 4 rfl (.nil (.seq (.cond rfl (fun c18 => ?_) (fun c18 => ?_))))
      ·
        have c18 := of_decide_eq_true c18
        refine TT.seq (.region (.pures hT 3 rfl (.nil (.seq (.ret (.of (rs := [.tmp 2, .tmp 3, .tmp 4]) [_, _, _] hs rfl (.tmp rfl (.tmp rfl (.tmp rfl .nil))) sl ?_))))))
        dsimp only [one]
        refine ⟨?_, rfl⟩
        rw [if_neg (by omega), if_pos (by omega)]
      ·
        have c18 := of_decide_eq_false c18
        refine TT.seq (.region (.pures hT 7 rfl (.nil (.seq (.cond rfl (fun c25 => ?_) (fun c25 => ?_))))))
        ·
          have c25 := of_decide_eq_true c25
          rw [wrap_i64 (by omega) (by omega)] at c25
          refine TT.seq (.region (.pures hT 3 rfl (.nil (.seq (.ret (.of (rs := [.tmp 2, .tmp 3, .tmp 4]) [_, _, _] hs rfl (.tmp rfl (.tmp rfl (.tmp rfl .nil))) sl ?_))))))
          dsimp only [one]
          refine ⟨?_, rfl⟩
          rw [if_neg (by omega), if_neg (by omega), if_pos (by omega)]
        ·
          have c25 := of_decide_eq_false c25
          rw [wrap_i64 (by omega) (by omega)] at c25
          refine TT.skip (.blk (.seq (.seq (.region (.pures hT 5 rfl (.slice kk.toNat (kk + n).toNat hT rfl rfl rfl rfl rfl hr (.inr ⟨.i64, by rw [Int.toNat_of_nonneg (by omega)]⟩) (.inr ⟨.i64, by rw [Int.toNat_of_nonneg (by omega), wrap_i64 (by omega) (by omega)]⟩) (by omega) (by omega) rfl (fun v_37 hv_37 => ?_)))))))
          refine OT.conv_bs (fun _ => rfl) hT rfl rfl rfl rfl rfl hv_37 rfl (.pures hT 6 rfl (.nil (.seq (.ret (.of (rs := [.tmp 2, .tmp 3, .tmp 4]) [_, _, _] hs rfl (.tmp rfl (.tmp rfl (.tmp rfl .nil))) sl ?_)))))
          dsimp only [one]
          refine ⟨?_, rfl⟩
          rw [if_neg (by omega), if_neg (by omega), if_neg (by omega), wrap_i64 (by omega) (by omega)]




set_option maxHeartbeats 1000000 in
set_option maxRecDepth 100000 in
theorem law1_Short {v : Value} {xs : List UInt8} {n : Nat} {hs : List Chunk} (hr : Row Go.Sx.encB 1 hs v xs) : Fun Tryz.prog 39 [v, .int .i64 (n : Int)] hs (fun v' hs' => Row Go.Sx.encB 1 hs v' (xs.take n) ∧ hs = hs') := by
  refine Fun.enter 13 Tryz.func39 rfl Tryz.ntmps39 rfl ?_
  obtain ⟨a0, c0, hv⟩ := hr.len
  subst hv
  refine TT.seq (.region (.pures hT 1 rfl (.nil (.seq (.seq (.seq (.region (.pures hT 4 rfl (.nil (.seq (.cond rfl (fun c8 => ?_) (fun c8 => ?_))))))))))))
  ·
    have c8 := of_decide_eq_true c8
    refine TT.seq (.region (.pures hT 2 rfl (.slice 0 n hT rfl rfl rfl rfl rfl hr (.inl ⟨rfl, rfl⟩) (.inr ⟨_, rfl⟩) (by omega) (by omega) rfl (fun v_11 hv_11 => ?_))))
    refine OT.pures hT 1 rfl (.nil (.seq (.ret (.of (rs := [.tmp 4]) [_] hs rfl (.tmp rfl .nil) sl ?_))))
    dsimp only [one]
    exact ⟨by simpa using hv_11, rfl⟩
  ·
    have c8 := of_decide_eq_false c8
    refine TT.skip (.seq (.seq (.region (.pures hT 2 rfl (.nil (.seq (.ret (.of (rs := [.tmp 4]) [_] hs rfl (.tmp rfl .nil) sl ?_))))))))
    dsimp only [one]
    exact ⟨by rw [List.take_of_length_le (by omega)]; exact hr, rfl⟩

end Go.Proofs.YtoalhcodigpgkaaGreatDoor.Sx
end

section
namespace Go.Proofs.YtoalhcodigpgkaaGreatDoor.Sx
open Go Go.Sx Go.Pl
variable [Outer]

omit [Outer] in
set_option maxRecDepth 100000 in
theorem zeroLog : Tryz.zeroCells97.toList = logCells (.pointer none) (.pointer none) (noughts 65536) 0 0 0 (.slice none 0 0) false := by
  have h : isPre (Tryz.zeroCells97.toList.drop 2) 65536 = some [.int .i64 0, .int .i64 0, .int .i64 0, .slice none 0 0, .bool false] := by kernel_rfl
  have h := isPre_eq 65536 h
  have h2 : Tryz.zeroCells97.toList.take 2 = [.pointer none, .pointer none] := by kernel_rfl
  rw [← List.take_append_drop 2 Tryz.zeroCells97.toList, h, h2]
  rfl

set_option maxHeartbeats 1000000 in
set_option maxRecDepth 100000 in
theorem wal_text {x y : Nat} (hx : x ≤ 1152921504606846976) (hy : y ≤ 1152921504606846976) {r : List Chunk} : Fun Tryz.prog 49 [.int .i64 (x : Nat), .int .i64 (y : Nat)] r (fun v' hs' => ∃ H', hs' = H' :: r ∧ Own Go.Sx.encB 1 5 v' (logText x y) H') := by
  refine Fun.enter 9 Tryz.func49 rfl Tryz.ntmps49 rfl ?_
  have hxl := put_ten (n := (x : Int)) (by omega) (by omega)
  refine TT.seq (.region (.pures hT 1 rfl (.nil (.seq (.seq (.region (.pures hT 1 rfl (.call Tryz.call51 rfl rfl rfl rfl (Fun.chunk0 (num_Put Own.nil (by omega) (by omega) (by simp))) ?_))))))))
  rintro v_6 hs_6 ⟨H1, rfl, ho1⟩
  rw [List.nil_append] at ho1
  refine OT.pures hT 1 rfl (.call Tryz.call51 rfl rfl rfl rfl (num_Put ho1 (by omega) (by omega) (by omega)) ?_)
  rintro v_8 hs_8 ⟨H2, rfl, ho2⟩
  refine OT.pures hT 1 rfl (.nil (.seq (.ret (.of (rs := [.tmp 4]) [_] (H2 :: r) rfl (.tmp rfl .nil) sl ?_))))
  dsimp only [one]
  exact ⟨_, rfl, ho2⟩

set_option maxHeartbeats 1000000 in
set_option maxRecDepth 100000 in
theorem wal_load {b : Nat} {pd ps v : Value} {ring : List UInt8} {base forced end_ : Nat} {bad : Bool} (hrl : ring.length = 65536) {r : List Chunk} {d : Dev} {HD : Chunk} (hd : IsDev 83 69 pd d HD) (h14 : 1410 ≤ d.secs.length) : Fun Tryz.prog 50 [.pointer (some ⟨b, 0, none⟩)] ([(b, blk (logCells pd ps ring base forced end_ v bad) 97 (0, 0))] :: HD :: r) (fun v' hs' => v' = .int .i64 0 ∧ [(b, blk (logCells pd ps (Log.load d) base forced end_ v bad) 97 (0, 0))] :: HD :: r = hs') := by
  refine Fun.enter 31 Tryz.func50 rfl Tryz.ntmps50 rfl ?_
  have hmost := hd.ok.most
  refine TT.seq (.region (.pures hT 1 rfl (.nil (.seq (.seq (.seq (.region (.pures hT 1 rfl (.nil (.seq (.block (.loop (ι := Nat) (fun j => (j) ≤ 1024) (fun j => 1024 - (j)) (fun j => [(0, .pointer (some ⟨b, 0, none⟩)), (6, .int .i64 ((j) : Nat))]) (fun j => [(b, blk (logCells pd ps (loadTo d (j) ring) base forced end_ v bad) 97 (0, 0))] :: HD :: r) (0) ?_ (SubR.cons rfl (SubR.cons rfl (SubR.nil _))) (by rw [loadTo_zero]; exact sl) ?_))))))))))))
  · omega
  rintro k hk
  show TT _ _ _ [(0, .pointer (some ⟨b, 0, none⟩)), (6, .int .i64 (k : Nat))] ([(b, blk (logCells pd ps (loadTo d k ring) base forced end_ v bad) 97 (0, 0))] :: HD :: r)
  refine TT.seq (.region (.pures hT 1 rfl (.nil (.seq (.seq (.cond rfl (fun c7 => ?_) (fun c7 => ?_)))))))
  ·
    have c7 := of_decide_eq_true c7
    have hin : d.in (386 + (k : Nat)) := by unfold Dev.in; omega
    have hrd : d.read (386 + (k : Nat)) = ((d.sec (386 + (k : Nat))).now, 0) := by unfold Dev.read; rw [if_pos hin]
    have hx := (Dev.sec_ok hd.ok hin).1
    have hlen := loadTo_length hd.ok h14 (k := k) (by omega) hrl
    refine TT.skip (.seq (.seq (.block (.seq (.region (.pures hT 2 rfl (.nil (.seq (.seq (.region (.pures hT 3 rfl (.load rfl rfl (Ld.one hT rfl hz rfl) rfl ?_))))))))))))
    refine OT.pures hT 2 rfl (.reg 15 rfl (v := .int .i64 (386 + (k : Nat))) (int_eq (wrap_i64 (by omega) (by omega))) (.call Tryz.call75 rfl rfl rfl rfl (Fun.pull pl (dev_Read hd)) ?_))
    rintro v_16 hs_16 ⟨w1, H1, rfl, rfl, ho1⟩
    rw [hrd] at ho1 ⊢
    dsimp only at ho1 ⊢
    refine OT.pures hT 5 rfl (.nil (.seq (.seq (.seq (.region (.pures hT 2 rfl (.nil (.seq (.cond rfl (fun c20 => ?_) (fun c20 => ?_))))))))))
    ·
      exact absurd c20 (by decide)
    ·
      refine TT.skip (.seq (.region (.pures hT 5 rfl (.reg 26 rfl (v := .int .i64 ((64 * k : Nat) : Int)) (int_eq (by rw [wrap_i64 (by omega) (by omega)]; omega)) (.slice_arr (64 * k) 65536 hT rfl rfl rfl rfl rfl (.inr ⟨_, rfl⟩) (.inl ⟨rfl, rfl⟩) (by omega) (by omega) (by omega) rfl (.pures hT 1 rfl (.copy_raw hT rfl rfl rfl rfl pl ho1.row (by rw [logc_length hlen]; omega) (ones_bytes _) (.inl (Nat.le_refl _)) rfl ?_)))))))
      rw [List.take_of_length_le (by omega), show 0 + 2 + 64 * k * 1 = 2 + 64 * k by omega, logs_ring hlen (by omega), loadTo_step hd.ok h14 (by omega) hrl]
      refine OT.nil (.blk (.seq (.region (.pures hT 2 rfl (.nil (.loop (k + 1) ?_ ?_ (SubR.cons rfl (SubR.cons' rfl (by (try dsimp only); exact (int_eq (by rw [wrap_i64 (by omega) (by omega)]; omega))) (SubR.nil _))) sl))))))
      · omega
      · omega
  ·
    have c7 := of_decide_eq_false c7
    obtain rfl : k = 1024 := by omega
    rw [loadTo_all hrl]
    refine TT.exit (.seq (.loop (.here (.seq (.seq (.region (.pures hT 1 rfl (.nil (.seq (.ret (.of (rs := [.tmp 2]) [_] ([(b, blk (logCells pd ps (Log.load d) base forced end_ v bad) 97 (0, 0))] :: HD :: r) rfl (.tmp rfl .nil) sl ?_)))))))))))
    dsimp only [one]
    exact ⟨rfl, rfl⟩

set_option maxHeartbeats 2000000 in
set_option maxRecDepth 100000 in
theorem wal_Make {p : Value} {d : Dev} {H : Chunk} {r : List Chunk} (hd : IsDev 83 69 p d H) : Fun Tryz.prog 26 [p] (H :: r) (fun v' hs' => ∃ q HL HD', hs' = HL :: HD' :: r ∧ v' = .tuple ⟨[q, .int .i64 (logMake d).2.2]⟩ ∧ optLog 5 2 125 97 p (logMake d).1 q HL ∧ IsDev 83 69 p (logMake d).2.1 HD') := by
  refine Fun.enter 26 Tryz.func26 rfl Tryz.ntmps26 rfl ?_
  have hmost := hd.ok.most
  obtain ⟨bp, hpd⟩ := hd.ptr
  subst hpd
  refine TT.seq (.region (.pures hT 2 rfl (.nil (.seq (.seq (.seq (.region (.pures hT 1 rfl (.call Tryz.call23 rfl rfl rfl rfl (dev_Len hd) ?_)))))))))
  rintro v_8 hs_8 ⟨rfl, rfl⟩
  refine OT.pures hT 1 rfl (.nil (.seq (.cond rfl (fun c9 => ?_) (fun c9 => ?_))))
  ·
    have c9 := of_decide_eq_true c9
    have hm : (logMake d) = (none, d, 3) := by unfold logMake; rw [if_pos c9]
    rw [hm]
    refine TT.seq (.region (.pures hT 2 rfl (.nil (.seq (.ret (.of (rs := [.tmp 2, .tmp 3]) [_, _] ([] :: H :: r) rfl (.tmp rfl (.tmp rfl .nil)) sl ?_))))))
    dsimp only [one]
    exact ⟨_, _, _, rfl, rfl, ⟨rfl, rfl⟩, hd⟩
  ·
    have c9 := of_decide_eq_false c9
    refine TT.skip (.seq (.seq (.region (.pures hT 1 rfl (.call Tryz.call49 rfl rfl rfl rfl (wal_text (x := 0) (y := 0) (by omega) (by omega)) ?_)))))
    rintro v_12 hs_12 ⟨HT, rfl, hoT⟩
    have htl := logText_length (a := 0) (b := 0) (by omega) (by omega)
    refine OT.call Tryz.call48 rfl rfl rfl rfl (Fun.pull pl (super_Make hd (by omega) (by omega) hoT.row)) ?_
    rintro v_13 hs_13 ⟨ps, HS, HD, rfl, rfl, hopt, hd2⟩
    refine OT.pures hT 5 rfl (.nil (.seq (.seq (.seq (.region (.pures hT 2 rfl (.nil (.seq (.cond rfl (fun c17 => ?_) (fun c17 => ?_))))))))))
    ·
      have c17 : (supMake d 0 (logText 0 0)).2.2 ≠ 0 := by simpa using c17
      have hn := supMake_none c17
      have hm : (logMake d) = (none, (supMake d 0 (logText 0 0)).2.1, (supMake d 0 (logText 0 0)).2.2) := by
        unfold logMake; rw [if_neg c9]
        generalize hq : supMake d 0 (logText 0 0) = q at *
        obtain ⟨q1, q2, q3⟩ := q
        subst hn; rfl
      rw [hm]
      refine TT.seq (.region (.pures hT 3 rfl (.nil (.seq (.ret (.of (rs := [.tmp 2, .tmp 3]) [_, _] ([] :: HD :: r) rfl (.tmp rfl (.tmp rfl .nil)) sl ?_))))))
      dsimp only [one]
      exact ⟨_, _, _, rfl, rfl, ⟨rfl, rfl⟩, hd2⟩
    ·
      have c17 : (supMake d 0 (logText 0 0)).2.2 = 0 := by simpa using c17
      obtain ⟨s, hs1⟩ := supMake_some c17 (by omega)
      have hm : (logMake d) = (some ⟨Log.load (supMake d 0 (logText 0 0)).2.1, 0, 0, 0, [], false, s⟩, (supMake d 0 (logText 0 0)).2.1, 0) := by
        unfold logMake; rw [if_neg c9]
        generalize hq : supMake d 0 (logText 0 0) = q at *
        obtain ⟨q1, q2, q3⟩ := q
        subst hs1; rfl
      rw [hm]
      rw [hs1] at hopt
      have hopt : IsSup 5 125 ps (.pointer (some ⟨bp, 0, none⟩)) 0 s HS := hopt
      obtain ⟨bs, hps⟩ := hopt.ptr
      subst hps
      have hsecs := supMake_secs d 0 (logText 0 0)
      refine TT.skip (.seq (.seq (.region (.pures hT 2 rfl (.build (cs := logCells (.pointer (some ⟨bp, 0, none⟩)) (.pointer (some ⟨bs, 0, none⟩)) (noughts 65536) 0 0 0 (.slice none 0 0) false) hT rfl Tryz.zeroValue97 rfl rfl (show fillL logFields Tryz.zeroCells97.toList _ = _ from zeroLog ▸ fill_log (noughts_length _) _ _) rfl (.box rfl rfl rfl (fun b_22 => ?_)))))))
      refine OT.pures hT 1 rfl (.nil (.seq (.seq (.region (.pures hT 2 rfl (.call Tryz.call50 rfl rfl rfl rfl (Fun.pull (A := HD) pl (Fun.pull (A := [(b_22, blk (logCells (.pointer (some ⟨bp, 0, none⟩)) (.pointer (some ⟨bs, 0, none⟩)) (noughts 65536) 0 0 0 (.slice none 0 0) false) 97 (0, 0))]) pl (wal_load (base := 0) (forced := 0) (end_ := 0) (noughts_length _) hd2 (by rw [hsecs]; omega)))) ?_))))))
      rintro v_25 hs_25 ⟨rfl, rfl⟩
      refine OT.pures hT 2 rfl (.nil (.seq (.ret (.of (rs := [.tmp 2, .tmp 3]) [_, _] (([(b_22, blk (logCells (.pointer (some ⟨bp, 0, none⟩)) (.pointer (some ⟨bs, 0, none⟩)) (Log.load (supMake d 0 (logText 0 0)).2.1) 0 0 0 (.slice none 0 0) false) 97 (0, 0))] ++ (HS ++ [])) :: HD :: r) rfl (.tmp rfl (.tmp rfl .nil)) sl ?_))))
      dsimp only [one]
      exact ⟨_, _, _, rfl, rfl, ⟨⟨ringLoad_length hd2.ok (by rw [hsecs]; omega), ⟨Nat.le_refl _, Nat.le_refl _⟩, by dsimp only; omega, by simp, by simp, by dsimp only; omega⟩, ⟨b_22, _, _, HS, [], rfl, hopt, Own.nil, rfl, rfl⟩⟩, hd2⟩

set_option maxHeartbeats 1000000 in
set_option maxRecDepth 100000 in
theorem wal_at {b : Nat} {n : Nat} {hs : List Chunk} : Fun Tryz.prog 80 [.pointer (some ⟨b, 0, none⟩), .int .i64 (n : Nat)] hs (fun v' hs' => v' = .pointer (some ⟨b, 2 + n % 65536, none⟩) ∧ hs = hs') := by
  refine Fun.enter 11 Tryz.func80 rfl Tryz.ntmps80 rfl ?_
  refine TT.seq (.region (.pures hT 1 rfl (.nil (.seq (.seq (.region (.pures hT 5 rfl (.reg 7 rfl (v := .int .i64 ((n % 65536 : Nat) : Int)) (int_eq (by rw [Int.tmod_eq_emod_of_nonneg (by omega)]; omega)) (.index_at hT rfl rfl rfl rfl (by omega) (by omega) rfl (.pures hT 1 rfl (.nil (.seq (.ret (.of (rs := [.tmp 4]) [_] hs rfl (.tmp rfl .nil) sl ?_))))))))))))))
  dsimp only [one]
  exact ⟨by congr 3; omega, rfl⟩

set_option maxHeartbeats 1000000 in
set_option maxRecDepth 100000 in
theorem wal_put {b : Nat} {pd ps v : Value} {ring : List UInt8} {base forced end_ : Nat} {bad : Bool} (hrl : ring.length = 65536) {r : List Chunk} {vb : Value} {bs : List UInt8} (hr : Row Go.Sx.encB 1 r vb bs) (hen : end_ + bs.length ≤ 1152921504606846976) : Fun Tryz.prog 54 [.pointer (some ⟨b, 0, none⟩), vb] ([(b, blk (logCells pd ps ring base forced end_ v bad) 97 (0, 0))] :: r) (fun v' hs' => v' = .tuple ⟨[]⟩ ∧ [(b, blk (logCells pd ps (ringPut ring end_ bs) base forced (end_ + bs.length) v bad) 97 (0, 0))] :: r = hs') := by
  refine Fun.enter 28 Tryz.func54 rfl Tryz.ntmps54 rfl ?_
  obtain ⟨ab, cb, hvb⟩ := hr.len
  subst hvb
  refine TT.seq (.region (.pures hT 3 rfl (.nil (.seq (.block (.loop (ι := Nat) (fun j => (j) ≤ bs.length) (fun j => bs.length - (j)) (fun j => [(0, .pointer (some ⟨b, 0, none⟩)), (6, .slice ab bs.length cb), (7, .int .i64 bs.length), (8, .int .i64 ((j) : Nat))]) (fun j => [(b, blk (logCells pd ps (ringPut ring end_ (bs.take (j))) base forced (end_ + (j)) v bad) 97 (0, 0))] :: r) (0) ?_ (SubR.cons rfl (SubR.cons rfl (SubR.cons rfl (SubR.cons rfl (SubR.nil _))))) sl ?_))))))
  · omega
  rintro i hi
  show TT _ _ _ [(0, .pointer (some ⟨b, 0, none⟩)), (6, .slice ab bs.length cb), (7, .int .i64 bs.length), (8, .int .i64 (i : Nat))] ([(b, blk (logCells pd ps (ringPut ring end_ (bs.take i)) base forced (end_ + i) v bad) 97 (0, 0))] :: r)
  have hlen : (ringPut ring end_ (bs.take i)).length = 65536 := by rw [ringPut_length]; exact hrl
  refine TT.seq (.region (.pures hT 1 rfl (.nil (.seq (.seq (.cond rfl (fun c9 => ?_) (fun c9 => ?_)))))))
  ·
    have c9 := of_decide_eq_true c9
    obtain ⟨c, hc⟩ := nth (l := bs) (i := i) (by omega)
    have hnx : (ringPut ring end_ (bs.take i)).set ((end_ + i) % 65536) c = ringPut ring end_ (bs.take (i + 1)) := by rw [take_succ hc, ringPut_snoc, List.length_take, Nat.min_eq_left (by omega)]
    have hlen2 : (ringPut ring end_ (bs.take (i + 1))).length = 65536 := by rw [ringPut_length]; exact hrl
    refine TT.skip (.seq (.seq (.block (.seq (.region (.index hT rfl rfl rfl rfl hr.there (by omega) hc rfl (fun ad_10 hel_10 => ?_)))))))
    refine OT.load rfl rfl (hel_10.ld_one hT rfl rfl) rfl (.pures hT 1 rfl (.nil (.seq (.seq (.region (.pures hT 4 rfl (.load rfl rfl (Ld.one hT rfl hz (logc_end hlen)) rfl ?_)))))))
    refine OT.call Tryz.call80 rfl rfl rfl rfl (wal_at) ?_
    rintro v_17 hs_17 ⟨rfl, rfl⟩
    refine OT.pures hT 2 rfl (.store hT rfl rfl rfl rfl pl rfl (by rw [logc_length hlen]; show 2 + (end_ + i) % 65536 + 1 ≤ 65543; omega) rfl (.inl (Nat.le_refl _)) (by rw [show (Value.int IntKind.u8 (c.toNat : Int)).cells.toList = [.int .u8 c.toNat] from rfl, logs_byte hlen (by omega), hnx]) ?_)
    refine OT.nil (.seq (.region (.pures hT 3 rfl (.load rfl rfl (Ld.one hT rfl hz (logc_end hlen2)) rfl ?_))))
    refine OT.pures hT 3 rfl (.store hT rfl rfl rfl rfl pl rfl (by rw [logc_length hlen2]; decide) rfl (.inl (Nat.le_refl _)) (cs' := logCells pd ps (ringPut ring end_ (bs.take (i + 1))) base forced (end_ + (i + 1)) v bad) (by rw [wrap_i64 (by omega) (by omega), show ((end_ + i : Nat) : Int) + 1 = ((end_ + (i + 1) : Nat) : Int) by omega]; exact logs_end hlen2 _) ?_)
    refine OT.nil (.blk (.seq (.region (.pures hT 2 rfl (.nil (.loop (i + 1) ?_ ?_ (SubR.cons rfl (SubR.cons rfl (SubR.cons rfl (SubR.cons' rfl (by (try dsimp only); exact (int_eq (by rw [wrap_i64 (by omega) (by omega)]; omega))) (SubR.nil _))))) sl))))))
    · omega
    · omega
  ·
    have c9 := of_decide_eq_false c9
    obtain rfl : i = bs.length := by omega
    rw [List.take_length]
    refine TT.exit (.seq (.loop (.here (.of (rs := []) [] ([(b, blk (logCells pd ps (ringPut ring end_ bs) base forced (end_ + bs.length) v bad) 97 (0, 0))] :: r) rfl .nil sl ?_))))
    dsimp only [one]
    exact ⟨rfl, rfl⟩


end Go.Proofs.YtoalhcodigpgkaaGreatDoor.Sx
end
