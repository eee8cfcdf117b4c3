/- Several texts in one. What the small logic wants to know of this program's types: printed by a program of ours off the loaded program; Lean checks each. Of the seat: how its memory is laid. What is read of arguments that hold slices. What is read of arguments that hold slices. What breaks. Printed by a program of ours off the loaded program and our notes; Lean checks it. What may break, called. Printed by a program of ours off the loaded program and our notes; Lean checks it. Which pages are in use. Printed by a program of ours off the loaded program and our notes; Lean checks it. Which pages are in use, read off any pages; a view's pages. Printed by a program of ours off the loaded program and our notes; Lean checks it. A book of pages: asked, laid. Printed by a program of ours off the loaded program and our notes; Lean checks it. Numbers and texts as bytes: what the program's num does, and the document's. Printed by a program of ours off the loaded program and our notes; Lean checks it. Which catalogs may be: what the program's May, Find and the document's MayCat compute. Printed by a program of ours off the loaded program and our notes; Lean checks it. Catalogs as bytes: what the program's Encode and the document's CatBytes, MayCat, EqCat compute. Printed by a program of ours off the loaded program and our notes; Lean checks it. Catalogs as bytes: what the program's Encode and the document's CatBytes and MayCat compute. Printed by a program of ours off the loaded program and our notes; Lean checks it. -/
import Derived.Test.YtnhkgchcdbideaaLA
import Derived.Test.YtnhkgchcdbideaaChecked
import Derived.Test.YtnhkgchcdbideaaLB
import Derived.Test.YtnhkgchcdbideaaLD
import Derived.Test.YtnhkgchcdbideaaLC

section
namespace Go.Proofs.Ytnhkgchcdbideaa.Sx
open Go Go.Sx

def tab : Tab := [
  (1, .one (.func #[] #[] false)),
  (2, .one (.int .i64)),
  (3, .one (.int .i64)),
  (4, .one .bool),
  (5, .one (.int .u8)),
  (6, .one (.int .u8)),
  (7, .struct [(0, 1), (1, 1), (2, 1), (3, 1)] 4),
  (8, .struct [(0, 1), (1, 1), (2, 1), (3, 1)] 4),
  (9, .one .string),
  (10, .one .string),
  (11, .one .string),
  (12, .one (.int .u64)),
  (13, .struct [(0, 1), (1, 1)] 2),
  (14, .struct [(0, 1), (1, 1)] 2),
  (15, .one (.pointer 168)),
  (16, .one (.pointer 171)),
  (17, .one (.pointer 180)),
  (18, .struct [(0, 1)] 1),
  (19, .struct [(0, 1)] 1),
  (20, .one (.interface #[])),
  (21, .one (.int .i32)),
  (22, .slice 5 1),
  (23, .slice 39 1),
  (24, .one (.func #[] #[4] false)),
  (25, .one (.pointer 28)),
  (26, .arr 96 22 1),
  (27, .struct [(0, 96), (96, 1)] 97),
  (28, .struct [(0, 96), (96, 1)] 97),
  (29, .slice 45 35),
  (30, .struct [(0, 1), (1, 1)] 2),
  (31, .struct [(0, 1), (1, 1)] 2),
  (32, .one (.int .i64)),
  (34, .one (.func #[31, 9] #[31, 32] false)),
  (36, .one (.func #[31] #[22, 32] false)),
  (37, .slice 66 2),
  (38, .one (.func #[39] #[37] false)),
  (39, .slice 125 3),
  (41, .one (.func #[94, 37] #[37, 32] false)),
  (42, .one (.func #[37] #[] false)),
  (43, .arr 32 3 1),
  (44, .struct [(0, 1), (1, 1), (2, 1), (3, 32)] 35),
  (45, .struct [(0, 1), (1, 1), (2, 1), (3, 32)] 35),
  (46, .struct [(0, 1), (1, 35)] 36),
  (47, .struct [(0, 1), (1, 35)] 36),
  (49, .one (.func #[25, 9] #[47, 4] false)),
  (51, .one (.func #[94, 3] #[4, 32] false)),
  (52, .one (.func #[3] #[22, 32] false)),
  (53, .one (.func #[22, 23, 3] #[4] false)),
  (54, .one (.int .u64)),
  (55, .arr 4 5 1),
  (56, .one (.func #[25, 9] #[4] false)),
  (57, .one (.func #[25, 3, 5] #[4] false)),
  (58, .one (.func #[3, 22] #[4] false)),
  (59, .slice 3 1),
  (60, .one (.func #[22] #[22] false)),
  (61, .arr 32 5 1),
  (62, .arr 3 61 32),
  (63, .one (.func #[94, 9] #[37, 32] false)),
  (64, .one (.func #[59, 3] #[4] false)),
  (65, .struct [(0, 1), (1, 1)] 2),
  (66, .struct [(0, 1), (1, 1)] 2),
  (67, .one (.func #[3, 3, 5] #[4] false)),
  (68, .one (.func #[3, 4] #[4] false)),
  (69, .one (.func #[22] #[31, 32] false)),
  (70, .one (.func #[31] #[59] false)),
  (71, .one (.func #[3] #[4] false)),
  (72, .slice 79 3),
  (73, .one (.pointer 76)),
  (74, .struct [(0, 1), (1, 1)] 2),
  (75, .struct [(0, 96), (96, 2)] 98),
  (76, .struct [(0, 96), (96, 2)] 98),
  (77, .one (.func #[74] #[22] false)),
  (78, .struct [(0, 1), (1, 1), (2, 1)] 3),
  (79, .struct [(0, 1), (1, 1), (2, 1)] 3),
  (80, .one (.func #[37] #[4] false)),
  (81, .one (.func #[37, 9] #[] false)),
  (82, .one (.func #[74] #[31] false)),
  (83, .one (.func #[31, 9] #[3] false)),
  (84, .one (.func #[3] #[] false)),
  (85, .one (.func #[25] #[4] false)),
  (86, .one (.func #[72, 22] #[4] false)),
  (87, .one (.func #[9] #[4] false)),
  (88, .one (.func #[29] #[29] false)),
  (89, .one (.func #[31] #[4] false)),
  (90, .one (.func #[22, 2] #[22] false)),
  (91, .one (.func #[22, 9] #[22] false)),
  (92, .one (.func #[39, 3] #[37] false)),
  (93, .one (.interface #[("Page", 52)])),
  (94, .one (.interface #[("Page", 52)])),
  (95, .one (.func #[1] #[32] false)),
  (96, .one (.pointer 100)),
  (97, .one (.func #[94] #[31] false)),
  (98, .one (.map 3 22)),
  (99, .struct [(0, 1), (1, 2), (3, 1)] 4),
  (100, .struct [(0, 1), (1, 2), (3, 1)] 4),
  (101, .one (.func #[2] #[] false)),
  (102, .one (.func #[] #[37] false)),
  (103, .one (.func #[94] #[22, 32] false)),
  (104, .one (.func #[22, 3] #[4] false)),
  (105, .one (.func #[4, 32] #[] false)),
  (106, .one (.func #[94, 3] #[22] false)),
  (108, .one (.func #[22] #[2, 3, 32] false)),
  (110, .one (.func #[22] #[45, 3] false)),
  (111, .one (.func #[22, 22] #[4] false)),
  (112, .one (.func #[59] #[] false)),
  (113, .one (.func #[74] #[4] false)),
  (114, .one (.func #[2] #[22] false)),
  (115, .one (.func #[9] #[22] false)),
  (116, .one (.func #[3, 37] #[] false)),
  (117, .one (.func #[29, 3, 3] #[29] false)),
  (118, .one (.func #[29, 119] #[3] false)),
  (119, .one (.func #[45] #[4] false)),
  (120, .one (.func #[3] #[22] false)),
  (121, .one (.func #[45, 3] #[22] false)),
  (122, .one (.int .u64)),
  (123, .one (.func #[22, 3] #[22] false)),
  (124, .struct [(0, 1), (1, 1), (2, 1)] 3),
  (125, .struct [(0, 1), (1, 1), (2, 1)] 3),
  (126, .struct [(0, 1)] 1),
  (127, .struct [(0, 1)] 1),
  (129, .one (.func #[3, 59] #[] false)),
  (130, .one (.func #[32] #[] false)),
  (132, .one (.func #[22] #[9, 3, 32] false)),
  (133, .one (.func #[59, 3, 3, 3] #[] false)),
  (134, .one (.func #[54] #[3] false)),
  (135, .arr 96 4 1),
  (136, .one (.func #[45, 3] #[4] false)),
  (138, .one (.func #[74] #[3, 4] false)),
  (139, .one (.func #[59, 3] #[3] false)),
  (140, .one (.func #[31] #[3, 4] false)),
  (141, .one (.func #[59, 3, 3] #[] false)),
  (142, .one (.int .i64)),
  (144, .one (.func #[59, 3, 3] #[3, 142] false)),
  (145, .one (.func #[59, 3, 3] #[4] false)),
  (146, .one (.func #[3, 3] #[4] false)),
  (147, .one (.func #[59, 3, 3, 3] #[3] false)),
  (148, .one (.func #[59, 3, 3, 3] #[3, 4] false)),
  (149, .one (.func #[150] #[3] false)),
  (150, .one (.int .u32)),
  (151, .one (.func #[122] #[3] false)),
  (152, .one (.func #[74] #[59] false)),
  (153, .one (.pointer 162)),
  (154, .one (.func #[94, 45] #[153] false)),
  (155, .one (.int .u64)),
  (156, .one (.func #[3] #[54] false)),
  (157, .one (.func #[] #[122] false)),
  (158, .one (.func #[59, 3, 159] #[3] false)),
  (159, .one (.pointer 3)),
  (160, .one (.func #[59, 3, 3, 3, 159] #[3] false)),
  (161, .struct [(0, 1), (1, 35)] 36),
  (162, .struct [(0, 1), (1, 35)] 36),
  (163, .one (.pointer 155)),
  (165, .one (.func #[59, 3, 3, 159] #[3, 3] false)),
  (166, .one (.func #[] #[9] false)),
  (167, .struct [(0, 1), (1, 1), (2, 1), (3, 1)] 4),
  (168, .struct [(0, 1), (1, 1), (2, 1), (3, 1)] 4),
  (169, .arr 0 16 1),
  (172, .one (.func #[] #[3] false)),
  (173, .one (.int .u8)),
  (174, .one (.int .u8)),
  (175, .one (.func #[181, 181] #[4] false)),
  (176, .one (.pointer 5)),
  (177, .one (.int .i32)),
  (178, .one (.int .i32)),
  (179, .struct [(0, 1), (1, 1), (2, 1), (3, 1), (4, 1), (5, 1), (6, 1), (7, 1), (8, 1), (9, 1), (10, 1)] 11),
  (180, .struct [(0, 1), (1, 1), (2, 1), (3, 1), (4, 1), (5, 1), (6, 1), (7, 1), (8, 1), (9, 1), (10, 1)] 11),
  (181, .one .unsafePointer)]
theorem hT : tab.ok Try.prog :=
  Tab.ok.cons (d := _) (T := _) ⟨Try.underlying1, Try.isAgg1, Try.sizeOf1⟩ <|
  Tab.ok.cons (d := _) (T := _) ⟨Try.underlying2, Try.isAgg2, Try.sizeOf2⟩ <|
  Tab.ok.cons (d := _) (T := _) ⟨Try.underlying3, Try.isAgg3, Try.sizeOf3⟩ <|
  Tab.ok.cons (d := _) (T := _) ⟨Try.underlying4, Try.isAgg4, Try.sizeOf4⟩ <|
  Tab.ok.cons (d := _) (T := _) ⟨Try.underlying5, Try.isAgg5, Try.sizeOf5⟩ <|
  Tab.ok.cons (d := _) (T := _) ⟨Try.underlying6, Try.isAgg6, Try.sizeOf6⟩ <|
  Tab.ok.cons (d := _) (T := _) ⟨⟨_, Try.underlying7, (.cons rfl Try.sizeOf2 (.cons rfl Try.sizeOf3 (.cons rfl Try.sizeOf4 (.cons rfl Try.sizeOf6 .nil))))⟩, Try.isAgg7, Try.sizeOf7⟩ <|
  Tab.ok.cons (d := _) (T := _) ⟨⟨_, Try.underlying8, (.cons rfl Try.sizeOf2 (.cons rfl Try.sizeOf3 (.cons rfl Try.sizeOf4 (.cons rfl Try.sizeOf6 .nil))))⟩, Try.isAgg8, Try.sizeOf8⟩ <|
  Tab.ok.cons (d := _) (T := _) ⟨Try.underlying9, Try.isAgg9, Try.sizeOf9⟩ <|
  Tab.ok.cons (d := _) (T := _) ⟨Try.underlying10, Try.isAgg10, Try.sizeOf10⟩ <|
  Tab.ok.cons (d := _) (T := _) ⟨Try.underlying11, Try.isAgg11, Try.sizeOf11⟩ <|
  Tab.ok.cons (d := _) (T := _) ⟨Try.underlying12, Try.isAgg12, Try.sizeOf12⟩ <|
  Tab.ok.cons (d := _) (T := _) ⟨⟨_, Try.underlying13, (.cons rfl Try.sizeOf9 (.cons rfl Try.sizeOf12 .nil))⟩, Try.isAgg13, Try.sizeOf13⟩ <|
  Tab.ok.cons (d := _) (T := _) ⟨⟨_, Try.underlying14, (.cons rfl Try.sizeOf9 (.cons rfl Try.sizeOf12 .nil))⟩, Try.isAgg14, Try.sizeOf14⟩ <|
  Tab.ok.cons (d := _) (T := _) ⟨Try.underlying15, Try.isAgg15, Try.sizeOf15⟩ <|
  Tab.ok.cons (d := _) (T := _) ⟨Try.underlying16, Try.isAgg16, Try.sizeOf16⟩ <|
  Tab.ok.cons (d := _) (T := _) ⟨Try.underlying17, Try.isAgg17, Try.sizeOf17⟩ <|
  Tab.ok.cons (d := _) (T := _) ⟨⟨_, Try.underlying18, (.cons rfl Try.sizeOf17 .nil)⟩, Try.isAgg18, Try.sizeOf18⟩ <|
  Tab.ok.cons (d := _) (T := _) ⟨⟨_, Try.underlying19, (.cons rfl Try.sizeOf17 .nil)⟩, Try.isAgg19, Try.sizeOf19⟩ <|
  Tab.ok.cons (d := _) (T := _) ⟨Try.underlying20, Try.isAgg20, Try.sizeOf20⟩ <|
  Tab.ok.cons (d := _) (T := _) ⟨Try.underlying21, Try.isAgg21, Try.sizeOf21⟩ <|
  Tab.ok.cons (d := _) (T := _) ⟨Try.underlying22, Try.sizeOf5, Try.isAgg22, Try.sizeOf22⟩ <|
  Tab.ok.cons (d := _) (T := _) ⟨Try.underlying23, Try.sizeOf39, Try.isAgg23, Try.sizeOf23⟩ <|
  Tab.ok.cons (d := _) (T := _) ⟨Try.underlying24, Try.isAgg24, Try.sizeOf24⟩ <|
  Tab.ok.cons (d := _) (T := _) ⟨Try.underlying25, Try.isAgg25, Try.sizeOf25⟩ <|
  Tab.ok.cons (d := _) (T := _) ⟨Try.underlying26, Try.sizeOf22, Try.isAgg26, Try.sizeOf26⟩ <|
  Tab.ok.cons (d := _) (T := _) ⟨⟨_, Try.underlying27, (.cons rfl Try.sizeOf26 (.cons rfl Try.sizeOf3 .nil))⟩, Try.isAgg27, Try.sizeOf27⟩ <|
  Tab.ok.cons (d := _) (T := _) ⟨⟨_, Try.underlying28, (.cons rfl Try.sizeOf26 (.cons rfl Try.sizeOf3 .nil))⟩, Try.isAgg28, Try.sizeOf28⟩ <|
  Tab.ok.cons (d := _) (T := _) ⟨Try.underlying29, Try.sizeOf45, Try.isAgg29, Try.sizeOf29⟩ <|
  Tab.ok.cons (d := _) (T := _) ⟨⟨_, Try.underlying30, (.cons rfl Try.sizeOf2 (.cons rfl Try.sizeOf29 .nil))⟩, Try.isAgg30, Try.sizeOf30⟩ <|
  Tab.ok.cons (d := _) (T := _) ⟨⟨_, Try.underlying31, (.cons rfl Try.sizeOf2 (.cons rfl Try.sizeOf29 .nil))⟩, Try.isAgg31, Try.sizeOf31⟩ <|
  Tab.ok.cons (d := _) (T := _) ⟨Try.underlying32, Try.isAgg32, Try.sizeOf32⟩ <|
  Tab.ok.cons (d := _) (T := _) ⟨Try.underlying34, Try.isAgg34, Try.sizeOf34⟩ <|
  Tab.ok.cons (d := _) (T := _) ⟨Try.underlying36, Try.isAgg36, Try.sizeOf36⟩ <|
  Tab.ok.cons (d := _) (T := _) ⟨Try.underlying37, Try.sizeOf66, Try.isAgg37, Try.sizeOf37⟩ <|
  Tab.ok.cons (d := _) (T := _) ⟨Try.underlying38, Try.isAgg38, Try.sizeOf38⟩ <|
  Tab.ok.cons (d := _) (T := _) ⟨Try.underlying39, Try.sizeOf125, Try.isAgg39, Try.sizeOf39⟩ <|
  Tab.ok.cons (d := _) (T := _) ⟨Try.underlying41, Try.isAgg41, Try.sizeOf41⟩ <|
  Tab.ok.cons (d := _) (T := _) ⟨Try.underlying42, Try.isAgg42, Try.sizeOf42⟩ <|
  Tab.ok.cons (d := _) (T := _) ⟨Try.underlying43, Try.sizeOf3, Try.isAgg43, Try.sizeOf43⟩ <|
  Tab.ok.cons (d := _) (T := _) ⟨⟨_, Try.underlying44, (.cons rfl Try.sizeOf9 (.cons rfl Try.sizeOf2 (.cons rfl Try.sizeOf4 (.cons rfl Try.sizeOf43 .nil))))⟩, Try.isAgg44, Try.sizeOf44⟩ <|
  Tab.ok.cons (d := _) (T := _) ⟨⟨_, Try.underlying45, (.cons rfl Try.sizeOf9 (.cons rfl Try.sizeOf2 (.cons rfl Try.sizeOf4 (.cons rfl Try.sizeOf43 .nil))))⟩, Try.isAgg45, Try.sizeOf45⟩ <|
  Tab.ok.cons (d := _) (T := _) ⟨⟨_, Try.underlying46, (.cons rfl Try.sizeOf25 (.cons rfl Try.sizeOf45 .nil))⟩, Try.isAgg46, Try.sizeOf46⟩ <|
  Tab.ok.cons (d := _) (T := _) ⟨⟨_, Try.underlying47, (.cons rfl Try.sizeOf25 (.cons rfl Try.sizeOf45 .nil))⟩, Try.isAgg47, Try.sizeOf47⟩ <|
  Tab.ok.cons (d := _) (T := _) ⟨Try.underlying49, Try.isAgg49, Try.sizeOf49⟩ <|
  Tab.ok.cons (d := _) (T := _) ⟨Try.underlying51, Try.isAgg51, Try.sizeOf51⟩ <|
  Tab.ok.cons (d := _) (T := _) ⟨Try.underlying52, Try.isAgg52, Try.sizeOf52⟩ <|
  Tab.ok.cons (d := _) (T := _) ⟨Try.underlying53, Try.isAgg53, Try.sizeOf53⟩ <|
  Tab.ok.cons (d := _) (T := _) ⟨Try.underlying54, Try.isAgg54, Try.sizeOf54⟩ <|
  Tab.ok.cons (d := _) (T := _) ⟨Try.underlying55, Try.sizeOf5, Try.isAgg55, Try.sizeOf55⟩ <|
  Tab.ok.cons (d := _) (T := _) ⟨Try.underlying56, Try.isAgg56, Try.sizeOf56⟩ <|
  Tab.ok.cons (d := _) (T := _) ⟨Try.underlying57, Try.isAgg57, Try.sizeOf57⟩ <|
  Tab.ok.cons (d := _) (T := _) ⟨Try.underlying58, Try.isAgg58, Try.sizeOf58⟩ <|
  Tab.ok.cons (d := _) (T := _) ⟨Try.underlying59, Try.sizeOf3, Try.isAgg59, Try.sizeOf59⟩ <|
  Tab.ok.cons (d := _) (T := _) ⟨Try.underlying60, Try.isAgg60, Try.sizeOf60⟩ <|
  Tab.ok.cons (d := _) (T := _) ⟨Try.underlying61, Try.sizeOf5, Try.isAgg61, Try.sizeOf61⟩ <|
  Tab.ok.cons (d := _) (T := _) ⟨Try.underlying62, Try.sizeOf61, Try.isAgg62, Try.sizeOf62⟩ <|
  Tab.ok.cons (d := _) (T := _) ⟨Try.underlying63, Try.isAgg63, Try.sizeOf63⟩ <|
  Tab.ok.cons (d := _) (T := _) ⟨Try.underlying64, Try.isAgg64, Try.sizeOf64⟩ <|
  Tab.ok.cons (d := _) (T := _) ⟨⟨_, Try.underlying65, (.cons rfl Try.sizeOf3 (.cons rfl Try.sizeOf22 .nil))⟩, Try.isAgg65, Try.sizeOf65⟩ <|
  Tab.ok.cons (d := _) (T := _) ⟨⟨_, Try.underlying66, (.cons rfl Try.sizeOf3 (.cons rfl Try.sizeOf22 .nil))⟩, Try.isAgg66, Try.sizeOf66⟩ <|
  Tab.ok.cons (d := _) (T := _) ⟨Try.underlying67, Try.isAgg67, Try.sizeOf67⟩ <|
  Tab.ok.cons (d := _) (T := _) ⟨Try.underlying68, Try.isAgg68, Try.sizeOf68⟩ <|
  Tab.ok.cons (d := _) (T := _) ⟨Try.underlying69, Try.isAgg69, Try.sizeOf69⟩ <|
  Tab.ok.cons (d := _) (T := _) ⟨Try.underlying70, Try.isAgg70, Try.sizeOf70⟩ <|
  Tab.ok.cons (d := _) (T := _) ⟨Try.underlying71, Try.isAgg71, Try.sizeOf71⟩ <|
  Tab.ok.cons (d := _) (T := _) ⟨Try.underlying72, Try.sizeOf79, Try.isAgg72, Try.sizeOf72⟩ <|
  Tab.ok.cons (d := _) (T := _) ⟨Try.underlying73, Try.isAgg73, Try.sizeOf73⟩ <|
  Tab.ok.cons (d := _) (T := _) ⟨⟨_, Try.underlying74, (.cons rfl Try.sizeOf2 (.cons rfl Try.sizeOf29 .nil))⟩, Try.isAgg74, Try.sizeOf74⟩ <|
  Tab.ok.cons (d := _) (T := _) ⟨⟨_, Try.underlying75, (.cons rfl Try.sizeOf26 (.cons rfl Try.sizeOf74 .nil))⟩, Try.isAgg75, Try.sizeOf75⟩ <|
  Tab.ok.cons (d := _) (T := _) ⟨⟨_, Try.underlying76, (.cons rfl Try.sizeOf26 (.cons rfl Try.sizeOf74 .nil))⟩, Try.isAgg76, Try.sizeOf76⟩ <|
  Tab.ok.cons (d := _) (T := _) ⟨Try.underlying77, Try.isAgg77, Try.sizeOf77⟩ <|
  Tab.ok.cons (d := _) (T := _) ⟨⟨_, Try.underlying78, (.cons rfl Try.sizeOf3 (.cons rfl Try.sizeOf39 (.cons rfl Try.sizeOf9 .nil)))⟩, Try.isAgg78, Try.sizeOf78⟩ <|
  Tab.ok.cons (d := _) (T := _) ⟨⟨_, Try.underlying79, (.cons rfl Try.sizeOf3 (.cons rfl Try.sizeOf39 (.cons rfl Try.sizeOf9 .nil)))⟩, Try.isAgg79, Try.sizeOf79⟩ <|
  Tab.ok.cons (d := _) (T := _) ⟨Try.underlying80, Try.isAgg80, Try.sizeOf80⟩ <|
  Tab.ok.cons (d := _) (T := _) ⟨Try.underlying81, Try.isAgg81, Try.sizeOf81⟩ <|
  Tab.ok.cons (d := _) (T := _) ⟨Try.underlying82, Try.isAgg82, Try.sizeOf82⟩ <|
  Tab.ok.cons (d := _) (T := _) ⟨Try.underlying83, Try.isAgg83, Try.sizeOf83⟩ <|
  Tab.ok.cons (d := _) (T := _) ⟨Try.underlying84, Try.isAgg84, Try.sizeOf84⟩ <|
  Tab.ok.cons (d := _) (T := _) ⟨Try.underlying85, Try.isAgg85, Try.sizeOf85⟩ <|
  Tab.ok.cons (d := _) (T := _) ⟨Try.underlying86, Try.isAgg86, Try.sizeOf86⟩ <|
  Tab.ok.cons (d := _) (T := _) ⟨Try.underlying87, Try.isAgg87, Try.sizeOf87⟩ <|
  Tab.ok.cons (d := _) (T := _) ⟨Try.underlying88, Try.isAgg88, Try.sizeOf88⟩ <|
  Tab.ok.cons (d := _) (T := _) ⟨Try.underlying89, Try.isAgg89, Try.sizeOf89⟩ <|
  Tab.ok.cons (d := _) (T := _) ⟨Try.underlying90, Try.isAgg90, Try.sizeOf90⟩ <|
  Tab.ok.cons (d := _) (T := _) ⟨Try.underlying91, Try.isAgg91, Try.sizeOf91⟩ <|
  Tab.ok.cons (d := _) (T := _) ⟨Try.underlying92, Try.isAgg92, Try.sizeOf92⟩ <|
  Tab.ok.cons (d := _) (T := _) ⟨Try.underlying93, Try.isAgg93, Try.sizeOf93⟩ <|
  Tab.ok.cons (d := _) (T := _) ⟨Try.underlying94, Try.isAgg94, Try.sizeOf94⟩ <|
  Tab.ok.cons (d := _) (T := _) ⟨Try.underlying95, Try.isAgg95, Try.sizeOf95⟩ <|
  Tab.ok.cons (d := _) (T := _) ⟨Try.underlying96, Try.isAgg96, Try.sizeOf96⟩ <|
  Tab.ok.cons (d := _) (T := _) ⟨Try.underlying97, Try.isAgg97, Try.sizeOf97⟩ <|
  Tab.ok.cons (d := _) (T := _) ⟨Try.underlying98, Try.isAgg98, Try.sizeOf98⟩ <|
  Tab.ok.cons (d := _) (T := _) ⟨⟨_, Try.underlying99, (.cons rfl Try.sizeOf94 (.cons rfl Try.sizeOf31 (.cons rfl Try.sizeOf98 .nil)))⟩, Try.isAgg99, Try.sizeOf99⟩ <|
  Tab.ok.cons (d := _) (T := _) ⟨⟨_, Try.underlying100, (.cons rfl Try.sizeOf94 (.cons rfl Try.sizeOf31 (.cons rfl Try.sizeOf98 .nil)))⟩, Try.isAgg100, Try.sizeOf100⟩ <|
  Tab.ok.cons (d := _) (T := _) ⟨Try.underlying101, Try.isAgg101, Try.sizeOf101⟩ <|
  Tab.ok.cons (d := _) (T := _) ⟨Try.underlying102, Try.isAgg102, Try.sizeOf102⟩ <|
  Tab.ok.cons (d := _) (T := _) ⟨Try.underlying103, Try.isAgg103, Try.sizeOf103⟩ <|
  Tab.ok.cons (d := _) (T := _) ⟨Try.underlying104, Try.isAgg104, Try.sizeOf104⟩ <|
  Tab.ok.cons (d := _) (T := _) ⟨Try.underlying105, Try.isAgg105, Try.sizeOf105⟩ <|
  Tab.ok.cons (d := _) (T := _) ⟨Try.underlying106, Try.isAgg106, Try.sizeOf106⟩ <|
  Tab.ok.cons (d := _) (T := _) ⟨Try.underlying108, Try.isAgg108, Try.sizeOf108⟩ <|
  Tab.ok.cons (d := _) (T := _) ⟨Try.underlying110, Try.isAgg110, Try.sizeOf110⟩ <|
  Tab.ok.cons (d := _) (T := _) ⟨Try.underlying111, Try.isAgg111, Try.sizeOf111⟩ <|
  Tab.ok.cons (d := _) (T := _) ⟨Try.underlying112, Try.isAgg112, Try.sizeOf112⟩ <|
  Tab.ok.cons (d := _) (T := _) ⟨Try.underlying113, Try.isAgg113, Try.sizeOf113⟩ <|
  Tab.ok.cons (d := _) (T := _) ⟨Try.underlying114, Try.isAgg114, Try.sizeOf114⟩ <|
  Tab.ok.cons (d := _) (T := _) ⟨Try.underlying115, Try.isAgg115, Try.sizeOf115⟩ <|
  Tab.ok.cons (d := _) (T := _) ⟨Try.underlying116, Try.isAgg116, Try.sizeOf116⟩ <|
  Tab.ok.cons (d := _) (T := _) ⟨Try.underlying117, Try.isAgg117, Try.sizeOf117⟩ <|
  Tab.ok.cons (d := _) (T := _) ⟨Try.underlying118, Try.isAgg118, Try.sizeOf118⟩ <|
  Tab.ok.cons (d := _) (T := _) ⟨Try.underlying119, Try.isAgg119, Try.sizeOf119⟩ <|
  Tab.ok.cons (d := _) (T := _) ⟨Try.underlying120, Try.isAgg120, Try.sizeOf120⟩ <|
  Tab.ok.cons (d := _) (T := _) ⟨Try.underlying121, Try.isAgg121, Try.sizeOf121⟩ <|
  Tab.ok.cons (d := _) (T := _) ⟨Try.underlying122, Try.isAgg122, Try.sizeOf122⟩ <|
  Tab.ok.cons (d := _) (T := _) ⟨Try.underlying123, Try.isAgg123, Try.sizeOf123⟩ <|
  Tab.ok.cons (d := _) (T := _) ⟨⟨_, Try.underlying124, (.cons rfl Try.sizeOf3 (.cons rfl Try.sizeOf22 (.cons rfl Try.sizeOf4 .nil)))⟩, Try.isAgg124, Try.sizeOf124⟩ <|
  Tab.ok.cons (d := _) (T := _) ⟨⟨_, Try.underlying125, (.cons rfl Try.sizeOf3 (.cons rfl Try.sizeOf22 (.cons rfl Try.sizeOf4 .nil)))⟩, Try.isAgg125, Try.sizeOf125⟩ <|
  Tab.ok.cons (d := _) (T := _) ⟨⟨_, Try.underlying126, (.cons rfl Try.sizeOf32 .nil)⟩, Try.isAgg126, Try.sizeOf126⟩ <|
  Tab.ok.cons (d := _) (T := _) ⟨⟨_, Try.underlying127, (.cons rfl Try.sizeOf32 .nil)⟩, Try.isAgg127, Try.sizeOf127⟩ <|
  Tab.ok.cons (d := _) (T := _) ⟨Try.underlying129, Try.isAgg129, Try.sizeOf129⟩ <|
  Tab.ok.cons (d := _) (T := _) ⟨Try.underlying130, Try.isAgg130, Try.sizeOf130⟩ <|
  Tab.ok.cons (d := _) (T := _) ⟨Try.underlying132, Try.isAgg132, Try.sizeOf132⟩ <|
  Tab.ok.cons (d := _) (T := _) ⟨Try.underlying133, Try.isAgg133, Try.sizeOf133⟩ <|
  Tab.ok.cons (d := _) (T := _) ⟨Try.underlying134, Try.isAgg134, Try.sizeOf134⟩ <|
  Tab.ok.cons (d := _) (T := _) ⟨Try.underlying135, Try.sizeOf4, Try.isAgg135, Try.sizeOf135⟩ <|
  Tab.ok.cons (d := _) (T := _) ⟨Try.underlying136, Try.isAgg136, Try.sizeOf136⟩ <|
  Tab.ok.cons (d := _) (T := _) ⟨Try.underlying138, Try.isAgg138, Try.sizeOf138⟩ <|
  Tab.ok.cons (d := _) (T := _) ⟨Try.underlying139, Try.isAgg139, Try.sizeOf139⟩ <|
  Tab.ok.cons (d := _) (T := _) ⟨Try.underlying140, Try.isAgg140, Try.sizeOf140⟩ <|
  Tab.ok.cons (d := _) (T := _) ⟨Try.underlying141, Try.isAgg141, Try.sizeOf141⟩ <|
  Tab.ok.cons (d := _) (T := _) ⟨Try.underlying142, Try.isAgg142, Try.sizeOf142⟩ <|
  Tab.ok.cons (d := _) (T := _) ⟨Try.underlying144, Try.isAgg144, Try.sizeOf144⟩ <|
  Tab.ok.cons (d := _) (T := _) ⟨Try.underlying145, Try.isAgg145, Try.sizeOf145⟩ <|
  Tab.ok.cons (d := _) (T := _) ⟨Try.underlying146, Try.isAgg146, Try.sizeOf146⟩ <|
  Tab.ok.cons (d := _) (T := _) ⟨Try.underlying147, Try.isAgg147, Try.sizeOf147⟩ <|
  Tab.ok.cons (d := _) (T := _) ⟨Try.underlying148, Try.isAgg148, Try.sizeOf148⟩ <|
  Tab.ok.cons (d := _) (T := _) ⟨Try.underlying149, Try.isAgg149, Try.sizeOf149⟩ <|
  Tab.ok.cons (d := _) (T := _) ⟨Try.underlying150, Try.isAgg150, Try.sizeOf150⟩ <|
  Tab.ok.cons (d := _) (T := _) ⟨Try.underlying151, Try.isAgg151, Try.sizeOf151⟩ <|
  Tab.ok.cons (d := _) (T := _) ⟨Try.underlying152, Try.isAgg152, Try.sizeOf152⟩ <|
  Tab.ok.cons (d := _) (T := _) ⟨Try.underlying153, Try.isAgg153, Try.sizeOf153⟩ <|
  Tab.ok.cons (d := _) (T := _) ⟨Try.underlying154, Try.isAgg154, Try.sizeOf154⟩ <|
  Tab.ok.cons (d := _) (T := _) ⟨Try.underlying155, Try.isAgg155, Try.sizeOf155⟩ <|
  Tab.ok.cons (d := _) (T := _) ⟨Try.underlying156, Try.isAgg156, Try.sizeOf156⟩ <|
  Tab.ok.cons (d := _) (T := _) ⟨Try.underlying157, Try.isAgg157, Try.sizeOf157⟩ <|
  Tab.ok.cons (d := _) (T := _) ⟨Try.underlying158, Try.isAgg158, Try.sizeOf158⟩ <|
  Tab.ok.cons (d := _) (T := _) ⟨Try.underlying159, Try.isAgg159, Try.sizeOf159⟩ <|
  Tab.ok.cons (d := _) (T := _) ⟨Try.underlying160, Try.isAgg160, Try.sizeOf160⟩ <|
  Tab.ok.cons (d := _) (T := _) ⟨⟨_, Try.underlying161, (.cons rfl Try.sizeOf94 (.cons rfl Try.sizeOf45 .nil))⟩, Try.isAgg161, Try.sizeOf161⟩ <|
  Tab.ok.cons (d := _) (T := _) ⟨⟨_, Try.underlying162, (.cons rfl Try.sizeOf94 (.cons rfl Try.sizeOf45 .nil))⟩, Try.isAgg162, Try.sizeOf162⟩ <|
  Tab.ok.cons (d := _) (T := _) ⟨Try.underlying163, Try.isAgg163, Try.sizeOf163⟩ <|
  Tab.ok.cons (d := _) (T := _) ⟨Try.underlying165, Try.isAgg165, Try.sizeOf165⟩ <|
  Tab.ok.cons (d := _) (T := _) ⟨Try.underlying166, Try.isAgg166, Try.sizeOf166⟩ <|
  Tab.ok.cons (d := _) (T := _) ⟨⟨_, Try.underlying167, (.cons rfl Try.sizeOf17 (.cons rfl Try.sizeOf17 (.cons rfl Try.sizeOf17 (.cons rfl Try.sizeOf9 .nil))))⟩, Try.isAgg167, Try.sizeOf167⟩ <|
  Tab.ok.cons (d := _) (T := _) ⟨⟨_, Try.underlying168, (.cons rfl Try.sizeOf17 (.cons rfl Try.sizeOf17 (.cons rfl Try.sizeOf17 (.cons rfl Try.sizeOf9 .nil))))⟩, Try.isAgg168, Try.sizeOf168⟩ <|
  Tab.ok.cons (d := _) (T := _) ⟨Try.underlying169, Try.sizeOf16, Try.isAgg169, Try.sizeOf169⟩ <|
  Tab.ok.cons (d := _) (T := _) ⟨Try.underlying172, Try.isAgg172, Try.sizeOf172⟩ <|
  Tab.ok.cons (d := _) (T := _) ⟨Try.underlying173, Try.isAgg173, Try.sizeOf173⟩ <|
  Tab.ok.cons (d := _) (T := _) ⟨Try.underlying174, Try.isAgg174, Try.sizeOf174⟩ <|
  Tab.ok.cons (d := _) (T := _) ⟨Try.underlying175, Try.isAgg175, Try.sizeOf175⟩ <|
  Tab.ok.cons (d := _) (T := _) ⟨Try.underlying176, Try.isAgg176, Try.sizeOf176⟩ <|
  Tab.ok.cons (d := _) (T := _) ⟨Try.underlying177, Try.isAgg177, Try.sizeOf177⟩ <|
  Tab.ok.cons (d := _) (T := _) ⟨Try.underlying178, Try.isAgg178, Try.sizeOf178⟩ <|
  Tab.ok.cons (d := _) (T := _) ⟨⟨_, Try.underlying179, (.cons rfl Try.sizeOf12 (.cons rfl Try.sizeOf12 (.cons rfl Try.sizeOf150 (.cons rfl Try.sizeOf173 (.cons rfl Try.sizeOf5 (.cons rfl Try.sizeOf5 (.cons rfl Try.sizeOf174 (.cons rfl Try.sizeOf175 (.cons rfl Try.sizeOf176 (.cons rfl Try.sizeOf177 (.cons rfl Try.sizeOf178 .nil)))))))))))⟩, Try.isAgg179, Try.sizeOf179⟩ <|
  Tab.ok.cons (d := _) (T := _) ⟨⟨_, Try.underlying180, (.cons rfl Try.sizeOf12 (.cons rfl Try.sizeOf12 (.cons rfl Try.sizeOf150 (.cons rfl Try.sizeOf173 (.cons rfl Try.sizeOf5 (.cons rfl Try.sizeOf5 (.cons rfl Try.sizeOf174 (.cons rfl Try.sizeOf175 (.cons rfl Try.sizeOf176 (.cons rfl Try.sizeOf177 (.cons rfl Try.sizeOf178 .nil)))))))))))⟩, Try.isAgg180, Try.sizeOf180⟩ <|
  Tab.ok.cons (d := _) (T := _) ⟨Try.underlying181, Try.isAgg181, Try.sizeOf181⟩ <|
  Tab.ok.nil
theorem el22 : Elem Try.prog 22 5 1 := ⟨Try.underlying22, Try.sizeOf5, ⟨Try.t5, Try.typeInfo5, by decide, by decide⟩, ⟨_, Try.zeroValue5, rfl⟩⟩
theorem el23 : Elem Try.prog 23 39 1 := ⟨Try.underlying23, Try.sizeOf39, ⟨Try.t39, Try.typeInfo39, by decide, by decide⟩, ⟨_, Try.zeroValue39, rfl⟩⟩
theorem el29 : Elem Try.prog 29 45 35 := ⟨Try.underlying29, Try.sizeOf45, ⟨Try.t45, Try.typeInfo45, by decide, by decide⟩, ⟨_, Try.zeroValue45, rfl⟩⟩
theorem el37 : Elem Try.prog 37 66 2 := ⟨Try.underlying37, Try.sizeOf66, ⟨Try.t66, Try.typeInfo66, by decide, by decide⟩, ⟨_, Try.zeroValue66, rfl⟩⟩
theorem el39 : Elem Try.prog 39 125 3 := ⟨Try.underlying39, Try.sizeOf125, ⟨Try.t125, Try.typeInfo125, by decide, by decide⟩, ⟨_, Try.zeroValue125, rfl⟩⟩
theorem el59 : Elem Try.prog 59 3 1 := ⟨Try.underlying59, Try.sizeOf3, ⟨Try.t3, Try.typeInfo3, by decide, by decide⟩, ⟨_, Try.zeroValue3, rfl⟩⟩
theorem el72 : Elem Try.prog 72 79 3 := ⟨Try.underlying72, Try.sizeOf79, ⟨Try.t79, Try.typeInfo79, by decide, by decide⟩, ⟨_, Try.zeroValue79, rfl⟩⟩
theorem mixed : Try.prog.follows .mixedOrders = true := by kernel_rfl
end Go.Proofs.Ytnhkgchcdbideaa.Sx
end

section
namespace Go.Proofs.Ytnhkgchcdbideaa.Ro
open Go Go.Sx Go.ChangeShapes Go.WideShapes
theorem own : ownKnob Try.prog.godebug = none := by kernel_rfl
theorem laid : laidOutB Try.prog = true := by kernel_rfl
end Go.Proofs.Ytnhkgchcdbideaa.Ro
end

section
namespace Go.Proofs.Ytnhkgchcdbideaa.Ro
open Go Go.Sx Go.Pl Go.ChangeShapes Go.WideShapes
set_option linter.constructorNameAsVariable false
theorem c3 : Try.prog.cellsOf 3 = 1 := by kernel_rfl
theorem c4 : Try.prog.cellsOf 4 = 1 := by kernel_rfl
theorem c22 : Try.prog.cellsOf 22 = 1 := by kernel_rfl
theorem c125 : Try.prog.cellsOf 125 = 3 := by kernel_rfl
set_option maxRecDepth 100000 in
theorem reads_raw (w : World) : ReadsAt Try.prog w 125 encRaw fun a => Row Go.Sx.encB 1 [all w] a.v a.b := by
  intro H enc base held n cs x h
  have hl := struct_len Try.underlying125 h
  rw [c125] at hl
  obtain ⟨a, h0, _⟩ := field_at Try.underlying125 (i := 0) (f := { name := "No", type := 3, offset := 0, embedded := false, tag := "", pkgPath := "", byteOffset := 0 }) rfl (Reads.at (reads_i64 Try.underlying3)) h
  obtain ⟨b, h1, hb, _⟩ := field_at Try.underlying125 (i := 1) (f := { name := "B", type := 22, offset := 1, embedded := false, tag := "", pkgPath := "", byteOffset := 8 }) rfl (readsAt_slice (e := Go.Sx.encB) (sz := 1) Try.underlying22 (by kernel_rfl) (by decide) (Reads.at (reads_u8 Try.underlying5)) (fun _ => .inl rfl)) h
  obtain ⟨c, h2, _⟩ := field_at Try.underlying125 (i := 2) (f := { name := "Odd", type := 4, offset := 2, embedded := false, tag := "", pkgPath := "", byteOffset := 32 }) rfl (Reads.at (reads_bool Try.underlying4)) h
  dsimp only at h0 h1 h2
  rw [c3] at h0
  rw [c22] at h1
  rw [c4] at h2
  refine ⟨⟨a, b.1, b.2, c⟩, ?_, hb⟩
  match cs, hl with
  | [p, q, r], _ =>
    simp only [List.drop_zero, List.take_succ_cons, List.take_zero, List.drop_succ_cons] at h0 h1 h2
    have e0 : p = .int .i64 a := by injection h0
    have e1 : q = b.1 := by injection h1
    have e2 : r = .bool c := by injection h2
    rw [e0, e1, e2]; rfl
theorem raws_of {w : World} {v : Value} {xs : List Raw} (h1 : Row encRaw 3 [all w] v xs) (h2 : xs.length ≤ maxLen) (h3 : ∀ a ∈ xs, Row Go.Sx.encB 1 [all w] a.v a.b) : RawsAt [all w] v xs := ⟨h1, h3, Nat.le_trans h2 (by decide)⟩
set_option maxRecDepth 100000 in
theorem open_raws {H : Type} {enc : TypeId × Value → H} {w : World} {r : Reach} {b0 : Nat} {v : Value} {d : DataW H} {p : List MemPlace} (hok : Value.okWide Try.prog w r b0 39 v) (h : DataW.Trod enc Try.prog w 0 (fun _ => true) true 39 v d p) : ∃ xs : List Raw, RawsAt [all w] v xs := by
  obtain ⟨xs, h1, h2, h3⟩ := open_row_at (e := encRaw) (sz := 3) Try.underlying39 (by kernel_rfl) (by decide) (reads_raw w) hok h (fun _ => .inl rfl)
  exact ⟨xs, raws_of h1 h2 h3⟩
theorem c39 : Try.prog.cellsOf 39 = 1 := by kernel_rfl
set_option maxRecDepth 100000 in
theorem reads_rs (w : World) : ReadsAt Try.prog w 39 encRR fun x => RawsAt [all w] x.1 x.2 := by
  intro H enc base held n cs x h
  obtain ⟨a, h0, h1, h2, h3⟩ := readsAt_slice (e := encRaw) (sz := 3) Try.underlying39 (by kernel_rfl) (by decide) (reads_raw w) (fun _ => .inl rfl) h
  exact ⟨a, h0, raws_of h1 h2 h3⟩
set_option maxRecDepth 100000 in
theorem open_rawss {H : Type} {enc : TypeId × Value → H} {w : World} {r : Reach} {b0 : Nat} {v : Value} {d : DataW H} {p : List MemPlace} (hok : Value.okWide Try.prog w r b0 23 v) (h : DataW.Trod enc Try.prog w 0 (fun _ => true) true 23 v d p) : ∃ xs : List RawsV, Row encRR 1 [all w] v xs ∧ xs.length ≤ maxLen ∧ ∀ x ∈ xs, RawsAt [all w] x.1 x.2 :=
  open_row_at (e := encRR) (sz := 1) Try.underlying23 (by kernel_rfl) (by decide) (reads_rs w) hok h (fun _ => .inl rfl)
end Go.Proofs.Ytnhkgchcdbideaa.Ro
end

section
namespace Go.Proofs.Ytnhkgchcdbideaa.Ro
open Go Go.Sx Go.Pl Go.ChangeShapes Go.WideShapes
set_option linter.constructorNameAsVariable false
theorem c79 : Try.prog.cellsOf 79 = 3 := by kernel_rfl
theorem c9 : Try.prog.cellsOf 9 = 1 := by kernel_rfl
set_option maxRecDepth 100000 in
theorem reads_cw (w : World) : ReadsAt Try.prog w 79 encCw fun o => RawsAt [all w] o.v o.l ∧ -9223372036854775808 ≤ o.kind ∧ o.kind ≤ 9223372036854775807 := by
  intro H enc base held n cs x h
  have hl := struct_len Try.underlying79 h
  rw [c79] at hl
  obtain ⟨a, h0, ha⟩ := field_at Try.underlying79 (i := 0) (f := { name := "Kind", type := 3, offset := 0, embedded := false, tag := "", pkgPath := "", byteOffset := 0 }) rfl (Reads.at (reads_i64 Try.underlying3)) h
  obtain ⟨c, h1, hc1, hc2, hc3⟩ := field_at Try.underlying79 (i := 1) (f := { name := "L", type := 39, offset := 1, embedded := false, tag := "", pkgPath := "", byteOffset := 8 }) rfl (readsAt_slice (e := encRaw) (sz := 3) Try.underlying39 (by kernel_rfl) (by decide) (reads_raw w) (fun _ => .inl rfl)) h
  obtain ⟨k, h2, _⟩ := field_at Try.underlying79 (i := 2) (f := { name := "Name", type := 9, offset := 2, embedded := false, tag := "", pkgPath := "", byteOffset := 32 }) rfl (Reads.at (reads_string Try.underlying9)) h
  dsimp only at h0 h1 h2
  rw [c3] at h0
  rw [c39] at h1
  rw [c9] at h2
  refine ⟨⟨a, c.1, c.2, k⟩, ?_, raws_of hc1 hc2 hc3, ha⟩
  match cs, hl with
  | [p, q, r], _ =>
    simp only [List.drop_zero, List.take_succ_cons, List.take_zero, List.drop_succ_cons] at h0 h1 h2
    have e0 : p = .int .i64 a := by injection h0
    have e1 : q = c.1 := by injection h1
    have e2 : r = .string k := by injection h2
    rw [e0, e1, e2]; rfl
set_option maxRecDepth 100000 in
theorem open_cowops {H : Type} {enc : TypeId × Value → H} {w : World} {r : Reach} {b0 : Nat} {v : Value} {d : DataW H} {p : List MemPlace} (hok : Value.okWide Try.prog w r b0 72 v) (h : DataW.Trod enc Try.prog w 0 (fun _ => true) true 72 v d p) : ∃ xs : List CwOp, Row encCw 3 [all w] v xs ∧ xs.length ≤ maxLen ∧ ∀ o ∈ xs, RawsAt [all w] o.v o.l ∧ -9223372036854775808 ≤ o.kind ∧ o.kind ≤ 9223372036854775807 :=
  open_row_at (e := encCw) (sz := 3) Try.underlying72 (by kernel_rfl) (by decide) (reads_cw w) hok h (fun _ => .inl rfl)
end Go.Proofs.Ytnhkgchcdbideaa.Ro
end

section
namespace Go.Proofs.Ytnhkgchcdbideaa.Sx
open Go Go.Sx Go.Pl
variable [Outer]

omit [Outer] in
/-- what a panic of ours tells -/
def flt (e : Int) : Value := .iface 127 (.agg ⟨[.int .i64 e]⟩)
omit [Outer] in
def brk (e : Int) : Int := if e = 0 then 8 else e

set_option maxHeartbeats 1000000 in
set_option maxRecDepth 100000 in
theorem guard_Break {e : Int} {hs : List Chunk} : FunP Try.prog 71 [.int .i64 e] hs (fun v' _ => False ∧ v' = .tuple ⟨[]⟩) (fun v' hs' => v' = flt (brk e) ∧ hs = hs') := by
  refine FunP.enter 7 Try.func71 rfl Try.ntmps71 rfl ?_
  refine TT.seq (.seq (.region (.pures hT 2 rfl (.nil (.seq (.cond rfl (fun c3 => ?_) (fun c3 => ?_)))))))
  ·
    have c3 : e = 0 := by simpa using c3
    refine TT.region (.pures hT 1 rfl (.nil (.seq (.region (.pures hT 1 rfl (.build hT rfl Try.zeroValue127 rfl rfl rfl rfl (.mkiface Try.underlying127 rfl rfl rfl rfl (.panic rfl rfl (PP.up ⟨by unfold brk; rw [if_pos c3]; rfl, rfl⟩)))))))))
  ·
    have c3 : ¬ e = 0 := by simpa using c3
    refine TT.skip (.seq (.region (.pures hT 1 rfl (.build hT rfl Try.zeroValue127 rfl rfl rfl rfl (.mkiface Try.underlying127 rfl rfl rfl rfl (.panic rfl rfl (PP.up ⟨by unfold brk; rw [if_neg c3]; rfl, rfl⟩)))))))

set_option maxHeartbeats 1000000 in
set_option maxRecDepth 100000 in
theorem guard_Check {e : Int} {hs : List Chunk} : Fun Try.prog 49 [.bool true, .int .i64 e] hs (fun v' hs' => v' = .tuple ⟨[]⟩ ∧ hs = hs') := by
  refine Fun.enter 8 Try.func49 rfl Try.ntmps49 rfl ?_
  refine TT.seq (.region (.pures hT 2 rfl (.nil (.seq (.cond_false rfl (.skip (.of (rs := []) [] hs rfl .nil sl ?_)))))))
  try dsimp only [one]
  exact ⟨rfl, rfl⟩

set_option maxHeartbeats 1000000 in
set_option maxRecDepth 100000 in
theorem guard_Fails {e : Int} {hs : List Chunk} : FunP Try.prog 49 [.bool false, .int .i64 e] hs (fun v' _ => False ∧ v' = .tuple ⟨[]⟩) (fun v' hs' => v' = flt (brk e) ∧ hs = hs') := by
  refine FunP.enter 8 Try.func49 rfl Try.ntmps49 rfl ?_
  refine TT.seq (.region (.pures hT 2 rfl (.nil (.seq (.cond_true rfl (.region (.pures hT 1 rfl (.callP Try.call71 rfl rfl rfl rfl (guard_Break) (fun _ _ h => by obtain ⟨rfl, rfl⟩ := h; exact PP.up ⟨rfl, rfl⟩) ?_))))))))
  rintro v_7 hs_7 h
  refine OT.nil (.ofP (rs := []) [] hs rfl .nil h.1.elim ?_)
  try dsimp only [one]
  exact h.1.elim

end Go.Proofs.Ytnhkgchcdbideaa.Sx
end

section
namespace Go.Proofs.Ytnhkgchcdbideaa.Sx
open Go Go.Sx Go.Pl
variable [Outer]

omit [Outer] in
theorem ones_int (e : Int) : ones [Value.int .i64 e] = true := rfl

set_option maxRecDepth 100000 in
theorem guard_Try1_none {b : Nat} {e : Int} {fr : Nat × Nat} {hs : List Chunk} {w : World} (hm : Mem ([(b, blk [.int .i64 e] 32 fr)] :: hs) w) : CallsD Try.prog 67 ⟨[.pointer (some ⟨b, 0, none⟩)]⟩ .returning w fun x u w' => u = .returning ∧ ∃ v hs', x = .returned v ∧ hs' = [(b, blk [.int .i64 e] 32 fr)] :: hs ∧ Mem hs' w' := by
  refine callsD_recover (N := fun v hs' => hs' = [(b, blk [.int .i64 e] 32 fr)] :: hs) (u := .returning) (u' := .returning) (rv := .nilIface) (n := 12) Try.func67 rfl rfl rfl rfl (fun c cs h => .inr ⟨recover_none c cs h, rfl, rfl⟩) ?_ hm
  refine TT.block (.seq (.region ?_))
  refine OT.nil_nil Try.underlying20 rfl rfl rfl (.nil (.seq (.cond_true rfl (.region (.pures hT 1 rfl (.nil (.blk (.of (rs := []) [] _ rfl .nil (.refl _) ?_))))))))
  rfl

set_option maxRecDepth 100000 in
theorem guard_Try1_some {b : Nat} {e0 e : Int} {fr : Nat × Nat} {hs : List Chunk} {w : World} (hfr : thawed [Value.int .i64 e0] fr) (hm : Mem ([(b, blk [.int .i64 e0] 32 fr)] :: hs) w) : CallsD Try.prog 67 ⟨[.pointer (some ⟨b, 0, none⟩)]⟩ (.panicking [{ v := flt e, recovered := false }]) w fun x u w' => u = .panicking [{ v := flt e, recovered := true }] ∧ ∃ v hs', x = .returned v ∧ hs' = [(b, blk [.int .i64 e] 32 fr)] :: hs ∧ Mem hs' w' := by
  refine callsD_recover (N := fun v hs' => hs' = [(b, blk [.int .i64 e] 32 fr)] :: hs) (u := .panicking [{ v := flt e, recovered := false }]) (u' := .panicking [{ v := flt e, recovered := true }]) (rv := flt e) (n := 12) Try.func67 rfl rfl rfl rfl (fun c cs h => .inl (recover_some (flt e) c cs h)) ?_ hm
  refine TT.block (.seq (.region (.pures hT 1 rfl (.nil (.seq (.cond_false rfl ?_))))))
  refine TT.seq (.region ?_)
  refine OT.assert_ok Try.underlying127 rfl rfl rfl rfl (.pures hT 2 rfl (.nil (.seq (.cond_true rfl ?_))))
  refine TT.seq (.region (.alloc Try.zeroValue127 rfl rfl (fun b2 => ?_)))
  refine OT.store_all hT rfl rfl rfl rfl .head rfl rfl rfl (.inl (Nat.le_refl _)) (.nil (.seq (.region (.pures hT 1 rfl (.load rfl rfl (Ld.one hT rfl .one rfl) rfl ?_)))))
  refine OT.store_all hT rfl rfl rfl rfl (.tail .head) rfl rfl rfl hfr (.nil (.blk (.of (rs := []) [] ([(b, blk [.int .i64 e] 32 fr)] :: hs) rfl .nil sl ?_)))
  rfl

set_option maxRecDepth 100000 in
theorem guard_Try {g : Nat} {caps : List Value} {hs : List Chunk} {N : Value → List Chunk → Prop} {E : Int → List Chunk → Prop} (hc : ∀ args w, (callFunc g args).run Try.prog w = .ok (.enter g args) w) (hF : ∀ A : Chunk, FunP Try.prog g caps (A :: hs) (fun v hs' => ∃ hs1, hs' = A :: hs1 ∧ N v hs1) (fun v hs' => ∃ e hs1, hs' = A :: hs1 ∧ v = flt e ∧ E e hs1)) : Fun Try.prog 41 [.func (.func g) ⟨[]⟩ ⟨caps⟩] hs (fun v' hs' => (v' = .int .i64 0 ∧ ∃ v, N v hs') ∨ ∃ e, v' = .int .i64 e ∧ E e hs') := by
  intro w hm
  refine calls_of_wp_defers (R := Post (fun v' hs' => (v' = .int .i64 0 ∧ ∃ v, N v hs') ∨ ∃ e, v' = .int .i64 e ∧ E e hs')) Try.func41 rfl ?_
  have ha := Fits.start (fn := Try.f41) (vs := [.func (.func g) ⟨[]⟩ ⟨caps⟩]) (n := 8) rfl rfl
  refine wpD_seq (X := ⟨Try.prog, Try.f41, 8, Post (fun v' hs' => (v' = .int .i64 0 ∧ ∃ v, N v hs') ∨ ∃ e, v' = .int .i64 e ∧ E e hs')⟩) (ι := Nat) (fun _ => True) (fun b => [(2, .pointer (some ⟨b, 0, none⟩)), (0, .func (.func g) ⟨[]⟩ ⟨caps⟩)]) (fun b => [(b, blk [.int .i64 0] 32 (0, 0))] :: hs) ?_ ?_ ha hm
  · exact TT.region (.alloc Try.zeroValue32 rfl rfl (fun b => .nil (.cut b trivial (SubR.cons rfl (SubR.cons rfl (SubR.nil _))) (.refl _))))
  clear ha hm w
  intro b a w _ ha hm
  refine wpD_seq (X := ⟨Try.prog, Try.f41, 8, Post (fun v' hs' => (v' = .int .i64 0 ∧ ∃ v, N v hs') ∨ ∃ e, v' = .int .i64 e ∧ E e hs')⟩) (ι := Unit) (fun _ => True) (fun _ => [(2, .pointer (some ⟨b, 0, none⟩)), (0, .func (.func g) ⟨[]⟩ ⟨caps⟩)]) (fun _ => [(b, blk [.int .i64 0] 32 (0, 0))] :: hs) ?_ ?_ ha hm
  · exact TT.seq (.region (.pures hT 2 rfl (.nil (.seq (.cond_false rfl (.skip (.cut () trivial (SubR.cons rfl (SubR.cons rfl (SubR.nil _))) (.refl _))))))))
  clear ha hm w
  intro _ a w _ ha hm
  refine wp_seq (wp_region ?_)
  rw [wpOps_range]
  refine wpl_go rfl (r := .ok (.value (.func (.func 67) ⟨[]⟩ ⟨[.pointer (some ⟨b, 0, none⟩)]⟩)) w) (by have h2 := ha.ev (x := .tmp 2) rfl; simp [execOp, Instr.makeFunc, h2]) ?_
  rw [Oper.upon_value]
  have ha5 := ha.put (d := 5) rfl (.func (.func 67) ⟨[]⟩ ⟨[.pointer (some ⟨b, 0, none⟩)]⟩)
  generalize a.put (some 5) _ = a5 at ha5 ⊢
  refine wpl_go rfl (r := .ok (.defer ⟨.fn (.func 67) ⟨[.pointer (some ⟨b, 0, none⟩)]⟩, #[]⟩) w) (by have h5 := ha5.ev (x := .tmp 5) rfl; simp [execOp, resolve, Deferred.ofValue, h5]) ?_
  rw [Oper.upon_defer, ha5.defers]
  refine wp_seq (wp_region ?_)
  rw [wpOps_range]
  refine wpl_go rfl (r := .ok (.value (.func (.func g) ⟨[]⟩ ⟨caps⟩)) w) (by have h0 := ha5.ev (x := .tmp 0) rfl; exact congrArg (fun z => Result.ok (Next.value z) w) h0) ?_
  rw [Oper.upon_value]
  have ha6 := ha5.put (d := 6) rfl (.func (.func g) ⟨[]⟩ ⟨caps⟩)
  have h6 := ha6.ev (x := .tmp 6) rfl
  refine wpl_go rfl (r := .ok (.enter g ⟨caps⟩) w) (exec_callv (x := .tmp 6) h6 hc) ?_
  rw [Oper.upon_enter]
  refine (hF _ w hm).mono ?_
  rintro x w' (⟨v, hs', rfl, ⟨hs1, rfl, hN⟩, hM⟩ | ⟨v, hs', rfl, ⟨e, hs1, rfl, rfl, hE⟩, hM⟩)
  · refine wp_seq (wp_region ?_)
    rw [wpOps_range]
    obtain ⟨w2, hr, hm2⟩ := storeVar_run (P := Try.prog) (hT.ty (t := 32) rfl).sizeOf hM (o := 0) (v := .int .i64 0) rfl (Nat.le_refl _) rfl (.inl (Nat.le_refl _))
    have ha7 := ha6.put (d := 7) rfl v
    have h2 := ha7.ev (x := .tmp 2) rfl
    refine wpl_go rfl (r := .ok .skip w2) (exec_store (x := .tmp 2) (y := .const (.int .i64 0)) h2 rfl hr) ?_
    rw [Oper.upon_skip]
    refine wp_ret ?_
    have hm2 : Mem ([(b, blk [.int .i64 0] 32 (0, 0))] :: hs1) w2 := hm2
    refine leaves_cons (f := 67) (args := ⟨[.pointer (some ⟨b, 0, none⟩)]⟩) (by simp) (by simp [invoke, Try.call67]) ?_
    refine (guard_Try1_none hm2).mono ?_
    rintro x u w3 ⟨rfl, v', hs', rfl, rfl, hM3⟩
    exact ⟨.int .i64 0, Res.run ha7 hM3 (rs := [.cell 2 32]) (vs := [.int .i64 0]) (.cell rfl (Ld.one hT rfl .one rfl) .nil) rfl, .int .i64 0, hs1, rfl, .inl ⟨rfl, v, hN⟩, hM3.drop⟩
  · show Leaves _ _ _ _ [_] (.panicking _) _
    refine leaves_cons (f := 67) (args := ⟨[.pointer (some ⟨b, 0, none⟩)]⟩) (by simp) (by simp [invoke, Try.call67]) ?_
    refine (guard_Try1_some (.inl (Nat.le_refl _)) hM).mono ?_
    rintro x u w3 ⟨rfl, v', hs', rfl, rfl, hM3⟩
    exact ⟨.int .i64 e, Res.run ha6 hM3 (rs := [.cell 2 32]) (vs := [.int .i64 e]) (.cell rfl (Ld.one hT rfl .one rfl) .nil) rfl, .int .i64 e, hs1, rfl, .inr ⟨e, rfl, hE⟩, hM3.drop⟩

end Go.Proofs.Ytnhkgchcdbideaa.Sx
end

section
namespace Go.Proofs.Ytnhkgchcdbideaa.Sx
open Go Go.Sx Go.Pl
variable [Outer]

set_option maxHeartbeats 1000000 in
set_option maxRecDepth 100000 in
theorem alloc_is {no : Int} {hs : List Chunk} : Fun Try.prog 70 [.int .i64 no] hs (fun v' hs' => v' = .bool (decide (mayUse no)) ∧ hs = hs') := by
  refine Fun.enter 9 Try.func70 rfl Try.ntmps70 rfl ?_
  refine TT.seq (.region (.pures hT 1 rfl (.nil (.seq (.seq (.region (.pures hT 3 rfl (.split 5 rfl (fun g5 => ?_) (fun g5 => ?_)))))))))
  ·
    have g5 := of_decide_eq_true g5
    refine OT.pures hT 4 rfl (.nil (.seq (.ret (.of (rs := [.tmp 2]) [_] hs rfl (.tmp rfl .nil) sl ?_))))
    dsimp only [one]
    exact ⟨congrArg Value.bool (decide_eq_decide.2 ⟨fun h => ⟨by omega, h⟩, fun h => h.2⟩), rfl⟩
  ·
    have g5 := of_decide_eq_false g5
    refine OT.pures hT 4 rfl (.nil (.seq (.ret (.of (rs := [.tmp 2]) [_] hs rfl (.tmp rfl .nil) sl ?_))))
    dsimp only [one]
    exact ⟨congrArg Value.bool (decide_eq_false (fun h => by have := h.1; omega)).symm, rfl⟩

omit [Outer] in
set_option maxRecDepth 100000 in
theorem bit_all : ∀ x : Fin 256, ∀ k : Fin 8, (IntKind.u8.wrap (BitVec.ofInt 8 (((x.val : Nat) : Int).fdiv (2 ^ (min k.val 8))) &&& BitVec.ofInt 8 1).toNat == 1) = decide (x.val / 2 ^ k.val % 2 = 1) := by decide +kernel

set_option maxHeartbeats 1000000 in
set_option maxRecDepth 100000 in
theorem alloc_has {v : Value} {bs : List UInt8} {no : Int} {hs : List Chunk} (hr : Row Go.Sx.encB 1 hs v bs) (hl : bs.length = 256) : Fun Try.prog 47 [v, .int .i64 no] hs (fun v' hs' => v' = .bool (hasB bs no) ∧ hs = hs') := by
  refine Fun.enter 19 Try.func47 rfl Try.ntmps47 rfl ?_
  obtain ⟨a0, c0, hv⟩ := hr.len
  subst hv
  refine TT.seq (.region (.pures hT 1 rfl (.nil (.seq (.seq (.region (.pures hT 1 rfl (.call Try.call70 rfl rfl rfl rfl (alloc_is) ?_))))))))
  rintro v_6 hs_6 ⟨rfl, rfl⟩
  refine OT.pures hT 1 rfl (.split 7 rfl (fun g7 => ?_) (fun g7 => ?_))
  ·
    have g7 := of_decide_eq_true g7
    obtain ⟨n, rfl⟩ : ∃ n : Nat, no = n := ⟨no.toNat, by have := g7.1; omega⟩
    have hn := g7.2
    obtain ⟨c, hc⟩ := nth (l := bs) (i := n / 8) (by omega)
    refine OT.pures hT 3 rfl (.reg 10 rfl (v := .int .i64 ((n / 8 : Nat) : Int)) (int_eq (by rw [Int.tdiv_eq_ediv_of_nonneg (by omega), wrap_i64 (by omega) (by omega)]; omega)) (.index hT rfl rfl rfl rfl hr (by omega) (by rw [Int.toNat_natCast]; exact hc) rfl (fun ad_11 hel_11 => ?_)))
    refine OT.load rfl rfl (hel_11.ld_one hT rfl rfl) rfl (.pures hT 2 rfl (.reg 14 rfl (v := .int .i64 ((n % 8 : Nat) : Int)) (int_eq (by rw [Int.tmod_eq_emod_of_nonneg (by omega)]; omega)) (.shr hT rfl rfl rfl (by omega) rfl (.pures hT 4 rfl (.nil (.seq (.ret (.of (rs := [.tmp 4]) [_] hs rfl (.tmp rfl .nil) sl ?_))))))))
    dsimp only [one]
    refine ⟨congrArg Value.bool ?_, rfl⟩
    have := bit_all ⟨c.toNat, c.toNat_lt⟩ ⟨n % 8, Nat.mod_lt _ (by decide)⟩
    unfold hasB
    have e : bs.getD ((n : Int).toNat / 8) 0 = c := by rw [Int.toNat_natCast, List.getD_eq_getElem?_getD, hc]; rfl
    rw [decide_eq_true g7, Bool.true_and, e, show (n : Int).toNat % 8 = n % 8 by rw [Int.toNat_natCast]]
    exact this
  ·
    have g7 := of_decide_eq_false g7
    refine OT.pures hT 12 rfl (.nil (.seq (.ret (.of (rs := [.tmp 4]) [_] hs rfl (.tmp rfl .nil) sl ?_))))
    dsimp only [one]
    exact ⟨congrArg Value.bool (by unfold hasB; rw [decide_eq_false g7]; rfl), rfl⟩

end Go.Proofs.Ytnhkgchcdbideaa.Sx
end

section
namespace Go.Proofs.Ytnhkgchcdbideaa.Sx
open Go Go.Sx Go.Pl
variable [Outer]

omit [Outer] in
/-- a page that has to have its length -/
def whole256 (x : Int × List UInt8) : Int × List UInt8 := if x.1 ≠ 0 then (x.1, []) else if x.2.length ≠ 256 then (1, []) else x

set_option maxHeartbeats 1000000 in
set_option maxRecDepth 100000 in
theorem alloc_read {P : Value} {I : Chunk → Prop} {E : Int → Chunk → Prop} {pg : Int → Int × List UInt8} {H : Chunk} {r : List Chunk} (hP : Pgs Try.prog 5 P I E pg) (hI : I H) : Fun Try.prog 46 [P] (H :: r) (fun v' hs' => ∃ H' K w e bs, hs' = H' :: K :: r ∧ v' = .tuple ⟨[w, .int .i64 e]⟩ ∧ Own Go.Sx.encB 1 5 w bs K ∧ PgRes I E (whole256 (pg 1)) e bs H') := by
  refine Fun.enter 22 Try.func46 rfl Try.ntmps46 rfl ?_
  obtain ⟨ti, ui, rfl⟩ := hP.iface
  refine TT.seq (.region (.pures hT 2 rfl (.nil (.seq (.seq (.seq (.region (.pures hT 2 rfl (.nil (.seq (.cond_false rfl (.skip (.seq (.seq (.region (.pures hT 1 rfl (.page hP rfl rfl rfl rfl pl hI (by omega) (by omega) (fun H_10 K_10 w_10 e_10 bs_10 ho_10 hq_10 => ?_))))))))))))))))))
  obtain ⟨a10, c10, rfl⟩ := (ho_10.row (hs := [])).len
  refine OT.pures hT 5 rfl (.nil (.seq (.seq (.block (.seq (.region (.pures hT 3 rfl (.nil (.seq (.cond rfl (fun c13 => ?_) (fun c13 => ?_)))))))))))
  ·
    have c13 := bne_iff_ne.1 c13
    rcases hq_10 with ⟨h, _⟩ | ⟨h, rfl, hq⟩
    · exact absurd h c13
    refine TT.seq (.region (.pures hT 3 rfl (.nil (.seq (.ret (.of (rs := [.tmp 2, .tmp 3]) [_, _] (H_10 :: [] :: r) rfl (.tmp rfl (.tmp rfl .nil)) sl ?_))))))
    dsimp only [one]
    refine ⟨H_10, [], _, e_10, [], rfl, rfl, Own.nil, .inr ⟨c13, rfl, ?_⟩⟩
    rcases hq with ⟨h1, h2⟩ | h2
    · exact .inl ⟨by unfold whole256; rw [if_pos (by rw [h1]; exact c13)]; exact h1, h2⟩
    · exact .inr h2
  ·
    have c13 := bne_eq_false_iff_eq.1 c13
    rcases hq_10 with ⟨rfl, hx, hI1⟩ | ⟨h, _⟩
    rotate_left
    · exact absurd c13 h
    refine TT.seq (.region (.pures hT 4 rfl (.nil (.seq (.cond rfl (fun c17 => ?_) (fun c17 => ?_))))))
    ·
      have c17 := bne_iff_ne.1 c17
      refine TT.seq (.region (.pures hT 2 rfl (.nil (.seq (.ret (.of (rs := [.tmp 2, .tmp 3]) [_, _] (H_10 :: [] :: r) rfl (.tmp rfl (.tmp rfl .nil)) sl ?_))))))
      dsimp only [one]
      refine ⟨H_10, [], _, 1, [], rfl, rfl, Own.nil, .inr ⟨by decide, rfl, .inl ⟨?_, hI1⟩⟩⟩
      unfold whole256
      rw [hx, if_neg (by simp), if_pos (by dsimp only; omega)]
    ·
      have c17 := bne_eq_false_iff_eq.1 c17
      refine TT.skip (.blk (.seq (.seq (.region (.pures hT 3 rfl (.nil (.seq (.ret (.of (rs := [.tmp 2, .tmp 3]) [_, _] (H_10 :: K_10 :: r) rfl (.tmp rfl (.tmp rfl .nil)) sl ?_)))))))))
      dsimp only [one]
      refine ⟨H_10, K_10, _, 0, bs_10, rfl, rfl, ho_10, .inl ⟨rfl, ?_, hI1⟩⟩
      unfold whole256
      rw [hx, if_neg (by simp), if_neg (by dsimp only; omega)]

omit [Outer] in
/-- what Used tells -/
def UsRes (I : Chunk → Prop) (E : Int → Chunk → Prop) (x : Int × List UInt8) (no : Int) (b : Bool) (e : Int) (H : Chunk) : Prop := (e = 0 ∧ (whole256 x).1 = 0 ∧ b = hasB (whole256 x).2 no ∧ I H) ∨ (e ≠ 0 ∧ b = false ∧ ((whole256 x).1 = e ∧ I H ∨ E e H))

omit [Outer] in
theorem whole_len {x : Int × List UInt8} {bs : List UInt8} (h : whole256 x = (0, bs)) : bs.length = 256 := by
  unfold whole256 at h
  split at h
  · rename_i h1; exact absurd (congrArg Prod.fst h) h1
  · split at h
    · exact absurd (congrArg Prod.fst h) (by simp)
    · rename_i h2; rw [h] at h2; exact Decidable.byContradiction h2

set_option maxHeartbeats 1000000 in
set_option maxRecDepth 100000 in
theorem alloc_Used {P : Value} {I : Chunk → Prop} {E : Int → Chunk → Prop} {pg : Int → Int × List UInt8} {H : Chunk} {r : List Chunk} (hP : Pgs Try.prog 5 P I E pg) (hI : I H) {no : Int} : Fun Try.prog 17 [P, .int .i64 no] (H :: r) (fun v' hs' => ∃ H' b e, hs' = H' :: r ∧ v' = .tuple ⟨[.bool b, .int .i64 e]⟩ ∧ UsRes I E (pg 1) no b e H') := by
  refine Fun.enter 19 Try.func17 rfl Try.ntmps17 rfl ?_
  refine TT.seq (.region (.pures hT 2 rfl (.nil (.seq (.seq (.region (.pures hT 1 rfl (.call Try.call46 rfl rfl rfl rfl (alloc_read hP hI) ?_))))))))
  rintro v_10 hs_10 ⟨H1, K1, w1, e1, bs1, rfl, rfl, ho1, hq1⟩
  refine OT.pures hT 5 rfl (.nil (.seq (.seq (.seq (.region (.pures hT 2 rfl (.nil (.seq (.cond rfl (fun c14 => ?_) (fun c14 => ?_))))))))))
  ·
    have c14 := bne_iff_ne.1 c14
    rcases hq1 with ⟨h, _⟩ | ⟨h, rfl, hq⟩
    · exact absurd h c14
    refine TT.seq (.region (.pures hT 3 rfl (.nil (.seq (.ret (.of (rs := [.tmp 4, .tmp 5]) [_, _] (H1 :: r) rfl (.tmp rfl (.tmp rfl .nil)) sl ?_))))))
    dsimp only [one]
    exact ⟨H1, false, e1, rfl, rfl, .inr ⟨c14, rfl, hq⟩⟩
  ·
    have c14 := bne_eq_false_iff_eq.1 c14
    rcases hq1 with ⟨rfl, hx, hI1⟩ | ⟨h, _⟩
    rotate_left
    · exact absurd c14 h
    refine TT.skip (.seq (.seq (.region (.pures hT 2 rfl (.call Try.call47 rfl rfl rfl rfl (alloc_has (ho1.row.there) (whole_len hx)) ?_)))))
    rintro v_18 hs_18 ⟨rfl, rfl⟩
    refine OT.pures hT 2 rfl (.nil (.seq (.ret (.of (rs := [.tmp 4, .tmp 5]) [_, _] (H1 :: r) rfl (.tmp rfl (.tmp rfl .nil)) sl ?_))))
    dsimp only [one]
    exact ⟨H1, _, 0, rfl, rfl, .inl ⟨rfl, by rw [hx], by rw [hx], hI1⟩⟩

omit [Outer] in
theorem snap_fill {P : Value} {s : Snap} (hp : P.cells.toList = [P]) (h35 : (encSnap s).length = 35) {zc : List Value} (hz : zc.length = 36) : fillL [(0, 1), (1, 35)] zc [(0, P), (1, .agg ⟨encSnap s⟩)] = some (P :: encSnap s) := by
  have h2 : (Value.agg ⟨encSnap s⟩).cells.toList = encSnap s := rfl
  obtain ⟨z0, zr, rfl⟩ : ∃ z0 zr, zc = z0 :: zr := by cases zc with | nil => simp at hz | cons a b => exact ⟨a, b, rfl⟩
  simp only [List.length_cons] at hz
  simp [fillL, hp, h2, h35, splice, hz]
  rw [List.drop_eq_nil_of_le (by omega), List.append_nil]
  rfl

set_option maxHeartbeats 1000000 in
set_option maxRecDepth 100000 in
theorem view_New {P : Value} {s : Snap} {hs : List Chunk} {t u} (hv : P = .iface t u) (h35 : (encSnap s).length = 35) : Fun Try.prog 93 [P, .agg ⟨encSnap s⟩] hs (fun v' hs' => ∃ bv, v' = .pointer (some ⟨bv, 0, none⟩) ∧ hs' = [(bv, blk (P :: encSnap s) 162 (0, 0))] :: hs) := by
  refine Fun.enter 9 Try.func93 rfl Try.ntmps93 rfl ?_
  subst hv
  refine TT.seq (.region (.box rfl rfl rfl (fun b_3 => ?_)))
  refine OT.pures hT 1 rfl (.nil (.seq (.seq (.region (.pures hT 1 rfl (.load rfl rfl (Ld.struct_all hT rfl hz (by exact h35)) rfl ?_))))))
  refine OT.build (cs := .iface t u :: encSnap s) hT rfl Try.zeroValue162 rfl rfl (snap_fill rfl h35 kr) rfl (.box rfl rfl rfl (fun b_8 => ?_))
  refine OT.pures hT 1 rfl (.nil (.seq (.ret (.of (rs := [.tmp 4]) [_] ([(b_8, blk (.iface t u :: encSnap s) 162 (0, 0))] :: hs) rfl (.tmp rfl .nil) sl ?_))))
  dsimp only [one]
  exact ⟨b_8, rfl, rfl⟩

end Go.Proofs.Ytnhkgchcdbideaa.Sx
end

section
namespace Go.Proofs.Ytnhkgchcdbideaa.Sx
open Go Go.Sx Go.Pl
variable [Outer]

set_option maxHeartbeats 1000000 in
set_option maxRecDepth 100000 in
theorem book_Page {b : Nat} {Q : Pages} {H : Chunk} {r : List Chunk} (hB : BkAt 28 b Q H) {no : Int} : Fun Try.prog 23 [.pointer (some ⟨b, 0, none⟩), .int .i64 no] (H :: r) (fun v' hs' => ∃ K w, hs' = H :: K :: r ∧ v' = .tuple ⟨[w, .int .i64 (pgOf Q no).1]⟩ ∧ Own Go.Sx.encB 1 5 w (pgOf Q no).2 K) := by
  refine Fun.enter 40 Try.func23 rfl Try.ntmps23 rfl ?_
  obtain ⟨vs, G, hS, rfl⟩ := hB.is
  refine TT.split (.seq (.region (.pures hT 2 rfl (.nil (.seq (.seq (.seq (.region (.pures hT 3 rfl (.split 8 rfl (fun g8 => ?_) (fun g8 => ?_)))))))))))
  ·
    have g8 := of_decide_eq_true g8
    refine OT.pures hT 3 rfl (.nil (.seq (.cond_true rfl (.seq (.region (.pures hT 2 rfl (.nil (.seq (.ret (.of (rs := [.tmp 4, .tmp 5]) [_, _] (([(b, blk (bkCells vs) 28 (0, 0))] ++ G) :: [] :: r) rfl (.tmp rfl (.tmp rfl .nil)) sl ?_))))))))))
    dsimp only [one]
    exact ⟨[], _, rfl, by unfold pgOf; rw [if_neg (by unfold mayPage; omega)], by unfold pgOf; rw [if_neg (by unfold mayPage; omega)]; exact Own.nil⟩
  ·
    have g8 := of_decide_eq_false g8
    refine OT.pures hT 3 rfl (.nil (.seq (.cond rfl (fun c11 => ?_) (fun c11 => ?_))))
    ·
      have c11 := of_decide_eq_true c11
      refine TT.seq (.region (.pures hT 2 rfl (.nil (.seq (.ret (.of (rs := [.tmp 4, .tmp 5]) [_, _] (([(b, blk (bkCells vs) 28 (0, 0))] ++ G) :: [] :: r) rfl (.tmp rfl (.tmp rfl .nil)) sl ?_))))))
      dsimp only [one]
      exact ⟨[], _, rfl, by unfold pgOf; rw [if_neg (by unfold mayPage; omega)], by unfold pgOf; rw [if_neg (by unfold mayPage; omega)]; exact Own.nil⟩
    ·
      have c11 := of_decide_eq_false c11
      obtain ⟨n, rfl⟩ : ∃ n : Nat, no = n := ⟨no.toNat, by omega⟩
      have hm : mayPage (n : Nat) := by unfold mayPage; omega
      obtain ⟨v, hv, hsl⟩ := hS.at_ n (by omega)
      have hpg : pgOf Q (n : Nat) = (0, Q (n : Nat)) := by unfold pgOf; rw [if_pos hm]
      have hlen := hsl.len
      obtain ⟨sp, sn, sc, rfl, hsN, hsS⟩ := hsl.slice
      refine TT.skip (.seq (.seq (.seq (.region (.pures hT 3 rfl (.load rfl rfl (Ld.one hT rfl hz (bk_bad hS.len)) rfl ?_))))))
      refine OT.pures hT 2 rfl (.pures hT 7 rfl (.nil (.seq (.cond_false rfl (.skip (.seq (.seq (.seq (.region (.pures hT 4 rfl (.index_at hT rfl rfl rfl rfl (by omega) (by omega) rfl (.load rfl rfl (Ld.slc hT rfl hz (bk_at hS.len hv (by omega))) rfl ?_))))))))))))
      refine OT.pures hT 1 rfl (.nil (.seq (.cond rfl (fun c31 => ?_) (fun c31 => ?_))))
      ·
        have hbs := hsN c31
        refine TT.seq (.region ?_)
        refine OT.make (enc := Go.Sx.encB) (z0 := (0 : UInt8)) (n := 256) el22 Try.zeroValue5 rfl rfl rfl rfl rfl (by omega) rfl (fun v_32 H_32 ho_32 => ?_)
        refine OT.pures hT 2 rfl (.nil (.seq (.ret (.of (rs := [.tmp 4, .tmp 5]) [_, _] (([(b, blk (bkCells vs) 28 (0, 0))] ++ G) :: H_32 :: r) rfl (.tmp rfl (.tmp rfl .nil)) sl ?_))))
        dsimp only [one]
        rw [hpg]
        exact ⟨_, _, rfl, rfl, by rw [hbs]; exact ho_32⟩
      ·
        have hrow := hsS c31
        refine TT.skip (.seq (.seq (.region (.pures hT 4 rfl (.index_at hT rfl rfl rfl rfl (by omega) (by omega) rfl (.load rfl rfl (Ld.slc hT rfl hz (bk_at hS.len hv (by omega))) rfl ?_))))))
        refine OT.chunk0 ?_
        refine OT.append hT el22 rfl rfl rfl rfl pl (Own.nil (enc := Go.Sx.encB) (sz := 1) (e := 5)) (hrow.mono fun b o hb => .there (.there (has_one_there hb))) (ones_B _) (by simp only [List.length_nil]; omega) rfl (fun v_39 H_39 ho_39 => ?_)
        refine OT.pures hT 2 rfl (.nil (.seq (.ret (.of (rs := [.tmp 4, .tmp 5]) [_, _] (([(b, blk (bkCells vs) 28 (0, 0))] ++ G) :: H_39 :: r) rfl (.tmp rfl (.tmp rfl .nil)) sl ?_))))
        dsimp only [one]
        rw [hpg]
        exact ⟨_, _, rfl, rfl, by rw [List.nil_append] at ho_39; exact ho_39⟩

theorem book_PgsI {b : Nat} {Q : Pages} {I : Chunk → Prop} (hI : ∀ H, I H → BkAt 28 b Q H) : Pgs Try.prog 5 (.iface 25 (.pointer (some ⟨b, 0, none⟩))) I (fun _ _ => False) (pgOf Q) :=
  ⟨25, _, 23, _, rfl, fun w => by kernel_rfl, Try.call23, fun no H r _ _ hB => (book_Page (hI H hB)).mono fun v' hs' ⟨K, w, h1, h2, h3⟩ => ⟨H, K, w, _, _, h1, h2, h3, by
    by_cases hm : mayPage no
    · exact .inl ⟨by unfold pgOf; rw [if_pos hm], by unfold pgOf; rw [if_pos hm], hB⟩
    · exact .inr ⟨by unfold pgOf; rw [if_neg hm]; decide, by unfold pgOf; rw [if_neg hm], .inl ⟨rfl, hB⟩⟩⟩⟩

theorem book_Pgs {b : Nat} {Q : Pages} : Pgs Try.prog 5 (.iface 25 (.pointer (some ⟨b, 0, none⟩))) (BkAt 28 b Q) (fun _ _ => False) (pgOf Q) := book_PgsI fun _ h => h

set_option maxHeartbeats 2000000 in
set_option maxRecDepth 100000 in
theorem book_LayK {b : Nat} {Q : Pages} {H : Chunk} {r : List Chunk} (hB : BkAt 28 b Q H) {vl : Value} {ts : List Im} (hi : ImsAt r vl ts) (hm : ∀ x ∈ imgs ts, mayPage x.1 ∧ x.2.length = 256) : Fun Try.prog 15 [.pointer (some ⟨b, 0, none⟩), vl] (H :: r) (fun v' hs' => ∃ H', hs' = H' :: r ∧ v' = .tuple ⟨[]⟩ ∧ BkAt 28 b (lay Q (imgs ts)) H' ∧ ∀ x ∈ H.tail, x ∈ H'.tail) := by
  refine Fun.enter 26 Try.func15 rfl Try.ntmps15 rfl ?_
  obtain ⟨al, cl, hvl⟩ := hi.row.len
  subst hvl
  have hfew := hi.few
  have hir := hi.row
  refine TT.seq (.region (.pures hT 1 rfl (.nil (.seq (.block (.loop (ι := Nat × Chunk) (fun j => (j.1) ≤ ts.length ∧ BkAt 28 b (lay Q ((imgs ts).take (j.1))) (j.2) ∧ ∀ x ∈ H.tail, x ∈ (j.2).tail) (fun j => ts.length - (j.1)) (fun j => [(0, .pointer (some ⟨b, 0, none⟩)), (1, .slice al ts.length cl), (4, .int .i64 ((j.1) : Nat))]) (fun j => (j.2) :: r) (0, H) ?_ (SubR.cons rfl (SubR.cons rfl (SubR.cons rfl (SubR.nil _)))) sl ?_))))))
  · dsimp only
    exact ⟨by omega, hB, fun x h => h⟩
  rintro ⟨i, H1⟩ hI
  dsimp only at hI
  obtain ⟨hin, hB1, hT1⟩ := hI
  show TT _ _ _ [(0, .pointer (some ⟨b, 0, none⟩)), (1, .slice al ts.length cl), (4, .int .i64 (i : Nat))] (H1 :: r)
  refine TT.seq (.seq (.region (.pures hT 4 rfl (.nil (.seq (.cond rfl (fun c8 => ?_) (fun c8 => ?_)))))))
  ·
    have c8 := of_decide_eq_true c8
    obtain ⟨t, ht⟩ := nth (l := ts) (i := i) (by omega)
    obtain ⟨hmt, hlt⟩ := hm _ (List.mem_of_getElem? (imgs_at ht))
    unfold mayPage Im.img at hmt
    dsimp only at hmt
    obtain ⟨n, htno⟩ : ∃ n : Nat, t.no = n := ⟨t.no.toNat, by omega⟩
    have hrt := hi.each t (List.mem_of_getElem? ht)
    have hlb : t.b.length = 256 := hlt
    obtain ⟨at0, ct0, hvt⟩ := hrt.len
    refine TT.skip (.seq (.seq (.block (.draw (r) mixed (.takes (fuel := 9) hT [0, 1, 2, 6, 7, 12, 13] kr kr rfl (.index (fuel := 8) hT 3 rfl kr kr kr rfl rfl rfl rfl hir (by omega) (by exact ht) rfl (fun ad_14 hel_14 => ?_)))))))
    obtain ⟨eb_14, eo_14, rfl, hfld_14, hfls_14⟩ := Go.Pl.El.at2 (P := Try.prog) hel_14
    refine AT.takes (fuel := 7) hT [4] kr kr rfl (.take (fuel := 6) hT 5 rfl rfl kr kr kr rfl (.load rfl (hfld_14 hT rfl rfl)) rfl (.index (fuel := 5) hT 8 rfl kr kr kr rfl rfl rfl rfl hir (by omega) (by exact ht) rfl (fun ad_19 hel_19 => ?_)))
    obtain ⟨eb_19, eo_19, rfl, hfld_19, hfls_19⟩ := Go.Pl.El.at2 (P := Try.prog) hel_19
    refine AT.takes (fuel := 4) hT [9] kr kr rfl (.take (fuel := 3) hT 10 rfl rfl kr kr kr rfl (.load rfl (hfls_19 hT rfl (by unfold encIm; rw [hvt]; rfl))) rfl ?_)
    refine AT.op (fuel := 2) 11 kr rfl sl (.chunk0 ?_)
    refine OT.append hT el22 rfl rfl rfl rfl pl (Own.nil (enc := Go.Sx.encB) (sz := 1) (e := 5)) (by rw [hvt] at hrt; exact hrt.there.there) (ones_B _) (by simp only [List.length_nil]; omega) rfl (fun v_22 H_22 ho_22 => ?_)
    refine OT.nil (.any (.index_at (fuel := 1) hT 14 rfl kr kr kr rfl rfl rfl rfl (by omega) (by omega) rfl (.op (fuel := 0) 15 kr rfl sl (.bk_store (no := n) hT rfl rfl rfl rfl pl hB1 pl ho_22 (by rw [List.nil_append]; exact hlb) (by omega) (by omega) (fun H_y hb_y ht_y => ?_)))))
    refine OT.nil (.any (.done kr sl (.blk (.seq (.region (.pures hT 3 rfl (.nil (.loop (i + 1, H_y) ?_ ?_ (SubR.cons rfl (SubR.cons rfl (SubR.cons' rfl (by (try dsimp only); exact (int_eq (by rw [wrap_i64 (by omega) (by omega)]; omega))) (SubR.nil _)))) sl))))))))
    · dsimp only
      refine ⟨by omega, ?_, fun x h => ht_y x (hT1 x h)⟩
      rw [take_succ (imgs_at ht), lay_snoc]
      rw [List.nil_append] at hb_y
      rw [← htno] at hb_y
      exact hb_y
    · dsimp only
      omega
  ·
    have c8 := of_decide_eq_false c8
    obtain rfl : i = ts.length := by omega
    rw [List.take_of_length_le (by rw [imgs_length]; omega)] at hB1
    refine TT.exit (.seq (.loop (.here (.of (rs := []) [] (H1 :: r) rfl .nil sl ?_))))
    try dsimp only [one]
    exact ⟨H1, rfl, rfl, hB1, hT1⟩

theorem book_Lay {b : Nat} {Q : Pages} {H : Chunk} {r : List Chunk} (hB : BkAt 28 b Q H) {vl : Value} {ts : List Im} (hi : ImsAt r vl ts) (hm : ∀ x ∈ imgs ts, mayPage x.1 ∧ x.2.length = 256) : Fun Try.prog 15 [.pointer (some ⟨b, 0, none⟩), vl] (H :: r) (fun v' hs' => ∃ H', hs' = H' :: r ∧ v' = .tuple ⟨[]⟩ ∧ BkAt 28 b (lay Q (imgs ts)) H') :=
  (book_LayK hB hi hm).mono fun _ _ ⟨H', h1, h2, h3, _⟩ => ⟨H', h1, h2, h3⟩

end Go.Proofs.Ytnhkgchcdbideaa.Sx
end

section
namespace Go.Proofs.Ytnhkgchcdbideaa.Sx
open Go Go.Sx Go.Pl
variable [Outer]

set_option maxHeartbeats 1000000 in
set_option maxRecDepth 100000 in
theorem num_Put {v : Value} {xs : List UInt8} {H : Chunk} {r : List Chunk} {n : Int} (ho : Own Go.Sx.encB 1 5 v xs H) (h1 : -9223372036854775808 ≤ n) (h2 : n ≤ 9223372036854775807) (hl : xs.length ≤ 1073741824) : Fun Try.prog 37 [v, .int .i64 n] (H :: r) (fun v' hs' => ∃ H', hs' = H' :: r ∧ Own Go.Sx.encB 1 5 v' (xs ++ put n) H') := by
  refine Fun.enter 28 Try.func37 rfl Try.ntmps37 rfl ?_
  refine TT.seq ?_
  refine TT.region ?_
  refine OT.pures hT 1 rfl ?_
  refine OT.nil ?_
  refine KT.seq ?_
  refine TT.seq ?_
  refine TT.region ?_
  refine OT.pures hT 4 rfl ?_
  refine OT.nil ?_
  refine KT.seq ?_
  refine TT.cut (ι := Unit) (fun j => True) (fun j => [(0, v), (5, .int .u64 (zig n : Nat))]) (fun j => H :: r) ?_ ?_
  ·
    refine TT.seq ?_
    refine TT.region ?_
    refine OT.pures hT 2 rfl ?_
    refine OT.nil ?_
    refine KT.seq ?_
    refine TT.cond rfl (fun c10 => ?_) (fun c10 => ?_)
    ·
      have c10 := of_decide_eq_true c10
      refine TT.region ?_
      refine OT.pures hT 3 rfl ?_
      refine OT.nil ?_
      refine KT.cut (()) ?_ (SubR.cons rfl (SubR.cons' rfl (by (try dsimp only); exact (by rw [shl1_neg c10 h1, not64 _ (by omega) (by omega)]; refine int_eq ?_; unfold zig; rw [if_pos c10]; omega)) (SubR.nil _))) (by repeat (first | exact Sel.refl _ | refine Sel.empty ?_ | refine Sel.pull (by repeat (first | exact Pull.head | apply Pull.tail)) ?_ | refine Sel.drop ?_))
      · trivial
    ·
      have c10 := of_decide_eq_false c10
      refine TT.skip ?_
      refine KT.cut (()) ?_ (SubR.cons rfl (SubR.cons' rfl (by (try dsimp only); exact (by rw [shl1_pos (by omega) h2])) (SubR.nil _))) (by repeat (first | exact Sel.refl _ | refine Sel.empty ?_ | refine Sel.pull (by repeat (first | exact Pull.head | apply Pull.tail)) ?_ | refine Sel.drop ?_))
      · trivial
  ·
    rintro _ -
    show TT _ _ _ [(0, v), (5, .int .u64 (zig n : Nat))] (H :: r)
    refine TT.seq ?_
    refine TT.block ?_
    refine TT.loop (ι := Nat × (List UInt8) × Value × Chunk) (fun j => Own Go.Sx.encB 1 5 (j.2.2.1) (xs ++ (j.2.1)) (j.2.2.2) ∧ (j.2.1) ++ putU (j.1) = put n ∧ (j.1) < 18446744073709551616) (fun j => (j.1)) (fun j => [(0, (j.2.2.1)), (5, .int .u64 ((j.1) : Nat))]) (fun j => (j.2.2.2) :: r) (zig n, [], v, H) ?_ (SubR.cons rfl (SubR.cons rfl (SubR.nil _))) (by repeat (first | exact Sel.refl _ | refine Sel.empty ?_ | refine Sel.pull (by repeat (first | exact Pull.head | apply Pull.tail)) ?_ | refine Sel.drop ?_)) ?_
    · dsimp only
      exact ⟨by simpa using ho, rfl, zig_lt h1 h2⟩
    rintro ⟨u, ys, w, K⟩ hI
    dsimp only at hI
    obtain ⟨hO, hp, hu⟩ := hI
    show TT _ _ _ [(0, w), (5, .int .u64 (u : Nat))] (K :: r)
    have h10 : ys.length + (putU u).length ≤ 10 := by rw [← List.length_append, hp]; exact put_ten h1 h2
    refine TT.seq ?_
    refine TT.seq ?_
    refine TT.region ?_
    refine OT.pures hT 2 rfl ?_
    refine OT.nil ?_
    refine KT.seq ?_
    refine TT.cond rfl (fun c14 => ?_) (fun c14 => ?_)
    ·
      have c14 := of_decide_eq_true c14
      refine TT.skip ?_
      refine KT.seq ?_
      refine TT.block ?_
      refine TT.seq ?_
      refine TT.region ?_
      refine OT.pures hT 4 rfl ?_
      refine OT.buildSlice (enc := Go.Sx.encB) (xs := [UInt8.ofNat (u % 128 + 128)]) (xos := [.tmp 18]) el22 rfl rfl rfl rfl (by rw [byteOr]; rfl) (by simp [Value.cells]) (fun _ _ => rfl) rfl (by decide) rfl (fun v_19 H_19 ho_19 => ?_)
      refine OT.append hT el22 rfl rfl rfl rfl (by repeat (first | exact Pull.head | apply Pull.tail)) hO ho_19.row rfl (by simp; omega) rfl (fun v_20 H_20 ho_20 => ?_)
      refine OT.pures hT 1 rfl ?_
      refine OT.nil ?_
      refine KT.seq ?_
      refine TT.region ?_
      refine OT.pures hT 3 rfl ?_
      refine OT.nil ?_
      refine KT.blk ?_
      refine KT.loop (u / 128, ys ++ [UInt8.ofNat (u % 128 + 128)], v_20, H_20) ?_ ?_ (SubR.cons rfl (SubR.cons' rfl (by (try dsimp only); exact (by rw [shr7])) (SubR.nil _))) (by repeat (first | exact Sel.refl _ | refine Sel.empty ?_ | refine Sel.pull (by repeat (first | exact Pull.head | apply Pull.tail)) ?_ | refine Sel.drop ?_))
      · dsimp only
        exact ⟨by simpa using ho_20, by rw [← hp, putU_big (u := u) (by omega), List.append_assoc]; rfl, by omega⟩
      · dsimp only
        omega
    ·
      have c14 := of_decide_eq_false c14
      refine TT.exit ?_
      refine XT.seq ?_
      refine XT.loop ?_
      refine XT.here ?_
      refine KT.seq ?_
      refine TT.seq ?_
      refine TT.region ?_
      refine OT.pures hT 3 rfl ?_
      refine OT.buildSlice (enc := Go.Sx.encB) (xs := [UInt8.ofNat u]) (xos := [.tmp 25]) el22 rfl rfl rfl rfl (by rw [wrap_u8]; rfl) (by simp [Value.cells]) (fun _ _ => rfl) rfl (by decide) rfl (fun v_26 H_26 ho_26 => ?_)
      refine OT.append hT el22 rfl rfl rfl rfl (by repeat (first | exact Pull.head | apply Pull.tail)) hO ho_26.row rfl (by simp; omega) rfl (fun v_27 H_27 ho_27 => ?_)
      refine OT.pures hT 1 rfl ?_
      refine OT.nil ?_
      refine KT.seq ?_
      refine TT.ret ?_
      refine RT.of (rs := [.tmp 4]) [_] (H_27 :: r) rfl (.tmp rfl .nil) (by repeat (first | exact Sel.refl _ | refine Sel.empty ?_ | refine Sel.pull (by repeat (first | exact Pull.head | apply Pull.tail)) ?_ | refine Sel.drop ?_)) ?_
      dsimp only [one]
      exact ⟨_, rfl, by rw [← hp, putU_small (u := u) (by omega), ← List.append_assoc]; exact ho_27⟩

set_option maxHeartbeats 1000000 in
set_option maxRecDepth 100000 in
theorem ref_Put {r : List Chunk} {n : Int} (h1 : -9223372036854775808 ≤ n) (h2 : n ≤ 9223372036854775807) : Fun Try.prog 56 [.int .i64 n] r (fun v' hs' => ∃ H', hs' = H' :: r ∧ Own Go.Sx.encB 1 5 v' (put n) H') := by
  refine Fun.enter 28 Try.func56 rfl Try.ntmps56 rfl ?_
  refine TT.seq ?_
  refine TT.region ?_
  refine OT.pures hT 1 rfl ?_
  refine OT.nil ?_
  refine KT.seq ?_
  refine TT.seq ?_
  refine TT.region ?_
  refine OT.pures hT 4 rfl ?_
  refine OT.nil ?_
  refine KT.seq ?_
  refine TT.cut (ι := Unit) (fun j => True) (fun j => [(3, .int .u64 (zig n : Nat))]) (fun j => r) ?_ ?_
  ·
    refine TT.seq ?_
    refine TT.region ?_
    refine OT.pures hT 2 rfl ?_
    refine OT.nil ?_
    refine KT.seq ?_
    refine TT.cond rfl (fun c9 => ?_) (fun c9 => ?_)
    ·
      have c9 := of_decide_eq_true c9
      refine TT.region ?_
      refine OT.pures hT 3 rfl ?_
      refine OT.nil ?_
      refine KT.cut (()) ?_ (SubR.cons' rfl (by (try dsimp only); exact (by rw [show IntKind.u64.wrap (IntKind.u64.wrap n * 2) = 18446744073709551616 + 2 * n from shl1_neg c9 h1, not64 _ (by omega) (by omega)]; refine int_eq ?_; unfold zig; rw [if_pos c9]; omega)) (SubR.nil _)) (by repeat (first | exact Sel.refl _ | refine Sel.empty ?_ | refine Sel.pull (by repeat (first | exact Pull.head | apply Pull.tail)) ?_ | refine Sel.drop ?_))
      · trivial
    ·
      have c9 := of_decide_eq_false c9
      refine TT.skip ?_
      refine KT.cut (()) ?_ (SubR.cons' rfl (by (try dsimp only); exact (int_eq (shl1_pos (by omega) h2))) (SubR.nil _)) (by repeat (first | exact Sel.refl _ | refine Sel.empty ?_ | refine Sel.pull (by repeat (first | exact Pull.head | apply Pull.tail)) ?_ | refine Sel.drop ?_))
      · trivial
  ·
    rintro _ -
    show TT _ _ _ [(3, .int .u64 (zig n : Nat))] (r)
    refine TT.seq ?_
    refine TT.region ?_
    refine OT.pures hT 1 rfl ?_
    refine OT.nil ?_
    refine KT.seq ?_
    refine TT.seq ?_
    refine TT.block ?_
    refine TT.chunk0 ?_
    refine TT.loop (ι := Nat × (List UInt8) × Value × Chunk) (fun j => Own Go.Sx.encB 1 5 (j.2.2.1) (j.2.1) (j.2.2.2) ∧ (j.2.1) ++ putU (j.1) = put n ∧ (j.1) < 18446744073709551616) (fun j => (j.1)) (fun j => [(4, (j.2.2.1)), (3, .int .u64 ((j.1) : Nat))]) (fun j => (j.2.2.2) :: r) (zig n, [], .slice none 0 0, []) ?_ (SubR.cons rfl (SubR.cons rfl (SubR.nil _))) (by repeat (first | exact Sel.refl _ | refine Sel.empty ?_ | refine Sel.pull (by repeat (first | exact Pull.head | apply Pull.tail)) ?_ | refine Sel.drop ?_)) ?_
    · dsimp only
      exact ⟨Own.nil, rfl, zig_lt h1 h2⟩
    rintro ⟨u, ys, w, K⟩ hI
    dsimp only at hI
    obtain ⟨hO, hp, hu⟩ := hI
    show TT _ _ _ [(4, w), (3, .int .u64 (u : Nat))] (K :: r)
    have h10 : ys.length + (putU u).length ≤ 10 := by rw [← List.length_append, hp]; exact put_ten h1 h2
    refine TT.seq ?_
    refine TT.seq ?_
    refine TT.region ?_
    refine OT.pures hT 2 rfl ?_
    refine OT.nil ?_
    refine KT.seq ?_
    refine TT.cond rfl (fun c13 => ?_) (fun c13 => ?_)
    ·
      have c13 := of_decide_eq_true c13
      refine TT.skip ?_
      refine KT.seq ?_
      refine TT.block ?_
      refine TT.seq ?_
      refine TT.region ?_
      refine OT.pures hT 5 rfl ?_
      refine OT.buildSlice (enc := Go.Sx.encB) (xs := [UInt8.ofNat (u % 128 + 128)]) (xos := [.tmp 18]) el22 rfl rfl rfl rfl (by rw [tmod128, wrap_u64 (by omega) (by omega), show ((u % 128 : Nat) : Int) + 128 = ((u % 128 + 128 : Nat) : Int) from by omega, wrap_u8]; rfl) (by simp [Value.cells]) (fun _ _ => rfl) rfl (by decide) rfl (fun v_19 H_19 ho_19 => ?_)
      refine OT.append hT el22 rfl rfl rfl rfl (by repeat (first | exact Pull.head | apply Pull.tail)) hO ho_19.row rfl (by simp; omega) rfl (fun v_20 H_20 ho_20 => ?_)
      refine OT.pures hT 1 rfl ?_
      refine OT.nil ?_
      refine KT.seq ?_
      refine TT.region ?_
      refine OT.pures hT 3 rfl ?_
      refine OT.nil ?_
      refine KT.blk ?_
      refine KT.loop (u / 128, ys ++ [UInt8.ofNat (u % 128 + 128)], v_20, H_20) ?_ ?_ (SubR.cons rfl (SubR.cons' rfl (by (try dsimp only); exact (by rw [tdiv128, wrap_u64 (by omega) (by omega)])) (SubR.nil _))) (by repeat (first | exact Sel.refl _ | refine Sel.empty ?_ | refine Sel.pull (by repeat (first | exact Pull.head | apply Pull.tail)) ?_ | refine Sel.drop ?_))
      · dsimp only
        exact ⟨by simpa using ho_20, by rw [← hp, putU_big (u := u) (by omega), List.append_assoc]; rfl, by omega⟩
      · dsimp only
        omega
    ·
      have c13 := of_decide_eq_false c13
      refine TT.exit ?_
      refine XT.seq ?_
      refine XT.loop ?_
      refine XT.here ?_
      refine KT.seq ?_
      refine TT.seq ?_
      refine TT.region ?_
      refine OT.pures hT 3 rfl ?_
      refine OT.buildSlice (enc := Go.Sx.encB) (xs := [UInt8.ofNat u]) (xos := [.tmp 25]) el22 rfl rfl rfl rfl (by rw [wrap_u8]; rfl) (by simp [Value.cells]) (fun _ _ => rfl) rfl (by decide) rfl (fun v_26 H_26 ho_26 => ?_)
      refine OT.append hT el22 rfl rfl rfl rfl (by repeat (first | exact Pull.head | apply Pull.tail)) hO ho_26.row rfl (by simp; omega) rfl (fun v_27 H_27 ho_27 => ?_)
      refine OT.pures hT 1 rfl ?_
      refine OT.nil ?_
      refine KT.seq ?_
      refine TT.ret ?_
      refine RT.of (rs := [.tmp 2]) [_] (H_27 :: r) rfl (.tmp rfl .nil) (by repeat (first | exact Sel.refl _ | refine Sel.empty ?_ | refine Sel.pull (by repeat (first | exact Pull.head | apply Pull.tail)) ?_ | refine Sel.drop ?_)) ?_
      dsimp only [one]
      exact ⟨_, rfl, by rw [← hp, putU_small (u := u) (by omega)]; exact ho_27⟩

set_option maxHeartbeats 1000000 in
set_option maxRecDepth 100000 in
theorem num_PutText {v : Value} {xs : List UInt8} {H : Chunk} {r : List Chunk} {s : ByteArray} (ho : Own Go.Sx.encB 1 5 v xs H) (hs : s.size ≤ 1073741824) (hl : xs.length ≤ 1073741824) : Fun Try.prog 38 [v, .string s] (H :: r) (fun v' hs' => ∃ H', hs' = H' :: r ∧ Own Go.Sx.encB 1 5 v' (xs ++ putText s) H') := by
  refine Fun.enter 11 Try.func38 rfl Try.ntmps38 rfl ?_
  refine TT.seq ?_
  refine TT.region ?_
  refine OT.pures hT 1 rfl ?_
  refine OT.nil ?_
  refine KT.seq ?_
  refine TT.seq ?_
  refine TT.region ?_
  refine OT.pures hT 3 rfl ?_
  refine OT.call Try.call37 rfl rfl rfl rfl (num_Put ho (by omega) (by omega) hl) ?_
  rintro v_8 hs_8 ⟨H1, rfl, ho1⟩
  refine OT.pures hT 1 rfl ?_
  refine OT.append_str (fun _ => rfl) hT el22 rfl rfl rfl rfl (by repeat (first | exact Pull.head | apply Pull.tail)) ho1 (by have := put_ten (n := s.size) (by omega) (by omega); have e : s.data.toList.length = s.size := Array.length_toList; rw [List.length_append, e]; omega) rfl (fun v_10 H_10 ho_10 => ?_)
  refine OT.pures hT 1 rfl ?_
  refine OT.nil ?_
  refine KT.seq ?_
  refine TT.ret ?_
  refine RT.of (rs := [.tmp 4]) [_] (H_10 :: r) rfl (.tmp rfl .nil) (by repeat (first | exact Sel.refl _ | refine Sel.empty ?_ | refine Sel.pull (by repeat (first | exact Pull.head | apply Pull.tail)) ?_ | refine Sel.drop ?_)) ?_
  dsimp only [one]
  exact ⟨_, rfl, by unfold putText; rw [← List.append_assoc]; exact ho_10⟩

set_option maxHeartbeats 1000000 in
set_option maxRecDepth 100000 in
theorem ref_PutText {r : List Chunk} {s : ByteArray} (hs : s.size ≤ 1073741824) : Fun Try.prog 57 [.string s] r (fun v' hs' => ∃ H', hs' = H' :: r ∧ Own Go.Sx.encB 1 5 v' (putText s) H') := by
  refine Fun.enter 8 Try.func57 rfl Try.ntmps57 rfl ?_
  refine TT.seq ?_
  refine TT.region ?_
  refine OT.pures hT 1 rfl ?_
  refine OT.nil ?_
  refine KT.seq ?_
  refine TT.seq ?_
  refine TT.region ?_
  refine OT.pures hT 2 rfl ?_
  refine OT.call Try.call56 rfl rfl rfl rfl (ref_Put (by omega) (by omega)) ?_
  rintro v_5 hs_5 ⟨H1, rfl, ho1⟩
  refine OT.pures hT 1 rfl ?_
  refine OT.append_str (fun _ => rfl) hT el22 rfl rfl rfl rfl (by repeat (first | exact Pull.head | apply Pull.tail)) ho1 (by have := put_ten (n := s.size) (by omega) (by omega); have e : s.data.toList.length = s.size := Array.length_toList; rw [e]; omega) rfl (fun v_7 H_7 ho_7 => ?_)
  refine OT.pures hT 1 rfl ?_
  refine OT.nil ?_
  refine KT.seq ?_
  refine TT.ret ?_
  refine RT.of (rs := [.tmp 2]) [_] (H_7 :: r) rfl (.tmp rfl .nil) (by repeat (first | exact Sel.refl _ | refine Sel.empty ?_ | refine Sel.pull (by repeat (first | exact Pull.head | apply Pull.tail)) ?_ | refine Sel.drop ?_)) ?_
  dsimp only [one]
  exact ⟨_, rfl, ho_7⟩

set_option maxHeartbeats 1000000 in
set_option maxRecDepth 100000 in
theorem num_Get {v : Value} {xs : List UInt8} {hs : List Chunk} (hr : Row Go.Sx.encB 1 hs v xs) (hl : xs.length ≤ 1073741824) : Fun Try.prog 51 [v] hs (fun v' hs' => v' = .tuple ⟨[.int .i64 (get xs).1, .int .i64 (get xs).2.1, .int .i64 (get xs).2.2]⟩ ∧ hs = hs') := by
  refine Fun.enter 50 Try.func51 rfl Try.ntmps51 rfl ?_
  obtain ⟨a0, c0, hv⟩ := hr.len
  subst hv
  refine TT.seq ?_
  refine TT.region ?_
  refine OT.pures hT 3 rfl ?_
  refine OT.nil ?_
  refine KT.seq ?_
  refine TT.seq ?_
  refine TT.region ?_
  refine OT.pures hT 1 rfl ?_
  refine OT.nil ?_
  refine KT.seq ?_
  refine TT.seq ?_
  refine TT.seq ?_
  refine TT.region ?_
  refine OT.pures hT 3 rfl ?_
  refine OT.nil ?_
  refine KT.seq ?_
  refine TT.block ?_
  refine TT.loop (ι := Nat × Nat) (fun j => (j.1) ≤ 9 ∧ (j.1) ≤ xs.length ∧ (j.2) < 128 ^ (j.1) ∧ getL (j.1) (j.2) (xs.drop (j.1)) = get xs) (fun j => xs.length - (j.1)) (fun j => [(5, .int .u64 ((j.2) : Nat)), (9, .slice a0 xs.length c0), (10, .int .i64 xs.length), (11, .int .i64 ((j.1) : Nat))]) (fun j => hs) (0, 0) ?_ (SubR.cons rfl (SubR.cons rfl (SubR.cons rfl (SubR.cons rfl (SubR.nil _))))) (by repeat (first | exact Sel.refl _ | refine Sel.empty ?_ | refine Sel.pull (by repeat (first | exact Pull.head | apply Pull.tail)) ?_ | refine Sel.drop ?_)) ?_
  · dsimp only
    exact ⟨by omega, by omega, by simp, rfl⟩
  rintro ⟨i, u⟩ hI
  dsimp only at hI
  obtain ⟨h9, hi, hu, hp⟩ := hI
  show TT _ _ _ [(5, .int .u64 (u : Nat)), (9, .slice a0 xs.length c0), (10, .int .i64 xs.length), (11, .int .i64 (i : Nat))] (hs)
  refine TT.seq ?_
  refine TT.region ?_
  refine OT.pures hT 1 rfl ?_
  refine OT.nil ?_
  refine KT.seq ?_
  refine TT.seq ?_
  refine TT.cond rfl (fun c12 => ?_) (fun c12 => ?_)
  ·
    have c12 := of_decide_eq_true c12
    obtain ⟨c, hc⟩ : ∃ c, xs[i]? = some c := ⟨_, List.getElem?_eq_getElem (by omega)⟩
    rw [List.drop_eq_getElem_cons (by omega), show xs[i]'(by omega) = c from by rw [List.getElem?_eq_getElem (by omega)] at hc; exact Option.some.inj hc, getL] at hp
    have hcl := c.toNat_lt
    refine TT.skip ?_
    refine KT.seq ?_
    refine TT.seq ?_
    refine TT.block ?_
    refine TT.seq ?_
    refine TT.region ?_
    refine OT.pures hT 1 rfl ?_
    refine OT.index hT rfl rfl rfl rfl hr (by omega) hc rfl (fun ad_14 hel_14 => ?_)
    refine OT.load rfl rfl (hel_14.ld_one hT rfl rfl) rfl ?_
    refine OT.pures hT 2 rfl ?_
    refine OT.nil ?_
    refine KT.seq ?_
    refine TT.seq ?_
    refine TT.seq ?_
    refine TT.region ?_
    refine OT.pures hT 3 rfl ?_
    refine OT.split 18 rfl (fun g18 => ?_) (fun g18 => ?_)
    ·
      have g18 := of_decide_eq_true (g18 : decide ((i : Int) = 9) = true)
      refine OT.pures hT 3 rfl ?_
      refine OT.nil ?_
      refine KT.seq ?_
      refine TT.cond rfl (fun c21 => ?_) (fun c21 => ?_)
      ·
        have c21 := of_decide_eq_true c21
        rw [if_pos ⟨by omega, by omega⟩] at hp
        refine TT.seq ?_
        refine TT.region ?_
        refine OT.pures hT 3 rfl ?_
        refine OT.nil ?_
        refine KT.seq ?_
        refine TT.ret ?_
        refine RT.of (rs := [.tmp 2, .tmp 3, .tmp 4]) [_, _, _] hs rfl (.tmp rfl (.tmp rfl (.tmp rfl .nil))) (by repeat (first | exact Sel.refl _ | refine Sel.empty ?_ | refine Sel.pull (by repeat (first | exact Pull.head | apply Pull.tail)) ?_ | refine Sel.drop ?_)) ?_
        dsimp only [one]
        exact ⟨by rw [← hp], rfl⟩
      ·
        have c21 := of_decide_eq_false c21
        have c21 : ¬ (i = 9 ∧ 1 < c.toNat) := by omega
        rw [if_neg c21] at hp
        refine TT.skip ?_
        refine KT.seq ?_
        refine TT.seq ?_
        refine TT.region ?_
        refine OT.pures hT 6 rfl ?_
        refine OT.shl hT rfl rfl rfl (by rw [wrap_i64 (by omega) (by omega)]; omega) rfl ?_
        have c21 : ¬ (i = 9 ∧ 1 < c.toNat) := by omega
        have hst := get_step h9 hu c21
        refine OT.pures hT 1 rfl ?_
        refine OT.reg 29 rfl (int_eq (by rw [byteAnd, get_shl h9 (by omega), get_or h9 hu (by omega)])) ?_
        refine OT.pures hT 1 rfl ?_
        refine OT.nil ?_
        refine KT.seq ?_
        refine TT.seq ?_
        refine TT.seq ?_
        refine TT.region ?_
        refine OT.pures hT 2 rfl ?_
        refine OT.nil ?_
        refine KT.seq ?_
        refine TT.cond rfl (fun c31 => ?_) (fun c31 => ?_)
        ·
          have c31 := of_decide_eq_true c31
          try rw [if_neg c21] at hp
          rw [if_pos (by omega)] at hp
          refine TT.exit ?_
          refine XT.seq ?_
          refine XT.here ?_
          refine KT.seq ?_
          refine TT.region ?_
          refine OT.pures hT 2 rfl ?_
          refine OT.nil ?_
          refine KT.loop (i + 1, u + c.toNat % 128 * 128 ^ i) ?_ ?_ (SubR.cons rfl (SubR.cons rfl (SubR.cons rfl (SubR.cons' rfl (by (try dsimp only); exact (int_eq (by rw [wrap_i64 (by omega) (by omega)]; omega))) (SubR.nil _))))) (by repeat (first | exact Sel.refl _ | refine Sel.empty ?_ | refine Sel.pull (by repeat (first | exact Pull.head | apply Pull.tail)) ?_ | refine Sel.drop ?_))
          · dsimp only
            exact ⟨by omega, by omega, get_next hu, hp⟩
          · dsimp only
            omega
        ·
          have c31 := of_decide_eq_false c31
          try rw [if_neg c21] at hp
          rw [if_neg (by omega)] at hp
          refine TT.skip ?_
          refine KT.seq ?_
          refine TT.seq ?_
          refine TT.seq ?_
          refine TT.region ?_
          refine OT.pures hT 3 rfl ?_
          refine OT.split 34 rfl (fun g34 => ?_) (fun g34 => ?_)
          ·
            have g34 := of_decide_eq_true g34
            refine OT.pures hT 3 rfl ?_
            refine OT.nil ?_
            refine KT.seq ?_
            refine TT.cond rfl (fun c37 => ?_) (fun c37 => ?_)
            ·
              have c37 := of_decide_eq_true (c37 : decide ((c.toNat : Int) = 0) = true)
              rw [if_pos ⟨by omega, by omega⟩] at hp
              refine TT.seq ?_
              refine TT.region ?_
              refine OT.pures hT 3 rfl ?_
              refine OT.nil ?_
              refine KT.seq ?_
              refine TT.ret ?_
              refine RT.of (rs := [.tmp 2, .tmp 3, .tmp 4]) [_, _, _] hs rfl (.tmp rfl (.tmp rfl (.tmp rfl .nil))) (by repeat (first | exact Sel.refl _ | refine Sel.empty ?_ | refine Sel.pull (by repeat (first | exact Pull.head | apply Pull.tail)) ?_ | refine Sel.drop ?_)) ?_
              dsimp only [one]
              exact ⟨by rw [← hp], rfl⟩
            ·
              have c37 := of_decide_eq_false (c37 : decide ((c.toNat : Int) = 0) = false)
              rw [if_neg (by omega)] at hp
              refine TT.skip ?_
              refine KT.seq ?_
              refine TT.seq ?_
              refine TT.region ?_
              refine OT.pures hT 2 rfl ?_
              refine OT.pures hT 1 rfl ?_
              refine OT.reg 40 rfl (int_eq (unzig_even hst)) ?_
              try rw [if_neg (by omega)] at hp
              refine OT.pures hT 1 rfl ?_
              refine OT.nil ?_
              refine KT.seq ?_
              refine TT.cut (ι := Unit) (fun j => True) (fun j => [(8, .int .i64 (unzig (u + c.toNat % 128 * 128 ^ i))), (6, .int .i64 (i : Nat))]) (fun j => hs) ?_ ?_
              ·
                refine TT.seq ?_
                refine TT.region ?_
                refine OT.pures hT 1 rfl ?_
                refine OT.pures hT 1 rfl ?_
                refine OT.reg 42 rfl (int_eq (and64_1 hst)) ?_
                refine OT.pures hT 1 rfl ?_
                refine OT.nil ?_
                refine KT.seq ?_
                refine TT.cond rfl (fun c43 => ?_) (fun c43 => ?_)
                ·
                  have c43 := of_decide_eq_true (c43 : decide (((u + c.toNat % 128 * 128 ^ i) % 2 : Nat) = (1 : Int)) = true)
                  refine TT.region ?_
                  refine OT.pures hT 3 rfl ?_
                  refine OT.nil ?_
                  refine KT.cut (()) ?_ (SubR.cons' rfl (by (try dsimp only); exact (int_eq (by rw [not64i (by omega) (by omega)]; unfold unzig; rw [if_pos (by omega)]))) (SubR.cons rfl (SubR.nil _))) (by repeat (first | exact Sel.refl _ | refine Sel.empty ?_ | refine Sel.pull (by repeat (first | exact Pull.head | apply Pull.tail)) ?_ | refine Sel.drop ?_))
                  · trivial
                ·
                  have c43 := of_decide_eq_false (c43 : decide (((u + c.toNat % 128 * 128 ^ i) % 2 : Nat) = (1 : Int)) = false)
                  refine TT.skip ?_
                  refine KT.cut (()) ?_ (SubR.cons' rfl (by (try dsimp only); exact (int_eq (by unfold unzig; rw [if_neg (by omega)]))) (SubR.cons rfl (SubR.nil _))) (by repeat (first | exact Sel.refl _ | refine Sel.empty ?_ | refine Sel.pull (by repeat (first | exact Pull.head | apply Pull.tail)) ?_ | refine Sel.drop ?_))
                  · trivial
              ·
                rintro _ -
                show TT _ _ _ [(8, .int .i64 (unzig (u + c.toNat % 128 * 128 ^ i))), (6, .int .i64 (i : Nat))] (hs)
                refine TT.seq ?_
                refine TT.region ?_
                refine OT.pures hT 6 rfl ?_
                refine OT.nil ?_
                refine KT.seq ?_
                refine TT.ret ?_
                refine RT.of (rs := [.tmp 2, .tmp 3, .tmp 4]) [_, _, _] hs rfl (.tmp rfl (.tmp rfl (.tmp rfl .nil))) (by repeat (first | exact Sel.refl _ | refine Sel.empty ?_ | refine Sel.pull (by repeat (first | exact Pull.head | apply Pull.tail)) ?_ | refine Sel.drop ?_)) ?_
                dsimp only [one]
                refine ⟨?_, rfl⟩
                rw [← hp, wrap_i64 (n := (i : Int) + 1) (by omega) (by omega)]
                rfl
          ·
            have g34 := of_decide_eq_false g34
            refine OT.pures hT 3 rfl ?_
            refine OT.nil ?_
            refine KT.seq ?_
            refine TT.cond_false rfl ?_
            refine TT.skip ?_
            refine KT.seq ?_
            refine TT.seq ?_
            refine TT.region ?_
            refine OT.pures hT 2 rfl ?_
            refine OT.pures hT 1 rfl ?_
            refine OT.reg 40 rfl (int_eq (unzig_even hst)) ?_
            try rw [if_neg (by omega)] at hp
            refine OT.pures hT 1 rfl ?_
            refine OT.nil ?_
            refine KT.seq ?_
            refine TT.cut (ι := Unit) (fun j => True) (fun j => [(8, .int .i64 (unzig (u + c.toNat % 128 * 128 ^ i))), (6, .int .i64 (i : Nat))]) (fun j => hs) ?_ ?_
            ·
              refine TT.seq ?_
              refine TT.region ?_
              refine OT.pures hT 1 rfl ?_
              refine OT.pures hT 1 rfl ?_
              refine OT.reg 42 rfl (int_eq (and64_1 hst)) ?_
              refine OT.pures hT 1 rfl ?_
              refine OT.nil ?_
              refine KT.seq ?_
              refine TT.cond rfl (fun c43 => ?_) (fun c43 => ?_)
              ·
                have c43 := of_decide_eq_true (c43 : decide (((u + c.toNat % 128 * 128 ^ i) % 2 : Nat) = (1 : Int)) = true)
                refine TT.region ?_
                refine OT.pures hT 3 rfl ?_
                refine OT.nil ?_
                refine KT.cut (()) ?_ (SubR.cons' rfl (by (try dsimp only); exact (int_eq (by rw [not64i (by omega) (by omega)]; unfold unzig; rw [if_pos (by omega)]))) (SubR.cons rfl (SubR.nil _))) (by repeat (first | exact Sel.refl _ | refine Sel.empty ?_ | refine Sel.pull (by repeat (first | exact Pull.head | apply Pull.tail)) ?_ | refine Sel.drop ?_))
                · trivial
              ·
                have c43 := of_decide_eq_false (c43 : decide (((u + c.toNat % 128 * 128 ^ i) % 2 : Nat) = (1 : Int)) = false)
                refine TT.skip ?_
                refine KT.cut (()) ?_ (SubR.cons' rfl (by (try dsimp only); exact (int_eq (by unfold unzig; rw [if_neg (by omega)]))) (SubR.cons rfl (SubR.nil _))) (by repeat (first | exact Sel.refl _ | refine Sel.empty ?_ | refine Sel.pull (by repeat (first | exact Pull.head | apply Pull.tail)) ?_ | refine Sel.drop ?_))
                · trivial
            ·
              rintro _ -
              show TT _ _ _ [(8, .int .i64 (unzig (u + c.toNat % 128 * 128 ^ i))), (6, .int .i64 (i : Nat))] (hs)
              refine TT.seq ?_
              refine TT.region ?_
              refine OT.pures hT 6 rfl ?_
              refine OT.nil ?_
              refine KT.seq ?_
              refine TT.ret ?_
              refine RT.of (rs := [.tmp 2, .tmp 3, .tmp 4]) [_, _, _] hs rfl (.tmp rfl (.tmp rfl (.tmp rfl .nil))) (by repeat (first | exact Sel.refl _ | refine Sel.empty ?_ | refine Sel.pull (by repeat (first | exact Pull.head | apply Pull.tail)) ?_ | refine Sel.drop ?_)) ?_
              dsimp only [one]
              refine ⟨?_, rfl⟩
              rw [← hp, wrap_i64 (n := (i : Int) + 1) (by omega) (by omega)]
              rfl
    ·
      have g18 := of_decide_eq_false (g18 : decide ((i : Int) = 9) = false)
      refine OT.pures hT 3 rfl ?_
      refine OT.nil ?_
      refine KT.seq ?_
      refine TT.cond_false rfl ?_
      refine TT.skip ?_
      refine KT.seq ?_
      refine TT.seq ?_
      refine TT.region ?_
      refine OT.pures hT 6 rfl ?_
      refine OT.shl hT rfl rfl rfl (by rw [wrap_i64 (by omega) (by omega)]; omega) rfl ?_
      have c21 : ¬ (i = 9 ∧ 1 < c.toNat) := by omega
      have hst := get_step h9 hu c21
      refine OT.pures hT 1 rfl ?_
      refine OT.reg 29 rfl (int_eq (by rw [byteAnd, get_shl h9 (by omega), get_or h9 hu (by omega)])) ?_
      refine OT.pures hT 1 rfl ?_
      refine OT.nil ?_
      refine KT.seq ?_
      refine TT.seq ?_
      refine TT.seq ?_
      refine TT.region ?_
      refine OT.pures hT 2 rfl ?_
      refine OT.nil ?_
      refine KT.seq ?_
      refine TT.cond rfl (fun c31 => ?_) (fun c31 => ?_)
      ·
        have c31 := of_decide_eq_true c31
        try rw [if_neg c21] at hp
        rw [if_pos (by omega)] at hp
        refine TT.exit ?_
        refine XT.seq ?_
        refine XT.here ?_
        refine KT.seq ?_
        refine TT.region ?_
        refine OT.pures hT 2 rfl ?_
        refine OT.nil ?_
        refine KT.loop (i + 1, u + c.toNat % 128 * 128 ^ i) ?_ ?_ (SubR.cons rfl (SubR.cons rfl (SubR.cons rfl (SubR.cons' rfl (by (try dsimp only); exact (int_eq (by rw [wrap_i64 (by omega) (by omega)]; omega))) (SubR.nil _))))) (by repeat (first | exact Sel.refl _ | refine Sel.empty ?_ | refine Sel.pull (by repeat (first | exact Pull.head | apply Pull.tail)) ?_ | refine Sel.drop ?_))
        · dsimp only
          exact ⟨by omega, by omega, get_next hu, hp⟩
        · dsimp only
          omega
      ·
        have c31 := of_decide_eq_false c31
        try rw [if_neg c21] at hp
        rw [if_neg (by omega)] at hp
        refine TT.skip ?_
        refine KT.seq ?_
        refine TT.seq ?_
        refine TT.seq ?_
        refine TT.region ?_
        refine OT.pures hT 3 rfl ?_
        refine OT.split 34 rfl (fun g34 => ?_) (fun g34 => ?_)
        ·
          have g34 := of_decide_eq_true g34
          refine OT.pures hT 3 rfl ?_
          refine OT.nil ?_
          refine KT.seq ?_
          refine TT.cond rfl (fun c37 => ?_) (fun c37 => ?_)
          ·
            have c37 := of_decide_eq_true (c37 : decide ((c.toNat : Int) = 0) = true)
            rw [if_pos ⟨by omega, by omega⟩] at hp
            refine TT.seq ?_
            refine TT.region ?_
            refine OT.pures hT 3 rfl ?_
            refine OT.nil ?_
            refine KT.seq ?_
            refine TT.ret ?_
            refine RT.of (rs := [.tmp 2, .tmp 3, .tmp 4]) [_, _, _] hs rfl (.tmp rfl (.tmp rfl (.tmp rfl .nil))) (by repeat (first | exact Sel.refl _ | refine Sel.empty ?_ | refine Sel.pull (by repeat (first | exact Pull.head | apply Pull.tail)) ?_ | refine Sel.drop ?_)) ?_
            dsimp only [one]
            exact ⟨by rw [← hp], rfl⟩
          ·
            have c37 := of_decide_eq_false (c37 : decide ((c.toNat : Int) = 0) = false)
            rw [if_neg (by omega)] at hp
            refine TT.skip ?_
            refine KT.seq ?_
            refine TT.seq ?_
            refine TT.region ?_
            refine OT.pures hT 2 rfl ?_
            refine OT.pures hT 1 rfl ?_
            refine OT.reg 40 rfl (int_eq (unzig_even hst)) ?_
            try rw [if_neg (by omega)] at hp
            refine OT.pures hT 1 rfl ?_
            refine OT.nil ?_
            refine KT.seq ?_
            refine TT.cut (ι := Unit) (fun j => True) (fun j => [(8, .int .i64 (unzig (u + c.toNat % 128 * 128 ^ i))), (6, .int .i64 (i : Nat))]) (fun j => hs) ?_ ?_
            ·
              refine TT.seq ?_
              refine TT.region ?_
              refine OT.pures hT 1 rfl ?_
              refine OT.pures hT 1 rfl ?_
              refine OT.reg 42 rfl (int_eq (and64_1 hst)) ?_
              refine OT.pures hT 1 rfl ?_
              refine OT.nil ?_
              refine KT.seq ?_
              refine TT.cond rfl (fun c43 => ?_) (fun c43 => ?_)
              ·
                have c43 := of_decide_eq_true (c43 : decide (((u + c.toNat % 128 * 128 ^ i) % 2 : Nat) = (1 : Int)) = true)
                refine TT.region ?_
                refine OT.pures hT 3 rfl ?_
                refine OT.nil ?_
                refine KT.cut (()) ?_ (SubR.cons' rfl (by (try dsimp only); exact (int_eq (by rw [not64i (by omega) (by omega)]; unfold unzig; rw [if_pos (by omega)]))) (SubR.cons rfl (SubR.nil _))) (by repeat (first | exact Sel.refl _ | refine Sel.empty ?_ | refine Sel.pull (by repeat (first | exact Pull.head | apply Pull.tail)) ?_ | refine Sel.drop ?_))
                · trivial
              ·
                have c43 := of_decide_eq_false (c43 : decide (((u + c.toNat % 128 * 128 ^ i) % 2 : Nat) = (1 : Int)) = false)
                refine TT.skip ?_
                refine KT.cut (()) ?_ (SubR.cons' rfl (by (try dsimp only); exact (int_eq (by unfold unzig; rw [if_neg (by omega)]))) (SubR.cons rfl (SubR.nil _))) (by repeat (first | exact Sel.refl _ | refine Sel.empty ?_ | refine Sel.pull (by repeat (first | exact Pull.head | apply Pull.tail)) ?_ | refine Sel.drop ?_))
                · trivial
            ·
              rintro _ -
              show TT _ _ _ [(8, .int .i64 (unzig (u + c.toNat % 128 * 128 ^ i))), (6, .int .i64 (i : Nat))] (hs)
              refine TT.seq ?_
              refine TT.region ?_
              refine OT.pures hT 6 rfl ?_
              refine OT.nil ?_
              refine KT.seq ?_
              refine TT.ret ?_
              refine RT.of (rs := [.tmp 2, .tmp 3, .tmp 4]) [_, _, _] hs rfl (.tmp rfl (.tmp rfl (.tmp rfl .nil))) (by repeat (first | exact Sel.refl _ | refine Sel.empty ?_ | refine Sel.pull (by repeat (first | exact Pull.head | apply Pull.tail)) ?_ | refine Sel.drop ?_)) ?_
              dsimp only [one]
              refine ⟨?_, rfl⟩
              rw [← hp, wrap_i64 (n := (i : Int) + 1) (by omega) (by omega)]
              rfl
        ·
          have g34 := of_decide_eq_false g34
          refine OT.pures hT 3 rfl ?_
          refine OT.nil ?_
          refine KT.seq ?_
          refine TT.cond_false rfl ?_
          refine TT.skip ?_
          refine KT.seq ?_
          refine TT.seq ?_
          refine TT.region ?_
          refine OT.pures hT 2 rfl ?_
          refine OT.pures hT 1 rfl ?_
          refine OT.reg 40 rfl (int_eq (unzig_even hst)) ?_
          try rw [if_neg (by omega)] at hp
          refine OT.pures hT 1 rfl ?_
          refine OT.nil ?_
          refine KT.seq ?_
          refine TT.cut (ι := Unit) (fun j => True) (fun j => [(8, .int .i64 (unzig (u + c.toNat % 128 * 128 ^ i))), (6, .int .i64 (i : Nat))]) (fun j => hs) ?_ ?_
          ·
            refine TT.seq ?_
            refine TT.region ?_
            refine OT.pures hT 1 rfl ?_
            refine OT.pures hT 1 rfl ?_
            refine OT.reg 42 rfl (int_eq (and64_1 hst)) ?_
            refine OT.pures hT 1 rfl ?_
            refine OT.nil ?_
            refine KT.seq ?_
            refine TT.cond rfl (fun c43 => ?_) (fun c43 => ?_)
            ·
              have c43 := of_decide_eq_true (c43 : decide (((u + c.toNat % 128 * 128 ^ i) % 2 : Nat) = (1 : Int)) = true)
              refine TT.region ?_
              refine OT.pures hT 3 rfl ?_
              refine OT.nil ?_
              refine KT.cut (()) ?_ (SubR.cons' rfl (by (try dsimp only); exact (int_eq (by rw [not64i (by omega) (by omega)]; unfold unzig; rw [if_pos (by omega)]))) (SubR.cons rfl (SubR.nil _))) (by repeat (first | exact Sel.refl _ | refine Sel.empty ?_ | refine Sel.pull (by repeat (first | exact Pull.head | apply Pull.tail)) ?_ | refine Sel.drop ?_))
              · trivial
            ·
              have c43 := of_decide_eq_false (c43 : decide (((u + c.toNat % 128 * 128 ^ i) % 2 : Nat) = (1 : Int)) = false)
              refine TT.skip ?_
              refine KT.cut (()) ?_ (SubR.cons' rfl (by (try dsimp only); exact (int_eq (by unfold unzig; rw [if_neg (by omega)]))) (SubR.cons rfl (SubR.nil _))) (by repeat (first | exact Sel.refl _ | refine Sel.empty ?_ | refine Sel.pull (by repeat (first | exact Pull.head | apply Pull.tail)) ?_ | refine Sel.drop ?_))
              · trivial
          ·
            rintro _ -
            show TT _ _ _ [(8, .int .i64 (unzig (u + c.toNat % 128 * 128 ^ i))), (6, .int .i64 (i : Nat))] (hs)
            refine TT.seq ?_
            refine TT.region ?_
            refine OT.pures hT 6 rfl ?_
            refine OT.nil ?_
            refine KT.seq ?_
            refine TT.ret ?_
            refine RT.of (rs := [.tmp 2, .tmp 3, .tmp 4]) [_, _, _] hs rfl (.tmp rfl (.tmp rfl (.tmp rfl .nil))) (by repeat (first | exact Sel.refl _ | refine Sel.empty ?_ | refine Sel.pull (by repeat (first | exact Pull.head | apply Pull.tail)) ?_ | refine Sel.drop ?_)) ?_
            dsimp only [one]
            refine ⟨?_, rfl⟩
            rw [← hp, wrap_i64 (n := (i : Int) + 1) (by omega) (by omega)]
            rfl
  ·
    have c12 := of_decide_eq_false c12
    rw [List.drop_eq_nil_of_le (by omega), getL] at hp
    refine TT.exit ?_
    refine XT.seq ?_
    refine XT.loop ?_
    refine XT.here ?_
    refine KT.seq ?_
    refine TT.seq ?_
    refine TT.region ?_
    refine OT.pures hT 3 rfl ?_
    refine OT.nil ?_
    refine KT.seq ?_
    refine TT.ret ?_
    refine RT.of (rs := [.tmp 2, .tmp 3, .tmp 4]) [_, _, _] hs rfl (.tmp rfl (.tmp rfl (.tmp rfl .nil))) (by repeat (first | exact Sel.refl _ | refine Sel.empty ?_ | refine Sel.pull (by repeat (first | exact Pull.head | apply Pull.tail)) ?_ | refine Sel.drop ?_)) ?_
    dsimp only [one]
    exact ⟨by rw [← hp], rfl⟩

set_option maxHeartbeats 1000000 in
set_option maxRecDepth 100000 in
theorem num_GetText {v : Value} {xs : List UInt8} {hs : List Chunk} (hr : Row Go.Sx.encB 1 hs v xs) (hl : xs.length ≤ 1073741824) : Fun Try.prog 72 [v] hs (fun v' hs' => v' = .tuple ⟨[.string (getText xs).1, .int .i64 (getText xs).2.1, .int .i64 (getText xs).2.2]⟩ ∧ hs = hs') := by
  refine Fun.enter 42 Try.func72 rfl Try.ntmps72 rfl ?_
  obtain ⟨a0, c0, hv⟩ := hr.len
  subst hv
  have hk := @get_k xs
  unfold getText
  generalize hg : get xs = p at *
  obtain ⟨n, kk, e⟩ := p
  dsimp only at *
  refine TT.seq ?_
  refine TT.region ?_
  refine OT.pures hT 3 rfl ?_
  refine OT.nil ?_
  refine KT.seq ?_
  refine TT.seq ?_
  refine TT.region ?_
  refine OT.pures hT 1 rfl ?_
  refine OT.call Try.call51 rfl rfl rfl rfl (num_Get hr hl) ?_
  rintro v_10 hs_10 ⟨rfl, rfl⟩
  rw [hg]
  dsimp only
  refine OT.pures hT 7 rfl ?_
  refine OT.nil ?_
  refine KT.seq ?_
  refine TT.seq ?_
  refine TT.block ?_
  refine TT.seq ?_
  refine TT.region ?_
  refine OT.pures hT 3 rfl ?_
  refine OT.nil ?_
  refine KT.seq ?_
  refine TT.cond rfl (fun c14 => ?_) (fun c14 => ?_)
  ·
    have c14 : ¬ e = 0 := by simpa using c14
    refine TT.seq ?_
    refine TT.region ?_
    refine OT.pures hT 4 rfl ?_
    refine OT.nil ?_
    refine KT.seq ?_
    refine TT.ret ?_
    refine RT.of (rs := [.tmp 2, .tmp 3, .tmp 4]) [_, _, _] hs rfl (.tmp rfl (.tmp rfl (.tmp rfl .nil))) (by repeat (first | exact Sel.refl _ | refine Sel.empty ?_ | refine Sel.pull (by repeat (first | exact Pull.head | apply Pull.tail)) ?_ | refine Sel.drop ?_)) ?_
    dsimp only [one]
    refine ⟨?_, rfl⟩
    rw [if_pos c14]
  ·
    have c14 : e = 0 := by simpa using c14
    have hk := hk c14
    refine TT.seq ?_
    refine TT.region ?_
    refine OT.pures hT 3 rfl ?_
    refine OT.split 21 rfl (fun g21 => ?_) (fun g21 => ?_)
    ·
      have g21 := of_decide_eq_true g21
      refine OT.pures hT 4 rfl ?_
      refine OT.nil ?_
      refine KT.seq ?_
      refine TT.cond_true rfl ?_
      refine TT.seq ?_
      refine TT.region ?_
      refine OT.pures hT 3 rfl ?_
      refine OT.nil ?_
      refine KT.seq ?_
      refine TT.ret ?_
      refine RT.of (rs := [.tmp 2, .tmp 3, .tmp 4]) [_, _, _] hs rfl (.tmp rfl (.tmp rfl (.tmp rfl .nil))) (by repeat (first | exact Sel.refl _ | refine Sel.empty ?_ | refine Sel.pull (by repeat (first | exact Pull.head | apply Pull.tail)) ?_ | refine Sel.drop ?_)) ?_
      dsimp only [one]
      refine ⟨?_, rfl⟩
      rw [if_neg (by omega), if_pos (by omega)]
    ·
      have g21 := of_decide_eq_false g21
      refine OT.pures hT 4 rfl ?_
      refine OT.nil ?_
      refine KT.seq ?_
      refine TT.cond rfl (fun c18 => ?_) (fun c18 => ?_)
      ·
        have c18 := of_decide_eq_true c18
        refine TT.seq ?_
        refine TT.region ?_
        refine OT.pures hT 3 rfl ?_
        refine OT.nil ?_
        refine KT.seq ?_
        refine TT.ret ?_
        refine RT.of (rs := [.tmp 2, .tmp 3, .tmp 4]) [_, _, _] hs rfl (.tmp rfl (.tmp rfl (.tmp rfl .nil))) (by repeat (first | exact Sel.refl _ | refine Sel.empty ?_ | refine Sel.pull (by repeat (first | exact Pull.head | apply Pull.tail)) ?_ | refine Sel.drop ?_)) ?_
        dsimp only [one]
        refine ⟨?_, rfl⟩
        rw [if_neg (by omega), if_pos (by omega)]
      ·
        have c18 := of_decide_eq_false c18
        refine TT.seq ?_
        refine TT.region ?_
        refine OT.pures hT 7 rfl ?_
        refine OT.nil ?_
        refine KT.seq ?_
        refine TT.cond rfl (fun c25 => ?_) (fun c25 => ?_)
        ·
          have c25 := of_decide_eq_true c25
          rw [wrap_i64 (by omega) (by omega)] at c25
          refine TT.seq ?_
          refine TT.region ?_
          refine OT.pures hT 3 rfl ?_
          refine OT.nil ?_
          refine KT.seq ?_
          refine TT.ret ?_
          refine RT.of (rs := [.tmp 2, .tmp 3, .tmp 4]) [_, _, _] hs rfl (.tmp rfl (.tmp rfl (.tmp rfl .nil))) (by repeat (first | exact Sel.refl _ | refine Sel.empty ?_ | refine Sel.pull (by repeat (first | exact Pull.head | apply Pull.tail)) ?_ | refine Sel.drop ?_)) ?_
          dsimp only [one]
          refine ⟨?_, rfl⟩
          rw [if_neg (by omega), if_neg (by omega), if_pos (by omega)]
        ·
          have c25 := of_decide_eq_false c25
          rw [wrap_i64 (by omega) (by omega)] at c25
          refine TT.skip ?_
          refine KT.blk ?_
          refine KT.seq ?_
          refine TT.seq ?_
          refine TT.region ?_
          refine OT.pures hT 5 rfl ?_
          refine OT.slice kk.toNat (kk + n).toNat hT rfl rfl rfl rfl rfl hr (.inr ⟨.i64, by rw [Int.toNat_of_nonneg (by omega)]⟩) (.inr ⟨.i64, by rw [Int.toNat_of_nonneg (by omega), wrap_i64 (by omega) (by omega)]⟩) (by omega) (by omega) rfl (fun v_37 hv_37 => ?_)
          refine OT.conv_bs (fun _ => rfl) hT rfl rfl rfl rfl rfl hv_37 rfl ?_
          refine OT.pures hT 6 rfl ?_
          refine OT.nil ?_
          refine KT.seq ?_
          refine TT.ret ?_
          refine RT.of (rs := [.tmp 2, .tmp 3, .tmp 4]) [_, _, _] hs rfl (.tmp rfl (.tmp rfl (.tmp rfl .nil))) (by repeat (first | exact Sel.refl _ | refine Sel.empty ?_ | refine Sel.pull (by repeat (first | exact Pull.head | apply Pull.tail)) ?_ | refine Sel.drop ?_)) ?_
          dsimp only [one]
          refine ⟨?_, rfl⟩
          rw [if_neg (by omega), if_neg (by omega), if_neg (by omega), wrap_i64 (by omega) (by omega)]


set_option maxHeartbeats 1000000 in
set_option maxRecDepth 100000 in
theorem cat_Name {s : ByteArray} {hs : List Chunk} : Fun Try.prog 34 [.string s] hs (fun v' hs' => v' = .bool (nameB s) ∧ hs = hs') := by
  refine Fun.enter 10 Try.func34 rfl Try.ntmps34 rfl ?_
  have hz := size_zero_iff s
  refine TT.seq ?_
  refine TT.region ?_
  refine OT.pures hT 1 rfl ?_
  refine OT.nil ?_
  refine KT.seq ?_
  refine TT.seq ?_
  refine TT.region ?_
  refine OT.pures hT 3 rfl ?_
  refine OT.split 5 rfl (fun g5 => ?_) (fun g5 => ?_)
  ·
    have g5 : ¬ s = ⟨#[]⟩ := by simpa using g5
    have g5 : ¬ s.size = 0 := fun h => g5 (hz.1 h)
    refine OT.pures hT 5 rfl ?_
    refine OT.nil ?_
    refine KT.seq ?_
    refine TT.ret ?_
    refine RT.of (rs := [.tmp 2]) [_] hs rfl (.tmp rfl .nil) (by repeat (first | exact Sel.refl _ | refine Sel.empty ?_ | refine Sel.pull (by repeat (first | exact Pull.head | apply Pull.tail)) ?_ | refine Sel.drop ?_)) ?_
    dsimp only [one]
    refine ⟨?_, rfl⟩
    unfold nameB
    refine congrArg Value.bool ?_
    first | (refine (decide_eq_false ?_).symm; omega) | (refine decide_eq_decide.2 ?_; omega)
  ·
    have g5 : s = ⟨#[]⟩ := by simpa using g5
    have g5 : s.size = 0 := hz.2 g5
    refine OT.pures hT 5 rfl ?_
    refine OT.nil ?_
    refine KT.seq ?_
    refine TT.ret ?_
    refine RT.of (rs := [.tmp 2]) [_] hs rfl (.tmp rfl .nil) (by repeat (first | exact Sel.refl _ | refine Sel.empty ?_ | refine Sel.pull (by repeat (first | exact Pull.head | apply Pull.tail)) ?_ | refine Sel.drop ?_)) ?_
    dsimp only [one]
    refine ⟨?_, rfl⟩
    unfold nameB
    refine congrArg Value.bool ?_
    first | (refine (decide_eq_false ?_).symm; omega) | (refine decide_eq_decide.2 ?_; omega)

set_option maxHeartbeats 1000000 in
set_option maxRecDepth 100000 in
theorem ref_Name {s : ByteArray} {hs : List Chunk} : Fun Try.prog 75 [.string s] hs (fun v' hs' => v' = .bool (nameB s) ∧ hs = hs') := by
  refine Fun.enter 11 Try.func75 rfl Try.ntmps75 rfl ?_
  refine TT.seq ?_
  refine TT.region ?_
  refine OT.pures hT 1 rfl ?_
  refine OT.nil ?_
  refine KT.seq ?_
  refine TT.seq ?_
  refine TT.region ?_
  refine OT.pures hT 4 rfl ?_
  refine OT.split 6 rfl (fun g6 => ?_) (fun g6 => ?_)
  ·
    have g6 := of_decide_eq_true g6
    refine OT.pures hT 5 rfl ?_
    refine OT.nil ?_
    refine KT.seq ?_
    refine TT.ret ?_
    refine RT.of (rs := [.tmp 2]) [_] hs rfl (.tmp rfl .nil) (by repeat (first | exact Sel.refl _ | refine Sel.empty ?_ | refine Sel.pull (by repeat (first | exact Pull.head | apply Pull.tail)) ?_ | refine Sel.drop ?_)) ?_
    dsimp only [one]
    refine ⟨?_, rfl⟩
    unfold nameB
    refine congrArg Value.bool ?_
    first | (refine (decide_eq_false ?_).symm; omega) | (refine decide_eq_decide.2 ?_; omega)
  ·
    have g6 := of_decide_eq_false g6
    refine OT.pures hT 5 rfl ?_
    refine OT.nil ?_
    refine KT.seq ?_
    refine TT.ret ?_
    refine RT.of (rs := [.tmp 2]) [_] hs rfl (.tmp rfl .nil) (by repeat (first | exact Sel.refl _ | refine Sel.empty ?_ | refine Sel.pull (by repeat (first | exact Pull.head | apply Pull.tail)) ?_ | refine Sel.drop ?_)) ?_
    dsimp only [one]
    refine ⟨?_, rfl⟩
    unfold nameB
    refine congrArg Value.bool ?_
    first | (refine (decide_eq_false ?_).symm; omega) | (refine decide_eq_decide.2 ?_; omega)

set_option maxHeartbeats 1000000 in
set_option maxRecDepth 100000 in
theorem law1_Short {v : Value} {xs : List UInt8} {n : Nat} {hs : List Chunk} (hr : Row Go.Sx.encB 1 hs v xs) : Fun Try.prog 66 [v, .int .i64 (n : Int)] hs (fun v' hs' => Row Go.Sx.encB 1 hs v' (xs.take n) ∧ hs = hs') := by
  refine Fun.enter 13 Try.func66 rfl Try.ntmps66 rfl ?_
  obtain ⟨a0, c0, hv⟩ := hr.len
  subst hv
  refine TT.seq ?_
  refine TT.region ?_
  refine OT.pures hT 1 rfl ?_
  refine OT.nil ?_
  refine KT.seq ?_
  refine TT.seq ?_
  refine TT.seq ?_
  refine TT.region ?_
  refine OT.pures hT 4 rfl ?_
  refine OT.nil ?_
  refine KT.seq ?_
  refine TT.cond rfl (fun c8 => ?_) (fun c8 => ?_)
  ·
    have c8 := of_decide_eq_true c8
    refine TT.seq ?_
    refine TT.region ?_
    refine OT.pures hT 2 rfl ?_
    refine OT.slice 0 n hT rfl rfl rfl rfl rfl hr (.inl ⟨rfl, rfl⟩) (.inr ⟨_, rfl⟩) (by omega) (by omega) rfl (fun v_11 hv_11 => ?_)
    refine OT.pures hT 1 rfl ?_
    refine OT.nil ?_
    refine KT.seq ?_
    refine TT.ret ?_
    refine RT.of (rs := [.tmp 4]) [_] hs rfl (.tmp rfl .nil) (by repeat (first | exact Sel.refl _ | refine Sel.empty ?_ | refine Sel.pull (by repeat (first | exact Pull.head | apply Pull.tail)) ?_ | refine Sel.drop ?_)) ?_
    dsimp only [one]
    exact ⟨by simpa using hv_11, rfl⟩
  ·
    have c8 := of_decide_eq_false c8
    refine TT.skip ?_
    refine KT.seq ?_
    refine TT.seq ?_
    refine TT.region ?_
    refine OT.pures hT 2 rfl ?_
    refine OT.nil ?_
    refine KT.seq ?_
    refine TT.ret ?_
    refine RT.of (rs := [.tmp 4]) [_] hs rfl (.tmp rfl .nil) (by repeat (first | exact Sel.refl _ | refine Sel.empty ?_ | refine Sel.pull (by repeat (first | exact Pull.head | apply Pull.tail)) ?_ | refine Sel.drop ?_)) ?_
    dsimp only [one]
    exact ⟨by rw [List.take_of_length_le (by omega)]; exact hr, rfl⟩

end Go.Proofs.Ytnhkgchcdbideaa.Sx
end

section
namespace Go.Proofs.Ytnhkgchcdbideaa.Sx
open Go Go.Sx Go.Pl
variable [Outer]

set_option maxHeartbeats 1000000 in
set_option maxRecDepth 100000 in
theorem sl_Index {v : Value} {xs : List Int} {x : Int} {hs : List Chunk} (hr : Row Go.Sx.encI 1 hs v xs) (hl : xs.length ≤ 1073741824) : Fun Try.prog 78 [v, .int .i64 x] hs (fun v' hs' => v' = .int .i64 (findAt (fun y => x == y) 0 xs) ∧ hs = hs') := by
  refine Fun.enter 19 Try.func78 rfl Try.ntmps78 rfl ?_
  obtain ⟨a0, c0, hv⟩ := hr.len
  subst hv
  refine TT.seq ?_
  refine TT.region ?_
  refine OT.pures hT 1 rfl ?_
  refine OT.nil ?_
  refine KT.seq ?_
  refine TT.seq ?_
  refine TT.seq ?_
  refine TT.region ?_
  refine OT.pures hT 3 rfl ?_
  refine OT.nil ?_
  refine KT.seq ?_
  refine TT.block ?_
  refine TT.loop (ι := Nat) (fun j => (j) ≤ xs.length ∧ findAt (fun y => x == y) (j) (xs.drop (j)) = findAt (fun y => x == y) 0 xs) (fun j => xs.length - (j)) (fun j => [(0, .slice a0 xs.length c0), (1, .int .i64 x), (7, .int .i64 xs.length), (8, .int .i64 ((j) : Nat))]) (fun j => hs) (0) ?_ (SubR.cons rfl (SubR.cons rfl (SubR.cons rfl (SubR.cons rfl (SubR.nil _))))) (by repeat (first | exact Sel.refl _ | refine Sel.empty ?_ | refine Sel.pull (by repeat (first | exact Pull.head | apply Pull.tail)) ?_ | refine Sel.drop ?_)) ?_
  · exact ⟨by omega, rfl⟩
  rintro i ⟨hi, hp⟩
  show TT _ _ _ [(0, .slice a0 xs.length c0), (1, .int .i64 x), (7, .int .i64 xs.length), (8, .int .i64 (i : Nat))] (hs)
  refine TT.seq ?_
  refine TT.region ?_
  refine OT.pures hT 1 rfl ?_
  refine OT.nil ?_
  refine KT.seq ?_
  refine TT.seq ?_
  refine TT.cond rfl (fun c9 => ?_) (fun c9 => ?_)
  ·
    have c9 := of_decide_eq_true c9
    obtain ⟨y, hy⟩ : ∃ y, xs[i]? = some y := ⟨_, List.getElem?_eq_getElem (by omega)⟩
    rw [List.drop_eq_getElem_cons (by omega), show xs[i]'(by omega) = y from by rw [List.getElem?_eq_getElem (by omega)] at hy; exact Option.some.inj hy, findAt] at hp
    refine TT.skip ?_
    refine KT.seq ?_
    refine TT.seq ?_
    refine TT.block ?_
    refine TT.seq ?_
    refine TT.region ?_
    refine OT.pures hT 2 rfl ?_
    refine OT.nil ?_
    refine KT.seq ?_
    refine TT.seq ?_
    refine TT.region ?_
    refine OT.pures hT 3 rfl ?_
    refine OT.index hT rfl rfl rfl rfl hr (by omega) hy rfl (fun ad_14 hel_14 => ?_)
    refine OT.load rfl rfl (hel_14.ld_one hT rfl rfl) rfl ?_
    refine OT.pures hT 1 rfl ?_
    refine OT.nil ?_
    refine KT.seq ?_
    refine TT.cond rfl (fun c16 => ?_) (fun c16 => ?_)
    ·
      rw [if_pos c16] at hp
      refine TT.seq ?_
      refine TT.region ?_
      refine OT.pures hT 2 rfl ?_
      refine OT.nil ?_
      refine KT.seq ?_
      refine TT.ret ?_
      refine RT.of (rs := [.tmp 4]) [_] hs rfl (.tmp rfl .nil) (by repeat (first | exact Sel.refl _ | refine Sel.empty ?_ | refine Sel.pull (by repeat (first | exact Pull.head | apply Pull.tail)) ?_ | refine Sel.drop ?_)) ?_
      dsimp only [one]
      exact ⟨by rw [← hp], rfl⟩
    ·
      rw [if_neg (by simp only [c16]; decide)] at hp
      refine TT.skip ?_
      refine KT.blk ?_
      refine KT.seq ?_
      refine TT.region ?_
      refine OT.pures hT 2 rfl ?_
      refine OT.nil ?_
      refine KT.loop (i + 1) ?_ ?_ (SubR.cons rfl (SubR.cons rfl (SubR.cons rfl (SubR.cons' rfl (by (try dsimp only); exact (int_eq (by rw [wrap_i64 (by omega) (by omega)]; omega))) (SubR.nil _))))) (by repeat (first | exact Sel.refl _ | refine Sel.empty ?_ | refine Sel.pull (by repeat (first | exact Pull.head | apply Pull.tail)) ?_ | refine Sel.drop ?_))
      · exact ⟨by omega, hp⟩
      · omega
  ·
    have c9 := of_decide_eq_false c9
    rw [List.drop_eq_nil_of_le (by omega), findAt] at hp
    refine TT.exit ?_
    refine XT.seq ?_
    refine XT.loop ?_
    refine XT.here ?_
    refine KT.seq ?_
    refine TT.seq ?_
    refine TT.region ?_
    refine OT.pures hT 1 rfl ?_
    refine OT.nil ?_
    refine KT.seq ?_
    refine TT.ret ?_
    refine RT.of (rs := [.tmp 4]) [_] hs rfl (.tmp rfl .nil) (by repeat (first | exact Sel.refl _ | refine Sel.empty ?_ | refine Sel.pull (by repeat (first | exact Pull.head | apply Pull.tail)) ?_ | refine Sel.drop ?_)) ?_
    dsimp only [one]
    exact ⟨by rw [← hp], rfl⟩

set_option maxHeartbeats 1000000 in
set_option maxRecDepth 100000 in
theorem sl_Contains {v : Value} {xs : List Int} {x : Int} {hs : List Chunk} (hr : Row Go.Sx.encI 1 hs v xs) (hl : xs.length ≤ 1073741824) : Fun Try.prog 65 [v, .int .i64 x] hs (fun v' hs' => v' = .bool (decide (x ∈ xs)) ∧ hs = hs') := by
  refine Fun.enter 9 Try.func65 rfl Try.ntmps65 rfl ?_
  refine TT.seq ?_
  refine TT.region ?_
  refine OT.pures hT 1 rfl ?_
  refine OT.nil ?_
  refine KT.seq ?_
  refine TT.seq ?_
  refine TT.region ?_
  refine OT.pures hT 2 rfl ?_
  refine OT.call Try.call78 rfl rfl rfl rfl (sl_Index hr hl) ?_
  rintro v_7 hs_7 ⟨rfl, rfl⟩
  refine OT.pures hT 2 rfl ?_
  refine OT.nil ?_
  refine KT.seq ?_
  refine TT.ret ?_
  refine RT.of (rs := [.tmp 4]) [_] hs rfl (.tmp rfl .nil) (by repeat (first | exact Sel.refl _ | refine Sel.empty ?_ | refine Sel.pull (by repeat (first | exact Pull.head | apply Pull.tail)) ?_ | refine Sel.drop ?_)) ?_
  dsimp only [one]
  exact ⟨congrArg Value.bool (decide_eq_decide.2 (by rw [ge_iff_le, findAt_nonneg]; simp)), rfl⟩

set_option maxHeartbeats 1000000 in
set_option maxRecDepth 100000 in
theorem Find1 {s : Snap} {b : Nat} {nm : ByteArray} {t : Nat} {fr : Nat × Nat} {hs : List Chunk} (hb : Has hs b (blk [.string nm] t fr)) : Fun Try.prog 62 [.agg ⟨encSnap s⟩, .pointer (some ⟨b, 0, none⟩)] hs (fun v' hs' => v' = .bool (named nm s) ∧ hs = hs') := by
  refine Fun.enter 8 Try.func62 rfl Try.ntmps62 rfl ?_
  refine TT.seq ?_
  refine TT.region ?_
  refine OT.box rfl rfl rfl (fun b_2 => ?_)
  refine OT.pures hT 1 rfl ?_
  refine OT.nil ?_
  refine KT.seq ?_
  refine TT.seq ?_
  refine TT.region ?_
  refine OT.pures hT 1 rfl ?_
  refine OT.load rfl rfl (Ld.one hT rfl (by repeat (first | exact Has.one | apply Has.there)) rfl) rfl ?_
  refine OT.load rfl rfl (Ld.one hT rfl hb.there rfl) rfl ?_
  refine OT.pures hT 2 rfl ?_
  refine OT.nil ?_
  refine KT.seq ?_
  refine TT.ret ?_
  refine RT.of (rs := [.tmp 3]) [_] hs rfl (.tmp rfl .nil) (by repeat (first | exact Sel.refl _ | refine Sel.empty ?_ | refine Sel.pull (by repeat (first | exact Pull.head | apply Pull.tail)) ?_ | refine Sel.drop ?_)) ?_
  dsimp only [one]
  exact ⟨rfl, rfl⟩

set_option maxHeartbeats 1000000 in
set_option maxRecDepth 100000 in
theorem sl_IndexFunc {v : Value} {xs : List Snap} {b : Nat} {nm : ByteArray} {t : Nat} {fr : Nat × Nat} {hs : List Chunk} (hr : Row encSnap 35 hs v xs) (hl : xs.length ≤ 1073741824) (hb : Has hs b (blk [.string nm] t fr)) : Fun Try.prog 61 [v, .func (.func 62) ⟨[]⟩ ⟨[.pointer (some ⟨b, 0, none⟩)]⟩] hs (fun v' hs' => v' = .int .i64 (findAt (named nm) 0 xs) ∧ hs = hs') := by
  refine Fun.enter 19 Try.func61 rfl Try.ntmps61 rfl ?_
  obtain ⟨a0, c0, hv⟩ := hr.len
  subst hv
  refine TT.seq ?_
  refine TT.region ?_
  refine OT.pures hT 1 rfl ?_
  refine OT.nil ?_
  refine KT.seq ?_
  refine TT.seq ?_
  refine TT.seq ?_
  refine TT.region ?_
  refine OT.pures hT 3 rfl ?_
  refine OT.nil ?_
  refine KT.seq ?_
  refine TT.block ?_
  refine TT.loop (ι := Nat) (fun j => (j) ≤ xs.length ∧ findAt (named nm) (j) (xs.drop (j)) = findAt (named nm) 0 xs) (fun j => xs.length - (j)) (fun j => [(0, .slice a0 xs.length c0), (1, .func (.func 62) ⟨[]⟩ ⟨[.pointer (some ⟨b, 0, none⟩)]⟩), (7, .int .i64 xs.length), (8, .int .i64 ((j) : Nat))]) (fun j => hs) (0) ?_ (SubR.cons rfl (SubR.cons rfl (SubR.cons rfl (SubR.cons rfl (SubR.nil _))))) (by repeat (first | exact Sel.refl _ | refine Sel.empty ?_ | refine Sel.pull (by repeat (first | exact Pull.head | apply Pull.tail)) ?_ | refine Sel.drop ?_)) ?_
  · exact ⟨by omega, rfl⟩
  rintro i ⟨hi, hp⟩
  show TT _ _ _ [(0, .slice a0 xs.length c0), (1, .func (.func 62) ⟨[]⟩ ⟨[.pointer (some ⟨b, 0, none⟩)]⟩), (7, .int .i64 xs.length), (8, .int .i64 (i : Nat))] (hs)
  refine TT.seq ?_
  refine TT.region ?_
  refine OT.pures hT 1 rfl ?_
  refine OT.nil ?_
  refine KT.seq ?_
  refine TT.seq ?_
  refine TT.cond rfl (fun c9 => ?_) (fun c9 => ?_)
  ·
    have c9 := of_decide_eq_true c9
    obtain ⟨y, hy⟩ : ∃ y, xs[i]? = some y := ⟨_, List.getElem?_eq_getElem (by omega)⟩
    rw [List.drop_eq_getElem_cons (by omega), show xs[i]'(by omega) = y from by rw [List.getElem?_eq_getElem (by omega)] at hy; exact Option.some.inj hy, findAt] at hp
    refine TT.skip ?_
    refine KT.seq ?_
    refine TT.seq ?_
    refine TT.block ?_
    refine TT.seq ?_
    refine TT.region ?_
    refine OT.pures hT 2 rfl ?_
    refine OT.nil ?_
    refine KT.seq ?_
    refine TT.seq ?_
    refine TT.region ?_
    refine OT.pures hT 3 rfl ?_
    refine OT.index hT rfl rfl rfl rfl hr (by omega) hy rfl (fun ad_14 hel_14 => ?_)
    refine OT.load rfl rfl (hel_14.ld_struct hT rfl) rfl ?_
    refine OT.callc Try.call62 rfl rfl rfl rfl (Find1 hb) ?_
    rintro v_16 hs_16 ⟨rfl, rfl⟩
    refine OT.nil ?_
    refine KT.seq ?_
    refine TT.cond rfl (fun c16 => ?_) (fun c16 => ?_)
    ·
      rw [if_pos c16] at hp
      refine TT.seq ?_
      refine TT.region ?_
      refine OT.pures hT 2 rfl ?_
      refine OT.nil ?_
      refine KT.seq ?_
      refine TT.ret ?_
      refine RT.of (rs := [.tmp 4]) [_] hs rfl (.tmp rfl .nil) (by repeat (first | exact Sel.refl _ | refine Sel.empty ?_ | refine Sel.pull (by repeat (first | exact Pull.head | apply Pull.tail)) ?_ | refine Sel.drop ?_)) ?_
      dsimp only [one]
      exact ⟨by rw [← hp], rfl⟩
    ·
      rw [if_neg (by simp only [c16]; decide)] at hp
      refine TT.skip ?_
      refine KT.blk ?_
      refine KT.seq ?_
      refine TT.region ?_
      refine OT.pures hT 2 rfl ?_
      refine OT.nil ?_
      refine KT.loop (i + 1) ?_ ?_ (SubR.cons rfl (SubR.cons rfl (SubR.cons rfl (SubR.cons' rfl (by (try dsimp only); exact (int_eq (by rw [wrap_i64 (by omega) (by omega)]; omega))) (SubR.nil _))))) (by repeat (first | exact Sel.refl _ | refine Sel.empty ?_ | refine Sel.pull (by repeat (first | exact Pull.head | apply Pull.tail)) ?_ | refine Sel.drop ?_))
      · exact ⟨by omega, hp⟩
      · omega
  ·
    have c9 := of_decide_eq_false c9
    rw [List.drop_eq_nil_of_le (by omega), findAt] at hp
    refine TT.exit ?_
    refine XT.seq ?_
    refine XT.loop ?_
    refine XT.here ?_
    refine KT.seq ?_
    refine TT.seq ?_
    refine TT.region ?_
    refine OT.pures hT 1 rfl ?_
    refine OT.nil ?_
    refine KT.seq ?_
    refine TT.ret ?_
    refine RT.of (rs := [.tmp 4]) [_] hs rfl (.tmp rfl .nil) (by repeat (first | exact Sel.refl _ | refine Sel.empty ?_ | refine Sel.pull (by repeat (first | exact Pull.head | apply Pull.tail)) ?_ | refine Sel.drop ?_)) ?_
    dsimp only [one]
    exact ⟨by rw [← hp], rfl⟩

set_option maxHeartbeats 1000000 in
set_option maxRecDepth 100000 in
theorem cat_Find {next : Int} {v : Value} {xs : List Snap} {nm : ByteArray} {hs : List Chunk} (hr : Row encSnap 35 hs v xs) (hl : xs.length ≤ 1073741824) : Fun Try.prog 31 [.agg ⟨[.int .i64 next, v]⟩, .string nm] hs (fun v' hs' => v' = .int .i64 (findAt (named nm) 0 xs) ∧ hs = hs') := by
  refine Fun.enter 9 Try.func31 rfl Try.ntmps31 rfl ?_
  obtain ⟨a0, c0, hv⟩ := hr.len
  subst hv
  refine TT.seq ?_
  refine TT.region ?_
  refine OT.box rfl rfl rfl (fun b_2 => ?_)
  refine OT.box rfl rfl rfl (fun b_3 => ?_)
  refine OT.pures hT 1 rfl ?_
  refine OT.nil ?_
  refine KT.seq ?_
  refine TT.seq ?_
  refine TT.region ?_
  refine OT.pures hT 1 rfl ?_
  refine OT.load rfl rfl (Ld.slc hT rfl (by repeat (first | exact Has.one | apply Has.there)) rfl) rfl ?_
  refine OT.pures hT 1 rfl ?_
  refine OT.call Try.call61 rfl rfl rfl rfl (sl_IndexFunc hr.there.there hl Has.one) ?_
  rintro v_8 hs_8 ⟨rfl, rfl⟩
  refine OT.pures hT 1 rfl ?_
  refine OT.nil ?_
  refine KT.seq ?_
  refine TT.ret ?_
  refine RT.of (rs := [.tmp 4]) [_] hs rfl (.tmp rfl .nil) (by repeat (first | exact Sel.refl _ | refine Sel.empty ?_ | refine Sel.pull (by repeat (first | exact Pull.head | apply Pull.tail)) ?_ | refine Sel.drop ?_)) ?_
  dsimp only [one]
  exact ⟨rfl, rfl⟩

set_option maxHeartbeats 4000000 in
set_option maxRecDepth 100000 in
theorem cat_May {next : Int} {v : Value} {xs : List Snap} {hs : List Chunk} (hr : Row encSnap 35 hs v xs) (hl : xs.length ≤ 1073741824) : Fun Try.prog 36 [.agg ⟨[.int .i64 next, v]⟩] hs (fun v' hs' => v' = .bool (mayB next xs) ∧ hs = hs') := by
  refine Fun.enter 94 Try.func36 rfl Try.ntmps36 rfl ?_
  obtain ⟨a0, c0, hv⟩ := hr.len
  subst hv
  refine TT.seq ?_
  refine TT.region ?_
  refine OT.box rfl rfl rfl (fun b_1 => ?_)
  refine OT.pures hT 1 rfl ?_
  refine OT.nil ?_
  refine KT.seq ?_
  refine TT.seq ?_
  refine TT.seq ?_
  refine TT.region ?_
  refine OT.pures hT 1 rfl ?_
  refine OT.load rfl rfl (Ld.one hT rfl (by repeat (first | exact Has.one | apply Has.there)) rfl) rfl ?_
  refine OT.pures hT 2 rfl ?_
  refine OT.split 12 rfl (fun g12 => ?_) (fun g12 => ?_)
  ·
    have g12 := of_decide_eq_true g12
    refine OT.pures hT 10 rfl ?_
    refine OT.nil ?_
    refine KT.seq ?_
    refine TT.cond_true rfl ?_
    refine TT.seq ?_
    refine TT.region ?_
    refine OT.pures hT 1 rfl ?_
    refine OT.nil ?_
    refine KT.seq ?_
    refine TT.ret ?_
    refine RT.of (rs := [.tmp 2]) [_] hs rfl (.tmp rfl .nil) (by repeat (first | exact Sel.refl _ | refine Sel.empty ?_ | refine Sel.pull (by repeat (first | exact Pull.head | apply Pull.tail)) ?_ | refine Sel.drop ?_)) ?_
    dsimp only [one]
    exact ⟨by unfold mayB; rw [if_pos (by omega)], rfl⟩
  ·
    have g12 := of_decide_eq_false g12
    refine OT.pures hT 1 rfl ?_
    refine OT.load rfl rfl (Ld.one hT rfl (by repeat (first | exact Has.one | apply Has.there)) rfl) rfl ?_
    refine OT.pures hT 3 rfl ?_
    refine OT.split 17 rfl (fun g17 => ?_) (fun g17 => ?_)
    ·
      have g17 := of_decide_eq_true g17
      refine OT.pures hT 5 rfl ?_
      refine OT.nil ?_
      refine KT.seq ?_
      refine TT.cond_true rfl ?_
      refine TT.seq ?_
      refine TT.region ?_
      refine OT.pures hT 1 rfl ?_
      refine OT.nil ?_
      refine KT.seq ?_
      refine TT.ret ?_
      refine RT.of (rs := [.tmp 2]) [_] hs rfl (.tmp rfl .nil) (by repeat (first | exact Sel.refl _ | refine Sel.empty ?_ | refine Sel.pull (by repeat (first | exact Pull.head | apply Pull.tail)) ?_ | refine Sel.drop ?_)) ?_
      dsimp only [one]
      exact ⟨by unfold mayB; rw [if_pos (by omega)], rfl⟩
    ·
      have g17 := of_decide_eq_false g17
      refine OT.pures hT 1 rfl ?_
      refine OT.load rfl rfl (Ld.slc hT rfl (by repeat (first | exact Has.one | apply Has.there)) rfl) rfl ?_
      refine OT.pures hT 3 rfl ?_
      refine OT.nil ?_
      refine KT.seq ?_
      refine TT.cond rfl (fun c22 => ?_) (fun c22 => ?_)
      ·
        have c22 := of_decide_eq_true c22
        refine TT.seq ?_
        refine TT.region ?_
        refine OT.pures hT 1 rfl ?_
        refine OT.nil ?_
        refine KT.seq ?_
        refine TT.ret ?_
        refine RT.of (rs := [.tmp 2]) [_] hs rfl (.tmp rfl .nil) (by repeat (first | exact Sel.refl _ | refine Sel.empty ?_ | refine Sel.pull (by repeat (first | exact Pull.head | apply Pull.tail)) ?_ | refine Sel.drop ?_)) ?_
        dsimp only [one]
        exact ⟨by unfold mayB; rw [if_pos (by omega)], rfl⟩
      ·
        have c22 := of_decide_eq_false c22
        have hp : mayOut next xs 0 0 [] xs = mayB next xs := by unfold mayB; rw [if_neg (by omega)]
        refine TT.skip ?_
        refine KT.seq ?_
        refine TT.seq ?_
        refine TT.region ?_
        refine OT.pures hT 1 rfl ?_
        refine OT.nil ?_
        refine KT.seq ?_
        refine TT.seq ?_
        refine TT.region ?_
        refine OT.pures hT 1 rfl ?_
        refine OT.nil ?_
        refine KT.seq ?_
        refine TT.seq ?_
        refine TT.seq ?_
        refine TT.region ?_
        refine OT.pures hT 1 rfl ?_
        refine OT.load rfl rfl (Ld.slc hT rfl (by repeat (first | exact Has.one | apply Has.there)) rfl) rfl ?_
        refine OT.pures hT 2 rfl ?_
        refine OT.nil ?_
        refine KT.seq ?_
        refine TT.block ?_
        refine TT.chunk0 ?_
        refine TT.loop (ι := Nat × Int × (List Int) × Value × Chunk) (fun j => (j.1) ≤ xs.length ∧ Own Go.Sx.encI 1 3 (j.2.2.2.1) (j.2.2.1) (j.2.2.2.2) ∧ (j.2.2.1).length ≤ 32 * (j.1) ∧ mayOut next xs (j.1) (j.2.1) (j.2.2.1) (xs.drop (j.1)) = mayB next xs) (fun j => xs.length - (j.1)) (fun j => [(1, .pointer (some ⟨b_1, 0, none⟩)), (3, .int .i64 (j.2.1)), (4, (j.2.2.2.1)), (24, .slice a0 xs.length c0), (25, .int .i64 xs.length), (26, .int .i64 ((j.1) : Nat))]) (fun j => [(b_1, blk [.int .i64 next, .slice a0 xs.length c0] 31 (0, 0))] :: (j.2.2.2.2) :: hs) (0, 0, [], .slice none 0 0, []) ?_ (SubR.cons rfl (SubR.cons rfl (SubR.cons rfl (SubR.cons rfl (SubR.cons rfl (SubR.cons rfl (SubR.nil _))))))) (by repeat (first | exact Sel.refl _ | refine Sel.empty ?_ | refine Sel.pull (by repeat (first | exact Pull.head | apply Pull.tail)) ?_ | refine Sel.drop ?_)) ?_
        · dsimp only
          exact ⟨by omega, Own.nil, by simp, hp⟩
        rintro ⟨i, last, seen, w, K⟩ hI
        dsimp only at hI
        obtain ⟨hi, hO, hsl, hp⟩ := hI
        show TT _ _ _ [(1, .pointer (some ⟨b_1, 0, none⟩)), (3, .int .i64 last), (4, w), (24, .slice a0 xs.length c0), (25, .int .i64 xs.length), (26, .int .i64 (i : Nat))] ([(b_1, blk [.int .i64 next, .slice a0 xs.length c0] 31 (0, 0))] :: K :: hs)
        refine TT.seq ?_
        refine TT.region ?_
        refine OT.pures hT 1 rfl ?_
        refine OT.nil ?_
        refine KT.seq ?_
        refine TT.seq ?_
        refine TT.cond rfl (fun c27 => ?_) (fun c27 => ?_)
        ·
          have c27 := of_decide_eq_true c27
          obtain ⟨s, hy⟩ : ∃ y, xs[i]? = some y := ⟨_, List.getElem?_eq_getElem (by omega)⟩
          rw [List.drop_eq_getElem_cons (by omega), show xs[i]'(by omega) = s from by rw [List.getElem?_eq_getElem (by omega)] at hy; exact Option.some.inj hy, mayOut] at hp
          have h35 := hr.1 s (List.mem_of_getElem? hy)
          have h32 := map32 h35
          refine TT.skip ?_
          refine KT.seq ?_
          refine TT.seq ?_
          refine TT.block ?_
          refine TT.seq ?_
          refine TT.region ?_
          refine OT.pures hT 1 rfl ?_
          refine OT.index hT rfl rfl rfl rfl hr.there.there (by omega) hy rfl (fun ad_29 hel_29 => ?_)
          refine OT.load rfl rfl (hel_29.ld_struct hT rfl) rfl ?_
          refine OT.alloc Try.zeroValue45 rfl rfl (fun b_6 => ?_)
          refine OT.pures hT 1 rfl ?_
          refine OT.store_all hT rfl rfl rfl rfl (by repeat (first | exact Pull.head | apply Pull.tail)) (by exact h35) rfl (ones_snap s) (.inl (Nat.le_refl _)) ?_
          refine OT.nil ?_
          refine KT.seq ?_
          refine TT.seq ?_
          refine TT.seq ?_
          refine TT.draw ([(b_6, blk (encSnap s) 45 (0, 0))] :: [(b_1, blk [.int .i64 next, .slice a0 xs.length c0] 31 (0, 0))] :: K :: hs) mixed ?_
          refine AT.takes (fuel := 27) hT [0] (by kernel_rfl) (by kernel_rfl) rfl ?_
          refine AT.take (fuel := 26) hT 1 rfl rfl (by kernel_rfl) (by kernel_rfl) (by kernel_rfl) rfl (.load rfl (Ld.one hT rfl (by repeat (first | exact Has.one | apply Has.there)) rfl)) rfl ?_
          refine AT.op (fuel := 25) 2 (by kernel_rfl) rfl (by repeat (first | exact Sel.refl _ | refine Sel.empty ?_ | refine Sel.pull (by repeat (first | exact Pull.head | apply Pull.tail)) ?_ | refine Sel.drop ?_)) ?_
          refine OT.call Try.call34 rfl rfl rfl rfl (cat_Name) ?_
          rintro v_33 hs_33 ⟨rfl, rfl⟩
          refine OT.nil ?_
          refine KT.any ?_
          refine AT.takes (fuel := 23) hT [3, 4] (by kernel_rfl) (by kernel_rfl) rfl ?_
          refine AT.split 35 rfl (fun g35 => ?_) (fun g35 => ?_)
          ·
            have g35 : nameB s.name = false := by simpa using g35
            refine AT.takes (fuel := 0) hT [5, 6, 7, 8, 9, 10, 11, 12, 13, 14, 15, 16, 17, 18, 19, 20, 21, 22, 23, 24, 25, 26, 27] (by kernel_rfl) (by kernel_rfl) rfl ?_
            refine AT.done (by kernel_rfl) (by repeat (first | exact Sel.refl _ | refine Sel.empty ?_ | refine Sel.pull (by repeat (first | exact Pull.head | apply Pull.tail)) ?_ | refine Sel.drop ?_)) ?_
            refine KT.seq ?_
            refine TT.cond_true rfl ?_
            refine TT.seq ?_
            refine TT.region ?_
            refine OT.pures hT 1 rfl ?_
            refine OT.nil ?_
            refine KT.seq ?_
            refine TT.ret ?_
            refine RT.of (rs := [.tmp 2]) [_] hs rfl (.tmp rfl .nil) (by repeat (first | exact Sel.refl _ | refine Sel.empty ?_ | refine Sel.pull (by repeat (first | exact Pull.head | apply Pull.tail)) ?_ | refine Sel.drop ?_)) ?_
            dsimp only [one]
            rw [if_pos (.inl g35)] at hp
            exact ⟨by rw [← hp], rfl⟩
          ·
            have g35 : nameB s.name = true := by simpa using g35
            refine AT.takes (fuel := 20) hT [5, 7, 10] (by kernel_rfl) (by kernel_rfl) rfl ?_
            refine AT.take (fuel := 19) hT 6 rfl rfl (by kernel_rfl) (by kernel_rfl) (by kernel_rfl) rfl (.load rfl (Ld.slc hT rfl (by repeat (first | exact Has.one | apply Has.there)) rfl)) rfl ?_
            refine AT.take (fuel := 18) hT 11 rfl rfl (by kernel_rfl) (by kernel_rfl) (by kernel_rfl) rfl (.load rfl (Ld.one hT rfl (by repeat (first | exact Has.one | apply Has.there)) rfl)) rfl ?_
            refine AT.op (fuel := 17) 8 (by kernel_rfl) rfl (by repeat (first | exact Sel.refl _ | refine Sel.empty ?_ | refine Sel.pull (by repeat (first | exact Pull.head | apply Pull.tail)) ?_ | refine Sel.drop ?_)) ?_
            refine OT.slice 0 i hT rfl rfl rfl rfl rfl hr.there.there.there (.inl ⟨rfl, rfl⟩) (.inr ⟨_, rfl⟩) (by omega) (by omega) rfl (fun v_39 hv_39 => ?_)
            obtain ⟨a_39, c_39, hv39⟩ := hv_39.len
            have hl39 : ((xs.take i).drop 0).length = i := by simp; omega
            subst hv39
            refine OT.nil ?_
            refine KT.any ?_
            refine AT.op (fuel := 16) 9 (by kernel_rfl) rfl (by repeat (first | exact Sel.refl _ | refine Sel.empty ?_ | refine Sel.pull (by repeat (first | exact Pull.head | apply Pull.tail)) ?_ | refine Sel.drop ?_)) ?_
            refine OT.build (cs := [.int .i64 0, .slice a_39 ((xs.take i).drop 0).length c_39]) hT rfl Try.zeroValue31 rfl rfl rfl rfl ?_
            refine OT.nil ?_
            refine KT.any ?_
            refine AT.op (fuel := 15) 12 (by kernel_rfl) rfl (by repeat (first | exact Sel.refl _ | refine Sel.empty ?_ | refine Sel.pull (by repeat (first | exact Pull.head | apply Pull.tail)) ?_ | refine Sel.drop ?_)) ?_
            refine OT.call Try.call31 rfl rfl rfl rfl (cat_Find hv_39 (by omega)) ?_
            rintro v_43 hs_43 ⟨rfl, rfl⟩
            rw [List.drop_zero]
            refine OT.nil ?_
            refine KT.any ?_
            refine AT.takes (fuel := 12) hT [13, 14, 15] (by kernel_rfl) (by kernel_rfl) rfl ?_
            refine AT.split 46 rfl (fun g46 => ?_) (fun g46 => ?_)
            ·
              have g46 := of_decide_eq_true g46
              refine AT.takes (fuel := 0) hT [16, 17, 18, 19, 20, 21, 22, 23, 24, 25, 26, 27] (by kernel_rfl) (by kernel_rfl) rfl ?_
              refine AT.done (by kernel_rfl) (by repeat (first | exact Sel.refl _ | refine Sel.empty ?_ | refine Sel.pull (by repeat (first | exact Pull.head | apply Pull.tail)) ?_ | refine Sel.drop ?_)) ?_
              refine KT.seq ?_
              refine TT.cond_true rfl ?_
              refine TT.seq ?_
              refine TT.region ?_
              refine OT.pures hT 1 rfl ?_
              refine OT.nil ?_
              refine KT.seq ?_
              refine TT.ret ?_
              refine RT.of (rs := [.tmp 2]) [_] hs rfl (.tmp rfl .nil) (by repeat (first | exact Sel.refl _ | refine Sel.empty ?_ | refine Sel.pull (by repeat (first | exact Pull.head | apply Pull.tail)) ?_ | refine Sel.drop ?_)) ?_
              dsimp only [one]
              rw [if_pos (by omega)] at hp
              exact ⟨by rw [← hp], rfl⟩
            ·
              have g46 := of_decide_eq_false g46
              refine AT.takes (fuel := 10) hT [16, 18] (by kernel_rfl) (by kernel_rfl) rfl ?_
              refine AT.take (fuel := 9) hT 17 rfl rfl (by kernel_rfl) (by kernel_rfl) (by kernel_rfl) rfl (.load rfl (Ld.one hT rfl (by repeat (first | exact Has.one | apply Has.there)) rfl)) rfl ?_
              refine AT.takes (fuel := 6) hT [19, 20, 21] (by kernel_rfl) (by kernel_rfl) rfl ?_
              refine AT.split 52 rfl (fun g52 => ?_) (fun g52 => ?_)
              ·
                have g52 := of_decide_eq_true g52
                refine AT.takes (fuel := 0) hT [22, 23, 24, 25, 26, 27] (by kernel_rfl) (by kernel_rfl) rfl ?_
                refine AT.done (by kernel_rfl) (by repeat (first | exact Sel.refl _ | refine Sel.empty ?_ | refine Sel.pull (by repeat (first | exact Pull.head | apply Pull.tail)) ?_ | refine Sel.drop ?_)) ?_
                refine KT.seq ?_
                refine TT.cond_true rfl ?_
                refine TT.seq ?_
                refine TT.region ?_
                refine OT.pures hT 1 rfl ?_
                refine OT.nil ?_
                refine KT.seq ?_
                refine TT.ret ?_
                refine RT.of (rs := [.tmp 2]) [_] hs rfl (.tmp rfl .nil) (by repeat (first | exact Sel.refl _ | refine Sel.empty ?_ | refine Sel.pull (by repeat (first | exact Pull.head | apply Pull.tail)) ?_ | refine Sel.drop ?_)) ?_
                dsimp only [one]
                rw [if_pos (by omega)] at hp
                exact ⟨by rw [← hp], rfl⟩
              ·
                have g52 := of_decide_eq_false g52
                refine AT.takes (fuel := 4) hT [22, 24] (by kernel_rfl) (by kernel_rfl) rfl ?_
                refine AT.take (fuel := 3) hT 23 rfl rfl (by kernel_rfl) (by kernel_rfl) (by kernel_rfl) rfl (.load rfl (Ld.one hT rfl (by repeat (first | exact Has.one | apply Has.there)) rfl)) rfl ?_
                refine AT.take (fuel := 2) hT 25 rfl rfl (by kernel_rfl) (by kernel_rfl) (by kernel_rfl) rfl (.load rfl (Ld.one hT rfl (by repeat (first | exact Has.one | apply Has.there)) rfl)) rfl ?_
                refine AT.takes (fuel := 0) hT [26, 27] (by kernel_rfl) (by kernel_rfl) rfl ?_
                refine AT.done (by kernel_rfl) (by repeat (first | exact Sel.refl _ | refine Sel.empty ?_ | refine Sel.pull (by repeat (first | exact Pull.head | apply Pull.tail)) ?_ | refine Sel.drop ?_)) ?_
                refine KT.seq ?_
                refine TT.cond rfl (fun c58 => ?_) (fun c58 => ?_)
                ·
                  have c58 := of_decide_eq_true c58
                  rw [if_pos (by omega)] at hp
                  refine TT.seq ?_
                  refine TT.region ?_
                  refine OT.pures hT 1 rfl ?_
                  refine OT.nil ?_
                  refine KT.seq ?_
                  refine TT.ret ?_
                  refine RT.of (rs := [.tmp 2]) [_] hs rfl (.tmp rfl .nil) (by repeat (first | exact Sel.refl _ | refine Sel.empty ?_ | refine Sel.pull (by repeat (first | exact Pull.head | apply Pull.tail)) ?_ | refine Sel.drop ?_)) ?_
                  dsimp only [one]
                  exact ⟨by rw [← hp], rfl⟩
                ·
                  have c58 := of_decide_eq_false c58
                  rw [if_neg (by rw [g35]; simp only [Bool.true_eq_false, false_or]; omega)] at hp
                  refine TT.skip ?_
                  refine KT.seq ?_
                  refine TT.seq ?_
                  refine TT.region ?_
                  refine OT.pures hT 1 rfl ?_
                  refine OT.load rfl rfl (Ld.one hT rfl (by repeat (first | exact Has.one | apply Has.there)) rfl) rfl ?_
                  refine OT.pures hT 1 rfl ?_
                  refine OT.nil ?_
                  refine KT.seq ?_
                  refine TT.seq ?_
                  refine TT.region ?_
                  refine OT.pures hT 1 rfl ?_
                  refine OT.load rfl rfl (Ld.arr hT rfl Has.one (snap_map h35) (by simp [h32])) rfl ?_
                  refine OT.pures hT 1 rfl ?_
                  refine OT.nil ?_
                  refine KT.seq ?_
                  refine TT.block ?_
                  refine TT.loop (ι := Nat × (List Int) × Value × Chunk) (fun j => (j.1) ≤ 32 ∧ Own Go.Sx.encI 1 3 (j.2.2.1) (j.2.1) (j.2.2.2) ∧ (j.2.1).length ≤ 32 * i + (j.1) ∧ (match mayIn s.inv (j.1) (s.map.drop (j.1)) (j.2.1) with | none => false | some seen' => mayOut next xs (i + 1) s.id seen' (xs.drop (i + 1))) = mayB next xs) (fun j => 32 - (j.1)) (fun j => [(1, .pointer (some ⟨b_1, 0, none⟩)), (3, .int .i64 s.id), (4, (j.2.2.1)), (6, .pointer (some ⟨b_6, 0, none⟩)), (24, .slice a0 xs.length c0), (25, .int .i64 xs.length), (26, .int .i64 (i : Nat)), (62, .agg ⟨s.map.map (Value.int .i64)⟩), (63, .int .i64 ((j.1) : Nat))]) (fun j => [(b_6, blk (encSnap s) 45 (0, 0))] :: [(b_1, blk [.int .i64 next, .slice a0 xs.length c0] 31 (0, 0))] :: (j.2.2.2) :: hs) (0, seen, w, K) ?_ (SubR.cons rfl (SubR.cons rfl (SubR.cons rfl (SubR.cons rfl (SubR.cons rfl (SubR.cons rfl (SubR.cons rfl (SubR.cons rfl (SubR.cons rfl (SubR.nil _)))))))))) (by repeat (first | exact Sel.refl _ | refine Sel.empty ?_ | refine Sel.pull (by repeat (first | exact Pull.head | apply Pull.tail)) ?_ | refine Sel.drop ?_)) ?_
                  · dsimp only
                    exact ⟨by omega, hO, by omega, hp⟩
                  rintro ⟨no, seen2, w2, K2⟩ hI
                  dsimp only at hI
                  obtain ⟨hno, hO2, hsl2, hp⟩ := hI
                  show TT _ _ _ [(1, .pointer (some ⟨b_1, 0, none⟩)), (3, .int .i64 s.id), (4, w2), (6, .pointer (some ⟨b_6, 0, none⟩)), (24, .slice a0 xs.length c0), (25, .int .i64 xs.length), (26, .int .i64 (i : Nat)), (62, .agg ⟨s.map.map (Value.int .i64)⟩), (63, .int .i64 (no : Nat))] ([(b_6, blk (encSnap s) 45 (0, 0))] :: [(b_1, blk [.int .i64 next, .slice a0 xs.length c0] 31 (0, 0))] :: K2 :: hs)
                  refine TT.seq ?_
                  refine TT.region ?_
                  refine OT.pures hT 1 rfl ?_
                  refine OT.nil ?_
                  refine KT.seq ?_
                  refine TT.seq ?_
                  refine TT.cond rfl (fun c64 => ?_) (fun c64 => ?_)
                  ·
                    have c64 := of_decide_eq_true c64
                    obtain ⟨at_, hat⟩ : ∃ y, s.map[no]? = some y := ⟨_, List.getElem?_eq_getElem (by omega)⟩
                    rw [List.drop_eq_getElem_cons (by omega), show s.map[no]'(by omega) = at_ from by rw [List.getElem?_eq_getElem (by omega)] at hat; exact Option.some.inj hat, mayIn] at hp
                    refine TT.skip ?_
                    refine KT.seq ?_
                    refine TT.seq ?_
                    refine TT.block ?_
                    refine TT.seq ?_
                    refine TT.region ?_
                    refine OT.pures hT 1 rfl ?_
                    refine OT.index_arr hT rfl rfl rfl rfl rfl (by omega) (by simp [h32]) (by rw [Int.toNat_natCast, List.getElem?_map, hat]; rfl) rfl ?_
                    refine OT.pures hT 2 rfl ?_
                    refine OT.nil ?_
                    refine KT.seq ?_
                    refine TT.seq ?_
                    refine TT.seq ?_
                    refine TT.region ?_
                    refine OT.pures hT 2 rfl ?_
                    refine OT.nil ?_
                    refine KT.seq ?_
                    refine TT.cond rfl (fun c68 => ?_) (fun c68 => ?_)
                    ·
                      have c68 : at_ = 0 := by simpa using c68
                      rw [if_pos c68] at hp
                      refine TT.exit ?_
                      refine XT.seq ?_
                      refine XT.here ?_
                      refine KT.seq ?_
                      refine TT.region ?_
                      refine OT.pures hT 2 rfl ?_
                      refine OT.nil ?_
                      refine KT.loop (no + 1, seen2, w2, K2) ?_ ?_ (SubR.cons rfl (SubR.cons rfl (SubR.cons rfl (SubR.cons rfl (SubR.cons rfl (SubR.cons rfl (SubR.cons rfl (SubR.cons rfl (SubR.cons' rfl (by (try dsimp only); exact (int_eq (by rw [wrap_i64 (by omega) (by omega)]; omega))) (SubR.nil _)))))))))) (by repeat (first | exact Sel.refl _ | refine Sel.empty ?_ | refine Sel.pull (by repeat (first | exact Pull.head | apply Pull.tail)) ?_ | refine Sel.drop ?_))
                      · dsimp only
                        exact ⟨by omega, hO2, by omega, hp⟩
                      · dsimp only
                        omega
                    ·
                      have c68 : ¬ at_ = 0 := by simpa using c68
                      rw [if_neg c68] at hp
                      refine TT.skip ?_
                      refine KT.seq ?_
                      refine TT.seq ?_
                      refine TT.seq ?_
                      refine TT.region ?_
                      refine OT.pures hT 3 rfl ?_
                      refine OT.split 71 rfl (fun g71 => ?_) (fun g71 => ?_)
                      ·
                        have g71 := of_decide_eq_true g71
                        refine OT.pures hT 16 rfl ?_
                        refine OT.nil ?_
                        refine KT.seq ?_
                        refine TT.cond_true rfl ?_
                        refine TT.seq ?_
                        refine TT.region ?_
                        refine OT.pures hT 1 rfl ?_
                        refine OT.nil ?_
                        refine KT.seq ?_
                        refine TT.ret ?_
                        refine RT.of (rs := [.tmp 2]) [_] hs rfl (.tmp rfl .nil) (by repeat (first | exact Sel.refl _ | refine Sel.empty ?_ | refine Sel.pull (by repeat (first | exact Pull.head | apply Pull.tail)) ?_ | refine Sel.drop ?_)) ?_
                        dsimp only [one]
                        rw [if_pos (by omega)] at hp
                        exact ⟨by rw [← hp], rfl⟩
                      ·
                        have g71 := of_decide_eq_false g71
                        refine OT.pures hT 4 rfl ?_
                        refine OT.split 75 rfl (fun g75 => ?_) (fun g75 => ?_)
                        ·
                          have g75 := of_decide_eq_true g75
                          refine OT.pures hT 12 rfl ?_
                          refine OT.nil ?_
                          refine KT.seq ?_
                          refine TT.cond_true rfl ?_
                          refine TT.seq ?_
                          refine TT.region ?_
                          refine OT.pures hT 1 rfl ?_
                          refine OT.nil ?_
                          refine KT.seq ?_
                          refine TT.ret ?_
                          refine RT.of (rs := [.tmp 2]) [_] hs rfl (.tmp rfl .nil) (by repeat (first | exact Sel.refl _ | refine Sel.empty ?_ | refine Sel.pull (by repeat (first | exact Pull.head | apply Pull.tail)) ?_ | refine Sel.drop ?_)) ?_
                          dsimp only [one]
                          rw [if_pos (by omega)] at hp
                          exact ⟨by rw [← hp], rfl⟩
                        ·
                          have g75 := of_decide_eq_false g75
                          refine OT.pures hT 4 rfl ?_
                          refine OT.split 79 rfl (fun g79 => ?_) (fun g79 => ?_)
                          ·
                            have g79 : (no : Int) = 0 := by simpa using g79
                            refine OT.pures hT 8 rfl ?_
                            refine OT.nil ?_
                            refine KT.seq ?_
                            refine TT.cond_true rfl ?_
                            refine TT.seq ?_
                            refine TT.region ?_
                            refine OT.pures hT 1 rfl ?_
                            refine OT.nil ?_
                            refine KT.seq ?_
                            refine TT.ret ?_
                            refine RT.of (rs := [.tmp 2]) [_] hs rfl (.tmp rfl .nil) (by repeat (first | exact Sel.refl _ | refine Sel.empty ?_ | refine Sel.pull (by repeat (first | exact Pull.head | apply Pull.tail)) ?_ | refine Sel.drop ?_)) ?_
                            dsimp only [one]
                            rw [if_pos (by omega)] at hp
                            exact ⟨by rw [← hp], rfl⟩
                          ·
                            have g79 : ¬ (no : Int) = 0 := by simpa using g79
                            refine OT.pures hT 1 rfl ?_
                            refine OT.load rfl rfl (Ld.one hT rfl (by repeat (first | exact Has.one | apply Has.there)) rfl) rfl ?_
                            refine OT.pures hT 2 rfl ?_
                            refine OT.split 83 rfl (fun g83 => ?_) (fun g83 => ?_)
                            ·
                              refine OT.pures hT 4 rfl ?_
                              refine OT.nil ?_
                              refine KT.seq ?_
                              refine TT.cond_true rfl ?_
                              refine TT.seq ?_
                              refine TT.region ?_
                              refine OT.pures hT 1 rfl ?_
                              refine OT.nil ?_
                              refine KT.seq ?_
                              refine TT.ret ?_
                              refine RT.of (rs := [.tmp 2]) [_] hs rfl (.tmp rfl .nil) (by repeat (first | exact Sel.refl _ | refine Sel.empty ?_ | refine Sel.pull (by repeat (first | exact Pull.head | apply Pull.tail)) ?_ | refine Sel.drop ?_)) ?_
                              dsimp only [one]
                              rw [if_pos (.inr (.inr (.inr (.inl g83))))] at hp
                              exact ⟨by rw [← hp], rfl⟩
                            ·
                              refine OT.pures hT 2 rfl ?_
                              refine OT.call Try.call65 rfl rfl rfl rfl (sl_Contains (hO2.row (hs := hs)).there.there (by omega)) ?_
                              rintro v_86 hs_86 ⟨rfl, rfl⟩
                              refine OT.pures hT 1 rfl ?_
                              refine OT.nil ?_
                              refine KT.seq ?_
                              refine TT.cond rfl (fun c87 => ?_) (fun c87 => ?_)
                              ·
                                have c87 := of_decide_eq_true c87
                                rw [if_pos (.inr (.inr (.inr (.inr c87))))] at hp
                                dsimp only at hp
                                refine TT.seq ?_
                                refine TT.region ?_
                                refine OT.pures hT 1 rfl ?_
                                refine OT.nil ?_
                                refine KT.seq ?_
                                refine TT.ret ?_
                                refine RT.of (rs := [.tmp 2]) [_] hs rfl (.tmp rfl .nil) (by repeat (first | exact Sel.refl _ | refine Sel.empty ?_ | refine Sel.pull (by repeat (first | exact Pull.head | apply Pull.tail)) ?_ | refine Sel.drop ?_)) ?_
                                dsimp only [one]
                                exact ⟨by rw [← hp], rfl⟩
                              ·
                                have c87 := of_decide_eq_false c87
                                rw [if_neg (by rw [g83]; simp only [Bool.false_eq_true, c87, or_false]; omega)] at hp
                                refine TT.skip ?_
                                refine KT.seq ?_
                                refine TT.region ?_
                                refine OT.pures hT 2 rfl ?_
                                refine OT.buildSlice (enc := Go.Sx.encI) (xs := [at_]) (xos := [.tmp 89]) el59 rfl rfl rfl rfl rfl (by simp [Value.cells]) (fun _ _ => rfl) rfl (by decide) rfl (fun v_90 H_90 ho_90 => ?_)
                                refine OT.append hT el59 rfl rfl rfl rfl (by repeat (first | exact Pull.head | apply Pull.tail)) hO2 ho_90.row rfl (by simp only [List.length_cons, List.length_nil]; omega) rfl (fun v_91 H_91 ho_91 => ?_)
                                refine OT.pures hT 1 rfl ?_
                                refine OT.nil ?_
                                refine KT.blk ?_
                                refine KT.seq ?_
                                refine TT.region ?_
                                refine OT.pures hT 2 rfl ?_
                                refine OT.nil ?_
                                refine KT.loop (no + 1, seen2 ++ [at_], v_91, H_91) ?_ ?_ (SubR.cons rfl (SubR.cons rfl (SubR.cons rfl (SubR.cons rfl (SubR.cons rfl (SubR.cons rfl (SubR.cons rfl (SubR.cons rfl (SubR.cons' rfl (by (try dsimp only); exact (int_eq (by rw [wrap_i64 (by omega) (by omega)]; omega))) (SubR.nil _)))))))))) (by repeat (first | exact Sel.refl _ | refine Sel.empty ?_ | refine Sel.pull (by repeat (first | exact Pull.head | apply Pull.tail)) ?_ | refine Sel.drop ?_))
                                · dsimp only
                                  exact ⟨by omega, ho_91, by rw [List.length_append]; simp only [List.length_cons, List.length_nil]; omega, hp⟩
                                · dsimp only
                                  omega
                  ·
                    have c64 := of_decide_eq_false c64
                    rw [List.drop_eq_nil_of_le (by omega), mayIn] at hp
                    dsimp only at hp
                    refine TT.exit ?_
                    refine XT.seq ?_
                    refine XT.loop ?_
                    refine XT.here ?_
                    refine KT.blk ?_
                    refine KT.seq ?_
                    refine TT.region ?_
                    refine OT.pures hT 2 rfl ?_
                    refine OT.nil ?_
                    refine KT.loop (i + 1, s.id, seen2, w2, K2) ?_ ?_ (SubR.cons rfl (SubR.cons rfl (SubR.cons rfl (SubR.cons rfl (SubR.cons rfl (SubR.cons' rfl (by (try dsimp only); exact (int_eq (by rw [wrap_i64 (by omega) (by omega)]; omega))) (SubR.nil _))))))) (by repeat (first | exact Sel.refl _ | refine Sel.empty ?_ | refine Sel.pull (by repeat (first | exact Pull.head | apply Pull.tail)) ?_ | refine Sel.drop ?_))
                    · dsimp only
                      exact ⟨by omega, hO2, by omega, hp⟩
                    · dsimp only
                      omega
        ·
          have c27 := of_decide_eq_false c27
          rw [List.drop_eq_nil_of_le (by omega), mayOut] at hp
          refine TT.exit ?_
          refine XT.seq ?_
          refine XT.loop ?_
          refine XT.here ?_
          refine KT.seq ?_
          refine TT.seq ?_
          refine TT.region ?_
          refine OT.pures hT 1 rfl ?_
          refine OT.nil ?_
          refine KT.seq ?_
          refine TT.ret ?_
          refine RT.of (rs := [.tmp 2]) [_] hs rfl (.tmp rfl .nil) (by repeat (first | exact Sel.refl _ | refine Sel.empty ?_ | refine Sel.pull (by repeat (first | exact Pull.head | apply Pull.tail)) ?_ | refine Sel.drop ?_)) ?_
          dsimp only [one]
          exact ⟨by rw [← hp], rfl⟩

end Go.Proofs.Ytnhkgchcdbideaa.Sx
end

section
namespace Go.Proofs.Ytnhkgchcdbideaa.Sx
open Go Go.Sx Go.Pl
variable [Outer]




set_option maxHeartbeats 1000000 in
set_option maxRecDepth 100000 in
theorem law20_Of {n : Int} {a0 : Option Addr} {l0 c0 : Nat} {hs : List Chunk} : Fun Try.prog 29 [.agg ⟨[.int .i64 n, .slice a0 l0 c0]⟩] hs (fun v' hs' => v' = .agg ⟨[.int .i64 n, .slice a0 l0 c0]⟩ ∧ hs = hs') := by
  refine Fun.enter 8 Try.func29 rfl Try.ntmps29 rfl ?_
  refine TT.seq ?_
  refine TT.region ?_
  refine OT.box rfl rfl rfl (fun b_1 => ?_)
  refine OT.alloc Try.zeroValue31 rfl rfl (fun b_2 => ?_)
  refine OT.nil ?_
  refine KT.seq ?_
  refine TT.seq ?_
  refine TT.region ?_
  refine OT.pures hT 1 rfl ?_
  refine OT.load rfl rfl (Ld.one hT rfl (by repeat (first | exact Has.one | apply Has.there)) rfl) rfl ?_
  refine OT.pures hT 1 rfl ?_
  refine OT.load rfl rfl (Ld.slc hT rfl (by repeat (first | exact Has.one | apply Has.there)) rfl) rfl ?_
  refine OT.build (cs := [.int .i64 n, .slice a0 l0 c0]) hT rfl Try.zeroValue31 rfl rfl rfl rfl ?_
  refine OT.store_all hT rfl rfl rfl rfl (by repeat (first | exact Pull.head | apply Pull.tail)) rfl rfl rfl (.inl (Nat.le_refl _)) ?_
  refine OT.nil ?_
  refine KT.seq ?_
  refine TT.ret ?_
  refine RT.of (rs := [.cell 2 31]) [_] hs rfl (.cell rfl (Ld.struct_all hT rfl (by repeat (first | exact Has.one | apply Has.there)) rfl) .nil) (by repeat (first | exact Sel.refl _ | refine Sel.empty ?_ | refine Sel.pull (by repeat (first | exact Pull.head | apply Pull.tail)) ?_ | refine Sel.drop ?_)) ?_
  dsimp only [one]
  exact ⟨rfl, rfl⟩

set_option maxHeartbeats 1000000 in
set_option maxRecDepth 100000 in
theorem ref_Whole {v : Value} {xs : List UInt8} {hs : List Chunk} (hr : Row Go.Sx.encB 1 hs v xs) (hl : xs.length ≤ 1073741824) : Fun Try.prog 58 [v] hs (fun v' hs' => ∃ H', hs' = H' :: hs ∧ Own Go.Sx.encB 1 5 v' (whole xs) H') := by
  refine Fun.enter 12 Try.func58 rfl Try.ntmps58 rfl ?_
  obtain ⟨a0, c0, hv⟩ := hr.len
  subst hv
  refine TT.seq ?_
  refine TT.region ?_
  refine OT.pures hT 1 rfl ?_
  refine OT.nil ?_
  refine KT.seq ?_
  refine TT.seq ?_
  refine TT.seq ?_
  refine TT.region ?_
  refine OT.pures hT 3 rfl ?_
  refine OT.nil ?_
  refine KT.seq ?_
  refine TT.cond rfl (fun c5 => ?_) (fun c5 => ?_)
  ·
    have c5 := of_decide_eq_true c5
    refine TT.seq ?_
    refine TT.region ?_
    refine OT.pures hT 1 rfl ?_
    refine OT.nil ?_
    refine KT.seq ?_
    refine TT.ret ?_
    refine RT.of (rs := [.tmp 2]) [_] ([] :: hs) rfl (.tmp rfl .nil) (by repeat (first | exact Sel.refl _ | refine Sel.empty ?_ | refine Sel.pull (by repeat (first | exact Pull.head | apply Pull.tail)) ?_ | refine Sel.drop ?_)) ?_
    dsimp only [one]
    exact ⟨[], rfl, by unfold whole; rw [if_pos (by omega)]; exact Own.nil⟩
  ·
    have c5 := of_decide_eq_false c5
    refine TT.skip ?_
    refine KT.seq ?_
    refine TT.seq ?_
    refine TT.region ?_
    refine OT.pures hT 1 rfl ?_
    refine OT.chunk0 ?_
    refine OT.append hT el22 rfl rfl rfl rfl (by repeat (first | exact Pull.head | apply Pull.tail)) Own.nil hr.there (ones_B xs) (by simp only [List.length_nil]; omega) rfl (fun v_7 H_7 ho_7 => ?_)
    refine OT.pures hT 3 rfl ?_
    refine OT.append_zeros (z0 := (0 : UInt8)) (m := 256 - xs.length) Try.zeroValue5 rfl rfl rfl hT el22 rfl rfl rfl (congrArg some (int_eq (by rw [wrap_i64 (by omega) (by omega)]; omega))) (by repeat (first | exact Pull.head | apply Pull.tail)) ho_7 (by simp only [List.nil_append]; omega) rfl (fun v_11 H_11 ho_11 => ?_)
    refine OT.pures hT 1 rfl ?_
    refine OT.nil ?_
    refine KT.seq ?_
    refine TT.ret ?_
    refine RT.of (rs := [.tmp 2]) [_] (H_11 :: hs) rfl (.tmp rfl .nil) (by repeat (first | exact Sel.refl _ | refine Sel.empty ?_ | refine Sel.pull (by repeat (first | exact Pull.head | apply Pull.tail)) ?_ | refine Sel.drop ?_)) ?_
    dsimp only [one]
    exact ⟨_, rfl, by unfold whole page; rw [if_neg (by omega)]; exact ho_11⟩


end Go.Proofs.Ytnhkgchcdbideaa.Sx
end

section
namespace Go.Proofs.Ytnhkgchcdbideaa.Sx
open Go Go.Sx Go.Pl
variable [Outer]

set_option maxHeartbeats 4000000 in
set_option maxRecDepth 100000 in
theorem cat_Encode {next : Int} {v : Value} {xs : List Snap} {hs : List Chunk} (hr : Row encSnap 35 hs v xs) (hl : xs.length ≤ 1073741824) : Fun Try.prog 12 [.agg ⟨[.int .i64 next, v]⟩] hs (fun v' hs' => ∃ w H', v' = .tuple ⟨[w, .int .i64 (encode next xs).2]⟩ ∧ hs' = H' :: hs ∧ Own Go.Sx.encB 1 5 w (encode next xs).1 H') := by
  refine Fun.enter 60 Try.func12 rfl Try.ntmps12 rfl ?_
  obtain ⟨a0, c0, hv⟩ := hr.len
  subst hv
  refine TT.seq ?_
  refine TT.region ?_
  refine OT.box rfl rfl rfl (fun b_1 => ?_)
  refine OT.pures hT 2 rfl ?_
  refine OT.nil ?_
  refine KT.seq ?_
  refine TT.seq ?_
  refine TT.seq ?_
  refine TT.region ?_
  refine OT.load rfl rfl (Ld.struct_all hT rfl (by repeat (first | exact Has.one | apply Has.there)) rfl) rfl ?_
  refine OT.call Try.call36 rfl rfl rfl rfl (cat_May hr.there hl) ?_
  rintro v_10 hs_10 ⟨rfl, rfl⟩
  refine OT.pures hT 1 rfl ?_
  refine OT.nil ?_
  refine KT.seq ?_
  refine TT.cond rfl (fun c11 => ?_) (fun c11 => ?_)
  ·
    have c11 : mayB next xs = false := by simpa using c11
    refine TT.seq ?_
    refine TT.region ?_
    refine OT.pures hT 2 rfl ?_
    refine OT.nil ?_
    refine KT.seq ?_
    refine TT.ret ?_
    refine RT.of (rs := [.tmp 2, .tmp 3]) [_, _] ([] :: hs) rfl (.tmp rfl (.tmp rfl .nil)) (by repeat (first | exact Sel.refl _ | refine Sel.empty ?_ | refine Sel.pull (by repeat (first | exact Pull.head | apply Pull.tail)) ?_ | refine Sel.drop ?_)) ?_
    dsimp only [one]
    have e : encode next xs = ([], 1) := by unfold encode; rw [if_neg (by rw [c11]; decide)]
    rw [e]
    exact ⟨_, [], rfl, rfl, Own.nil⟩
  ·
    have hmay : mayB next xs = true := by simpa using c11
    obtain ⟨hb0, hb1, hb4, hbs⟩ := may_ok hmay
    refine TT.skip ?_
    refine KT.seq ?_
    refine TT.seq ?_
    refine TT.draw ([(b_1, blk [.int .i64 next, .slice a0 xs.length c0] 31 (0, 0))] :: hs) mixed ?_
    refine AT.takes (fuel := 6) hT [0, 3] (by kernel_rfl) (by kernel_rfl) rfl ?_
    refine AT.take (fuel := 5) hT 1 rfl rfl (by kernel_rfl) (by kernel_rfl) (by kernel_rfl) rfl (.load rfl (Ld.one hT rfl (by repeat (first | exact Has.one | apply Has.there)) rfl)) rfl ?_
    refine AT.take (fuel := 4) hT 4 rfl rfl (by kernel_rfl) (by kernel_rfl) (by kernel_rfl) rfl (.load rfl (Ld.slc hT rfl (by repeat (first | exact Has.one | apply Has.there)) rfl)) rfl ?_
    refine AT.takes (fuel := 3) hT [5] (by kernel_rfl) (by kernel_rfl) rfl ?_
    refine AT.op (fuel := 2) 2 (by kernel_rfl) rfl (by repeat (first | exact Sel.refl _ | refine Sel.empty ?_ | refine Sel.pull (by repeat (first | exact Pull.head | apply Pull.tail)) ?_ | refine Sel.drop ?_)) ?_
    refine OT.call Try.call37 rfl rfl rfl rfl (Fun.chunk0 (num_Put Own.nil (by omega) (by omega) (by simp))) ?_
    rintro v_14 hs_14 ⟨H14, rfl, ho14⟩
    refine OT.nil ?_
    refine KT.any ?_
    refine AT.op (fuel := 1) 6 (by kernel_rfl) rfl (by repeat (first | exact Sel.refl _ | refine Sel.empty ?_ | refine Sel.pull (by repeat (first | exact Pull.head | apply Pull.tail)) ?_ | refine Sel.drop ?_)) ?_
    refine OT.call Try.call37 rfl rfl rfl rfl (Fun.pull (by repeat (first | exact Pull.head | apply Pull.tail)) (num_Put ho14 (by omega) (by omega) (by have := put_ten (n := next) (by omega) (by omega); rw [List.nil_append]; omega))) ?_
    rintro v_18 hs_18 ⟨H18, rfl, ho18⟩
    refine OT.nil ?_
    refine KT.any ?_
    refine AT.takes (fuel := 0) hT [7] (by kernel_rfl) (by kernel_rfl) rfl ?_
    refine AT.done (by kernel_rfl) (by repeat (first | exact Sel.refl _ | refine Sel.empty ?_ | refine Sel.pull (by repeat (first | exact Pull.head | apply Pull.tail)) ?_ | refine Sel.drop ?_)) ?_
    refine KT.seq ?_
    refine TT.seq ?_
    refine TT.seq ?_
    refine TT.region ?_
    refine OT.pures hT 1 rfl ?_
    refine OT.load rfl rfl (Ld.slc hT rfl (by repeat (first | exact Has.one | apply Has.there)) rfl) rfl ?_
    refine OT.pures hT 2 rfl ?_
    refine OT.nil ?_
    refine KT.seq ?_
    refine TT.block ?_
    refine TT.loop (ι := Nat × Value × Chunk) (fun j => (j.1) ≤ xs.length ∧ Own Go.Sx.encB 1 5 (j.2.1) (catTo next xs (j.1)) (j.2.2)) (fun j => xs.length - (j.1)) (fun j => [(1, .pointer (some ⟨b_1, 0, none⟩)), (20, .slice a0 xs.length c0), (21, .int .i64 xs.length), (22, .int .i64 ((j.1) : Nat)), (4, (j.2.1))]) (fun j => [(b_1, blk [.int .i64 next, .slice a0 xs.length c0] 31 (0, 0))] :: (j.2.2) :: hs) (0, v_18, H18) ?_ (SubR.cons rfl (SubR.cons rfl (SubR.cons rfl (SubR.cons rfl (SubR.cons rfl (SubR.nil _)))))) (by repeat (first | exact Sel.refl _ | refine Sel.empty ?_ | refine Sel.pull (by repeat (first | exact Pull.head | apply Pull.tail)) ?_ | refine Sel.drop ?_)) ?_
    · dsimp only
      exact ⟨by omega, by unfold catTo; simpa using ho18⟩
    rintro ⟨i, w, K⟩ hI
    dsimp only at hI
    obtain ⟨hi, hO⟩ := hI
    show TT _ _ _ [(1, .pointer (some ⟨b_1, 0, none⟩)), (20, .slice a0 xs.length c0), (21, .int .i64 xs.length), (22, .int .i64 (i : Nat)), (4, w)] ([(b_1, blk [.int .i64 next, .slice a0 xs.length c0] 31 (0, 0))] :: K :: hs)
    obtain ⟨hb0, hb1, hb4, hbs⟩ := may_ok hmay
    have hLT := catTo_length hmay hr.1 i
    refine TT.seq ?_
    refine TT.region ?_
    refine OT.pures hT 1 rfl ?_
    refine OT.nil ?_
    refine KT.seq ?_
    refine TT.seq ?_
    refine TT.cond rfl (fun c23 => ?_) (fun c23 => ?_)
    ·
      have c23 := of_decide_eq_true c23
      obtain ⟨s, hy⟩ := nth (l := xs) (i := i) (by omega)
      have h35 := hr.1 s (List.mem_of_getElem? hy)
      have h32 := map32 h35
      obtain ⟨hn8, hid0, hid1⟩ := hbs s (List.mem_of_getElem? hy)
      have hn8 := (nameB_iff _).1 hn8
      have hsz : s.name.data.toList.length = s.name.size := Array.length_toList
      have hpt : (putText s.name).length ≤ 18 := by
        have := put_ten (n := s.name.size) (by omega) (by omega)
        unfold putText; simp only [List.length_append]; omega
      have hpi : (put s.id).length ≤ 10 := put_ten (by omega) (by omega)
      refine TT.skip ?_
      refine KT.seq ?_
      refine TT.seq ?_
      refine TT.block ?_
      refine TT.seq ?_
      refine TT.region ?_
      refine OT.index hT rfl rfl rfl rfl hr.there.there (by omega) hy rfl (fun ad_24 hel_24 => ?_)
      refine OT.load rfl rfl (hel_24.ld_struct hT rfl) rfl ?_
      refine OT.alloc Try.zeroValue45 rfl rfl (fun b_6 => ?_)
      refine OT.store_all hT rfl rfl rfl rfl (by repeat (first | exact Pull.head | apply Pull.tail)) (by exact h35) rfl (ones_snap s) (.inl (Nat.le_refl _)) ?_
      refine OT.nil ?_
      refine KT.seq ?_
      refine TT.seq ?_
      refine TT.draw ([(b_6, blk (encSnap s) 45 (0, 0))] :: [(b_1, blk [.int .i64 next, .slice a0 xs.length c0] 31 (0, 0))] :: hs) mixed ?_
      refine AT.takes (fuel := 5) hT [0, 1, 4] (by kernel_rfl) (by kernel_rfl) rfl ?_
      refine AT.take (fuel := 4) hT 2 rfl rfl (by kernel_rfl) (by kernel_rfl) (by kernel_rfl) rfl (.load rfl (Ld.one hT rfl (by repeat (first | exact Has.one | apply Has.there)) rfl)) rfl ?_
      refine AT.take (fuel := 3) hT 5 rfl rfl (by kernel_rfl) (by kernel_rfl) (by kernel_rfl) rfl (.load rfl (Ld.one hT rfl (by repeat (first | exact Has.one | apply Has.there)) rfl)) rfl ?_
      refine AT.op (fuel := 2) 3 (by kernel_rfl) rfl (by repeat (first | exact Sel.refl _ | refine Sel.empty ?_ | refine Sel.pull (by repeat (first | exact Pull.head | apply Pull.tail)) ?_ | refine Sel.drop ?_)) ?_
      refine OT.call Try.call38 rfl rfl rfl rfl (Fun.pull (by repeat (first | exact Pull.head | apply Pull.tail)) (num_PutText hO (by omega) (by omega))) ?_
      rintro v_29 hs_29 ⟨H29, rfl, ho29⟩
      refine OT.nil ?_
      refine KT.any ?_
      refine AT.op (fuel := 1) 6 (by kernel_rfl) rfl (by repeat (first | exact Sel.refl _ | refine Sel.empty ?_ | refine Sel.pull (by repeat (first | exact Pull.head | apply Pull.tail)) ?_ | refine Sel.drop ?_)) ?_
      refine OT.call Try.call37 rfl rfl rfl rfl (Fun.pull (by repeat (first | exact Pull.head | apply Pull.tail)) (num_Put ho29 (by omega) (by omega) (by rw [List.length_append]; omega))) ?_
      rintro v_32 hs_32 ⟨H32, rfl, ho32⟩
      refine OT.nil ?_
      refine KT.any ?_
      refine AT.takes (fuel := 0) hT [7] (by kernel_rfl) (by kernel_rfl) rfl ?_
      refine AT.done (by kernel_rfl) (by repeat (first | exact Sel.refl _ | refine Sel.empty ?_ | refine Sel.pull (by repeat (first | exact Pull.head | apply Pull.tail)) ?_ | refine Sel.drop ?_)) ?_
      refine KT.seq ?_
      refine TT.cut (ι := Value × Chunk) (fun j => Own Go.Sx.encB 1 5 (j.1) (catTo next xs i ++ headBytes s) (j.2)) (fun j => [(1, .pointer (some ⟨b_1, 0, none⟩)), (20, .slice a0 xs.length c0), (21, .int .i64 xs.length), (22, .int .i64 (i : Nat)), (4, (j.1)), (6, .pointer (some ⟨b_6, 0, none⟩))]) (fun j => [(b_6, blk (encSnap s) 45 (0, 0))] :: [(b_1, blk [.int .i64 next, .slice a0 xs.length c0] 31 (0, 0))] :: (j.2) :: hs) ?_ ?_
      ·
        refine TT.seq ?_
        refine TT.region ?_
        refine OT.pures hT 1 rfl ?_
        refine OT.load rfl rfl (Ld.one hT rfl (by repeat (first | exact Has.one | apply Has.there)) rfl) rfl ?_
        refine OT.nil ?_
        refine KT.seq ?_
        refine TT.cond rfl (fun c34 => ?_) (fun c34 => ?_)
        ·
          refine TT.region ?_
          refine OT.pures hT 1 rfl ?_
          refine OT.buildSlice (enc := Go.Sx.encB) (xs := [1]) (xos := [.const (.int .u8 (1))]) el22 rfl rfl rfl rfl rfl (by simp [Value.cells]) (fun _ _ => rfl) rfl (by decide) rfl (fun v_36 H_36 ho_36 => ?_)
          refine OT.append hT el22 rfl rfl rfl rfl (by repeat (first | exact Pull.head | apply Pull.tail)) ho32 ho_36.row rfl (by simp only [List.length_append, List.length_cons, List.length_nil]; omega) rfl (fun v_37 H_37 ho_37 => ?_)
          refine OT.pures hT 1 rfl ?_
          refine OT.nil ?_
          refine KT.cut (v_37, H_37) ?_ (SubR.cons rfl (SubR.cons rfl (SubR.cons rfl (SubR.cons rfl (SubR.cons rfl (SubR.cons rfl (SubR.nil _))))))) (by repeat (first | exact Sel.refl _ | refine Sel.empty ?_ | refine Sel.pull (by repeat (first | exact Pull.head | apply Pull.tail)) ?_ | refine Sel.drop ?_))
          · dsimp only
            have e : catTo next xs i ++ headBytes s = catTo next xs i ++ putText s.name ++ put s.id ++ [1] := by unfold headBytes; rw [if_pos c34]; simp only [List.append_assoc]
            rw [e]; exact ho_37
        ·
          refine TT.region ?_
          refine OT.pures hT 1 rfl ?_
          refine OT.buildSlice (enc := Go.Sx.encB) (xs := [0]) (xos := [.const (.int .u8 (0))]) el22 rfl rfl rfl rfl rfl (by simp [Value.cells]) (fun _ _ => rfl) rfl (by decide) rfl (fun v_39 H_39 ho_39 => ?_)
          refine OT.append hT el22 rfl rfl rfl rfl (by repeat (first | exact Pull.head | apply Pull.tail)) ho32 ho_39.row rfl (by simp only [List.length_append, List.length_cons, List.length_nil]; omega) rfl (fun v_40 H_40 ho_40 => ?_)
          refine OT.pures hT 1 rfl ?_
          refine OT.nil ?_
          refine KT.cut (v_40, H_40) ?_ (SubR.cons rfl (SubR.cons rfl (SubR.cons rfl (SubR.cons rfl (SubR.cons rfl (SubR.cons rfl (SubR.nil _))))))) (by repeat (first | exact Sel.refl _ | refine Sel.empty ?_ | refine Sel.pull (by repeat (first | exact Pull.head | apply Pull.tail)) ?_ | refine Sel.drop ?_))
          · dsimp only
            have e : catTo next xs i ++ headBytes s = catTo next xs i ++ putText s.name ++ put s.id ++ [0] := by unfold headBytes; rw [if_neg (by rw [c34]; decide)]; simp only [List.append_assoc]
            rw [e]; exact ho_40
      ·
        rintro ⟨w2, K2⟩ hI
        dsimp only at hI
        have hO2 := hI
        show TT _ _ _ [(1, .pointer (some ⟨b_1, 0, none⟩)), (20, .slice a0 xs.length c0), (21, .int .i64 xs.length), (22, .int .i64 (i : Nat)), (4, w2), (6, .pointer (some ⟨b_6, 0, none⟩))] ([(b_6, blk (encSnap s) 45 (0, 0))] :: [(b_1, blk [.int .i64 next, .slice a0 xs.length c0] 31 (0, 0))] :: K2 :: hs)
        refine TT.seq ?_
        refine TT.region ?_
        refine OT.pures hT 1 rfl ?_
        refine OT.slice_arr 1 32 hT rfl rfl rfl rfl rfl (.inr ⟨_, rfl⟩) (.inl ⟨rfl, rfl⟩) (by omega) (by omega) (by omega) rfl ?_
        refine OT.pures hT 2 rfl ?_
        refine OT.nil ?_
        refine KT.seq ?_
        refine TT.block ?_
        have hdl : (s.map.drop 1).length = 31 := by rw [List.length_drop, h32]
        have hhl : (headBytes s).length ≤ 29 := by unfold headBytes; simp only [List.length_append, List.length_cons, List.length_nil]; omega
        refine TT.loop (ι := Nat × Value × Chunk) (fun j => (j.1) ≤ 31 ∧ Own Go.Sx.encB 1 5 (j.2.1) (catTo next xs i ++ headBytes s ++ ((s.map.drop 1).take (j.1)).map b8) (j.2.2)) (fun j => 31 - (j.1)) (fun j => [(1, .pointer (some ⟨b_1, 0, none⟩)), (20, .slice a0 xs.length c0), (21, .int .i64 xs.length), (22, .int .i64 (i : Nat)), (4, (j.2.1)), (6, .pointer (some ⟨b_6, 0, none⟩)), (42, .slice (some ⟨b_6, 0 + 3 + 1 * 1, none⟩) (32 - 1) (32 - 1)), (43, .int .i64 ((32 - 1 : Nat) : Int)), (44, .int .i64 ((j.1) : Nat))]) (fun j => [(b_6, blk (encSnap s) 45 (0, 0))] :: [(b_1, blk [.int .i64 next, .slice a0 xs.length c0] 31 (0, 0))] :: (j.2.2) :: hs) (0, w2, K2) ?_ (SubR.cons rfl (SubR.cons rfl (SubR.cons rfl (SubR.cons rfl (SubR.cons rfl (SubR.cons rfl (SubR.cons rfl (SubR.cons rfl (SubR.cons rfl (SubR.nil _)))))))))) (by repeat (first | exact Sel.refl _ | refine Sel.empty ?_ | refine Sel.pull (by repeat (first | exact Pull.head | apply Pull.tail)) ?_ | refine Sel.drop ?_)) ?_
        · dsimp only
          exact ⟨by omega, by simpa using hO2⟩
        rintro ⟨j2, w2, K2⟩ hI
        dsimp only at hI
        obtain ⟨hj, hO2⟩ := hI
        show TT _ _ _ [(1, .pointer (some ⟨b_1, 0, none⟩)), (20, .slice a0 xs.length c0), (21, .int .i64 xs.length), (22, .int .i64 (i : Nat)), (4, w2), (6, .pointer (some ⟨b_6, 0, none⟩)), (42, .slice (some ⟨b_6, 0 + 3 + 1 * 1, none⟩) (32 - 1) (32 - 1)), (43, .int .i64 ((32 - 1 : Nat) : Int)), (44, .int .i64 (j2 : Nat))] ([(b_6, blk (encSnap s) 45 (0, 0))] :: [(b_1, blk [.int .i64 next, .slice a0 xs.length c0] 31 (0, 0))] :: K2 :: hs)
        have hlen2 := List.length_take_le j2 (s.map.drop 1)
        refine TT.seq ?_
        refine TT.region ?_
        refine OT.pures hT 1 rfl ?_
        refine OT.nil ?_
        refine KT.seq ?_
        refine TT.seq ?_
        refine TT.cond rfl (fun c45 => ?_) (fun c45 => ?_)
        ·
          have c45 := of_decide_eq_true c45
          obtain ⟨at_, hat⟩ := nth (l := s.map.drop 1) (i := j2) (by omega)
          refine TT.skip ?_
          refine KT.seq ?_
          refine TT.seq ?_
          refine TT.block ?_
          refine TT.seq ?_
          refine TT.region ?_
          refine OT.index hT rfl rfl rfl rfl (snap_row h35) (by omega) hat rfl (fun ad_46 hel_46 => ?_)
          refine OT.load rfl rfl (hel_46.ld_one hT rfl rfl) rfl ?_
          refine OT.pures hT 1 rfl ?_
          refine OT.nil ?_
          refine KT.seq ?_
          refine TT.region ?_
          refine OT.pures hT 3 rfl ?_
          refine OT.buildSlice (enc := Go.Sx.encB) (xs := [b8 at_]) (xos := [.tmp 50]) el22 rfl rfl rfl rfl (by rw [b8_wrap]; rfl) (by simp [Value.cells]) (fun _ _ => rfl) rfl (by decide) rfl (fun v_51 H_51 ho_51 => ?_)
          refine OT.append hT el22 rfl rfl rfl rfl (by repeat (first | exact Pull.head | apply Pull.tail)) hO2 ho_51.row rfl (by simp only [List.length_append, List.length_map, List.length_cons, List.length_nil]; omega) rfl (fun v_52 H_52 ho_52 => ?_)
          refine OT.pures hT 1 rfl ?_
          refine OT.nil ?_
          refine KT.blk ?_
          refine KT.seq ?_
          refine TT.region ?_
          refine OT.pures hT 2 rfl ?_
          refine OT.nil ?_
          refine KT.loop (j2 + 1, v_52, H_52) ?_ ?_ (SubR.cons rfl (SubR.cons rfl (SubR.cons rfl (SubR.cons rfl (SubR.cons rfl (SubR.cons rfl (SubR.cons rfl (SubR.cons rfl (SubR.cons' rfl (by (try dsimp only); exact (int_eq (by rw [wrap_i64 (by omega) (by omega)]; omega))) (SubR.nil _)))))))))) (by repeat (first | exact Sel.refl _ | refine Sel.empty ?_ | refine Sel.pull (by repeat (first | exact Pull.head | apply Pull.tail)) ?_ | refine Sel.drop ?_))
          · dsimp only
            refine ⟨by omega, ?_⟩
            rw [map_take_succ _ _ hat, ← List.append_assoc]
            exact ho_52
          · dsimp only
            omega
        ·
          have c45 := of_decide_eq_false c45
          refine TT.exit ?_
          refine XT.seq ?_
          refine XT.loop ?_
          refine XT.here ?_
          refine KT.blk ?_
          refine KT.seq ?_
          refine TT.region ?_
          refine OT.pures hT 2 rfl ?_
          refine OT.nil ?_
          refine KT.loop (i + 1, w2, K2) ?_ ?_ (SubR.cons rfl (SubR.cons rfl (SubR.cons rfl (SubR.cons' rfl (by (try dsimp only); exact (int_eq (by rw [wrap_i64 (by omega) (by omega)]; omega))) (SubR.cons rfl (SubR.nil _)))))) (by repeat (first | exact Sel.refl _ | refine Sel.empty ?_ | refine Sel.pull (by repeat (first | exact Pull.head | apply Pull.tail)) ?_ | refine Sel.drop ?_))
          · dsimp only
            refine ⟨by omega, ?_⟩
            rw [catTo_succ hy, ← headBytes_map, ← List.append_assoc]
            rw [List.take_of_length_le (by omega)] at hO2
            exact hO2
          · dsimp only
            omega
    ·
      have c23 := of_decide_eq_false c23
      rw [catTo_all (by omega)] at hO
      have hcl := catBytes_length hmay hr.1
      obtain ⟨a9, c9, hw⟩ := (hO.row (hs := hs)).len
      subst hw
      refine TT.exit ?_
      refine XT.seq ?_
      refine XT.loop ?_
      refine XT.here ?_
      refine KT.seq ?_
      refine TT.seq ?_
      refine TT.region ?_
      refine OT.pures hT 4 rfl ?_
      refine OT.append_zeros (z0 := (0 : UInt8)) (m := 256 - (catBytes next xs).length) Try.zeroValue5 rfl rfl rfl hT el22 rfl rfl rfl (congrArg some (int_eq (by rw [wrap_i64 (by omega) (by omega)]; omega))) (by repeat (first | exact Pull.head | apply Pull.tail)) hO (by omega) rfl (fun v_59 H_59 ho_59 => ?_)
      refine OT.pures hT 2 rfl ?_
      refine OT.nil ?_
      refine KT.seq ?_
      refine TT.ret ?_
      refine RT.of (rs := [.tmp 2, .tmp 3]) [_, _] (H_59 :: hs) rfl (.tmp rfl (.tmp rfl .nil)) (by repeat (first | exact Sel.refl _ | refine Sel.empty ?_ | refine Sel.pull (by repeat (first | exact Pull.head | apply Pull.tail)) ?_ | refine Sel.drop ?_)) ?_
      dsimp only [one]
      have e : encode next xs = (page (catBytes next xs), 0) := by unfold encode; rw [if_pos hmay]
      rw [e]
      exact ⟨_, _, rfl, rfl, ho_59⟩

end Go.Proofs.Ytnhkgchcdbideaa.Sx
end
