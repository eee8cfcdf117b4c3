/- What the small logic wants to know of this program's types: printed by a program of ours off the loaded program; Lean checks each. -/
import Derived.Test.YtoalhcodigpgkaaSxJ
import Derived.Test.YtoalhcodigpgkaaChecked
namespace Go.Proofs.Ytoalhcodigpgkaa.Sx
open Go Go.Sx

def tab : Tab := [
  (1, .one (.func #[] #[] false)),
  (2, .one (.int .i64)),
  (3, .one (.int .i64)),
  (4, .one .bool),
  (5, .one (.int .u8)),
  (6, .one (.int .u8)),
  (7, .struct [(0, 1), (1, 1), (2, 1), (3, 1)] 4),
  (8, .struct [(0, 1), (1, 1), (2, 1), (3, 1)] 4),
  (9, .one .string),
  (10, .one .string),
  (11, .one .string),
  (12, .one (.int .u64)),
  (13, .struct [(0, 1), (1, 1)] 2),
  (14, .struct [(0, 1), (1, 1)] 2),
  (15, .one (.pointer 137)),
  (16, .one (.pointer 140)),
  (17, .one (.pointer 147)),
  (18, .struct [(0, 1)] 1),
  (19, .struct [(0, 1)] 1),
  (20, .one (.interface #[])),
  (21, .one (.int .i32)),
  (22, .one (.func #[] #[4] false)),
  (23, .one (.pointer 65)),
  (24, .one (.func #[3] #[23] false)),
  (25, .one (.pointer 72)),
  (26, .one (.int .i64)),
  (28, .one (.func #[23] #[25, 26] false)),
  (29, .one (.pointer 75)),
  (30, .one (.func #[23, 25] #[29] false)),
  (31, .slice 5 1),
  (32, .one (.func #[31] #[31] false)),
  (33, .one (.func #[3, 31, 2] #[26] false)),
  (35, .one (.func #[3] #[31, 26] false)),
  (36, .one (.func #[5] #[4] false)),
  (37, .slice 41 3),
  (38, .arr 96 31 1),
  (39, .arr 96 2 1),
  (40, .struct [(0, 1), (1, 1), (2, 1)] 3),
  (41, .struct [(0, 1), (1, 1), (2, 1)] 3),
  (43, .one (.func #[31] #[2, 26] false)),
  (44, .one (.func #[3] #[26] false)),
  (45, .one (.func #[] #[26] false)),
  (46, .slice 3 1),
  (47, .one (.func #[] #[46] false)),
  (48, .one (.func #[23, 25, 29, 38, 39] #[4] false)),
  (49, .one (.func #[37] #[4] false)),
  (50, .one (.func #[] #[3] false)),
  (51, .arr 96 5 1),
  (52, .one (.func #[54] #[23] true)),
  (53, .one (.func #[46, 5] #[4] false)),
  (54, .slice 4 1),
  (55, .one (.func #[3] #[] false)),
  (56, .slice 2 1),
  (57, .slice 31 1),
  (59, .one (.func #[23] #[25, 57, 26] false)),
  (60, .one (.func #[23, 3] #[31, 26] false)),
  (61, .one (.func #[46, 3, 54] #[4] false)),
  (62, .one (.func #[] #[2] false)),
  (63, .slice 89 129),
  (64, .struct [(0, 1), (1, 1), (2, 1), (3, 1), (4, 1)] 5),
  (65, .struct [(0, 1), (1, 1), (2, 1), (3, 1), (4, 1)] 5),
  (66, .one (.pointer 98)),
  (68, .one (.func #[23, 3, 31] #[66, 26] false)),
  (69, .one (.func #[2, 2] #[31] false)),
  (70, .arr 65536 5 1),
  (71, .struct [(0, 1), (1, 1), (2, 65536), (65538, 1), (65539, 1), (65540, 1), (65541, 1), (65542, 1)] 65543),
  (72, .struct [(0, 1), (1, 1), (2, 65536), (65538, 1), (65539, 1), (65540, 1), (65541, 1), (65542, 1)] 65543),
  (73, .slice 76 1),
  (74, .struct [(0, 1), (1, 1), (2, 1)] 3),
  (75, .struct [(0, 1), (1, 1), (2, 1)] 3),
  (76, .one (.pointer 79)),
  (77, .one (.func #[3] #[76] false)),
  (78, .struct [(0, 1), (1, 1), (2, 1), (3, 1)] 4),
  (79, .struct [(0, 1), (1, 1), (2, 1), (3, 1)] 4),
  (80, .one (.func #[3] #[4] false)),
  (81, .one (.func #[31] #[] false)),
  (82, .one (.int .u64)),
  (83, .one (.func #[73, 84] #[3] false)),
  (84, .one (.func #[76] #[4] false)),
  (85, .one (.func #[73] #[26] true)),
  (86, .one (.func #[46] #[] false)),
  (87, .arr 64 5 1),
  (88, .struct [(0, 64), (64, 64), (128, 1)] 129),
  (89, .struct [(0, 64), (64, 64), (128, 1)] 129),
  (90, .one (.func #[23, 3] #[66, 26] false)),
  (92, .one (.func #[31] #[2, 3, 26] false)),
  (93, .one (.func #[] #[31] false)),
  (94, .one (.func #[31, 31] #[4] false)),
  (95, .one (.func #[23, 3] #[4] false)),
  (96, .one (.func #[3, 31] #[26] false)),
  (97, .struct [(0, 1), (1, 1), (2, 1), (3, 1), (4, 1)] 5),
  (98, .struct [(0, 1), (1, 1), (2, 1), (3, 1), (4, 1)] 5),
  (99, .one (.func #[3, 2, 31] #[26] false)),
  (100, .one (.func #[31, 2] #[31] false)),
  (101, .one (.func #[73, 3, 3] #[73] false)),
  (102, .one (.pointer 5)),
  (103, .one (.func #[2] #[102] false)),
  (104, .one (.func #[2] #[26] false)),
  (105, .one (.func #[23, 3, 31] #[26] false)),
  (106, .one (.func #[46, 3, 3, 3] #[] false)),
  (107, .one (.func #[82] #[3] false)),
  (108, .one (.int .u64)),
  (109, .one (.func #[31] #[108] false)),
  (110, .one (.int .u32)),
  (111, .one (.func #[31] #[110] false)),
  (112, .one (.func #[31, 108] #[] false)),
  (113, .one (.func #[46, 3, 3] #[] false)),
  (114, .one (.int .i64)),
  (116, .one (.func #[46, 3, 3] #[3, 114] false)),
  (117, .one (.func #[46, 3, 3] #[4] false)),
  (118, .one (.func #[3, 3] #[4] false)),
  (119, .one (.func #[46, 3, 3, 3] #[3] false)),
  (121, .one (.func #[46, 3, 3, 3] #[3, 4] false)),
  (122, .one (.func #[110] #[3] false)),
  (123, .one (.func #[108] #[3] false)),
  (124, .one (.func #[110, 31] #[110] false)),
  (125, .one (.func #[31] #[26] false)),
  (126, .one (.int .u64)),
  (127, .one (.func #[3] #[82] false)),
  (128, .one (.func #[] #[108] false)),
  (129, .one (.func #[46, 3, 130] #[3] false)),
  (130, .one (.pointer 3)),
  (131, .one (.func #[46, 3, 3, 3, 130] #[3] false)),
  (132, .one (.pointer 126)),
  (134, .one (.func #[46, 3, 3, 130] #[3, 3] false)),
  (135, .one (.func #[] #[9] false)),
  (136, .struct [(0, 1), (1, 1), (2, 1), (3, 1)] 4),
  (137, .struct [(0, 1), (1, 1), (2, 1), (3, 1)] 4),
  (138, .arr 0 16 1),
  (141, .one (.int .u8)),
  (142, .one (.int .u8)),
  (143, .one (.func #[148, 148] #[4] false)),
  (144, .one (.int .i32)),
  (145, .one (.int .i32)),
  (146, .struct [(0, 1), (1, 1), (2, 1), (3, 1), (4, 1), (5, 1), (6, 1), (7, 1), (8, 1), (9, 1), (10, 1)] 11),
  (147, .struct [(0, 1), (1, 1), (2, 1), (3, 1), (4, 1), (5, 1), (6, 1), (7, 1), (8, 1), (9, 1), (10, 1)] 11),
  (148, .one .unsafePointer)]
theorem hT : tab.ok Try.prog :=
  Tab.ok.cons (d := _) (T := _) ⟨Try.underlying1, Try.isAgg1, Try.sizeOf1⟩ <|
  Tab.ok.cons (d := _) (T := _) ⟨Try.underlying2, Try.isAgg2, Try.sizeOf2⟩ <|
  Tab.ok.cons (d := _) (T := _) ⟨Try.underlying3, Try.isAgg3, Try.sizeOf3⟩ <|
  Tab.ok.cons (d := _) (T := _) ⟨Try.underlying4, Try.isAgg4, Try.sizeOf4⟩ <|
  Tab.ok.cons (d := _) (T := _) ⟨Try.underlying5, Try.isAgg5, Try.sizeOf5⟩ <|
  Tab.ok.cons (d := _) (T := _) ⟨Try.underlying6, Try.isAgg6, Try.sizeOf6⟩ <|
  Tab.ok.cons (d := _) (T := _) ⟨⟨_, Try.underlying7, (.cons rfl Try.sizeOf2 (.cons rfl Try.sizeOf3 (.cons rfl Try.sizeOf4 (.cons rfl Try.sizeOf6 .nil))))⟩, Try.isAgg7, Try.sizeOf7⟩ <|
  Tab.ok.cons (d := _) (T := _) ⟨⟨_, Try.underlying8, (.cons rfl Try.sizeOf2 (.cons rfl Try.sizeOf3 (.cons rfl Try.sizeOf4 (.cons rfl Try.sizeOf6 .nil))))⟩, Try.isAgg8, Try.sizeOf8⟩ <|
  Tab.ok.cons (d := _) (T := _) ⟨Try.underlying9, Try.isAgg9, Try.sizeOf9⟩ <|
  Tab.ok.cons (d := _) (T := _) ⟨Try.underlying10, Try.isAgg10, Try.sizeOf10⟩ <|
  Tab.ok.cons (d := _) (T := _) ⟨Try.underlying11, Try.isAgg11, Try.sizeOf11⟩ <|
  Tab.ok.cons (d := _) (T := _) ⟨Try.underlying12, Try.isAgg12, Try.sizeOf12⟩ <|
  Tab.ok.cons (d := _) (T := _) ⟨⟨_, Try.underlying13, (.cons rfl Try.sizeOf9 (.cons rfl Try.sizeOf12 .nil))⟩, Try.isAgg13, Try.sizeOf13⟩ <|
  Tab.ok.cons (d := _) (T := _) ⟨⟨_, Try.underlying14, (.cons rfl Try.sizeOf9 (.cons rfl Try.sizeOf12 .nil))⟩, Try.isAgg14, Try.sizeOf14⟩ <|
  Tab.ok.cons (d := _) (T := _) ⟨Try.underlying15, Try.isAgg15, Try.sizeOf15⟩ <|
  Tab.ok.cons (d := _) (T := _) ⟨Try.underlying16, Try.isAgg16, Try.sizeOf16⟩ <|
  Tab.ok.cons (d := _) (T := _) ⟨Try.underlying17, Try.isAgg17, Try.sizeOf17⟩ <|
  Tab.ok.cons (d := _) (T := _) ⟨⟨_, Try.underlying18, (.cons rfl Try.sizeOf17 .nil)⟩, Try.isAgg18, Try.sizeOf18⟩ <|
  Tab.ok.cons (d := _) (T := _) ⟨⟨_, Try.underlying19, (.cons rfl Try.sizeOf17 .nil)⟩, Try.isAgg19, Try.sizeOf19⟩ <|
  Tab.ok.cons (d := _) (T := _) ⟨Try.underlying20, Try.isAgg20, Try.sizeOf20⟩ <|
  Tab.ok.cons (d := _) (T := _) ⟨Try.underlying21, Try.isAgg21, Try.sizeOf21⟩ <|
  Tab.ok.cons (d := _) (T := _) ⟨Try.underlying22, Try.isAgg22, Try.sizeOf22⟩ <|
  Tab.ok.cons (d := _) (T := _) ⟨Try.underlying23, Try.isAgg23, Try.sizeOf23⟩ <|
  Tab.ok.cons (d := _) (T := _) ⟨Try.underlying24, Try.isAgg24, Try.sizeOf24⟩ <|
  Tab.ok.cons (d := _) (T := _) ⟨Try.underlying25, Try.isAgg25, Try.sizeOf25⟩ <|
  Tab.ok.cons (d := _) (T := _) ⟨Try.underlying26, Try.isAgg26, Try.sizeOf26⟩ <|
  Tab.ok.cons (d := _) (T := _) ⟨Try.underlying28, Try.isAgg28, Try.sizeOf28⟩ <|
  Tab.ok.cons (d := _) (T := _) ⟨Try.underlying29, Try.isAgg29, Try.sizeOf29⟩ <|
  Tab.ok.cons (d := _) (T := _) ⟨Try.underlying30, Try.isAgg30, Try.sizeOf30⟩ <|
  Tab.ok.cons (d := _) (T := _) ⟨Try.underlying31, Try.sizeOf5, Try.isAgg31, Try.sizeOf31⟩ <|
  Tab.ok.cons (d := _) (T := _) ⟨Try.underlying32, Try.isAgg32, Try.sizeOf32⟩ <|
  Tab.ok.cons (d := _) (T := _) ⟨Try.underlying33, Try.isAgg33, Try.sizeOf33⟩ <|
  Tab.ok.cons (d := _) (T := _) ⟨Try.underlying35, Try.isAgg35, Try.sizeOf35⟩ <|
  Tab.ok.cons (d := _) (T := _) ⟨Try.underlying36, Try.isAgg36, Try.sizeOf36⟩ <|
  Tab.ok.cons (d := _) (T := _) ⟨Try.underlying37, Try.sizeOf41, Try.isAgg37, Try.sizeOf37⟩ <|
  Tab.ok.cons (d := _) (T := _) ⟨Try.underlying38, Try.sizeOf31, Try.isAgg38, Try.sizeOf38⟩ <|
  Tab.ok.cons (d := _) (T := _) ⟨Try.underlying39, Try.sizeOf2, Try.isAgg39, Try.sizeOf39⟩ <|
  Tab.ok.cons (d := _) (T := _) ⟨⟨_, Try.underlying40, (.cons rfl Try.sizeOf3 (.cons rfl Try.sizeOf3 (.cons rfl Try.sizeOf5 .nil)))⟩, Try.isAgg40, Try.sizeOf40⟩ <|
  Tab.ok.cons (d := _) (T := _) ⟨⟨_, Try.underlying41, (.cons rfl Try.sizeOf3 (.cons rfl Try.sizeOf3 (.cons rfl Try.sizeOf5 .nil)))⟩, Try.isAgg41, Try.sizeOf41⟩ <|
  Tab.ok.cons (d := _) (T := _) ⟨Try.underlying43, Try.isAgg43, Try.sizeOf43⟩ <|
  Tab.ok.cons (d := _) (T := _) ⟨Try.underlying44, Try.isAgg44, Try.sizeOf44⟩ <|
  Tab.ok.cons (d := _) (T := _) ⟨Try.underlying45, Try.isAgg45, Try.sizeOf45⟩ <|
  Tab.ok.cons (d := _) (T := _) ⟨Try.underlying46, Try.sizeOf3, Try.isAgg46, Try.sizeOf46⟩ <|
  Tab.ok.cons (d := _) (T := _) ⟨Try.underlying47, Try.isAgg47, Try.sizeOf47⟩ <|
  Tab.ok.cons (d := _) (T := _) ⟨Try.underlying48, Try.isAgg48, Try.sizeOf48⟩ <|
  Tab.ok.cons (d := _) (T := _) ⟨Try.underlying49, Try.isAgg49, Try.sizeOf49⟩ <|
  Tab.ok.cons (d := _) (T := _) ⟨Try.underlying50, Try.isAgg50, Try.sizeOf50⟩ <|
  Tab.ok.cons (d := _) (T := _) ⟨Try.underlying51, Try.sizeOf5, Try.isAgg51, Try.sizeOf51⟩ <|
  Tab.ok.cons (d := _) (T := _) ⟨Try.underlying52, Try.isAgg52, Try.sizeOf52⟩ <|
  Tab.ok.cons (d := _) (T := _) ⟨Try.underlying53, Try.isAgg53, Try.sizeOf53⟩ <|
  Tab.ok.cons (d := _) (T := _) ⟨Try.underlying54, Try.sizeOf4, Try.isAgg54, Try.sizeOf54⟩ <|
  Tab.ok.cons (d := _) (T := _) ⟨Try.underlying55, Try.isAgg55, Try.sizeOf55⟩ <|
  Tab.ok.cons (d := _) (T := _) ⟨Try.underlying56, Try.sizeOf2, Try.isAgg56, Try.sizeOf56⟩ <|
  Tab.ok.cons (d := _) (T := _) ⟨Try.underlying57, Try.sizeOf31, Try.isAgg57, Try.sizeOf57⟩ <|
  Tab.ok.cons (d := _) (T := _) ⟨Try.underlying59, Try.isAgg59, Try.sizeOf59⟩ <|
  Tab.ok.cons (d := _) (T := _) ⟨Try.underlying60, Try.isAgg60, Try.sizeOf60⟩ <|
  Tab.ok.cons (d := _) (T := _) ⟨Try.underlying61, Try.isAgg61, Try.sizeOf61⟩ <|
  Tab.ok.cons (d := _) (T := _) ⟨Try.underlying62, Try.isAgg62, Try.sizeOf62⟩ <|
  Tab.ok.cons (d := _) (T := _) ⟨Try.underlying63, Try.sizeOf89, Try.isAgg63, Try.sizeOf63⟩ <|
  Tab.ok.cons (d := _) (T := _) ⟨⟨_, Try.underlying64, (.cons rfl Try.sizeOf63 (.cons rfl Try.sizeOf3 (.cons rfl Try.sizeOf4 (.cons rfl Try.sizeOf3 (.cons rfl Try.sizeOf4 .nil)))))⟩, Try.isAgg64, Try.sizeOf64⟩ <|
  Tab.ok.cons (d := _) (T := _) ⟨⟨_, Try.underlying65, (.cons rfl Try.sizeOf63 (.cons rfl Try.sizeOf3 (.cons rfl Try.sizeOf4 (.cons rfl Try.sizeOf3 (.cons rfl Try.sizeOf4 .nil)))))⟩, Try.isAgg65, Try.sizeOf65⟩ <|
  Tab.ok.cons (d := _) (T := _) ⟨Try.underlying66, Try.isAgg66, Try.sizeOf66⟩ <|
  Tab.ok.cons (d := _) (T := _) ⟨Try.underlying68, Try.isAgg68, Try.sizeOf68⟩ <|
  Tab.ok.cons (d := _) (T := _) ⟨Try.underlying69, Try.isAgg69, Try.sizeOf69⟩ <|
  Tab.ok.cons (d := _) (T := _) ⟨Try.underlying70, Try.sizeOf5, Try.isAgg70, Try.sizeOf70⟩ <|
  Tab.ok.cons (d := _) (T := _) ⟨⟨_, Try.underlying71, (.cons rfl Try.sizeOf23 (.cons rfl Try.sizeOf66 (.cons rfl Try.sizeOf70 (.cons rfl Try.sizeOf2 (.cons rfl Try.sizeOf2 (.cons rfl Try.sizeOf2 (.cons rfl Try.sizeOf56 (.cons rfl Try.sizeOf4 .nil))))))))⟩, Try.isAgg71, Try.sizeOf71⟩ <|
  Tab.ok.cons (d := _) (T := _) ⟨⟨_, Try.underlying72, (.cons rfl Try.sizeOf23 (.cons rfl Try.sizeOf66 (.cons rfl Try.sizeOf70 (.cons rfl Try.sizeOf2 (.cons rfl Try.sizeOf2 (.cons rfl Try.sizeOf2 (.cons rfl Try.sizeOf56 (.cons rfl Try.sizeOf4 .nil))))))))⟩, Try.isAgg72, Try.sizeOf72⟩ <|
  Tab.ok.cons (d := _) (T := _) ⟨Try.underlying73, Try.sizeOf76, Try.isAgg73, Try.sizeOf73⟩ <|
  Tab.ok.cons (d := _) (T := _) ⟨⟨_, Try.underlying74, (.cons rfl Try.sizeOf23 (.cons rfl Try.sizeOf25 (.cons rfl Try.sizeOf73 .nil)))⟩, Try.isAgg74, Try.sizeOf74⟩ <|
  Tab.ok.cons (d := _) (T := _) ⟨⟨_, Try.underlying75, (.cons rfl Try.sizeOf23 (.cons rfl Try.sizeOf25 (.cons rfl Try.sizeOf73 .nil)))⟩, Try.isAgg75, Try.sizeOf75⟩ <|
  Tab.ok.cons (d := _) (T := _) ⟨Try.underlying76, Try.isAgg76, Try.sizeOf76⟩ <|
  Tab.ok.cons (d := _) (T := _) ⟨Try.underlying77, Try.isAgg77, Try.sizeOf77⟩ <|
  Tab.ok.cons (d := _) (T := _) ⟨⟨_, Try.underlying78, (.cons rfl Try.sizeOf3 (.cons rfl Try.sizeOf31 (.cons rfl Try.sizeOf4 (.cons rfl Try.sizeOf2 .nil))))⟩, Try.isAgg78, Try.sizeOf78⟩ <|
  Tab.ok.cons (d := _) (T := _) ⟨⟨_, Try.underlying79, (.cons rfl Try.sizeOf3 (.cons rfl Try.sizeOf31 (.cons rfl Try.sizeOf4 (.cons rfl Try.sizeOf2 .nil))))⟩, Try.isAgg79, Try.sizeOf79⟩ <|
  Tab.ok.cons (d := _) (T := _) ⟨Try.underlying80, Try.isAgg80, Try.sizeOf80⟩ <|
  Tab.ok.cons (d := _) (T := _) ⟨Try.underlying81, Try.isAgg81, Try.sizeOf81⟩ <|
  Tab.ok.cons (d := _) (T := _) ⟨Try.underlying82, Try.isAgg82, Try.sizeOf82⟩ <|
  Tab.ok.cons (d := _) (T := _) ⟨Try.underlying83, Try.isAgg83, Try.sizeOf83⟩ <|
  Tab.ok.cons (d := _) (T := _) ⟨Try.underlying84, Try.isAgg84, Try.sizeOf84⟩ <|
  Tab.ok.cons (d := _) (T := _) ⟨Try.underlying85, Try.isAgg85, Try.sizeOf85⟩ <|
  Tab.ok.cons (d := _) (T := _) ⟨Try.underlying86, Try.isAgg86, Try.sizeOf86⟩ <|
  Tab.ok.cons (d := _) (T := _) ⟨Try.underlying87, Try.sizeOf5, Try.isAgg87, Try.sizeOf87⟩ <|
  Tab.ok.cons (d := _) (T := _) ⟨⟨_, Try.underlying88, (.cons rfl Try.sizeOf87 (.cons rfl Try.sizeOf87 (.cons rfl Try.sizeOf4 .nil)))⟩, Try.isAgg88, Try.sizeOf88⟩ <|
  Tab.ok.cons (d := _) (T := _) ⟨⟨_, Try.underlying89, (.cons rfl Try.sizeOf87 (.cons rfl Try.sizeOf87 (.cons rfl Try.sizeOf4 .nil)))⟩, Try.isAgg89, Try.sizeOf89⟩ <|
  Tab.ok.cons (d := _) (T := _) ⟨Try.underlying90, Try.isAgg90, Try.sizeOf90⟩ <|
  Tab.ok.cons (d := _) (T := _) ⟨Try.underlying92, Try.isAgg92, Try.sizeOf92⟩ <|
  Tab.ok.cons (d := _) (T := _) ⟨Try.underlying93, Try.isAgg93, Try.sizeOf93⟩ <|
  Tab.ok.cons (d := _) (T := _) ⟨Try.underlying94, Try.isAgg94, Try.sizeOf94⟩ <|
  Tab.ok.cons (d := _) (T := _) ⟨Try.underlying95, Try.isAgg95, Try.sizeOf95⟩ <|
  Tab.ok.cons (d := _) (T := _) ⟨Try.underlying96, Try.isAgg96, Try.sizeOf96⟩ <|
  Tab.ok.cons (d := _) (T := _) ⟨⟨_, Try.underlying97, (.cons rfl Try.sizeOf23 (.cons rfl Try.sizeOf3 (.cons rfl Try.sizeOf3 (.cons rfl Try.sizeOf2 (.cons rfl Try.sizeOf31 .nil)))))⟩, Try.isAgg97, Try.sizeOf97⟩ <|
  Tab.ok.cons (d := _) (T := _) ⟨⟨_, Try.underlying98, (.cons rfl Try.sizeOf23 (.cons rfl Try.sizeOf3 (.cons rfl Try.sizeOf3 (.cons rfl Try.sizeOf2 (.cons rfl Try.sizeOf31 .nil)))))⟩, Try.isAgg98, Try.sizeOf98⟩ <|
  Tab.ok.cons (d := _) (T := _) ⟨Try.underlying99, Try.isAgg99, Try.sizeOf99⟩ <|
  Tab.ok.cons (d := _) (T := _) ⟨Try.underlying100, Try.isAgg100, Try.sizeOf100⟩ <|
  Tab.ok.cons (d := _) (T := _) ⟨Try.underlying101, Try.isAgg101, Try.sizeOf101⟩ <|
  Tab.ok.cons (d := _) (T := _) ⟨Try.underlying102, Try.isAgg102, Try.sizeOf102⟩ <|
  Tab.ok.cons (d := _) (T := _) ⟨Try.underlying103, Try.isAgg103, Try.sizeOf103⟩ <|
  Tab.ok.cons (d := _) (T := _) ⟨Try.underlying104, Try.isAgg104, Try.sizeOf104⟩ <|
  Tab.ok.cons (d := _) (T := _) ⟨Try.underlying105, Try.isAgg105, Try.sizeOf105⟩ <|
  Tab.ok.cons (d := _) (T := _) ⟨Try.underlying106, Try.isAgg106, Try.sizeOf106⟩ <|
  Tab.ok.cons (d := _) (T := _) ⟨Try.underlying107, Try.isAgg107, Try.sizeOf107⟩ <|
  Tab.ok.cons (d := _) (T := _) ⟨Try.underlying108, Try.isAgg108, Try.sizeOf108⟩ <|
  Tab.ok.cons (d := _) (T := _) ⟨Try.underlying109, Try.isAgg109, Try.sizeOf109⟩ <|
  Tab.ok.cons (d := _) (T := _) ⟨Try.underlying110, Try.isAgg110, Try.sizeOf110⟩ <|
  Tab.ok.cons (d := _) (T := _) ⟨Try.underlying111, Try.isAgg111, Try.sizeOf111⟩ <|
  Tab.ok.cons (d := _) (T := _) ⟨Try.underlying112, Try.isAgg112, Try.sizeOf112⟩ <|
  Tab.ok.cons (d := _) (T := _) ⟨Try.underlying113, Try.isAgg113, Try.sizeOf113⟩ <|
  Tab.ok.cons (d := _) (T := _) ⟨Try.underlying114, Try.isAgg114, Try.sizeOf114⟩ <|
  Tab.ok.cons (d := _) (T := _) ⟨Try.underlying116, Try.isAgg116, Try.sizeOf116⟩ <|
  Tab.ok.cons (d := _) (T := _) ⟨Try.underlying117, Try.isAgg117, Try.sizeOf117⟩ <|
  Tab.ok.cons (d := _) (T := _) ⟨Try.underlying118, Try.isAgg118, Try.sizeOf118⟩ <|
  Tab.ok.cons (d := _) (T := _) ⟨Try.underlying119, Try.isAgg119, Try.sizeOf119⟩ <|
  Tab.ok.cons (d := _) (T := _) ⟨Try.underlying121, Try.isAgg121, Try.sizeOf121⟩ <|
  Tab.ok.cons (d := _) (T := _) ⟨Try.underlying122, Try.isAgg122, Try.sizeOf122⟩ <|
  Tab.ok.cons (d := _) (T := _) ⟨Try.underlying123, Try.isAgg123, Try.sizeOf123⟩ <|
  Tab.ok.cons (d := _) (T := _) ⟨Try.underlying124, Try.isAgg124, Try.sizeOf124⟩ <|
  Tab.ok.cons (d := _) (T := _) ⟨Try.underlying125, Try.isAgg125, Try.sizeOf125⟩ <|
  Tab.ok.cons (d := _) (T := _) ⟨Try.underlying126, Try.isAgg126, Try.sizeOf126⟩ <|
  Tab.ok.cons (d := _) (T := _) ⟨Try.underlying127, Try.isAgg127, Try.sizeOf127⟩ <|
  Tab.ok.cons (d := _) (T := _) ⟨Try.underlying128, Try.isAgg128, Try.sizeOf128⟩ <|
  Tab.ok.cons (d := _) (T := _) ⟨Try.underlying129, Try.isAgg129, Try.sizeOf129⟩ <|
  Tab.ok.cons (d := _) (T := _) ⟨Try.underlying130, Try.isAgg130, Try.sizeOf130⟩ <|
  Tab.ok.cons (d := _) (T := _) ⟨Try.underlying131, Try.isAgg131, Try.sizeOf131⟩ <|
  Tab.ok.cons (d := _) (T := _) ⟨Try.underlying132, Try.isAgg132, Try.sizeOf132⟩ <|
  Tab.ok.cons (d := _) (T := _) ⟨Try.underlying134, Try.isAgg134, Try.sizeOf134⟩ <|
  Tab.ok.cons (d := _) (T := _) ⟨Try.underlying135, Try.isAgg135, Try.sizeOf135⟩ <|
  Tab.ok.cons (d := _) (T := _) ⟨⟨_, Try.underlying136, (.cons rfl Try.sizeOf17 (.cons rfl Try.sizeOf17 (.cons rfl Try.sizeOf17 (.cons rfl Try.sizeOf9 .nil))))⟩, Try.isAgg136, Try.sizeOf136⟩ <|
  Tab.ok.cons (d := _) (T := _) ⟨⟨_, Try.underlying137, (.cons rfl Try.sizeOf17 (.cons rfl Try.sizeOf17 (.cons rfl Try.sizeOf17 (.cons rfl Try.sizeOf9 .nil))))⟩, Try.isAgg137, Try.sizeOf137⟩ <|
  Tab.ok.cons (d := _) (T := _) ⟨Try.underlying138, Try.sizeOf16, Try.isAgg138, Try.sizeOf138⟩ <|
  Tab.ok.cons (d := _) (T := _) ⟨Try.underlying141, Try.isAgg141, Try.sizeOf141⟩ <|
  Tab.ok.cons (d := _) (T := _) ⟨Try.underlying142, Try.isAgg142, Try.sizeOf142⟩ <|
  Tab.ok.cons (d := _) (T := _) ⟨Try.underlying143, Try.isAgg143, Try.sizeOf143⟩ <|
  Tab.ok.cons (d := _) (T := _) ⟨Try.underlying144, Try.isAgg144, Try.sizeOf144⟩ <|
  Tab.ok.cons (d := _) (T := _) ⟨Try.underlying145, Try.isAgg145, Try.sizeOf145⟩ <|
  Tab.ok.cons (d := _) (T := _) ⟨⟨_, Try.underlying146, (.cons rfl Try.sizeOf12 (.cons rfl Try.sizeOf12 (.cons rfl Try.sizeOf110 (.cons rfl Try.sizeOf141 (.cons rfl Try.sizeOf5 (.cons rfl Try.sizeOf5 (.cons rfl Try.sizeOf142 (.cons rfl Try.sizeOf143 (.cons rfl Try.sizeOf102 (.cons rfl Try.sizeOf144 (.cons rfl Try.sizeOf145 .nil)))))))))))⟩, Try.isAgg146, Try.sizeOf146⟩ <|
  Tab.ok.cons (d := _) (T := _) ⟨⟨_, Try.underlying147, (.cons rfl Try.sizeOf12 (.cons rfl Try.sizeOf12 (.cons rfl Try.sizeOf110 (.cons rfl Try.sizeOf141 (.cons rfl Try.sizeOf5 (.cons rfl Try.sizeOf5 (.cons rfl Try.sizeOf142 (.cons rfl Try.sizeOf143 (.cons rfl Try.sizeOf102 (.cons rfl Try.sizeOf144 (.cons rfl Try.sizeOf145 .nil)))))))))))⟩, Try.isAgg147, Try.sizeOf147⟩ <|
  Tab.ok.cons (d := _) (T := _) ⟨Try.underlying148, Try.isAgg148, Try.sizeOf148⟩ <|
  Tab.ok.nil
theorem el31 : Elem Try.prog 31 5 1 := ⟨Try.underlying31, Try.sizeOf5, ⟨Try.t5, Try.typeInfo5, by decide, by decide⟩, ⟨_, Try.zeroValue5, rfl⟩⟩
theorem el37 : Elem Try.prog 37 41 3 := ⟨Try.underlying37, Try.sizeOf41, ⟨Try.t41, Try.typeInfo41, by decide, by decide⟩, ⟨_, Try.zeroValue41, rfl⟩⟩
theorem el46 : Elem Try.prog 46 3 1 := ⟨Try.underlying46, Try.sizeOf3, ⟨Try.t3, Try.typeInfo3, by decide, by decide⟩, ⟨_, Try.zeroValue3, rfl⟩⟩
theorem el54 : Elem Try.prog 54 4 1 := ⟨Try.underlying54, Try.sizeOf4, ⟨Try.t4, Try.typeInfo4, by decide, by decide⟩, ⟨_, Try.zeroValue4, rfl⟩⟩
theorem el56 : Elem Try.prog 56 2 1 := ⟨Try.underlying56, Try.sizeOf2, ⟨Try.t2, Try.typeInfo2, by decide, by decide⟩, ⟨_, Try.zeroValue2, rfl⟩⟩
theorem el57 : Elem Try.prog 57 31 1 := ⟨Try.underlying57, Try.sizeOf31, ⟨Try.t31, Try.typeInfo31, by decide, by decide⟩, ⟨_, Try.zeroValue31, rfl⟩⟩
theorem el63 : Elem Try.prog 63 89 129 := ⟨Try.underlying63, Try.sizeOf89, ⟨Try.t89, Try.typeInfo89, by decide, by decide⟩, ⟨_, Try.zeroValue89, rfl⟩⟩
theorem el73 : Elem Try.prog 73 76 1 := ⟨Try.underlying73, Try.sizeOf76, ⟨Try.t76, Try.typeInfo76, by decide, by decide⟩, ⟨_, Try.zeroValue76, rfl⟩⟩
theorem mixed : Try.prog.follows .mixedOrders = true := by kernel_rfl
end Go.Proofs.Ytoalhcodigpgkaa.Sx
