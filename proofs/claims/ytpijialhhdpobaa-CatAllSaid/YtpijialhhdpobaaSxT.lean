/- What the small logic wants to know of this program's types: printed by a program of ours off the loaded program; Lean checks each. -/
import Derived.Test.YtpijialhhdpobaaSxJ
import Derived.Test.YtpijialhhdpobaaChecked
namespace Go.Proofs.Ytpijialhhdpobaa.Sx
open Go Go.Sx

def tab : Tab := [
  (1, .one (.func #[] #[] false)),
  (2, .one (.int .i64)),
  (3, .one (.int .i64)),
  (4, .one .bool),
  (5, .one (.int .u8)),
  (6, .one (.int .u8)),
  (7, .struct [(0, 1), (1, 1), (2, 1), (3, 1)] 4),
  (8, .struct [(0, 1), (1, 1), (2, 1), (3, 1)] 4),
  (9, .one .string),
  (10, .one .string),
  (11, .one .string),
  (12, .one (.int .u64)),
  (13, .struct [(0, 1), (1, 1)] 2),
  (14, .struct [(0, 1), (1, 1)] 2),
  (15, .one (.pointer 111)),
  (16, .one (.pointer 114)),
  (17, .one (.pointer 123)),
  (18, .struct [(0, 1)] 1),
  (19, .struct [(0, 1)] 1),
  (20, .one (.interface #[])),
  (21, .one (.int .i32)),
  (22, .slice 42 35),
  (23, .struct [(0, 1), (1, 1)] 2),
  (24, .struct [(0, 1), (1, 1)] 2),
  (25, .one (.func #[] #[4] false)),
  (26, .one (.func #[24] #[24] false)),
  (27, .one (.func #[9, 3] #[9] false)),
  (28, .one (.func #[24] #[4] false)),
  (29, .slice 5 1),
  (30, .one (.int .i64)),
  (32, .one (.func #[33] #[29, 30] false)),
  (33, .struct [(0, 1), (1, 1)] 2),
  (34, .one (.func #[24] #[33] false)),
  (35, .one (.func #[33] #[4] false)),
  (36, .one (.func #[24] #[29] false)),
  (37, .one (.func #[9] #[4] false)),
  (39, .one (.func #[29] #[33, 30] false)),
  (40, .arr 32 3 1),
  (41, .struct [(0, 1), (1, 1), (2, 1), (3, 32)] 35),
  (42, .struct [(0, 1), (1, 1), (2, 1), (3, 32)] 35),
  (44, .one (.func #[33] #[3, 4] false)),
  (45, .one (.func #[24] #[3, 4] false)),
  (46, .slice 3 1),
  (47, .one (.func #[33] #[46] false)),
  (48, .one (.func #[24] #[46] false)),
  (49, .one (.func #[24, 24] #[4] false)),
  (50, .one (.func #[33] #[24] false)),
  (51, .one (.func #[33, 9] #[3] false)),
  (52, .one (.func #[24, 9] #[4] false)),
  (53, .one (.func #[29] #[4] false)),
  (54, .one (.func #[29] #[29] false)),
  (55, .one (.func #[29, 3] #[29] false)),
  (56, .one (.func #[29, 24, 3, 5] #[4] false)),
  (57, .slice 9 1),
  (58, .slice 4 1),
  (59, .one (.func #[33, 9] #[33, 30] false)),
  (60, .one (.func #[57, 58] #[4] false)),
  (61, .one (.func #[3, 46] #[4] false)),
  (62, .one (.pointer 42)),
  (63, .one (.func #[24, 3, 3, 3] #[4] false)),
  (64, .one (.func #[3] #[4] false)),
  (65, .arr 96 4 1),
  (66, .one (.func #[29, 2] #[29] false)),
  (67, .one (.func #[29, 9] #[29] false)),
  (68, .one (.func #[46, 3] #[4] false)),
  (69, .one (.func #[2] #[29] false)),
  (70, .one (.func #[9] #[29] false)),
  (72, .one (.func #[29] #[2, 3, 30] false)),
  (74, .one (.func #[29] #[42, 3] false)),
  (75, .one (.func #[29, 29] #[4] false)),
  (76, .one (.func #[46] #[] false)),
  (77, .one (.func #[42, 42] #[4] false)),
  (78, .one (.func #[22, 79] #[3] false)),
  (79, .one (.func #[42] #[4] false)),
  (80, .one (.func #[22, 3, 3] #[22] false)),
  (81, .one (.func #[22] #[22] false)),
  (82, .one (.int .u64)),
  (83, .one (.int .u64)),
  (84, .one (.func #[46, 3] #[3] false)),
  (86, .one (.func #[29] #[9, 3, 30] false)),
  (87, .one (.func #[46, 3, 3, 3] #[] false)),
  (88, .one (.func #[83] #[3] false)),
  (89, .one (.func #[46, 3, 3] #[] false)),
  (90, .one (.int .i64)),
  (92, .one (.func #[46, 3, 3] #[3, 90] false)),
  (93, .one (.func #[46, 3, 3] #[4] false)),
  (94, .one (.func #[3, 3] #[4] false)),
  (95, .one (.func #[46, 3, 3, 3] #[3] false)),
  (96, .one (.func #[46, 3, 3, 3] #[3, 4] false)),
  (97, .one (.func #[98] #[3] false)),
  (98, .one (.int .u32)),
  (99, .one (.func #[82] #[3] false)),
  (100, .one (.int .u64)),
  (101, .one (.func #[3] #[83] false)),
  (102, .one (.func #[] #[82] false)),
  (103, .one (.func #[46, 3, 104] #[3] false)),
  (104, .one (.pointer 3)),
  (105, .one (.func #[46, 3, 3, 3, 104] #[3] false)),
  (106, .one (.pointer 100)),
  (108, .one (.func #[46, 3, 3, 104] #[3, 3] false)),
  (109, .one (.func #[] #[9] false)),
  (110, .struct [(0, 1), (1, 1), (2, 1), (3, 1)] 4),
  (111, .struct [(0, 1), (1, 1), (2, 1), (3, 1)] 4),
  (112, .arr 0 16 1),
  (115, .one (.func #[] #[3] false)),
  (116, .one (.int .u8)),
  (117, .one (.int .u8)),
  (118, .one (.func #[124, 124] #[4] false)),
  (119, .one (.pointer 5)),
  (120, .one (.int .i32)),
  (121, .one (.int .i32)),
  (122, .struct [(0, 1), (1, 1), (2, 1), (3, 1), (4, 1), (5, 1), (6, 1), (7, 1), (8, 1), (9, 1), (10, 1)] 11),
  (123, .struct [(0, 1), (1, 1), (2, 1), (3, 1), (4, 1), (5, 1), (6, 1), (7, 1), (8, 1), (9, 1), (10, 1)] 11),
  (124, .one .unsafePointer)]
theorem hT : tab.ok Try.prog :=
  Tab.ok.cons (d := _) (T := _) ⟨Try.underlying1, Try.isAgg1, Try.sizeOf1⟩ <|
  Tab.ok.cons (d := _) (T := _) ⟨Try.underlying2, Try.isAgg2, Try.sizeOf2⟩ <|
  Tab.ok.cons (d := _) (T := _) ⟨Try.underlying3, Try.isAgg3, Try.sizeOf3⟩ <|
  Tab.ok.cons (d := _) (T := _) ⟨Try.underlying4, Try.isAgg4, Try.sizeOf4⟩ <|
  Tab.ok.cons (d := _) (T := _) ⟨Try.underlying5, Try.isAgg5, Try.sizeOf5⟩ <|
  Tab.ok.cons (d := _) (T := _) ⟨Try.underlying6, Try.isAgg6, Try.sizeOf6⟩ <|
  Tab.ok.cons (d := _) (T := _) ⟨⟨_, Try.underlying7, (.cons rfl Try.sizeOf2 (.cons rfl Try.sizeOf3 (.cons rfl Try.sizeOf4 (.cons rfl Try.sizeOf6 .nil))))⟩, Try.isAgg7, Try.sizeOf7⟩ <|
  Tab.ok.cons (d := _) (T := _) ⟨⟨_, Try.underlying8, (.cons rfl Try.sizeOf2 (.cons rfl Try.sizeOf3 (.cons rfl Try.sizeOf4 (.cons rfl Try.sizeOf6 .nil))))⟩, Try.isAgg8, Try.sizeOf8⟩ <|
  Tab.ok.cons (d := _) (T := _) ⟨Try.underlying9, Try.isAgg9, Try.sizeOf9⟩ <|
  Tab.ok.cons (d := _) (T := _) ⟨Try.underlying10, Try.isAgg10, Try.sizeOf10⟩ <|
  Tab.ok.cons (d := _) (T := _) ⟨Try.underlying11, Try.isAgg11, Try.sizeOf11⟩ <|
  Tab.ok.cons (d := _) (T := _) ⟨Try.underlying12, Try.isAgg12, Try.sizeOf12⟩ <|
  Tab.ok.cons (d := _) (T := _) ⟨⟨_, Try.underlying13, (.cons rfl Try.sizeOf9 (.cons rfl Try.sizeOf12 .nil))⟩, Try.isAgg13, Try.sizeOf13⟩ <|
  Tab.ok.cons (d := _) (T := _) ⟨⟨_, Try.underlying14, (.cons rfl Try.sizeOf9 (.cons rfl Try.sizeOf12 .nil))⟩, Try.isAgg14, Try.sizeOf14⟩ <|
  Tab.ok.cons (d := _) (T := _) ⟨Try.underlying15, Try.isAgg15, Try.sizeOf15⟩ <|
  Tab.ok.cons (d := _) (T := _) ⟨Try.underlying16, Try.isAgg16, Try.sizeOf16⟩ <|
  Tab.ok.cons (d := _) (T := _) ⟨Try.underlying17, Try.isAgg17, Try.sizeOf17⟩ <|
  Tab.ok.cons (d := _) (T := _) ⟨⟨_, Try.underlying18, (.cons rfl Try.sizeOf17 .nil)⟩, Try.isAgg18, Try.sizeOf18⟩ <|
  Tab.ok.cons (d := _) (T := _) ⟨⟨_, Try.underlying19, (.cons rfl Try.sizeOf17 .nil)⟩, Try.isAgg19, Try.sizeOf19⟩ <|
  Tab.ok.cons (d := _) (T := _) ⟨Try.underlying20, Try.isAgg20, Try.sizeOf20⟩ <|
  Tab.ok.cons (d := _) (T := _) ⟨Try.underlying21, Try.isAgg21, Try.sizeOf21⟩ <|
  Tab.ok.cons (d := _) (T := _) ⟨Try.underlying22, Try.sizeOf42, Try.isAgg22, Try.sizeOf22⟩ <|
  Tab.ok.cons (d := _) (T := _) ⟨⟨_, Try.underlying23, (.cons rfl Try.sizeOf2 (.cons rfl Try.sizeOf22 .nil))⟩, Try.isAgg23, Try.sizeOf23⟩ <|
  Tab.ok.cons (d := _) (T := _) ⟨⟨_, Try.underlying24, (.cons rfl Try.sizeOf2 (.cons rfl Try.sizeOf22 .nil))⟩, Try.isAgg24, Try.sizeOf24⟩ <|
  Tab.ok.cons (d := _) (T := _) ⟨Try.underlying25, Try.isAgg25, Try.sizeOf25⟩ <|
  Tab.ok.cons (d := _) (T := _) ⟨Try.underlying26, Try.isAgg26, Try.sizeOf26⟩ <|
  Tab.ok.cons (d := _) (T := _) ⟨Try.underlying27, Try.isAgg27, Try.sizeOf27⟩ <|
  Tab.ok.cons (d := _) (T := _) ⟨Try.underlying28, Try.isAgg28, Try.sizeOf28⟩ <|
  Tab.ok.cons (d := _) (T := _) ⟨Try.underlying29, Try.sizeOf5, Try.isAgg29, Try.sizeOf29⟩ <|
  Tab.ok.cons (d := _) (T := _) ⟨Try.underlying30, Try.isAgg30, Try.sizeOf30⟩ <|
  Tab.ok.cons (d := _) (T := _) ⟨Try.underlying32, Try.isAgg32, Try.sizeOf32⟩ <|
  Tab.ok.cons (d := _) (T := _) ⟨⟨_, Try.underlying33, (.cons rfl Try.sizeOf2 (.cons rfl Try.sizeOf22 .nil))⟩, Try.isAgg33, Try.sizeOf33⟩ <|
  Tab.ok.cons (d := _) (T := _) ⟨Try.underlying34, Try.isAgg34, Try.sizeOf34⟩ <|
  Tab.ok.cons (d := _) (T := _) ⟨Try.underlying35, Try.isAgg35, Try.sizeOf35⟩ <|
  Tab.ok.cons (d := _) (T := _) ⟨Try.underlying36, Try.isAgg36, Try.sizeOf36⟩ <|
  Tab.ok.cons (d := _) (T := _) ⟨Try.underlying37, Try.isAgg37, Try.sizeOf37⟩ <|
  Tab.ok.cons (d := _) (T := _) ⟨Try.underlying39, Try.isAgg39, Try.sizeOf39⟩ <|
  Tab.ok.cons (d := _) (T := _) ⟨Try.underlying40, Try.sizeOf3, Try.isAgg40, Try.sizeOf40⟩ <|
  Tab.ok.cons (d := _) (T := _) ⟨⟨_, Try.underlying41, (.cons rfl Try.sizeOf9 (.cons rfl Try.sizeOf2 (.cons rfl Try.sizeOf4 (.cons rfl Try.sizeOf40 .nil))))⟩, Try.isAgg41, Try.sizeOf41⟩ <|
  Tab.ok.cons (d := _) (T := _) ⟨⟨_, Try.underlying42, (.cons rfl Try.sizeOf9 (.cons rfl Try.sizeOf2 (.cons rfl Try.sizeOf4 (.cons rfl Try.sizeOf40 .nil))))⟩, Try.isAgg42, Try.sizeOf42⟩ <|
  Tab.ok.cons (d := _) (T := _) ⟨Try.underlying44, Try.isAgg44, Try.sizeOf44⟩ <|
  Tab.ok.cons (d := _) (T := _) ⟨Try.underlying45, Try.isAgg45, Try.sizeOf45⟩ <|
  Tab.ok.cons (d := _) (T := _) ⟨Try.underlying46, Try.sizeOf3, Try.isAgg46, Try.sizeOf46⟩ <|
  Tab.ok.cons (d := _) (T := _) ⟨Try.underlying47, Try.isAgg47, Try.sizeOf47⟩ <|
  Tab.ok.cons (d := _) (T := _) ⟨Try.underlying48, Try.isAgg48, Try.sizeOf48⟩ <|
  Tab.ok.cons (d := _) (T := _) ⟨Try.underlying49, Try.isAgg49, Try.sizeOf49⟩ <|
  Tab.ok.cons (d := _) (T := _) ⟨Try.underlying50, Try.isAgg50, Try.sizeOf50⟩ <|
  Tab.ok.cons (d := _) (T := _) ⟨Try.underlying51, Try.isAgg51, Try.sizeOf51⟩ <|
  Tab.ok.cons (d := _) (T := _) ⟨Try.underlying52, Try.isAgg52, Try.sizeOf52⟩ <|
  Tab.ok.cons (d := _) (T := _) ⟨Try.underlying53, Try.isAgg53, Try.sizeOf53⟩ <|
  Tab.ok.cons (d := _) (T := _) ⟨Try.underlying54, Try.isAgg54, Try.sizeOf54⟩ <|
  Tab.ok.cons (d := _) (T := _) ⟨Try.underlying55, Try.isAgg55, Try.sizeOf55⟩ <|
  Tab.ok.cons (d := _) (T := _) ⟨Try.underlying56, Try.isAgg56, Try.sizeOf56⟩ <|
  Tab.ok.cons (d := _) (T := _) ⟨Try.underlying57, Try.sizeOf9, Try.isAgg57, Try.sizeOf57⟩ <|
  Tab.ok.cons (d := _) (T := _) ⟨Try.underlying58, Try.sizeOf4, Try.isAgg58, Try.sizeOf58⟩ <|
  Tab.ok.cons (d := _) (T := _) ⟨Try.underlying59, Try.isAgg59, Try.sizeOf59⟩ <|
  Tab.ok.cons (d := _) (T := _) ⟨Try.underlying60, Try.isAgg60, Try.sizeOf60⟩ <|
  Tab.ok.cons (d := _) (T := _) ⟨Try.underlying61, Try.isAgg61, Try.sizeOf61⟩ <|
  Tab.ok.cons (d := _) (T := _) ⟨Try.underlying62, Try.isAgg62, Try.sizeOf62⟩ <|
  Tab.ok.cons (d := _) (T := _) ⟨Try.underlying63, Try.isAgg63, Try.sizeOf63⟩ <|
  Tab.ok.cons (d := _) (T := _) ⟨Try.underlying64, Try.isAgg64, Try.sizeOf64⟩ <|
  Tab.ok.cons (d := _) (T := _) ⟨Try.underlying65, Try.sizeOf4, Try.isAgg65, Try.sizeOf65⟩ <|
  Tab.ok.cons (d := _) (T := _) ⟨Try.underlying66, Try.isAgg66, Try.sizeOf66⟩ <|
  Tab.ok.cons (d := _) (T := _) ⟨Try.underlying67, Try.isAgg67, Try.sizeOf67⟩ <|
  Tab.ok.cons (d := _) (T := _) ⟨Try.underlying68, Try.isAgg68, Try.sizeOf68⟩ <|
  Tab.ok.cons (d := _) (T := _) ⟨Try.underlying69, Try.isAgg69, Try.sizeOf69⟩ <|
  Tab.ok.cons (d := _) (T := _) ⟨Try.underlying70, Try.isAgg70, Try.sizeOf70⟩ <|
  Tab.ok.cons (d := _) (T := _) ⟨Try.underlying72, Try.isAgg72, Try.sizeOf72⟩ <|
  Tab.ok.cons (d := _) (T := _) ⟨Try.underlying74, Try.isAgg74, Try.sizeOf74⟩ <|
  Tab.ok.cons (d := _) (T := _) ⟨Try.underlying75, Try.isAgg75, Try.sizeOf75⟩ <|
  Tab.ok.cons (d := _) (T := _) ⟨Try.underlying76, Try.isAgg76, Try.sizeOf76⟩ <|
  Tab.ok.cons (d := _) (T := _) ⟨Try.underlying77, Try.isAgg77, Try.sizeOf77⟩ <|
  Tab.ok.cons (d := _) (T := _) ⟨Try.underlying78, Try.isAgg78, Try.sizeOf78⟩ <|
  Tab.ok.cons (d := _) (T := _) ⟨Try.underlying79, Try.isAgg79, Try.sizeOf79⟩ <|
  Tab.ok.cons (d := _) (T := _) ⟨Try.underlying80, Try.isAgg80, Try.sizeOf80⟩ <|
  Tab.ok.cons (d := _) (T := _) ⟨Try.underlying81, Try.isAgg81, Try.sizeOf81⟩ <|
  Tab.ok.cons (d := _) (T := _) ⟨Try.underlying82, Try.isAgg82, Try.sizeOf82⟩ <|
  Tab.ok.cons (d := _) (T := _) ⟨Try.underlying83, Try.isAgg83, Try.sizeOf83⟩ <|
  Tab.ok.cons (d := _) (T := _) ⟨Try.underlying84, Try.isAgg84, Try.sizeOf84⟩ <|
  Tab.ok.cons (d := _) (T := _) ⟨Try.underlying86, Try.isAgg86, Try.sizeOf86⟩ <|
  Tab.ok.cons (d := _) (T := _) ⟨Try.underlying87, Try.isAgg87, Try.sizeOf87⟩ <|
  Tab.ok.cons (d := _) (T := _) ⟨Try.underlying88, Try.isAgg88, Try.sizeOf88⟩ <|
  Tab.ok.cons (d := _) (T := _) ⟨Try.underlying89, Try.isAgg89, Try.sizeOf89⟩ <|
  Tab.ok.cons (d := _) (T := _) ⟨Try.underlying90, Try.isAgg90, Try.sizeOf90⟩ <|
  Tab.ok.cons (d := _) (T := _) ⟨Try.underlying92, Try.isAgg92, Try.sizeOf92⟩ <|
  Tab.ok.cons (d := _) (T := _) ⟨Try.underlying93, Try.isAgg93, Try.sizeOf93⟩ <|
  Tab.ok.cons (d := _) (T := _) ⟨Try.underlying94, Try.isAgg94, Try.sizeOf94⟩ <|
  Tab.ok.cons (d := _) (T := _) ⟨Try.underlying95, Try.isAgg95, Try.sizeOf95⟩ <|
  Tab.ok.cons (d := _) (T := _) ⟨Try.underlying96, Try.isAgg96, Try.sizeOf96⟩ <|
  Tab.ok.cons (d := _) (T := _) ⟨Try.underlying97, Try.isAgg97, Try.sizeOf97⟩ <|
  Tab.ok.cons (d := _) (T := _) ⟨Try.underlying98, Try.isAgg98, Try.sizeOf98⟩ <|
  Tab.ok.cons (d := _) (T := _) ⟨Try.underlying99, Try.isAgg99, Try.sizeOf99⟩ <|
  Tab.ok.cons (d := _) (T := _) ⟨Try.underlying100, Try.isAgg100, Try.sizeOf100⟩ <|
  Tab.ok.cons (d := _) (T := _) ⟨Try.underlying101, Try.isAgg101, Try.sizeOf101⟩ <|
  Tab.ok.cons (d := _) (T := _) ⟨Try.underlying102, Try.isAgg102, Try.sizeOf102⟩ <|
  Tab.ok.cons (d := _) (T := _) ⟨Try.underlying103, Try.isAgg103, Try.sizeOf103⟩ <|
  Tab.ok.cons (d := _) (T := _) ⟨Try.underlying104, Try.isAgg104, Try.sizeOf104⟩ <|
  Tab.ok.cons (d := _) (T := _) ⟨Try.underlying105, Try.isAgg105, Try.sizeOf105⟩ <|
  Tab.ok.cons (d := _) (T := _) ⟨Try.underlying106, Try.isAgg106, Try.sizeOf106⟩ <|
  Tab.ok.cons (d := _) (T := _) ⟨Try.underlying108, Try.isAgg108, Try.sizeOf108⟩ <|
  Tab.ok.cons (d := _) (T := _) ⟨Try.underlying109, Try.isAgg109, Try.sizeOf109⟩ <|
  Tab.ok.cons (d := _) (T := _) ⟨⟨_, Try.underlying110, (.cons rfl Try.sizeOf17 (.cons rfl Try.sizeOf17 (.cons rfl Try.sizeOf17 (.cons rfl Try.sizeOf9 .nil))))⟩, Try.isAgg110, Try.sizeOf110⟩ <|
  Tab.ok.cons (d := _) (T := _) ⟨⟨_, Try.underlying111, (.cons rfl Try.sizeOf17 (.cons rfl Try.sizeOf17 (.cons rfl Try.sizeOf17 (.cons rfl Try.sizeOf9 .nil))))⟩, Try.isAgg111, Try.sizeOf111⟩ <|
  Tab.ok.cons (d := _) (T := _) ⟨Try.underlying112, Try.sizeOf16, Try.isAgg112, Try.sizeOf112⟩ <|
  Tab.ok.cons (d := _) (T := _) ⟨Try.underlying115, Try.isAgg115, Try.sizeOf115⟩ <|
  Tab.ok.cons (d := _) (T := _) ⟨Try.underlying116, Try.isAgg116, Try.sizeOf116⟩ <|
  Tab.ok.cons (d := _) (T := _) ⟨Try.underlying117, Try.isAgg117, Try.sizeOf117⟩ <|
  Tab.ok.cons (d := _) (T := _) ⟨Try.underlying118, Try.isAgg118, Try.sizeOf118⟩ <|
  Tab.ok.cons (d := _) (T := _) ⟨Try.underlying119, Try.isAgg119, Try.sizeOf119⟩ <|
  Tab.ok.cons (d := _) (T := _) ⟨Try.underlying120, Try.isAgg120, Try.sizeOf120⟩ <|
  Tab.ok.cons (d := _) (T := _) ⟨Try.underlying121, Try.isAgg121, Try.sizeOf121⟩ <|
  Tab.ok.cons (d := _) (T := _) ⟨⟨_, Try.underlying122, (.cons rfl Try.sizeOf12 (.cons rfl Try.sizeOf12 (.cons rfl Try.sizeOf98 (.cons rfl Try.sizeOf116 (.cons rfl Try.sizeOf5 (.cons rfl Try.sizeOf5 (.cons rfl Try.sizeOf117 (.cons rfl Try.sizeOf118 (.cons rfl Try.sizeOf119 (.cons rfl Try.sizeOf120 (.cons rfl Try.sizeOf121 .nil)))))))))))⟩, Try.isAgg122, Try.sizeOf122⟩ <|
  Tab.ok.cons (d := _) (T := _) ⟨⟨_, Try.underlying123, (.cons rfl Try.sizeOf12 (.cons rfl Try.sizeOf12 (.cons rfl Try.sizeOf98 (.cons rfl Try.sizeOf116 (.cons rfl Try.sizeOf5 (.cons rfl Try.sizeOf5 (.cons rfl Try.sizeOf117 (.cons rfl Try.sizeOf118 (.cons rfl Try.sizeOf119 (.cons rfl Try.sizeOf120 (.cons rfl Try.sizeOf121 .nil)))))))))))⟩, Try.isAgg123, Try.sizeOf123⟩ <|
  Tab.ok.cons (d := _) (T := _) ⟨Try.underlying124, Try.isAgg124, Try.sizeOf124⟩ <|
  Tab.ok.nil
theorem el22 : Elem Try.prog 22 42 35 := ⟨Try.underlying22, Try.sizeOf42, ⟨Try.t42, Try.typeInfo42, by decide, by decide⟩, ⟨_, Try.zeroValue42, rfl⟩⟩
theorem el29 : Elem Try.prog 29 5 1 := ⟨Try.underlying29, Try.sizeOf5, ⟨Try.t5, Try.typeInfo5, by decide, by decide⟩, ⟨_, Try.zeroValue5, rfl⟩⟩
theorem el46 : Elem Try.prog 46 3 1 := ⟨Try.underlying46, Try.sizeOf3, ⟨Try.t3, Try.typeInfo3, by decide, by decide⟩, ⟨_, Try.zeroValue3, rfl⟩⟩
theorem el57 : Elem Try.prog 57 9 1 := ⟨Try.underlying57, Try.sizeOf9, ⟨Try.t9, Try.typeInfo9, by decide, by decide⟩, ⟨_, Try.zeroValue9, rfl⟩⟩
theorem el58 : Elem Try.prog 58 4 1 := ⟨Try.underlying58, Try.sizeOf4, ⟨Try.t4, Try.typeInfo4, by decide, by decide⟩, ⟨_, Try.zeroValue4, rfl⟩⟩
theorem mixed : Try.prog.follows .mixedOrders = true := by kernel_rfl
end Go.Proofs.Ytpijialhhdpobaa.Sx
