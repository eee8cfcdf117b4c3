/-
  No cell of these rows narrows 'for every input' (looked for: loops, veiled, ifaces, maps, wideKeys, modest, calm, conditions, laid).
  DERIVED. THE GIVEN ROWS OF THIS SEAT. 6 by the template 'for every input the law returns true; each argument reads behind the call as it read before'; 0 by the template 'total and deterministic' (their statements: YtpijialhhdpobaaTotals.lean).
  GIVEN WITH THE SEED: the statements are not yours to turn. If you find one false, say at which input.
  Laid BY PROGRAM, IN A SANDBOX (cutbox-rows.mjs): the forced cells as the released guide's own fill.sh prints them over the translation 9bf8e0df37977e05… (all of the seat's roots in one cut). By AI agents, Wed Nov 11 2026. No macro, syntax, notation, axiom, sorry.
-/
import Derived.Test.YtpijialhhdpobaaChecked
import GoSem.Claim
import GoSem.ClaimJoined
import GoSem.ClaimMapViews
import Derived.JoinedTies
import Derived.KernelRfl
namespace Go.Proofs.Ytpijialhhdpobaa
/- THE CELL 'sum', in the pinned program and in every row, IS THE sha256 OF THE DUMP (.gsa) THAT YtpijialhhdpobaaProg.lean LOADS. Nothing in Lean hashes anything: it is a label: what it is worth is what the hold of that sum in a sandbox is worth. -/
noncomputable def Try.pinned : Pinned := { name := "ytpijialhhdpobaa", sum := "9bf8e0df37977e058692d32ae43c058c1a1787cc6a5fb6c1fa1f88fc34576b60", checked := Try.checked }
namespace Rows
def none {H : Type} : Left H := { results := [], args := [] }

/-- 'engrosslaw20.CatAll': WHATEVER THE INPUT: true; the input reads as it did. -/
def catAllSpec : ChangeSpec := { name := "catAll", fn := fun _ => fun
  | [d1, d2] => { results := [.lit (.bool true)], args := [d1, d2] }
  | _ => none }
def catAllRow : OpenClaim := { program := "ytpijialhhdpobaa", sum := "9bf8e0df37977e058692d32ae43c058c1a1787cc6a5fb6c1fa1f88fc34576b60", func := "engross/engrosslaw20.CatAll", spec := "catAll", unfollowed := true, recurses := true, apart := false }
def CatAllSaid : Prop := catAllRow.holds Try.pinned (OpenSpec.ofChange catAllSpec)

/-- ITS FALSE NEIGHBOUR: 'it returns false'. Refute it at one input. -/
def catAllWrong : ChangeSpec := { name := "catAll", fn := fun _ => fun
  | [d1, d2] => { results := [.lit (.bool false)], args := [d1, d2] }
  | _ => none }
def CatAllWrongFalsely : Prop := catAllRow.holds Try.pinned (OpenSpec.ofChange catAllWrong)

/-- 'engrosslaw20.CatAny': WHATEVER THE INPUT: true; the input reads as it did. -/
def catAnySpec : ChangeSpec := { name := "catAny", fn := fun _ => fun
  | [d1, d2, d3, d4] => { results := [.lit (.bool true)], args := [d1, d2, d3, d4] }
  | _ => none }
def catAnyRow : OpenClaim := { program := "ytpijialhhdpobaa", sum := "9bf8e0df37977e058692d32ae43c058c1a1787cc6a5fb6c1fa1f88fc34576b60", func := "engross/engrosslaw20.CatAny", spec := "catAny", unfollowed := true, recurses := true, apart := false }
def CatAnySaid : Prop := catAnyRow.holds Try.pinned (OpenSpec.ofChange catAnySpec)

/-- ITS FALSE NEIGHBOUR: 'it returns false'. Refute it at one input. -/
def catAnyWrong : ChangeSpec := { name := "catAny", fn := fun _ => fun
  | [d1, d2, d3, d4] => { results := [.lit (.bool false)], args := [d1, d2, d3, d4] }
  | _ => none }
def CatAnyWrongFalsely : Prop := catAnyRow.holds Try.pinned (OpenSpec.ofChange catAnyWrong)

/-- 'engrosslaw20.CatNames': WHATEVER THE INPUT: true; the input reads as it did. -/
def catNamesSpec : ChangeSpec := { name := "catNames", fn := fun _ => fun
  | [d1, d2] => { results := [.lit (.bool true)], args := [d1, d2] }
  | _ => none }
def catNamesRow : OpenClaim := { program := "ytpijialhhdpobaa", sum := "9bf8e0df37977e058692d32ae43c058c1a1787cc6a5fb6c1fa1f88fc34576b60", func := "engross/engrosslaw20.CatNames", spec := "catNames", unfollowed := true, recurses := true, apart := false }
def CatNamesSaid : Prop := catNamesRow.holds Try.pinned (OpenSpec.ofChange catNamesSpec)

/-- ITS FALSE NEIGHBOUR: 'it returns false'. Refute it at one input. -/
def catNamesWrong : ChangeSpec := { name := "catNames", fn := fun _ => fun
  | [d1, d2] => { results := [.lit (.bool false)], args := [d1, d2] }
  | _ => none }
def CatNamesWrongFalsely : Prop := catNamesRow.holds Try.pinned (OpenSpec.ofChange catNamesWrong)

/-- 'engrosslaw20.CatIds': WHATEVER THE INPUT: true; the input reads as it did. -/
def catIdsSpec : ChangeSpec := { name := "catIds", fn := fun _ => fun
  | [d1, d2] => { results := [.lit (.bool true)], args := [d1, d2] }
  | _ => none }
def catIdsRow : OpenClaim := { program := "ytpijialhhdpobaa", sum := "9bf8e0df37977e058692d32ae43c058c1a1787cc6a5fb6c1fa1f88fc34576b60", func := "engross/engrosslaw20.CatIds", spec := "catIds", unfollowed := true, recurses := true, apart := false }
def CatIdsSaid : Prop := catIdsRow.holds Try.pinned (OpenSpec.ofChange catIdsSpec)

/-- ITS FALSE NEIGHBOUR: 'it returns false'. Refute it at one input. -/
def catIdsWrong : ChangeSpec := { name := "catIds", fn := fun _ => fun
  | [d1, d2] => { results := [.lit (.bool false)], args := [d1, d2] }
  | _ => none }
def CatIdsWrongFalsely : Prop := catIdsRow.holds Try.pinned (OpenSpec.ofChange catIdsWrong)

/-- 'engrosslaw20.CatTwins': WHATEVER THE INPUT: true; the input reads as it did. -/
def catTwinsSpec : ChangeSpec := { name := "catTwins", fn := fun _ => fun
  | [d1, d2, d3, d4] => { results := [.lit (.bool true)], args := [d1, d2, d3, d4] }
  | _ => none }
def catTwinsRow : OpenClaim := { program := "ytpijialhhdpobaa", sum := "9bf8e0df37977e058692d32ae43c058c1a1787cc6a5fb6c1fa1f88fc34576b60", func := "engross/engrosslaw20.CatTwins", spec := "catTwins", unfollowed := true, recurses := true, apart := false }
def CatTwinsSaid : Prop := catTwinsRow.holds Try.pinned (OpenSpec.ofChange catTwinsSpec)

/-- ITS FALSE NEIGHBOUR: 'it returns false'. Refute it at one input. -/
def catTwinsWrong : ChangeSpec := { name := "catTwins", fn := fun _ => fun
  | [d1, d2, d3, d4] => { results := [.lit (.bool false)], args := [d1, d2, d3, d4] }
  | _ => none }
def CatTwinsWrongFalsely : Prop := catTwinsRow.holds Try.pinned (OpenSpec.ofChange catTwinsWrong)

/-- 'engrosslaw20.CatTake': WHATEVER THE INPUT: true; the input reads as it did. -/
def catTakeSpec : ChangeSpec := { name := "catTake", fn := fun _ => fun
  | [d] => { results := [.lit (.bool true)], args := [d] }
  | _ => none }
def catTakeRow : OpenClaim := { program := "ytpijialhhdpobaa", sum := "9bf8e0df37977e058692d32ae43c058c1a1787cc6a5fb6c1fa1f88fc34576b60", func := "engross/engrosslaw20.CatTake", spec := "catTake", unfollowed := true, recurses := true, apart := false }
def CatTakeSaid : Prop := catTakeRow.holds Try.pinned (OpenSpec.ofChange catTakeSpec)

/-- ITS FALSE NEIGHBOUR: 'it returns false'. Refute it at one input. -/
def catTakeWrong : ChangeSpec := { name := "catTake", fn := fun _ => fun
  | [d] => { results := [.lit (.bool false)], args := [d] }
  | _ => none }
def CatTakeWrongFalsely : Prop := catTakeRow.holds Try.pinned (OpenSpec.ofChange catTakeWrong)

/- THE SECOND FORM. 'bulk': how many values and letters a reading holds, each counted each time it is reached (what is shared counts as often as it is met; a slice's spare places count too). A statement '..UptoSaid' is the law's where the arguments, and the package variables that the reading takes, are together of bulk at most 1048576: NARROWER than '..Said'. Prove '..Said' where nothing that the law and all that it calls make is longer than what came in: it says more and counts as full. Else prove '..UptoSaid'. A law counts once. -/
mutual
def uptoBulk {H : Type} : DataW H → Nat
  | .lit (.string bytes) => bytes.length + 1
  | .lit _ => 1
  | .nil => 1
  | .ptr d => uptoBulk d + 1
  | .slice elems spare => uptoBulkAll elems + uptoBulkAll spare + 1
  | .agg parts => uptoBulkAll parts + 1
  | .iface _ d => uptoBulk d + 1
  | .map entries => uptoBulkEntries entries + 1
  | .held _ => 1
def uptoBulkAll {H : Type} : List (DataW H) → Nat
  | [] => 0
  | d :: r => uptoBulk d + uptoBulkAll r
def uptoBulkEntries {H : Type} : List (Lit × DataW H) → Nat
  | [] => 0
  | x :: r => uptoBulkEntry x + uptoBulkEntries r
def uptoBulkEntry {H : Type} : Lit × DataW H → Nat
  | (.string bytes, d) => bytes.length + uptoBulk d + 1
  | (_, d) => uptoBulk d + 1
 end
def uptoSmall : (H : Type) → List (DataW H) → Bool := fun _ ds => decide (uptoBulkAll ds ≤ 1048576)
def OpenSpec.upto (s : _root_.Go.ChangeSpec) : _root_.Go.OpenSpec := { _root_.Go.OpenSpec.ofChange s with cond := some uptoSmall }

/-- 'engrosslaw20.CatAll', WHERE WHAT IT READS IS OF BULK AT MOST 1048576: true; the input reads as it did. -/
def catAllUptoRow : OpenClaim := { program := "ytpijialhhdpobaa", sum := "9bf8e0df37977e058692d32ae43c058c1a1787cc6a5fb6c1fa1f88fc34576b60", func := "engross/engrosslaw20.CatAll", spec := "catAll", unfollowed := true, recurses := true, apart := false, narrowed := true }
def CatAllUptoSaid : Prop := catAllUptoRow.holds Try.pinned (OpenSpec.upto catAllSpec)

/-- 'engrosslaw20.CatAny', WHERE WHAT IT READS IS OF BULK AT MOST 1048576: true; the input reads as it did. -/
def catAnyUptoRow : OpenClaim := { program := "ytpijialhhdpobaa", sum := "9bf8e0df37977e058692d32ae43c058c1a1787cc6a5fb6c1fa1f88fc34576b60", func := "engross/engrosslaw20.CatAny", spec := "catAny", unfollowed := true, recurses := true, apart := false, narrowed := true }
def CatAnyUptoSaid : Prop := catAnyUptoRow.holds Try.pinned (OpenSpec.upto catAnySpec)

/-- 'engrosslaw20.CatNames', WHERE WHAT IT READS IS OF BULK AT MOST 1048576: true; the input reads as it did. -/
def catNamesUptoRow : OpenClaim := { program := "ytpijialhhdpobaa", sum := "9bf8e0df37977e058692d32ae43c058c1a1787cc6a5fb6c1fa1f88fc34576b60", func := "engross/engrosslaw20.CatNames", spec := "catNames", unfollowed := true, recurses := true, apart := false, narrowed := true }
def CatNamesUptoSaid : Prop := catNamesUptoRow.holds Try.pinned (OpenSpec.upto catNamesSpec)

/-- 'engrosslaw20.CatIds', WHERE WHAT IT READS IS OF BULK AT MOST 1048576: true; the input reads as it did. -/
def catIdsUptoRow : OpenClaim := { program := "ytpijialhhdpobaa", sum := "9bf8e0df37977e058692d32ae43c058c1a1787cc6a5fb6c1fa1f88fc34576b60", func := "engross/engrosslaw20.CatIds", spec := "catIds", unfollowed := true, recurses := true, apart := false, narrowed := true }
def CatIdsUptoSaid : Prop := catIdsUptoRow.holds Try.pinned (OpenSpec.upto catIdsSpec)

/-- 'engrosslaw20.CatTwins', WHERE WHAT IT READS IS OF BULK AT MOST 1048576: true; the input reads as it did. -/
def catTwinsUptoRow : OpenClaim := { program := "ytpijialhhdpobaa", sum := "9bf8e0df37977e058692d32ae43c058c1a1787cc6a5fb6c1fa1f88fc34576b60", func := "engross/engrosslaw20.CatTwins", spec := "catTwins", unfollowed := true, recurses := true, apart := false, narrowed := true }
def CatTwinsUptoSaid : Prop := catTwinsUptoRow.holds Try.pinned (OpenSpec.upto catTwinsSpec)

/-- 'engrosslaw20.CatTake', WHERE WHAT IT READS IS OF BULK AT MOST 1048576: true; the input reads as it did. -/
def catTakeUptoRow : OpenClaim := { program := "ytpijialhhdpobaa", sum := "9bf8e0df37977e058692d32ae43c058c1a1787cc6a5fb6c1fa1f88fc34576b60", func := "engross/engrosslaw20.CatTake", spec := "catTake", unfollowed := true, recurses := true, apart := false, narrowed := true }
def CatTakeUptoSaid : Prop := catTakeUptoRow.holds Try.pinned (OpenSpec.upto catTakeSpec)

end Rows
end Go.Proofs.Ytpijialhhdpobaa
