/-
  No cell of these rows narrows 'for every input' (looked for: loops, veiled, ifaces, maps, wideKeys, modest, calm, conditions, laid).
  DERIVED. THE GIVEN ROWS OF THIS SEAT. 11 by the template 'for every input the law returns true; each argument reads behind the call as it read before'; 0 by the template 'total and deterministic' (their statements: YtihpkgmfkbkffaaGreatTotals.lean).
  GIVEN WITH THE SEED: the statements are not yours to turn. If you find one false, say at which input.
  Laid BY PROGRAM, IN A SANDBOX (cutbox-rows.mjs): the forced cells as the released guide's own fill.sh prints them over the translation 08fd1d4d03b5e638… (all of the seat's roots in one cut). By AI agents, Wed Nov 11 2026. No macro, syntax, notation, axiom, sorry.
-/
import Derived.Test.YtihpkgmfkbkffaaGreatChecked
import GoSem.Claim
import GoSem.ClaimJoined
import GoSem.ClaimMapViews
import Derived.JoinedTies
import Derived.KernelRfl
namespace Go.Proofs.YtihpkgmfkbkffaaGreat
/- THE CELL 'sum', in the pinned program and in every row, IS THE sha256 OF THE DUMP (.gsa) THAT YtihpkgmfkbkffaaGreatProg.lean LOADS. Nothing in Lean hashes anything: it is a label: what it is worth is what the hold of that sum in a sandbox is worth. -/
noncomputable def Tryz.pinned : Pinned := { name := "ytihpkgmfkbkffaagreat", sum := "08fd1d4d03b5e638b0c030b112906534f3b8481cc92fcea7e4dec21a971113c5", checked := Tryz.checked }
namespace Rows
def none {H : Type} : Left H := { results := [], args := [] }

/-- 'engrosslaw15.VersAgree': WHATEVER THE INPUT: true; the input reads as it did. -/
def versAgreeSpec : ChangeSpec := { name := "versAgree", fn := fun _ => fun
  | [d1, d2, d3] => { results := [.lit (.bool true)], args := [d1, d2, d3] }
  | _ => none }
def versAgreeRow : OpenClaim := { program := "ytihpkgmfkbkffaagreat", sum := "08fd1d4d03b5e638b0c030b112906534f3b8481cc92fcea7e4dec21a971113c5", func := "engross/engrosslaw15.VersAgree", spec := "versAgree", inPlace := ["math.Float64bits", "math.Float64frombits", "internal/bytealg.abigen_runtime_cmpstring", "slices.overlaps[engross/cell.Cell]", "slices.overlaps[string]", "slices.overlaps[int]"], unfollowed := true, recurses := true, apart := false }
def VersAgreeSaid : Prop := versAgreeRow.holds Tryz.pinned (OpenSpec.ofChange versAgreeSpec)

/-- ITS FALSE NEIGHBOUR: 'it returns false'. Refute it at one input. -/
def versAgreeWrong : ChangeSpec := { name := "versAgree", fn := fun _ => fun
  | [d1, d2, d3] => { results := [.lit (.bool false)], args := [d1, d2, d3] }
  | _ => none }
def VersAgreeWrongFalsely : Prop := versAgreeRow.holds Tryz.pinned (OpenSpec.ofChange versAgreeWrong)

/-- 'engrosslaw15.VersNothing': WHATEVER THE INPUT: true; the input reads as it did. -/
def versNothingSpec : ChangeSpec := { name := "versNothing", fn := fun _ => fun
  | [d] => { results := [.lit (.bool true)], args := [d] }
  | _ => none }
def versNothingRow : OpenClaim := { program := "ytihpkgmfkbkffaagreat", sum := "08fd1d4d03b5e638b0c030b112906534f3b8481cc92fcea7e4dec21a971113c5", func := "engross/engrosslaw15.VersNothing", spec := "versNothing", inPlace := ["math.Float64bits", "math.Float64frombits", "internal/bytealg.abigen_runtime_cmpstring", "slices.overlaps[engross/cell.Cell]", "slices.overlaps[string]", "slices.overlaps[int]"], unfollowed := true, recurses := true, apart := false }
def VersNothingSaid : Prop := versNothingRow.holds Tryz.pinned (OpenSpec.ofChange versNothingSpec)

/-- ITS FALSE NEIGHBOUR: 'it returns false'. Refute it at one input. -/
def versNothingWrong : ChangeSpec := { name := "versNothing", fn := fun _ => fun
  | [d] => { results := [.lit (.bool false)], args := [d] }
  | _ => none }
def VersNothingWrongFalsely : Prop := versNothingRow.holds Tryz.pinned (OpenSpec.ofChange versNothingWrong)

/-- 'engrosslaw15.VersClean': WHATEVER THE INPUT: true; the input reads as it did. -/
def versCleanSpec : ChangeSpec := { name := "versClean", fn := fun _ => fun
  | [d1, d2] => { results := [.lit (.bool true)], args := [d1, d2] }
  | _ => none }
def versCleanRow : OpenClaim := { program := "ytihpkgmfkbkffaagreat", sum := "08fd1d4d03b5e638b0c030b112906534f3b8481cc92fcea7e4dec21a971113c5", func := "engross/engrosslaw15.VersClean", spec := "versClean", inPlace := ["math.Float64bits", "math.Float64frombits", "internal/bytealg.abigen_runtime_cmpstring", "slices.overlaps[engross/cell.Cell]", "slices.overlaps[string]", "slices.overlaps[int]"], unfollowed := true, recurses := true, apart := false }
def VersCleanSaid : Prop := versCleanRow.holds Tryz.pinned (OpenSpec.ofChange versCleanSpec)

/-- ITS FALSE NEIGHBOUR: 'it returns false'. Refute it at one input. -/
def versCleanWrong : ChangeSpec := { name := "versClean", fn := fun _ => fun
  | [d1, d2] => { results := [.lit (.bool false)], args := [d1, d2] }
  | _ => none }
def VersCleanWrongFalsely : Prop := versCleanRow.holds Tryz.pinned (OpenSpec.ofChange versCleanWrong)

/-- 'engrosslaw15.VersUndo': WHATEVER THE INPUT: true; the input reads as it did. -/
def versUndoSpec : ChangeSpec := { name := "versUndo", fn := fun _ => fun
  | [d1, d2, d3] => { results := [.lit (.bool true)], args := [d1, d2, d3] }
  | _ => none }
def versUndoRow : OpenClaim := { program := "ytihpkgmfkbkffaagreat", sum := "08fd1d4d03b5e638b0c030b112906534f3b8481cc92fcea7e4dec21a971113c5", func := "engross/engrosslaw15.VersUndo", spec := "versUndo", inPlace := ["math.Float64bits", "math.Float64frombits", "internal/bytealg.abigen_runtime_cmpstring", "slices.overlaps[engross/cell.Cell]", "slices.overlaps[string]", "slices.overlaps[int]"], unfollowed := true, recurses := true, apart := false }
def VersUndoSaid : Prop := versUndoRow.holds Tryz.pinned (OpenSpec.ofChange versUndoSpec)

/-- ITS FALSE NEIGHBOUR: 'it returns false'. Refute it at one input. -/
def versUndoWrong : ChangeSpec := { name := "versUndo", fn := fun _ => fun
  | [d1, d2, d3] => { results := [.lit (.bool false)], args := [d1, d2, d3] }
  | _ => none }
def VersUndoWrongFalsely : Prop := versUndoRow.holds Tryz.pinned (OpenSpec.ofChange versUndoWrong)

/-- 'engrosslaw15.VersBusy': WHATEVER THE INPUT: true; the input reads as it did. -/
def versBusySpec : ChangeSpec := { name := "versBusy", fn := fun _ => fun
  | [d1, d2] => { results := [.lit (.bool true)], args := [d1, d2] }
  | _ => none }
def versBusyRow : OpenClaim := { program := "ytihpkgmfkbkffaagreat", sum := "08fd1d4d03b5e638b0c030b112906534f3b8481cc92fcea7e4dec21a971113c5", func := "engross/engrosslaw15.VersBusy", spec := "versBusy", inPlace := ["math.Float64bits", "math.Float64frombits", "internal/bytealg.abigen_runtime_cmpstring", "slices.overlaps[engross/cell.Cell]", "slices.overlaps[string]", "slices.overlaps[int]"], unfollowed := true, recurses := true, apart := false }
def VersBusySaid : Prop := versBusyRow.holds Tryz.pinned (OpenSpec.ofChange versBusySpec)

/-- ITS FALSE NEIGHBOUR: 'it returns false'. Refute it at one input. -/
def versBusyWrong : ChangeSpec := { name := "versBusy", fn := fun _ => fun
  | [d1, d2] => { results := [.lit (.bool false)], args := [d1, d2] }
  | _ => none }
def VersBusyWrongFalsely : Prop := versBusyRow.holds Tryz.pinned (OpenSpec.ofChange versBusyWrong)

/-- 'engrosslaw15.VersAll': WHATEVER THE INPUT: true; the input reads as it did. -/
def versAllSpec : ChangeSpec := { name := "versAll", fn := fun _ => fun
  | [d] => { results := [.lit (.bool true)], args := [d] }
  | _ => none }
def versAllRow : OpenClaim := { program := "ytihpkgmfkbkffaagreat", sum := "08fd1d4d03b5e638b0c030b112906534f3b8481cc92fcea7e4dec21a971113c5", func := "engross/engrosslaw15.VersAll", spec := "versAll", inPlace := ["math.Float64bits", "math.Float64frombits", "internal/bytealg.abigen_runtime_cmpstring", "slices.overlaps[engross/cell.Cell]", "slices.overlaps[string]", "slices.overlaps[int]"], unfollowed := true, recurses := true, apart := false }
def VersAllSaid : Prop := versAllRow.holds Tryz.pinned (OpenSpec.ofChange versAllSpec)

/-- ITS FALSE NEIGHBOUR: 'it returns false'. Refute it at one input. -/
def versAllWrong : ChangeSpec := { name := "versAll", fn := fun _ => fun
  | [d] => { results := [.lit (.bool false)], args := [d] }
  | _ => none }
def VersAllWrongFalsely : Prop := versAllRow.holds Tryz.pinned (OpenSpec.ofChange versAllWrong)

/-- 'engrosslaw15.VersTwo': WHATEVER THE INPUT: true; the input reads as it did. -/
def versTwoSpec : ChangeSpec := { name := "versTwo", fn := fun _ => fun
  | [d1, d2, d3, d4, d5] => { results := [.lit (.bool true)], args := [d1, d2, d3, d4, d5] }
  | _ => none }
def versTwoRow : OpenClaim := { program := "ytihpkgmfkbkffaagreat", sum := "08fd1d4d03b5e638b0c030b112906534f3b8481cc92fcea7e4dec21a971113c5", func := "engross/engrosslaw15.VersTwo", spec := "versTwo", inPlace := ["math.Float64bits", "math.Float64frombits", "internal/bytealg.abigen_runtime_cmpstring", "slices.overlaps[engross/cell.Cell]", "slices.overlaps[string]", "slices.overlaps[int]"], unfollowed := true, recurses := true, apart := false }
def VersTwoSaid : Prop := versTwoRow.holds Tryz.pinned (OpenSpec.ofChange versTwoSpec)

/-- ITS FALSE NEIGHBOUR: 'it returns false'. Refute it at one input. -/
def versTwoWrong : ChangeSpec := { name := "versTwo", fn := fun _ => fun
  | [d1, d2, d3, d4, d5] => { results := [.lit (.bool false)], args := [d1, d2, d3, d4, d5] }
  | _ => none }
def VersTwoWrongFalsely : Prop := versTwoRow.holds Tryz.pinned (OpenSpec.ofChange versTwoWrong)

/-- 'engrosslaw22.ViewPages': WHATEVER THE INPUT: true; the input reads as it did. -/
def viewPagesSpec : ChangeSpec := { name := "viewPages", fn := fun _ => fun
  | [d1, d2] => { results := [.lit (.bool true)], args := [d1, d2] }
  | _ => none }
def viewPagesRow : OpenClaim := { program := "ytihpkgmfkbkffaagreat", sum := "08fd1d4d03b5e638b0c030b112906534f3b8481cc92fcea7e4dec21a971113c5", func := "engross/engrosslaw22.ViewPages", spec := "viewPages", inPlace := ["math.Float64bits", "math.Float64frombits", "internal/bytealg.abigen_runtime_cmpstring", "slices.overlaps[engross/cell.Cell]", "slices.overlaps[string]", "slices.overlaps[int]"], unfollowed := true, recurses := true, apart := false }
def ViewPagesSaid : Prop := viewPagesRow.holds Tryz.pinned (OpenSpec.ofChange viewPagesSpec)

/-- ITS FALSE NEIGHBOUR: 'it returns false'. Refute it at one input. -/
def viewPagesWrong : ChangeSpec := { name := "viewPages", fn := fun _ => fun
  | [d1, d2] => { results := [.lit (.bool false)], args := [d1, d2] }
  | _ => none }
def ViewPagesWrongFalsely : Prop := viewPagesRow.holds Tryz.pinned (OpenSpec.ofChange viewPagesWrong)

/-- 'engrosslaw22.ViewNone': WHATEVER THE INPUT: true; the input reads as it did. -/
def viewNoneSpec : ChangeSpec := { name := "viewNone", fn := fun _ => fun
  | [] => { results := [.lit (.bool true)], args := [] }
  | _ => none }
def viewNoneRow : OpenClaim := { program := "ytihpkgmfkbkffaagreat", sum := "08fd1d4d03b5e638b0c030b112906534f3b8481cc92fcea7e4dec21a971113c5", func := "engross/engrosslaw22.ViewNone", spec := "viewNone", inPlace := ["math.Float64bits", "math.Float64frombits", "internal/bytealg.abigen_runtime_cmpstring", "slices.overlaps[engross/cell.Cell]", "slices.overlaps[string]", "slices.overlaps[int]"], unfollowed := true, recurses := true, apart := false }
def ViewNoneSaid : Prop := viewNoneRow.holds Tryz.pinned (OpenSpec.ofChange viewNoneSpec)

/-- ITS FALSE NEIGHBOUR: 'it returns false'. Refute it at one input. -/
def viewNoneWrong : ChangeSpec := { name := "viewNone", fn := fun _ => fun
  | [] => { results := [.lit (.bool false)], args := [] }
  | _ => none }
def ViewNoneWrongFalsely : Prop := viewNoneRow.holds Tryz.pinned (OpenSpec.ofChange viewNoneWrong)

/-- 'engrosslaw22.ViewOpen': WHATEVER THE INPUT: true; the input reads as it did. -/
def viewOpenSpec : ChangeSpec := { name := "viewOpen", fn := fun _ => fun
  | [d1, d2, d3] => { results := [.lit (.bool true)], args := [d1, d2, d3] }
  | _ => none }
def viewOpenRow : OpenClaim := { program := "ytihpkgmfkbkffaagreat", sum := "08fd1d4d03b5e638b0c030b112906534f3b8481cc92fcea7e4dec21a971113c5", func := "engross/engrosslaw22.ViewOpen", spec := "viewOpen", inPlace := ["math.Float64bits", "math.Float64frombits", "internal/bytealg.abigen_runtime_cmpstring", "slices.overlaps[engross/cell.Cell]", "slices.overlaps[string]", "slices.overlaps[int]"], unfollowed := true, recurses := true, apart := false }
def ViewOpenSaid : Prop := viewOpenRow.holds Tryz.pinned (OpenSpec.ofChange viewOpenSpec)

/-- ITS FALSE NEIGHBOUR: 'it returns false'. Refute it at one input. -/
def viewOpenWrong : ChangeSpec := { name := "viewOpen", fn := fun _ => fun
  | [d1, d2, d3] => { results := [.lit (.bool false)], args := [d1, d2, d3] }
  | _ => none }
def ViewOpenWrongFalsely : Prop := viewOpenRow.holds Tryz.pinned (OpenSpec.ofChange viewOpenWrong)

/-- 'engrosslaw22.ViewTree': WHATEVER THE INPUT: true; the input reads as it did. -/
def viewTreeSpec : ChangeSpec := { name := "viewTree", fn := fun _ => fun
  | [d1, d2] => { results := [.lit (.bool true)], args := [d1, d2] }
  | _ => none }
def viewTreeRow : OpenClaim := { program := "ytihpkgmfkbkffaagreat", sum := "08fd1d4d03b5e638b0c030b112906534f3b8481cc92fcea7e4dec21a971113c5", func := "engross/engrosslaw22.ViewTree", spec := "viewTree", inPlace := ["math.Float64bits", "math.Float64frombits", "internal/bytealg.abigen_runtime_cmpstring", "slices.overlaps[engross/cell.Cell]", "slices.overlaps[string]", "slices.overlaps[int]"], unfollowed := true, recurses := true, apart := false }
def ViewTreeSaid : Prop := viewTreeRow.holds Tryz.pinned (OpenSpec.ofChange viewTreeSpec)

/-- ITS FALSE NEIGHBOUR: 'it returns false'. Refute it at one input. -/
def viewTreeWrong : ChangeSpec := { name := "viewTree", fn := fun _ => fun
  | [d1, d2] => { results := [.lit (.bool false)], args := [d1, d2] }
  | _ => none }
def ViewTreeWrongFalsely : Prop := viewTreeRow.holds Tryz.pinned (OpenSpec.ofChange viewTreeWrong)

/- THE SECOND FORM. 'bulk': how many values and letters a reading holds, each counted each time it is reached (what is shared counts as often as it is met; a slice's spare places count too). A statement '..UptoSaid' is the law's where the arguments, and the package variables that the reading takes, are together of bulk at most 1048576: NARROWER than '..Said'. Prove '..Said' where nothing that the law and all that it calls make is longer than what came in: it says more and counts as full. Else prove '..UptoSaid'. A law counts once. -/
mutual
def uptoBulk {H : Type} : DataW H → Nat
  | .lit (.string bytes) => bytes.length + 1
  | .lit _ => 1
  | .nil => 1
  | .ptr d => uptoBulk d + 1
  | .slice elems spare => uptoBulkAll elems + uptoBulkAll spare + 1
  | .agg parts => uptoBulkAll parts + 1
  | .iface _ d => uptoBulk d + 1
  | .map entries => uptoBulkEntries entries + 1
  | .held _ => 1
def uptoBulkAll {H : Type} : List (DataW H) → Nat
  | [] => 0
  | d :: r => uptoBulk d + uptoBulkAll r
def uptoBulkEntries {H : Type} : List (Lit × DataW H) → Nat
  | [] => 0
  | x :: r => uptoBulkEntry x + uptoBulkEntries r
def uptoBulkEntry {H : Type} : Lit × DataW H → Nat
  | (.string bytes, d) => bytes.length + uptoBulk d + 1
  | (_, d) => uptoBulk d + 1
 end
def uptoSmall : (H : Type) → List (DataW H) → Bool := fun _ ds => decide (uptoBulkAll ds ≤ 1048576)
def OpenSpec.upto (s : _root_.Go.ChangeSpec) : _root_.Go.OpenSpec := { _root_.Go.OpenSpec.ofChange s with cond := some uptoSmall }

/-- 'engrosslaw15.VersAgree', WHERE WHAT IT READS IS OF BULK AT MOST 1048576: true; the input reads as it did. -/
def versAgreeUptoRow : OpenClaim := { program := "ytihpkgmfkbkffaagreat", sum := "08fd1d4d03b5e638b0c030b112906534f3b8481cc92fcea7e4dec21a971113c5", func := "engross/engrosslaw15.VersAgree", spec := "versAgree", inPlace := ["math.Float64bits", "math.Float64frombits", "internal/bytealg.abigen_runtime_cmpstring", "slices.overlaps[engross/cell.Cell]", "slices.overlaps[string]", "slices.overlaps[int]"], unfollowed := true, recurses := true, apart := false, narrowed := true }
def VersAgreeUptoSaid : Prop := versAgreeUptoRow.holds Tryz.pinned (OpenSpec.upto versAgreeSpec)

/-- 'engrosslaw15.VersNothing', WHERE WHAT IT READS IS OF BULK AT MOST 1048576: true; the input reads as it did. -/
def versNothingUptoRow : OpenClaim := { program := "ytihpkgmfkbkffaagreat", sum := "08fd1d4d03b5e638b0c030b112906534f3b8481cc92fcea7e4dec21a971113c5", func := "engross/engrosslaw15.VersNothing", spec := "versNothing", inPlace := ["math.Float64bits", "math.Float64frombits", "internal/bytealg.abigen_runtime_cmpstring", "slices.overlaps[engross/cell.Cell]", "slices.overlaps[string]", "slices.overlaps[int]"], unfollowed := true, recurses := true, apart := false, narrowed := true }
def VersNothingUptoSaid : Prop := versNothingUptoRow.holds Tryz.pinned (OpenSpec.upto versNothingSpec)

/-- 'engrosslaw15.VersClean', WHERE WHAT IT READS IS OF BULK AT MOST 1048576: true; the input reads as it did. -/
def versCleanUptoRow : OpenClaim := { program := "ytihpkgmfkbkffaagreat", sum := "08fd1d4d03b5e638b0c030b112906534f3b8481cc92fcea7e4dec21a971113c5", func := "engross/engrosslaw15.VersClean", spec := "versClean", inPlace := ["math.Float64bits", "math.Float64frombits", "internal/bytealg.abigen_runtime_cmpstring", "slices.overlaps[engross/cell.Cell]", "slices.overlaps[string]", "slices.overlaps[int]"], unfollowed := true, recurses := true, apart := false, narrowed := true }
def VersCleanUptoSaid : Prop := versCleanUptoRow.holds Tryz.pinned (OpenSpec.upto versCleanSpec)

/-- 'engrosslaw15.VersUndo', WHERE WHAT IT READS IS OF BULK AT MOST 1048576: true; the input reads as it did. -/
def versUndoUptoRow : OpenClaim := { program := "ytihpkgmfkbkffaagreat", sum := "08fd1d4d03b5e638b0c030b112906534f3b8481cc92fcea7e4dec21a971113c5", func := "engross/engrosslaw15.VersUndo", spec := "versUndo", inPlace := ["math.Float64bits", "math.Float64frombits", "internal/bytealg.abigen_runtime_cmpstring", "slices.overlaps[engross/cell.Cell]", "slices.overlaps[string]", "slices.overlaps[int]"], unfollowed := true, recurses := true, apart := false, narrowed := true }
def VersUndoUptoSaid : Prop := versUndoUptoRow.holds Tryz.pinned (OpenSpec.upto versUndoSpec)

/-- 'engrosslaw15.VersBusy', WHERE WHAT IT READS IS OF BULK AT MOST 1048576: true; the input reads as it did. -/
def versBusyUptoRow : OpenClaim := { program := "ytihpkgmfkbkffaagreat", sum := "08fd1d4d03b5e638b0c030b112906534f3b8481cc92fcea7e4dec21a971113c5", func := "engross/engrosslaw15.VersBusy", spec := "versBusy", inPlace := ["math.Float64bits", "math.Float64frombits", "internal/bytealg.abigen_runtime_cmpstring", "slices.overlaps[engross/cell.Cell]", "slices.overlaps[string]", "slices.overlaps[int]"], unfollowed := true, recurses := true, apart := false, narrowed := true }
def VersBusyUptoSaid : Prop := versBusyUptoRow.holds Tryz.pinned (OpenSpec.upto versBusySpec)

/-- 'engrosslaw15.VersAll', WHERE WHAT IT READS IS OF BULK AT MOST 1048576: true; the input reads as it did. -/
def versAllUptoRow : OpenClaim := { program := "ytihpkgmfkbkffaagreat", sum := "08fd1d4d03b5e638b0c030b112906534f3b8481cc92fcea7e4dec21a971113c5", func := "engross/engrosslaw15.VersAll", spec := "versAll", inPlace := ["math.Float64bits", "math.Float64frombits", "internal/bytealg.abigen_runtime_cmpstring", "slices.overlaps[engross/cell.Cell]", "slices.overlaps[string]", "slices.overlaps[int]"], unfollowed := true, recurses := true, apart := false, narrowed := true }
def VersAllUptoSaid : Prop := versAllUptoRow.holds Tryz.pinned (OpenSpec.upto versAllSpec)

/-- 'engrosslaw15.VersTwo', WHERE WHAT IT READS IS OF BULK AT MOST 1048576: true; the input reads as it did. -/
def versTwoUptoRow : OpenClaim := { program := "ytihpkgmfkbkffaagreat", sum := "08fd1d4d03b5e638b0c030b112906534f3b8481cc92fcea7e4dec21a971113c5", func := "engross/engrosslaw15.VersTwo", spec := "versTwo", inPlace := ["math.Float64bits", "math.Float64frombits", "internal/bytealg.abigen_runtime_cmpstring", "slices.overlaps[engross/cell.Cell]", "slices.overlaps[string]", "slices.overlaps[int]"], unfollowed := true, recurses := true, apart := false, narrowed := true }
def VersTwoUptoSaid : Prop := versTwoUptoRow.holds Tryz.pinned (OpenSpec.upto versTwoSpec)

/-- 'engrosslaw22.ViewPages', WHERE WHAT IT READS IS OF BULK AT MOST 1048576: true; the input reads as it did. -/
def viewPagesUptoRow : OpenClaim := { program := "ytihpkgmfkbkffaagreat", sum := "08fd1d4d03b5e638b0c030b112906534f3b8481cc92fcea7e4dec21a971113c5", func := "engross/engrosslaw22.ViewPages", spec := "viewPages", inPlace := ["math.Float64bits", "math.Float64frombits", "internal/bytealg.abigen_runtime_cmpstring", "slices.overlaps[engross/cell.Cell]", "slices.overlaps[string]", "slices.overlaps[int]"], unfollowed := true, recurses := true, apart := false, narrowed := true }
def ViewPagesUptoSaid : Prop := viewPagesUptoRow.holds Tryz.pinned (OpenSpec.upto viewPagesSpec)

/-- 'engrosslaw22.ViewNone', WHERE WHAT IT READS IS OF BULK AT MOST 1048576: true; the input reads as it did. -/
def viewNoneUptoRow : OpenClaim := { program := "ytihpkgmfkbkffaagreat", sum := "08fd1d4d03b5e638b0c030b112906534f3b8481cc92fcea7e4dec21a971113c5", func := "engross/engrosslaw22.ViewNone", spec := "viewNone", inPlace := ["math.Float64bits", "math.Float64frombits", "internal/bytealg.abigen_runtime_cmpstring", "slices.overlaps[engross/cell.Cell]", "slices.overlaps[string]", "slices.overlaps[int]"], unfollowed := true, recurses := true, apart := false, narrowed := true }
def ViewNoneUptoSaid : Prop := viewNoneUptoRow.holds Tryz.pinned (OpenSpec.upto viewNoneSpec)

/-- 'engrosslaw22.ViewOpen', WHERE WHAT IT READS IS OF BULK AT MOST 1048576: true; the input reads as it did. -/
def viewOpenUptoRow : OpenClaim := { program := "ytihpkgmfkbkffaagreat", sum := "08fd1d4d03b5e638b0c030b112906534f3b8481cc92fcea7e4dec21a971113c5", func := "engross/engrosslaw22.ViewOpen", spec := "viewOpen", inPlace := ["math.Float64bits", "math.Float64frombits", "internal/bytealg.abigen_runtime_cmpstring", "slices.overlaps[engross/cell.Cell]", "slices.overlaps[string]", "slices.overlaps[int]"], unfollowed := true, recurses := true, apart := false, narrowed := true }
def ViewOpenUptoSaid : Prop := viewOpenUptoRow.holds Tryz.pinned (OpenSpec.upto viewOpenSpec)

/-- 'engrosslaw22.ViewTree', WHERE WHAT IT READS IS OF BULK AT MOST 1048576: true; the input reads as it did. -/
def viewTreeUptoRow : OpenClaim := { program := "ytihpkgmfkbkffaagreat", sum := "08fd1d4d03b5e638b0c030b112906534f3b8481cc92fcea7e4dec21a971113c5", func := "engross/engrosslaw22.ViewTree", spec := "viewTree", inPlace := ["math.Float64bits", "math.Float64frombits", "internal/bytealg.abigen_runtime_cmpstring", "slices.overlaps[engross/cell.Cell]", "slices.overlaps[string]", "slices.overlaps[int]"], unfollowed := true, recurses := true, apart := false, narrowed := true }
def ViewTreeUptoSaid : Prop := viewTreeUptoRow.holds Tryz.pinned (OpenSpec.upto viewTreeSpec)

end Rows
end Go.Proofs.YtihpkgmfkbkffaaGreat
