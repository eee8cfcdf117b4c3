/-
  No cell of these rows narrows 'for every input' (looked for: loops, veiled, ifaces, maps, wideKeys, modest, calm, conditions, laid).
  DERIVED. THE GIVEN ROWS OF THIS SEAT. 5 by the template 'for every input the law returns true; each argument reads behind the call as it read before'; 0 by the template 'total and deterministic' (their statements: YtoalhcodigpgkaaTotals.lean).
  GIVEN WITH THE SEED: the statements are not yours to turn. If you find one false, say at which input.
  Laid BY PROGRAM, IN A SANDBOX (cutbox-rows.mjs): the forced cells as the released guide's own fill.sh prints them over the translation 9837e6ea03421dfe… (all of the seat's roots in one cut). By AI agents, Wed Nov 11 2026. No macro, syntax, notation, axiom, sorry.
-/
import Derived.Test.YtoalhcodigpgkaaChecked
import GoSem.Claim
import GoSem.ClaimJoined
import GoSem.ClaimMapViews
import Derived.JoinedTies
import Derived.KernelRfl
namespace Go.Proofs.Ytoalhcodigpgkaa
/- THE CELL 'sum', in the pinned program and in every row, IS THE sha256 OF THE DUMP (.gsa) THAT YtoalhcodigpgkaaProg.lean LOADS. Nothing in Lean hashes anything: it is a label: what it is worth is what the hold of that sum in a sandbox is worth. -/
noncomputable def Try.pinned : Pinned := { name := "ytoalhcodigpgkaa", sum := "9837e6ea03421dfe8e1a8eb1a7a3eced23370f82396aec4f964c19c90bf83f3f", checked := Try.checked }
namespace Rows
def none {H : Type} : Left H := { results := [], args := [] }

/-- 'engrosslaw18.BufOwn': WHATEVER THE INPUT: true; the input reads as it did. -/
def bufOwnSpec : ChangeSpec := { name := "bufOwn", fn := fun _ => fun
  | [d] => { results := [.lit (.bool true)], args := [d] }
  | _ => none }
def bufOwnRow : OpenClaim := { program := "ytoalhcodigpgkaa", sum := "9837e6ea03421dfe8e1a8eb1a7a3eced23370f82396aec4f964c19c90bf83f3f", func := "engross/engrosslaw18.BufOwn", spec := "bufOwn", unfollowed := true, recurses := true, apart := false }
def BufOwnSaid : Prop := bufOwnRow.holds Try.pinned (OpenSpec.ofChange bufOwnSpec)

/-- ITS FALSE NEIGHBOUR: 'it returns false'. Refute it at one input. -/
def bufOwnWrong : ChangeSpec := { name := "bufOwn", fn := fun _ => fun
  | [d] => { results := [.lit (.bool false)], args := [d] }
  | _ => none }
def BufOwnWrongFalsely : Prop := bufOwnRow.holds Try.pinned (OpenSpec.ofChange bufOwnWrong)

/-- 'engrosslaw18.BufAll': WHATEVER THE INPUT: true; the input reads as it did. -/
def bufAllSpec : ChangeSpec := { name := "bufAll", fn := fun _ => fun
  | [d] => { results := [.lit (.bool true)], args := [d] }
  | _ => none }
def bufAllRow : OpenClaim := { program := "ytoalhcodigpgkaa", sum := "9837e6ea03421dfe8e1a8eb1a7a3eced23370f82396aec4f964c19c90bf83f3f", func := "engross/engrosslaw18.BufAll", spec := "bufAll", unfollowed := true, recurses := true, apart := false }
def BufAllSaid : Prop := bufAllRow.holds Try.pinned (OpenSpec.ofChange bufAllSpec)

/-- ITS FALSE NEIGHBOUR: 'it returns false'. Refute it at one input. -/
def bufAllWrong : ChangeSpec := { name := "bufAll", fn := fun _ => fun
  | [d] => { results := [.lit (.bool false)], args := [d] }
  | _ => none }
def BufAllWrongFalsely : Prop := bufAllRow.holds Try.pinned (OpenSpec.ofChange bufAllWrong)

/-- 'engrosslaw18.BufNone': WHATEVER THE INPUT: true; the input reads as it did. -/
def bufNoneSpec : ChangeSpec := { name := "bufNone", fn := fun _ => fun
  | [] => { results := [.lit (.bool true)], args := [] }
  | _ => none }
def bufNoneRow : OpenClaim := { program := "ytoalhcodigpgkaa", sum := "9837e6ea03421dfe8e1a8eb1a7a3eced23370f82396aec4f964c19c90bf83f3f", func := "engross/engrosslaw18.BufNone", spec := "bufNone", unfollowed := true, recurses := true, apart := false }
def BufNoneSaid : Prop := bufNoneRow.holds Try.pinned (OpenSpec.ofChange bufNoneSpec)

/-- ITS FALSE NEIGHBOUR: 'it returns false'. Refute it at one input. -/
def bufNoneWrong : ChangeSpec := { name := "bufNone", fn := fun _ => fun
  | [] => { results := [.lit (.bool false)], args := [] }
  | _ => none }
def BufNoneWrongFalsely : Prop := bufNoneRow.holds Try.pinned (OpenSpec.ofChange bufNoneWrong)

/-- 'engrosslaw18.BufBack': WHATEVER THE INPUT: true; the input reads as it did. -/
def bufBackSpec : ChangeSpec := { name := "bufBack", fn := fun _ => fun
  | [d1, d2] => { results := [.lit (.bool true)], args := [d1, d2] }
  | _ => none }
def bufBackRow : OpenClaim := { program := "ytoalhcodigpgkaa", sum := "9837e6ea03421dfe8e1a8eb1a7a3eced23370f82396aec4f964c19c90bf83f3f", func := "engross/engrosslaw18.BufBack", spec := "bufBack", unfollowed := true, recurses := true, apart := false }
def BufBackSaid : Prop := bufBackRow.holds Try.pinned (OpenSpec.ofChange bufBackSpec)

/-- ITS FALSE NEIGHBOUR: 'it returns false'. Refute it at one input. -/
def bufBackWrong : ChangeSpec := { name := "bufBack", fn := fun _ => fun
  | [d1, d2] => { results := [.lit (.bool false)], args := [d1, d2] }
  | _ => none }
def BufBackWrongFalsely : Prop := bufBackRow.holds Try.pinned (OpenSpec.ofChange bufBackWrong)

/-- 'engrosslaw18.BufAhead': WHATEVER THE INPUT: true; the input reads as it did. -/
def bufAheadSpec : ChangeSpec := { name := "bufAhead", fn := fun _ => fun
  | [d1, d2, d3] => { results := [.lit (.bool true)], args := [d1, d2, d3] }
  | _ => none }
def bufAheadRow : OpenClaim := { program := "ytoalhcodigpgkaa", sum := "9837e6ea03421dfe8e1a8eb1a7a3eced23370f82396aec4f964c19c90bf83f3f", func := "engross/engrosslaw18.BufAhead", spec := "bufAhead", unfollowed := true, recurses := true, apart := false }
def BufAheadSaid : Prop := bufAheadRow.holds Try.pinned (OpenSpec.ofChange bufAheadSpec)

/-- ITS FALSE NEIGHBOUR: 'it returns false'. Refute it at one input. -/
def bufAheadWrong : ChangeSpec := { name := "bufAhead", fn := fun _ => fun
  | [d1, d2, d3] => { results := [.lit (.bool false)], args := [d1, d2, d3] }
  | _ => none }
def BufAheadWrongFalsely : Prop := bufAheadRow.holds Try.pinned (OpenSpec.ofChange bufAheadWrong)

/- THE SECOND FORM. 'bulk': how many values and letters a reading holds, each counted each time it is reached (what is shared counts as often as it is met; a slice's spare places count too). A statement '..UptoSaid' is the law's where the arguments, and the package variables that the reading takes, are together of bulk at most 1048576: NARROWER than '..Said'. Prove '..Said' where nothing that the law and all that it calls make is longer than what came in: it says more and counts as full. Else prove '..UptoSaid'. A law counts once. -/
mutual
def uptoBulk {H : Type} : DataW H → Nat
  | .lit (.string bytes) => bytes.length + 1
  | .lit _ => 1
  | .nil => 1
  | .ptr d => uptoBulk d + 1
  | .slice elems spare => uptoBulkAll elems + uptoBulkAll spare + 1
  | .agg parts => uptoBulkAll parts + 1
  | .iface _ d => uptoBulk d + 1
  | .map entries => uptoBulkEntries entries + 1
  | .held _ => 1
def uptoBulkAll {H : Type} : List (DataW H) → Nat
  | [] => 0
  | d :: r => uptoBulk d + uptoBulkAll r
def uptoBulkEntries {H : Type} : List (Lit × DataW H) → Nat
  | [] => 0
  | x :: r => uptoBulkEntry x + uptoBulkEntries r
def uptoBulkEntry {H : Type} : Lit × DataW H → Nat
  | (.string bytes, d) => bytes.length + uptoBulk d + 1
  | (_, d) => uptoBulk d + 1
 end
def uptoSmall : (H : Type) → List (DataW H) → Bool := fun _ ds => decide (uptoBulkAll ds ≤ 1048576)
def OpenSpec.upto (s : _root_.Go.ChangeSpec) : _root_.Go.OpenSpec := { _root_.Go.OpenSpec.ofChange s with cond := some uptoSmall }

/-- 'engrosslaw18.BufOwn', WHERE WHAT IT READS IS OF BULK AT MOST 1048576: true; the input reads as it did. -/
def bufOwnUptoRow : OpenClaim := { program := "ytoalhcodigpgkaa", sum := "9837e6ea03421dfe8e1a8eb1a7a3eced23370f82396aec4f964c19c90bf83f3f", func := "engross/engrosslaw18.BufOwn", spec := "bufOwn", unfollowed := true, recurses := true, apart := false, narrowed := true }
def BufOwnUptoSaid : Prop := bufOwnUptoRow.holds Try.pinned (OpenSpec.upto bufOwnSpec)

/-- 'engrosslaw18.BufAll', WHERE WHAT IT READS IS OF BULK AT MOST 1048576: true; the input reads as it did. -/
def bufAllUptoRow : OpenClaim := { program := "ytoalhcodigpgkaa", sum := "9837e6ea03421dfe8e1a8eb1a7a3eced23370f82396aec4f964c19c90bf83f3f", func := "engross/engrosslaw18.BufAll", spec := "bufAll", unfollowed := true, recurses := true, apart := false, narrowed := true }
def BufAllUptoSaid : Prop := bufAllUptoRow.holds Try.pinned (OpenSpec.upto bufAllSpec)

/-- 'engrosslaw18.BufNone', WHERE WHAT IT READS IS OF BULK AT MOST 1048576: true; the input reads as it did. -/
def bufNoneUptoRow : OpenClaim := { program := "ytoalhcodigpgkaa", sum := "9837e6ea03421dfe8e1a8eb1a7a3eced23370f82396aec4f964c19c90bf83f3f", func := "engross/engrosslaw18.BufNone", spec := "bufNone", unfollowed := true, recurses := true, apart := false, narrowed := true }
def BufNoneUptoSaid : Prop := bufNoneUptoRow.holds Try.pinned (OpenSpec.upto bufNoneSpec)

/-- 'engrosslaw18.BufBack', WHERE WHAT IT READS IS OF BULK AT MOST 1048576: true; the input reads as it did. -/
def bufBackUptoRow : OpenClaim := { program := "ytoalhcodigpgkaa", sum := "9837e6ea03421dfe8e1a8eb1a7a3eced23370f82396aec4f964c19c90bf83f3f", func := "engross/engrosslaw18.BufBack", spec := "bufBack", unfollowed := true, recurses := true, apart := false, narrowed := true }
def BufBackUptoSaid : Prop := bufBackUptoRow.holds Try.pinned (OpenSpec.upto bufBackSpec)

/-- 'engrosslaw18.BufAhead', WHERE WHAT IT READS IS OF BULK AT MOST 1048576: true; the input reads as it did. -/
def bufAheadUptoRow : OpenClaim := { program := "ytoalhcodigpgkaa", sum := "9837e6ea03421dfe8e1a8eb1a7a3eced23370f82396aec4f964c19c90bf83f3f", func := "engross/engrosslaw18.BufAhead", spec := "bufAhead", unfollowed := true, recurses := true, apart := false, narrowed := true }
def BufAheadUptoSaid : Prop := bufAheadUptoRow.holds Try.pinned (OpenSpec.upto bufAheadSpec)

end Rows
end Go.Proofs.Ytoalhcodigpgkaa
