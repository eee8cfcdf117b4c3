/-
  No cell of these rows narrows 'for every input' (looked for: loops, veiled, ifaces, maps, wideKeys, modest, calm, conditions, laid).
  DERIVED. THE GIVEN ROWS OF THIS SEAT. 7 by the template 'for every input the law returns true; each argument reads behind the call as it read before'; 0 by the template 'total and deterministic' (their statements: YtnhkgchcdbideaaTotals.lean).
  GIVEN WITH THE SEED: the statements are not yours to turn. If you find one false, say at which input.
  Laid BY PROGRAM, IN A SANDBOX (cutbox-rows.mjs): the forced cells as the released guide's own fill.sh prints them over the translation c25fd0790ca8c437… (all of the seat's roots in one cut). By AI agents, Wed Nov 11 2026. No macro, syntax, notation, axiom, sorry.
-/
import Derived.Test.YtnhkgchcdbideaaChecked
import GoSem.Claim
import GoSem.ClaimJoined
import GoSem.ClaimMapViews
import Derived.JoinedTies
import Derived.KernelRfl
namespace Go.Proofs.Ytnhkgchcdbideaa
/- THE CELL 'sum', in the pinned program and in every row, IS THE sha256 OF THE DUMP (.gsa) THAT YtnhkgchcdbideaaProg.lean LOADS. Nothing in Lean hashes anything: it is a label: what it is worth is what the hold of that sum in a sandbox is worth. -/
noncomputable def Try.pinned : Pinned := { name := "ytnhkgchcdbideaa", sum := "c25fd0790ca8c4374e4625007216cc5242cd1d95a0c641d0ff5b2cdeb124b1de", checked := Try.checked }
namespace Rows
def none {H : Type} : Left H := { results := [], args := [] }

/-- 'engrosslaw21.CowShows': WHATEVER THE INPUT: true; the input reads as it did. -/
def cowShowsSpec : ChangeSpec := { name := "cowShows", fn := fun _ => fun
  | [d1, d2, d3] => { results := [.lit (.bool true)], args := [d1, d2, d3] }
  | _ => none }
def cowShowsRow : OpenClaim := { program := "ytnhkgchcdbideaa", sum := "c25fd0790ca8c4374e4625007216cc5242cd1d95a0c641d0ff5b2cdeb124b1de", func := "engross/engrosslaw21.CowShows", spec := "cowShows", unfollowed := true, recurses := true, apart := false }
def CowShowsSaid : Prop := cowShowsRow.holds Try.pinned (OpenSpec.ofChange cowShowsSpec)

/-- ITS FALSE NEIGHBOUR: 'it returns false'. Refute it at one input. -/
def cowShowsWrong : ChangeSpec := { name := "cowShows", fn := fun _ => fun
  | [d1, d2, d3] => { results := [.lit (.bool false)], args := [d1, d2, d3] }
  | _ => none }
def CowShowsWrongFalsely : Prop := cowShowsRow.holds Try.pinned (OpenSpec.ofChange cowShowsWrong)

/-- 'engrosslaw21.CowTwo': WHATEVER THE INPUT: true; the input reads as it did. -/
def cowTwoSpec : ChangeSpec := { name := "cowTwo", fn := fun _ => fun
  | [d1, d2] => { results := [.lit (.bool true)], args := [d1, d2] }
  | _ => none }
def cowTwoRow : OpenClaim := { program := "ytnhkgchcdbideaa", sum := "c25fd0790ca8c4374e4625007216cc5242cd1d95a0c641d0ff5b2cdeb124b1de", func := "engross/engrosslaw21.CowTwo", spec := "cowTwo", unfollowed := true, recurses := true, apart := false }
def CowTwoSaid : Prop := cowTwoRow.holds Try.pinned (OpenSpec.ofChange cowTwoSpec)

/-- ITS FALSE NEIGHBOUR: 'it returns false'. Refute it at one input. -/
def cowTwoWrong : ChangeSpec := { name := "cowTwo", fn := fun _ => fun
  | [d1, d2] => { results := [.lit (.bool false)], args := [d1, d2] }
  | _ => none }
def CowTwoWrongFalsely : Prop := cowTwoRow.holds Try.pinned (OpenSpec.ofChange cowTwoWrong)

/-- 'engrosslaw21.CowBack': WHATEVER THE INPUT: true; the input reads as it did. -/
def cowBackSpec : ChangeSpec := { name := "cowBack", fn := fun _ => fun
  | [d1, d2] => { results := [.lit (.bool true)], args := [d1, d2] }
  | _ => none }
def cowBackRow : OpenClaim := { program := "ytnhkgchcdbideaa", sum := "c25fd0790ca8c4374e4625007216cc5242cd1d95a0c641d0ff5b2cdeb124b1de", func := "engross/engrosslaw21.CowBack", spec := "cowBack", unfollowed := true, recurses := true, apart := false }
def CowBackSaid : Prop := cowBackRow.holds Try.pinned (OpenSpec.ofChange cowBackSpec)

/-- ITS FALSE NEIGHBOUR: 'it returns false'. Refute it at one input. -/
def cowBackWrong : ChangeSpec := { name := "cowBack", fn := fun _ => fun
  | [d1, d2] => { results := [.lit (.bool false)], args := [d1, d2] }
  | _ => none }
def CowBackWrongFalsely : Prop := cowBackRow.holds Try.pinned (OpenSpec.ofChange cowBackWrong)

/-- 'engrosslaw21.CowOnce': WHATEVER THE INPUT: true; the input reads as it did. -/
def cowOnceSpec : ChangeSpec := { name := "cowOnce", fn := fun _ => fun
  | [d1, d2, d3] => { results := [.lit (.bool true)], args := [d1, d2, d3] }
  | _ => none }
def cowOnceRow : OpenClaim := { program := "ytnhkgchcdbideaa", sum := "c25fd0790ca8c4374e4625007216cc5242cd1d95a0c641d0ff5b2cdeb124b1de", func := "engross/engrosslaw21.CowOnce", spec := "cowOnce", unfollowed := true, recurses := true, apart := false }
def CowOnceSaid : Prop := cowOnceRow.holds Try.pinned (OpenSpec.ofChange cowOnceSpec)

/-- ITS FALSE NEIGHBOUR: 'it returns false'. Refute it at one input. -/
def cowOnceWrong : ChangeSpec := { name := "cowOnce", fn := fun _ => fun
  | [d1, d2, d3] => { results := [.lit (.bool false)], args := [d1, d2, d3] }
  | _ => none }
def CowOnceWrongFalsely : Prop := cowOnceRow.holds Try.pinned (OpenSpec.ofChange cowOnceWrong)

/-- 'engrosslaw21.CowFree': WHATEVER THE INPUT: true; the input reads as it did. -/
def cowFreeSpec : ChangeSpec := { name := "cowFree", fn := fun _ => fun
  | [d1, d2] => { results := [.lit (.bool true)], args := [d1, d2] }
  | _ => none }
def cowFreeRow : OpenClaim := { program := "ytnhkgchcdbideaa", sum := "c25fd0790ca8c4374e4625007216cc5242cd1d95a0c641d0ff5b2cdeb124b1de", func := "engross/engrosslaw21.CowFree", spec := "cowFree", unfollowed := true, recurses := true, apart := false }
def CowFreeSaid : Prop := cowFreeRow.holds Try.pinned (OpenSpec.ofChange cowFreeSpec)

/-- ITS FALSE NEIGHBOUR: 'it returns false'. Refute it at one input. -/
def cowFreeWrong : ChangeSpec := { name := "cowFree", fn := fun _ => fun
  | [d1, d2] => { results := [.lit (.bool false)], args := [d1, d2] }
  | _ => none }
def CowFreeWrongFalsely : Prop := cowFreeRow.holds Try.pinned (OpenSpec.ofChange cowFreeWrong)

/-- 'engrosslaw21.CowRoom': WHATEVER THE INPUT: true; the input reads as it did. -/
def cowRoomSpec : ChangeSpec := { name := "cowRoom", fn := fun _ => fun
  | [d] => { results := [.lit (.bool true)], args := [d] }
  | _ => none }
def cowRoomRow : OpenClaim := { program := "ytnhkgchcdbideaa", sum := "c25fd0790ca8c4374e4625007216cc5242cd1d95a0c641d0ff5b2cdeb124b1de", func := "engross/engrosslaw21.CowRoom", spec := "cowRoom", unfollowed := true, recurses := true, apart := false }
def CowRoomSaid : Prop := cowRoomRow.holds Try.pinned (OpenSpec.ofChange cowRoomSpec)

/-- ITS FALSE NEIGHBOUR: 'it returns false'. Refute it at one input. -/
def cowRoomWrong : ChangeSpec := { name := "cowRoom", fn := fun _ => fun
  | [d] => { results := [.lit (.bool false)], args := [d] }
  | _ => none }
def CowRoomWrongFalsely : Prop := cowRoomRow.holds Try.pinned (OpenSpec.ofChange cowRoomWrong)

/-- 'engrosslaw21.CowAll': WHATEVER THE INPUT: true; the input reads as it did. -/
def cowAllSpec : ChangeSpec := { name := "cowAll", fn := fun _ => fun
  | [d1, d2] => { results := [.lit (.bool true)], args := [d1, d2] }
  | _ => none }
def cowAllRow : OpenClaim := { program := "ytnhkgchcdbideaa", sum := "c25fd0790ca8c4374e4625007216cc5242cd1d95a0c641d0ff5b2cdeb124b1de", func := "engross/engrosslaw21.CowAll", spec := "cowAll", unfollowed := true, recurses := true, apart := false }
def CowAllSaid : Prop := cowAllRow.holds Try.pinned (OpenSpec.ofChange cowAllSpec)

/-- ITS FALSE NEIGHBOUR: 'it returns false'. Refute it at one input. -/
def cowAllWrong : ChangeSpec := { name := "cowAll", fn := fun _ => fun
  | [d1, d2] => { results := [.lit (.bool false)], args := [d1, d2] }
  | _ => none }
def CowAllWrongFalsely : Prop := cowAllRow.holds Try.pinned (OpenSpec.ofChange cowAllWrong)

/- THE SECOND FORM. 'bulk': how many values and letters a reading holds, each counted each time it is reached (what is shared counts as often as it is met; a slice's spare places count too). A statement '..UptoSaid' is the law's where the arguments, and the package variables that the reading takes, are together of bulk at most 1048576: NARROWER than '..Said'. Prove '..Said' where nothing that the law and all that it calls make is longer than what came in: it says more and counts as full. Else prove '..UptoSaid'. A law counts once. -/
mutual
def uptoBulk {H : Type} : DataW H → Nat
  | .lit (.string bytes) => bytes.length + 1
  | .lit _ => 1
  | .nil => 1
  | .ptr d => uptoBulk d + 1
  | .slice elems spare => uptoBulkAll elems + uptoBulkAll spare + 1
  | .agg parts => uptoBulkAll parts + 1
  | .iface _ d => uptoBulk d + 1
  | .map entries => uptoBulkEntries entries + 1
  | .held _ => 1
def uptoBulkAll {H : Type} : List (DataW H) → Nat
  | [] => 0
  | d :: r => uptoBulk d + uptoBulkAll r
def uptoBulkEntries {H : Type} : List (Lit × DataW H) → Nat
  | [] => 0
  | x :: r => uptoBulkEntry x + uptoBulkEntries r
def uptoBulkEntry {H : Type} : Lit × DataW H → Nat
  | (.string bytes, d) => bytes.length + uptoBulk d + 1
  | (_, d) => uptoBulk d + 1
 end
def uptoSmall : (H : Type) → List (DataW H) → Bool := fun _ ds => decide (uptoBulkAll ds ≤ 1048576)
def OpenSpec.upto (s : _root_.Go.ChangeSpec) : _root_.Go.OpenSpec := { _root_.Go.OpenSpec.ofChange s with cond := some uptoSmall }

/-- 'engrosslaw21.CowShows', WHERE WHAT IT READS IS OF BULK AT MOST 1048576: true; the input reads as it did. -/
def cowShowsUptoRow : OpenClaim := { program := "ytnhkgchcdbideaa", sum := "c25fd0790ca8c4374e4625007216cc5242cd1d95a0c641d0ff5b2cdeb124b1de", func := "engross/engrosslaw21.CowShows", spec := "cowShows", unfollowed := true, recurses := true, apart := false, narrowed := true }
def CowShowsUptoSaid : Prop := cowShowsUptoRow.holds Try.pinned (OpenSpec.upto cowShowsSpec)

/-- 'engrosslaw21.CowTwo', WHERE WHAT IT READS IS OF BULK AT MOST 1048576: true; the input reads as it did. -/
def cowTwoUptoRow : OpenClaim := { program := "ytnhkgchcdbideaa", sum := "c25fd0790ca8c4374e4625007216cc5242cd1d95a0c641d0ff5b2cdeb124b1de", func := "engross/engrosslaw21.CowTwo", spec := "cowTwo", unfollowed := true, recurses := true, apart := false, narrowed := true }
def CowTwoUptoSaid : Prop := cowTwoUptoRow.holds Try.pinned (OpenSpec.upto cowTwoSpec)

/-- 'engrosslaw21.CowBack', WHERE WHAT IT READS IS OF BULK AT MOST 1048576: true; the input reads as it did. -/
def cowBackUptoRow : OpenClaim := { program := "ytnhkgchcdbideaa", sum := "c25fd0790ca8c4374e4625007216cc5242cd1d95a0c641d0ff5b2cdeb124b1de", func := "engross/engrosslaw21.CowBack", spec := "cowBack", unfollowed := true, recurses := true, apart := false, narrowed := true }
def CowBackUptoSaid : Prop := cowBackUptoRow.holds Try.pinned (OpenSpec.upto cowBackSpec)

/-- 'engrosslaw21.CowOnce', WHERE WHAT IT READS IS OF BULK AT MOST 1048576: true; the input reads as it did. -/
def cowOnceUptoRow : OpenClaim := { program := "ytnhkgchcdbideaa", sum := "c25fd0790ca8c4374e4625007216cc5242cd1d95a0c641d0ff5b2cdeb124b1de", func := "engross/engrosslaw21.CowOnce", spec := "cowOnce", unfollowed := true, recurses := true, apart := false, narrowed := true }
def CowOnceUptoSaid : Prop := cowOnceUptoRow.holds Try.pinned (OpenSpec.upto cowOnceSpec)

/-- 'engrosslaw21.CowFree', WHERE WHAT IT READS IS OF BULK AT MOST 1048576: true; the input reads as it did. -/
def cowFreeUptoRow : OpenClaim := { program := "ytnhkgchcdbideaa", sum := "c25fd0790ca8c4374e4625007216cc5242cd1d95a0c641d0ff5b2cdeb124b1de", func := "engross/engrosslaw21.CowFree", spec := "cowFree", unfollowed := true, recurses := true, apart := false, narrowed := true }
def CowFreeUptoSaid : Prop := cowFreeUptoRow.holds Try.pinned (OpenSpec.upto cowFreeSpec)

/-- 'engrosslaw21.CowRoom', WHERE WHAT IT READS IS OF BULK AT MOST 1048576: true; the input reads as it did. -/
def cowRoomUptoRow : OpenClaim := { program := "ytnhkgchcdbideaa", sum := "c25fd0790ca8c4374e4625007216cc5242cd1d95a0c641d0ff5b2cdeb124b1de", func := "engross/engrosslaw21.CowRoom", spec := "cowRoom", unfollowed := true, recurses := true, apart := false, narrowed := true }
def CowRoomUptoSaid : Prop := cowRoomUptoRow.holds Try.pinned (OpenSpec.upto cowRoomSpec)

/-- 'engrosslaw21.CowAll', WHERE WHAT IT READS IS OF BULK AT MOST 1048576: true; the input reads as it did. -/
def cowAllUptoRow : OpenClaim := { program := "ytnhkgchcdbideaa", sum := "c25fd0790ca8c4374e4625007216cc5242cd1d95a0c641d0ff5b2cdeb124b1de", func := "engross/engrosslaw21.CowAll", spec := "cowAll", unfollowed := true, recurses := true, apart := false, narrowed := true }
def CowAllUptoSaid : Prop := cowAllUptoRow.holds Try.pinned (OpenSpec.upto cowAllSpec)

end Rows
end Go.Proofs.Ytnhkgchcdbideaa
