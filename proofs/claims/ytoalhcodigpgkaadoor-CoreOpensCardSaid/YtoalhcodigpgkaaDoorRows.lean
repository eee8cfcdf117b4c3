/-
  NARROWER THAN 'FOR EVERY INPUT', by the rows' own cells (each row's printed sentence says how): CoreMuch: laid · CoreAgain: laid · CoreOpens: laid · CoreTogether: laid · CoreTorn: laid.
  DERIVED. THE GIVEN ROWS OF THIS SEAT. 5 by the template 'for every input the law returns true; each argument reads behind the call as it read before'; 0 by the template 'total and deterministic' (their statements: YtoalhcodigpgkaaDoorTotals.lean).
  GIVEN WITH THE SEED: the statements are not yours to turn. If you find one false, say at which input.
  Laid BY PROGRAM, IN A SANDBOX (cutbox-rows.mjs): the forced cells as the released guide's own fill.sh prints them over the translation ed79c10bc3ace3f4… (all of the seat's roots in one cut). By AI agents, Wed Nov 11 2026. No macro, syntax, notation, axiom, sorry.
-/
import Derived.Test.YtoalhcodigpgkaaDoorChecked
import GoSem.PinnedTables
import GoSem.Claim
import GoSem.ClaimJoined
import GoSem.ClaimMapViews
import Derived.JoinedTies
import Derived.KernelRfl
namespace Go.Proofs.YtoalhcodigpgkaaDoor
/- THE CELL 'sum', in the pinned program and in every row, IS THE sha256 OF THE DUMP (.gsa) THAT YtoalhcodigpgkaaDoorProg.lean LOADS. Nothing in Lean hashes anything: it is a label: what it is worth is what the hold of that sum in a sandbox is worth. -/
noncomputable def Tryd.pinned : Pinned := { name := "ytoalhcodigpgkaadoor", sum := "ed79c10bc3ace3f4c78130ec769fe22ecabac86b3a3f3b2d5c63bdf79c20fc0a", checked := Tryd.checked }
namespace Rows
def none {H : Type} : Left H := { results := [], args := [] }

/- WHAT THE LISTED PACKAGE-LEVEL VARIABLES READ AS WHEN THE CALL BEGINS. Each datum BY PROGRAM (the guide's laid-datum.mjs) off the statement by which the dump's own 'gosem.cut.vars' lays the variable. In a bare row this is a premise. The card (YtoalhcodigpgkaaDoorCards.lean) ties it to the program's text. -/
def laid_unicode_utf8_acceptRanges {H : Type} : DataW H := .agg [.agg [.lit (.int .u8 128), .lit (.int .u8 191)], .agg [.lit (.int .u8 160), .lit (.int .u8 191)], .agg [.lit (.int .u8 128), .lit (.int .u8 159)], .agg [.lit (.int .u8 144), .lit (.int .u8 191)], .agg [.lit (.int .u8 128), .lit (.int .u8 143)], .agg [.lit (.int .u8 0), .lit (.int .u8 0)], .agg [.lit (.int .u8 0), .lit (.int .u8 0)], .agg [.lit (.int .u8 0), .lit (.int .u8 0)], .agg [.lit (.int .u8 0), .lit (.int .u8 0)], .agg [.lit (.int .u8 0), .lit (.int .u8 0)], .agg [.lit (.int .u8 0), .lit (.int .u8 0)], .agg [.lit (.int .u8 0), .lit (.int .u8 0)], .agg [.lit (.int .u8 0), .lit (.int .u8 0)], .agg [.lit (.int .u8 0), .lit (.int .u8 0)], .agg [.lit (.int .u8 0), .lit (.int .u8 0)], .agg [.lit (.int .u8 0), .lit (.int .u8 0)]]
/-- One of Go's own tables, pinned by name: the form's constant. -/
def laid_unicode_utf8_first : DataW Unit := Go.Pinned.utf8First

/-- 'engrosslaw19.CoreMuch': WHATEVER THE INPUT: true; the input reads as it did. -/
def coreMuchSpec : ChangeSpec := { name := "coreMuch", fn := fun _ => fun
  | [d1, d2] => { results := [.lit (.bool true)], args := [d1, d2] }
  | _ => none }
def coreMuchRow : OpenClaim := { program := "ytoalhcodigpgkaadoor", sum := "ed79c10bc3ace3f4c78130ec769fe22ecabac86b3a3f3b2d5c63bdf79c20fc0a", func := "engross/engrosslaw19.CoreMuch", spec := "coreMuch", inPlace := ["internal/bytealg.IndexByteString", "internal/bytealg.IndexString"], unfollowed := true, recurses := true, named := ["unicode/utf8.first", "unicode/utf8.acceptRanges", "internal/bytealg.MaxLen"], apart := false, laid := [("unicode/utf8.acceptRanges", laid_unicode_utf8_acceptRanges), ("unicode/utf8.first", laid_unicode_utf8_first)] }
def CoreMuchSaid : Prop := coreMuchRow.holds Tryd.pinned (OpenSpec.ofChange coreMuchSpec)

/-- ITS FALSE NEIGHBOUR: 'it returns false'. Refute it at one input. -/
def coreMuchWrong : ChangeSpec := { name := "coreMuch", fn := fun _ => fun
  | [d1, d2] => { results := [.lit (.bool false)], args := [d1, d2] }
  | _ => none }
def CoreMuchWrongFalsely : Prop := coreMuchRow.holds Tryd.pinned (OpenSpec.ofChange coreMuchWrong)

/-- 'engrosslaw19.CoreAgain': WHATEVER THE INPUT: true; the input reads as it did. -/
def coreAgainSpec : ChangeSpec := { name := "coreAgain", fn := fun _ => fun
  | [d1, d2, d3] => { results := [.lit (.bool true)], args := [d1, d2, d3] }
  | _ => none }
def coreAgainRow : OpenClaim := { program := "ytoalhcodigpgkaadoor", sum := "ed79c10bc3ace3f4c78130ec769fe22ecabac86b3a3f3b2d5c63bdf79c20fc0a", func := "engross/engrosslaw19.CoreAgain", spec := "coreAgain", inPlace := ["internal/bytealg.IndexByteString", "internal/bytealg.IndexString"], unfollowed := true, recurses := true, named := ["unicode/utf8.first", "unicode/utf8.acceptRanges", "internal/bytealg.MaxLen"], apart := false, laid := [("unicode/utf8.acceptRanges", laid_unicode_utf8_acceptRanges), ("unicode/utf8.first", laid_unicode_utf8_first)] }
def CoreAgainSaid : Prop := coreAgainRow.holds Tryd.pinned (OpenSpec.ofChange coreAgainSpec)

/-- ITS FALSE NEIGHBOUR: 'it returns false'. Refute it at one input. -/
def coreAgainWrong : ChangeSpec := { name := "coreAgain", fn := fun _ => fun
  | [d1, d2, d3] => { results := [.lit (.bool false)], args := [d1, d2, d3] }
  | _ => none }
def CoreAgainWrongFalsely : Prop := coreAgainRow.holds Tryd.pinned (OpenSpec.ofChange coreAgainWrong)

/-- 'engrosslaw19.CoreOpens': WHATEVER THE INPUT: true; the input reads as it did. -/
def coreOpensSpec : ChangeSpec := { name := "coreOpens", fn := fun _ => fun
  | [d1, d2, d3, d4] => { results := [.lit (.bool true)], args := [d1, d2, d3, d4] }
  | _ => none }
def coreOpensRow : OpenClaim := { program := "ytoalhcodigpgkaadoor", sum := "ed79c10bc3ace3f4c78130ec769fe22ecabac86b3a3f3b2d5c63bdf79c20fc0a", func := "engross/engrosslaw19.CoreOpens", spec := "coreOpens", inPlace := ["internal/bytealg.IndexByteString", "internal/bytealg.IndexString"], unfollowed := true, recurses := true, named := ["unicode/utf8.first", "unicode/utf8.acceptRanges", "internal/bytealg.MaxLen"], apart := false, laid := [("unicode/utf8.acceptRanges", laid_unicode_utf8_acceptRanges), ("unicode/utf8.first", laid_unicode_utf8_first)] }
def CoreOpensSaid : Prop := coreOpensRow.holds Tryd.pinned (OpenSpec.ofChange coreOpensSpec)

/-- ITS FALSE NEIGHBOUR: 'it returns false'. Refute it at one input. -/
def coreOpensWrong : ChangeSpec := { name := "coreOpens", fn := fun _ => fun
  | [d1, d2, d3, d4] => { results := [.lit (.bool false)], args := [d1, d2, d3, d4] }
  | _ => none }
def CoreOpensWrongFalsely : Prop := coreOpensRow.holds Tryd.pinned (OpenSpec.ofChange coreOpensWrong)

/-- 'engrosslaw19.CoreTogether': WHATEVER THE INPUT: true; the input reads as it did. -/
def coreTogetherSpec : ChangeSpec := { name := "coreTogether", fn := fun _ => fun
  | [d1, d2, d3, d4] => { results := [.lit (.bool true)], args := [d1, d2, d3, d4] }
  | _ => none }
def coreTogetherRow : OpenClaim := { program := "ytoalhcodigpgkaadoor", sum := "ed79c10bc3ace3f4c78130ec769fe22ecabac86b3a3f3b2d5c63bdf79c20fc0a", func := "engross/engrosslaw19.CoreTogether", spec := "coreTogether", inPlace := ["internal/bytealg.IndexByteString", "internal/bytealg.IndexString"], unfollowed := true, recurses := true, named := ["unicode/utf8.first", "unicode/utf8.acceptRanges", "internal/bytealg.MaxLen"], apart := false, laid := [("unicode/utf8.acceptRanges", laid_unicode_utf8_acceptRanges), ("unicode/utf8.first", laid_unicode_utf8_first)] }
def CoreTogetherSaid : Prop := coreTogetherRow.holds Tryd.pinned (OpenSpec.ofChange coreTogetherSpec)

/-- ITS FALSE NEIGHBOUR: 'it returns false'. Refute it at one input. -/
def coreTogetherWrong : ChangeSpec := { name := "coreTogether", fn := fun _ => fun
  | [d1, d2, d3, d4] => { results := [.lit (.bool false)], args := [d1, d2, d3, d4] }
  | _ => none }
def CoreTogetherWrongFalsely : Prop := coreTogetherRow.holds Tryd.pinned (OpenSpec.ofChange coreTogetherWrong)

/-- 'engrosslaw19.CoreTorn': WHATEVER THE INPUT: true; the input reads as it did. -/
def coreTornSpec : ChangeSpec := { name := "coreTorn", fn := fun _ => fun
  | [d1, d2, d3] => { results := [.lit (.bool true)], args := [d1, d2, d3] }
  | _ => none }
def coreTornRow : OpenClaim := { program := "ytoalhcodigpgkaadoor", sum := "ed79c10bc3ace3f4c78130ec769fe22ecabac86b3a3f3b2d5c63bdf79c20fc0a", func := "engross/engrosslaw19.CoreTorn", spec := "coreTorn", inPlace := ["internal/bytealg.IndexByteString", "internal/bytealg.IndexString"], unfollowed := true, recurses := true, named := ["unicode/utf8.first", "unicode/utf8.acceptRanges", "internal/bytealg.MaxLen"], apart := false, laid := [("unicode/utf8.acceptRanges", laid_unicode_utf8_acceptRanges), ("unicode/utf8.first", laid_unicode_utf8_first)] }
def CoreTornSaid : Prop := coreTornRow.holds Tryd.pinned (OpenSpec.ofChange coreTornSpec)

/-- ITS FALSE NEIGHBOUR: 'it returns false'. Refute it at one input. -/
def coreTornWrong : ChangeSpec := { name := "coreTorn", fn := fun _ => fun
  | [d1, d2, d3] => { results := [.lit (.bool false)], args := [d1, d2, d3] }
  | _ => none }
def CoreTornWrongFalsely : Prop := coreTornRow.holds Tryd.pinned (OpenSpec.ofChange coreTornWrong)

/- THE SECOND FORM. 'bulk': how many values and letters a reading holds, each counted each time it is reached (what is shared counts as often as it is met; a slice's spare places count too). A statement '..UptoSaid' is the law's where the arguments, and the package variables that the reading takes, are together of bulk at most 1048576: NARROWER than '..Said'. Prove '..Said' where nothing that the law and all that it calls make is longer than what came in: it says more and counts as full. Else prove '..UptoSaid'. A law counts once. -/
mutual
def uptoBulk {H : Type} : DataW H → Nat
  | .lit (.string bytes) => bytes.length + 1
  | .lit _ => 1
  | .nil => 1
  | .ptr d => uptoBulk d + 1
  | .slice elems spare => uptoBulkAll elems + uptoBulkAll spare + 1
  | .agg parts => uptoBulkAll parts + 1
  | .iface _ d => uptoBulk d + 1
  | .map entries => uptoBulkEntries entries + 1
  | .held _ => 1
def uptoBulkAll {H : Type} : List (DataW H) → Nat
  | [] => 0
  | d :: r => uptoBulk d + uptoBulkAll r
def uptoBulkEntries {H : Type} : List (Lit × DataW H) → Nat
  | [] => 0
  | x :: r => uptoBulkEntry x + uptoBulkEntries r
def uptoBulkEntry {H : Type} : Lit × DataW H → Nat
  | (.string bytes, d) => bytes.length + uptoBulk d + 1
  | (_, d) => uptoBulk d + 1
 end
def uptoSmall : (H : Type) → List (DataW H) → Bool := fun _ ds => decide (uptoBulkAll ds ≤ 1048576)
def OpenSpec.upto (s : _root_.Go.ChangeSpec) : _root_.Go.OpenSpec := { _root_.Go.OpenSpec.ofChange s with cond := some uptoSmall }

/-- 'engrosslaw19.CoreMuch', WHERE WHAT IT READS IS OF BULK AT MOST 1048576: true; the input reads as it did. -/
def coreMuchUptoRow : OpenClaim := { program := "ytoalhcodigpgkaadoor", sum := "ed79c10bc3ace3f4c78130ec769fe22ecabac86b3a3f3b2d5c63bdf79c20fc0a", func := "engross/engrosslaw19.CoreMuch", spec := "coreMuch", inPlace := ["internal/bytealg.IndexByteString", "internal/bytealg.IndexString"], unfollowed := true, recurses := true, named := ["unicode/utf8.first", "unicode/utf8.acceptRanges", "internal/bytealg.MaxLen"], apart := false, laid := [("unicode/utf8.acceptRanges", laid_unicode_utf8_acceptRanges), ("unicode/utf8.first", laid_unicode_utf8_first)], narrowed := true }
def CoreMuchUptoSaid : Prop := coreMuchUptoRow.holds Tryd.pinned (OpenSpec.upto coreMuchSpec)

/-- 'engrosslaw19.CoreAgain', WHERE WHAT IT READS IS OF BULK AT MOST 1048576: true; the input reads as it did. -/
def coreAgainUptoRow : OpenClaim := { program := "ytoalhcodigpgkaadoor", sum := "ed79c10bc3ace3f4c78130ec769fe22ecabac86b3a3f3b2d5c63bdf79c20fc0a", func := "engross/engrosslaw19.CoreAgain", spec := "coreAgain", inPlace := ["internal/bytealg.IndexByteString", "internal/bytealg.IndexString"], unfollowed := true, recurses := true, named := ["unicode/utf8.first", "unicode/utf8.acceptRanges", "internal/bytealg.MaxLen"], apart := false, laid := [("unicode/utf8.acceptRanges", laid_unicode_utf8_acceptRanges), ("unicode/utf8.first", laid_unicode_utf8_first)], narrowed := true }
def CoreAgainUptoSaid : Prop := coreAgainUptoRow.holds Tryd.pinned (OpenSpec.upto coreAgainSpec)

/-- 'engrosslaw19.CoreOpens', WHERE WHAT IT READS IS OF BULK AT MOST 1048576: true; the input reads as it did. -/
def coreOpensUptoRow : OpenClaim := { program := "ytoalhcodigpgkaadoor", sum := "ed79c10bc3ace3f4c78130ec769fe22ecabac86b3a3f3b2d5c63bdf79c20fc0a", func := "engross/engrosslaw19.CoreOpens", spec := "coreOpens", inPlace := ["internal/bytealg.IndexByteString", "internal/bytealg.IndexString"], unfollowed := true, recurses := true, named := ["unicode/utf8.first", "unicode/utf8.acceptRanges", "internal/bytealg.MaxLen"], apart := false, laid := [("unicode/utf8.acceptRanges", laid_unicode_utf8_acceptRanges), ("unicode/utf8.first", laid_unicode_utf8_first)], narrowed := true }
def CoreOpensUptoSaid : Prop := coreOpensUptoRow.holds Tryd.pinned (OpenSpec.upto coreOpensSpec)

/-- 'engrosslaw19.CoreTogether', WHERE WHAT IT READS IS OF BULK AT MOST 1048576: true; the input reads as it did. -/
def coreTogetherUptoRow : OpenClaim := { program := "ytoalhcodigpgkaadoor", sum := "ed79c10bc3ace3f4c78130ec769fe22ecabac86b3a3f3b2d5c63bdf79c20fc0a", func := "engross/engrosslaw19.CoreTogether", spec := "coreTogether", inPlace := ["internal/bytealg.IndexByteString", "internal/bytealg.IndexString"], unfollowed := true, recurses := true, named := ["unicode/utf8.first", "unicode/utf8.acceptRanges", "internal/bytealg.MaxLen"], apart := false, laid := [("unicode/utf8.acceptRanges", laid_unicode_utf8_acceptRanges), ("unicode/utf8.first", laid_unicode_utf8_first)], narrowed := true }
def CoreTogetherUptoSaid : Prop := coreTogetherUptoRow.holds Tryd.pinned (OpenSpec.upto coreTogetherSpec)

/-- 'engrosslaw19.CoreTorn', WHERE WHAT IT READS IS OF BULK AT MOST 1048576: true; the input reads as it did. -/
def coreTornUptoRow : OpenClaim := { program := "ytoalhcodigpgkaadoor", sum := "ed79c10bc3ace3f4c78130ec769fe22ecabac86b3a3f3b2d5c63bdf79c20fc0a", func := "engross/engrosslaw19.CoreTorn", spec := "coreTorn", inPlace := ["internal/bytealg.IndexByteString", "internal/bytealg.IndexString"], unfollowed := true, recurses := true, named := ["unicode/utf8.first", "unicode/utf8.acceptRanges", "internal/bytealg.MaxLen"], apart := false, laid := [("unicode/utf8.acceptRanges", laid_unicode_utf8_acceptRanges), ("unicode/utf8.first", laid_unicode_utf8_first)], narrowed := true }
def CoreTornUptoSaid : Prop := coreTornUptoRow.holds Tryd.pinned (OpenSpec.upto coreTornSpec)

end Rows
end Go.Proofs.YtoalhcodigpgkaaDoor
