/-
  DERIVED. GIVEN WITH THE SEED: THE CARDS: each row of YtoalhcodigpgkaaDoorRows.lean that lists a variable, with what it lists TIED to the program's text (the seventh form; the later family's looks); each row that meets fmt, with fmt's text TOLD by the authors' own Lean function (tested against real Go, not proved from fmt's source: count such statements apart). THE CARD IS WHAT COUNTS. Prove the row's statement (the work); the ties are given (YtoalhcodigpgkaaDoorTie.lean); close each card by the builder's one call (the guide's Derived/Test/ToyasCard.lean, 'card_holds'). Laid BY PROGRAM, IN A SANDBOX (cutbox-door.mjs). By AI agents, Wed Nov 11 2026. No macro, syntax, notation, axiom, sorry.
-/
import Derived.Test.YtoalhcodigpgkaaDoorRows
import GoSem.ClaimSeven
namespace Go.Proofs.YtoalhcodigpgkaaDoor
namespace Rows

/-- THE TIED CARD OF 'engrosslaw19.CoreMuch'. -/
def coreMuchCard : Claim7 := { stood := { row := coreMuchRow, standIns := [], harness := (true, "c1fa46d363d5300aa757324af634017ca176d16c007d0eeb3784fd8de0e2e8d3"), looks := false }, kinds := [], alts := [], laidByText := true, laidKinds := [.data, .pinned], laidTests := true, laidLooks := .later }
def CoreMuchCardSaid : Prop := Claim7.holds Tryd.pinned (.plain (OpenSpec.ofChange coreMuchSpec)) coreMuchCard

/-- THE TIED CARD OF 'engrosslaw19.CoreAgain'. -/
def coreAgainCard : Claim7 := { stood := { row := coreAgainRow, standIns := [], harness := (true, "c1fa46d363d5300aa757324af634017ca176d16c007d0eeb3784fd8de0e2e8d3"), looks := false }, kinds := [], alts := [], laidByText := true, laidKinds := [.data, .pinned], laidTests := true, laidLooks := .later }
def CoreAgainCardSaid : Prop := Claim7.holds Tryd.pinned (.plain (OpenSpec.ofChange coreAgainSpec)) coreAgainCard

/-- THE TIED CARD OF 'engrosslaw19.CoreOpens'. -/
def coreOpensCard : Claim7 := { stood := { row := coreOpensRow, standIns := [], harness := (true, "c1fa46d363d5300aa757324af634017ca176d16c007d0eeb3784fd8de0e2e8d3"), looks := false }, kinds := [], alts := [], laidByText := true, laidKinds := [.data, .pinned], laidTests := true, laidLooks := .later }
def CoreOpensCardSaid : Prop := Claim7.holds Tryd.pinned (.plain (OpenSpec.ofChange coreOpensSpec)) coreOpensCard

/-- THE TIED CARD OF 'engrosslaw19.CoreTogether'. -/
def coreTogetherCard : Claim7 := { stood := { row := coreTogetherRow, standIns := [], harness := (true, "c1fa46d363d5300aa757324af634017ca176d16c007d0eeb3784fd8de0e2e8d3"), looks := false }, kinds := [], alts := [], laidByText := true, laidKinds := [.data, .pinned], laidTests := true, laidLooks := .later }
def CoreTogetherCardSaid : Prop := Claim7.holds Tryd.pinned (.plain (OpenSpec.ofChange coreTogetherSpec)) coreTogetherCard

/-- THE TIED CARD OF 'engrosslaw19.CoreTorn'. -/
def coreTornCard : Claim7 := { stood := { row := coreTornRow, standIns := [], harness := (true, "c1fa46d363d5300aa757324af634017ca176d16c007d0eeb3784fd8de0e2e8d3"), looks := false }, kinds := [], alts := [], laidByText := true, laidKinds := [.data, .pinned], laidTests := true, laidLooks := .later }
def CoreTornCardSaid : Prop := Claim7.holds Tryd.pinned (.plain (OpenSpec.ofChange coreTornSpec)) coreTornCard

/-- THE SECOND FORM's CARD OF 'engrosslaw19.CoreMuch'. -/
def coreMuchUptoCard : Claim7 := { stood := { row := coreMuchUptoRow, standIns := [], harness := (true, "c1fa46d363d5300aa757324af634017ca176d16c007d0eeb3784fd8de0e2e8d3"), looks := false }, kinds := [], alts := [], laidByText := true, laidKinds := [.data, .pinned], laidTests := true, laidLooks := .later }
def CoreMuchUptoCardSaid : Prop := Claim7.holds Tryd.pinned (.plain (OpenSpec.upto coreMuchSpec)) coreMuchUptoCard

/-- THE SECOND FORM's CARD OF 'engrosslaw19.CoreAgain'. -/
def coreAgainUptoCard : Claim7 := { stood := { row := coreAgainUptoRow, standIns := [], harness := (true, "c1fa46d363d5300aa757324af634017ca176d16c007d0eeb3784fd8de0e2e8d3"), looks := false }, kinds := [], alts := [], laidByText := true, laidKinds := [.data, .pinned], laidTests := true, laidLooks := .later }
def CoreAgainUptoCardSaid : Prop := Claim7.holds Tryd.pinned (.plain (OpenSpec.upto coreAgainSpec)) coreAgainUptoCard

/-- THE SECOND FORM's CARD OF 'engrosslaw19.CoreOpens'. -/
def coreOpensUptoCard : Claim7 := { stood := { row := coreOpensUptoRow, standIns := [], harness := (true, "c1fa46d363d5300aa757324af634017ca176d16c007d0eeb3784fd8de0e2e8d3"), looks := false }, kinds := [], alts := [], laidByText := true, laidKinds := [.data, .pinned], laidTests := true, laidLooks := .later }
def CoreOpensUptoCardSaid : Prop := Claim7.holds Tryd.pinned (.plain (OpenSpec.upto coreOpensSpec)) coreOpensUptoCard

/-- THE SECOND FORM's CARD OF 'engrosslaw19.CoreTogether'. -/
def coreTogetherUptoCard : Claim7 := { stood := { row := coreTogetherUptoRow, standIns := [], harness := (true, "c1fa46d363d5300aa757324af634017ca176d16c007d0eeb3784fd8de0e2e8d3"), looks := false }, kinds := [], alts := [], laidByText := true, laidKinds := [.data, .pinned], laidTests := true, laidLooks := .later }
def CoreTogetherUptoCardSaid : Prop := Claim7.holds Tryd.pinned (.plain (OpenSpec.upto coreTogetherSpec)) coreTogetherUptoCard

/-- THE SECOND FORM's CARD OF 'engrosslaw19.CoreTorn'. -/
def coreTornUptoCard : Claim7 := { stood := { row := coreTornUptoRow, standIns := [], harness := (true, "c1fa46d363d5300aa757324af634017ca176d16c007d0eeb3784fd8de0e2e8d3"), looks := false }, kinds := [], alts := [], laidByText := true, laidKinds := [.data, .pinned], laidTests := true, laidLooks := .later }
def CoreTornUptoCardSaid : Prop := Claim7.holds Tryd.pinned (.plain (OpenSpec.upto coreTornSpec)) coreTornUptoCard
end Rows
end Go.Proofs.YtoalhcodigpgkaaDoor
