/-
  DERIVED. GIVEN WITH THE SEED: THE CARDS: each row of YtoalhcodigpgkaaGreatDoorRows.lean that lists a variable, with what it lists TIED to the program's text (the seventh form; the later family's looks); each row that meets fmt, with fmt's text TOLD by the authors' own Lean function (tested against real Go, not proved from fmt's source: count such statements apart). THE CARD IS WHAT COUNTS. Prove the row's statement (the work); the ties are given (YtoalhcodigpgkaaGreatDoorTie.lean); close each card by the builder's one call (the guide's Derived/Test/ToyasCard.lean, 'card_holds'). Laid BY PROGRAM, IN A SANDBOX (cutbox-door.mjs). By AI agents, Wed Nov 11 2026. No macro, syntax, notation, axiom, sorry.
-/
import Derived.Test.YtoalhcodigpgkaaGreatDoorRows
import GoSem.ClaimSeven
namespace Go.Proofs.YtoalhcodigpgkaaGreatDoor
namespace Rows

/-- THE TIED CARD OF 'engrosslaw19.CoreFlush'. -/
def coreFlushCard : Claim7 := { stood := { row := coreFlushRow, standIns := [], harness := (true, "eeface2188c58a39243057ee5f7e76f345d52d3adce304135eddd435a05d0305"), looks := false }, kinds := [], alts := [], laidByText := true, laidKinds := [.data, .pinned], laidTests := true, laidLooks := .later }
def CoreFlushCardSaid : Prop := Claim7.holds Tryz.pinned (.plain (OpenSpec.ofChange coreFlushSpec)) coreFlushCard

/-- THE TIED CARD OF 'engrosslaw19.CoreAll'. -/
def coreAllCard : Claim7 := { stood := { row := coreAllRow, standIns := [], harness := (true, "eeface2188c58a39243057ee5f7e76f345d52d3adce304135eddd435a05d0305"), looks := false }, kinds := [], alts := [], laidByText := true, laidKinds := [.data, .pinned], laidTests := true, laidLooks := .later }
def CoreAllCardSaid : Prop := Claim7.holds Tryz.pinned (.plain (OpenSpec.ofChange coreAllSpec)) coreAllCard

/-- THE SECOND FORM's CARD OF 'engrosslaw19.CoreFlush'. -/
def coreFlushUptoCard : Claim7 := { stood := { row := coreFlushUptoRow, standIns := [], harness := (true, "eeface2188c58a39243057ee5f7e76f345d52d3adce304135eddd435a05d0305"), looks := false }, kinds := [], alts := [], laidByText := true, laidKinds := [.data, .pinned], laidTests := true, laidLooks := .later }
def CoreFlushUptoCardSaid : Prop := Claim7.holds Tryz.pinned (.plain (OpenSpec.upto coreFlushSpec)) coreFlushUptoCard

/-- THE SECOND FORM's CARD OF 'engrosslaw19.CoreAll'. -/
def coreAllUptoCard : Claim7 := { stood := { row := coreAllUptoRow, standIns := [], harness := (true, "eeface2188c58a39243057ee5f7e76f345d52d3adce304135eddd435a05d0305"), looks := false }, kinds := [], alts := [], laidByText := true, laidKinds := [.data, .pinned], laidTests := true, laidLooks := .later }
def CoreAllUptoCardSaid : Prop := Claim7.holds Tryz.pinned (.plain (OpenSpec.upto coreAllSpec)) coreAllUptoCard
end Rows
end Go.Proofs.YtoalhcodigpgkaaGreatDoor
