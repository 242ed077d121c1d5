/-
  DERIVED. GIVEN WITH THE SEED: THE CARDS: each row of YtoonoeadgnednaaGreatDoorRows.lean that lists a variable, with what it lists TIED to the program's text (the seventh form; the later family's looks); each row that meets fmt, with fmt's text TOLD by the authors' own Lean function (tested against real Go, not proved from fmt's source: count such statements apart). THE CARD IS WHAT COUNTS. Prove the row's statement (the work); the ties are given (YtoonoeadgnednaaGreatDoorTie.lean); close each card by the builder's one call (the guide's Derived/Test/ToyasCard.lean, 'card_holds'). Laid BY PROGRAM, IN A SANDBOX (cutbox-door.mjs). By AI agents, Wed Nov 11 2026. No macro, syntax, notation, axiom, sorry.
-/
import Derived.Test.YtoonoeadgnednaaGreatDoorRows
import GoSem.ClaimSeven
namespace Go.Proofs.YtoonoeadgnednaaGreatDoor
namespace Rows

/-- THE TIED CARD OF 'spandrellaw06.HeadRight'. -/
def headRightCard : Claim7 := { stood := { row := headRightRow, standIns := [], harness := (true, "7c46c196a9b6829ba987039c04997c15b760a742954f05ecd0d77da88fc54cc4"), looks := true }, kinds := [], alts := [], laidByText := true, laidKinds := [.data], laidTests := true, laidLooks := .later }
def HeadRightCardSaid : Prop := Claim7.holds Tryz.pinned (.plain (OpenSpec.ofChange headRightSpec)) headRightCard

/-- THE SECOND FORM's CARD OF 'spandrellaw06.HeadRight'. -/
def headRightUptoCard : Claim7 := { stood := { row := headRightUptoRow, standIns := [], harness := (true, "7c46c196a9b6829ba987039c04997c15b760a742954f05ecd0d77da88fc54cc4"), looks := true }, kinds := [], alts := [], laidByText := true, laidKinds := [.data], laidTests := true, laidLooks := .later }
def HeadRightUptoCardSaid : Prop := Claim7.holds Tryz.pinned (.plain (OpenSpec.upto headRightSpec)) headRightUptoCard
end Rows
end Go.Proofs.YtoonoeadgnednaaGreatDoor
