/-
  DERIVED. GIVEN WITH THE SEED: THE CARDS: each row of YtoonoeadgnednaaDoorRows.lean that lists a variable, with what it lists TIED to the program's text (the seventh form; the later family's looks); each row that meets fmt, with fmt's text TOLD by the authors' own Lean function (tested against real Go, not proved from fmt's source: count such statements apart). THE CARD IS WHAT COUNTS. Prove the row's statement (the work); the ties are given (YtoonoeadgnednaaDoorTie.lean); close each card by the builder's one call (the guide's Derived/Test/ToyasCard.lean, 'card_holds'). Laid BY PROGRAM, IN A SANDBOX (cutbox-door.mjs). By AI agents, Wed Nov 11 2026. No macro, syntax, notation, axiom, sorry.
-/
import Derived.Test.YtoonoeadgnednaaDoorRows
import GoSem.ClaimSeven
namespace Go.Proofs.YtoonoeadgnednaaDoor
namespace Rows

/-- THE TIED CARD OF 'spandrellaw06.HeadSteps'. -/
def headStepsCard : Claim7 := { stood := { row := headStepsRow, standIns := [], harness := (true, "c19aad23a3e4e3cedbe381c306e37f323c0aae4686ada2a7e1bd03a7e459d63b"), looks := true }, kinds := [], alts := [], laidByText := true, laidKinds := [.data], laidTests := true, laidLooks := .later }
def HeadStepsCardSaid : Prop := Claim7.holds Tryd.pinned (.plain (OpenSpec.ofChange headStepsSpec)) headStepsCard

/-- THE SECOND FORM's CARD OF 'spandrellaw06.HeadSteps'. -/
def headStepsUptoCard : Claim7 := { stood := { row := headStepsUptoRow, standIns := [], harness := (true, "c19aad23a3e4e3cedbe381c306e37f323c0aae4686ada2a7e1bd03a7e459d63b"), looks := true }, kinds := [], alts := [], laidByText := true, laidKinds := [.data], laidTests := true, laidLooks := .later }
def HeadStepsUptoCardSaid : Prop := Claim7.holds Tryd.pinned (.plain (OpenSpec.upto headStepsSpec)) headStepsUptoCard
end Rows
end Go.Proofs.YtoonoeadgnednaaDoor
