/-
  DERIVED. GIVEN WITH THE SEED: THE CARDS: each row of YtbnknhpebkcpmaaGreatDoorRows.lean that lists a variable, with what it lists TIED to the program's text (the seventh form; the later family's looks); each row that meets fmt, with fmt's text TOLD by the authors' own Lean function (tested against real Go, not proved from fmt's source: count such statements apart). THE CARD IS WHAT COUNTS. Prove the row's statement (the work); the ties are given (YtbnknhpebkcpmaaGreatDoorTie.lean); close each card by the builder's one call (the guide's Derived/Test/ToyasCard.lean, 'card_holds'). Laid BY PROGRAM, IN A SANDBOX (cutbox-door.mjs). By AI agents, Wed Nov 11 2026. No macro, syntax, notation, axiom, sorry.
-/
import Derived.Test.YtbnknhpebkcpmaaGreatDoorRows
import GoSem.ClaimSeven
namespace Go.Proofs.YtbnknhpebkcpmaaGreatDoor
namespace Rows

/-- THE TIED CARD OF 'spandrellaw08.ConvMost'. -/
def convMostCard : Claim7 := { stood := { row := convMostRow, standIns := [], harness := (true, "d728e472fbdb09dd7e76c15907696fa8591ad6e7c17046e01ea43f20ddc41022"), looks := true }, kinds := [], alts := [], laidByText := true, laidKinds := [.data], laidTests := true, laidLooks := .later }
def ConvMostCardSaid : Prop := Claim7.holds Tryz.pinned (.plain (OpenSpec.ofChange convMostSpec)) convMostCard

/-- THE TIED CARD OF 'spandrellaw09.InferLifts'. -/
def inferLiftsCard : Claim7 := { stood := { row := inferLiftsRow, standIns := [], harness := (true, "d728e472fbdb09dd7e76c15907696fa8591ad6e7c17046e01ea43f20ddc41022"), looks := true }, kinds := [], alts := [], laidByText := true, laidKinds := [.data], laidTests := true, laidLooks := .later }
def InferLiftsCardSaid : Prop := Claim7.holds Tryz.pinned (.plain (OpenSpec.ofChange inferLiftsSpec)) inferLiftsCard

/-- THE TIED CARD OF 'spandrellaw10.CenvAll'. -/
def cenvAllCard : Claim7 := { stood := { row := cenvAllRow, standIns := [], harness := (true, "d728e472fbdb09dd7e76c15907696fa8591ad6e7c17046e01ea43f20ddc41022"), looks := true }, kinds := [], alts := [], laidByText := true, laidKinds := [.data], laidTests := true, laidLooks := .later }
def CenvAllCardSaid : Prop := Claim7.holds Tryz.pinned (.plain (OpenSpec.ofChange cenvAllSpec)) cenvAllCard

/-- THE TIED CARD OF 'spandrellaw10.CenvMore'. -/
def cenvMoreCard : Claim7 := { stood := { row := cenvMoreRow, standIns := [], harness := (true, "d728e472fbdb09dd7e76c15907696fa8591ad6e7c17046e01ea43f20ddc41022"), looks := true }, kinds := [], alts := [], laidByText := true, laidKinds := [.data], laidTests := true, laidLooks := .later }
def CenvMoreCardSaid : Prop := Claim7.holds Tryz.pinned (.plain (OpenSpec.ofChange cenvMoreSpec)) cenvMoreCard

/-- THE SECOND FORM's CARD OF 'spandrellaw08.ConvMost'. -/
def convMostUptoCard : Claim7 := { stood := { row := convMostUptoRow, standIns := [], harness := (true, "d728e472fbdb09dd7e76c15907696fa8591ad6e7c17046e01ea43f20ddc41022"), looks := true }, kinds := [], alts := [], laidByText := true, laidKinds := [.data], laidTests := true, laidLooks := .later }
def ConvMostUptoCardSaid : Prop := Claim7.holds Tryz.pinned (.plain (OpenSpec.upto convMostSpec)) convMostUptoCard

/-- THE SECOND FORM's CARD OF 'spandrellaw09.InferLifts'. -/
def inferLiftsUptoCard : Claim7 := { stood := { row := inferLiftsUptoRow, standIns := [], harness := (true, "d728e472fbdb09dd7e76c15907696fa8591ad6e7c17046e01ea43f20ddc41022"), looks := true }, kinds := [], alts := [], laidByText := true, laidKinds := [.data], laidTests := true, laidLooks := .later }
def InferLiftsUptoCardSaid : Prop := Claim7.holds Tryz.pinned (.plain (OpenSpec.upto inferLiftsSpec)) inferLiftsUptoCard

/-- THE SECOND FORM's CARD OF 'spandrellaw10.CenvAll'. -/
def cenvAllUptoCard : Claim7 := { stood := { row := cenvAllUptoRow, standIns := [], harness := (true, "d728e472fbdb09dd7e76c15907696fa8591ad6e7c17046e01ea43f20ddc41022"), looks := true }, kinds := [], alts := [], laidByText := true, laidKinds := [.data], laidTests := true, laidLooks := .later }
def CenvAllUptoCardSaid : Prop := Claim7.holds Tryz.pinned (.plain (OpenSpec.upto cenvAllSpec)) cenvAllUptoCard

/-- THE SECOND FORM's CARD OF 'spandrellaw10.CenvMore'. -/
def cenvMoreUptoCard : Claim7 := { stood := { row := cenvMoreUptoRow, standIns := [], harness := (true, "d728e472fbdb09dd7e76c15907696fa8591ad6e7c17046e01ea43f20ddc41022"), looks := true }, kinds := [], alts := [], laidByText := true, laidKinds := [.data], laidTests := true, laidLooks := .later }
def CenvMoreUptoCardSaid : Prop := Claim7.holds Tryz.pinned (.plain (OpenSpec.upto cenvMoreSpec)) cenvMoreUptoCard
end Rows
end Go.Proofs.YtbnknhpebkcpmaaGreatDoor
