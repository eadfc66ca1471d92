/-
  DERIVED. GIVEN WITH THE SEED: THE CARDS: each row of YtdhaaaeffhaadaaGreatDoorRows.lean that lists a variable, with what it lists TIED to the program's text (the seventh form; the later family's looks); each row that meets fmt, with fmt's text TOLD by the authors' own Lean function (tested against real Go, not proved from fmt's source: count such statements apart). THE CARD IS WHAT COUNTS. Prove the row's statement (the work); the ties are given (YtdhaaaeffhaadaaGreatDoorTie.lean); close each card by the builder's one call (the guide's Derived/Test/ToyasCard.lean, 'card_holds'). Laid BY PROGRAM, IN A SANDBOX (cutbox-door.mjs). By AI agents, Wed Nov 11 2026. No macro, syntax, notation, axiom, sorry.
-/
import Derived.Test.YtdhaaaeffhaadaaGreatDoorRows
import GoSem.ClaimSeven
namespace Go.Proofs.YtdhaaaeffhaadaaGreatDoor
namespace Rows

/-- THE TIED CARD OF 'afterglowlaw26.ModelMay'. -/
def modelMayCard : Claim7 := { stood := { row := modelMayRow, standIns := [], harness := (true, "8fb9d2bce36525c9fda334c1d3496ee49433d2286de986d4be434cbe93723f15"), looks := true }, kinds := [], alts := [], laidByText := true, laidKinds := [.data], laidTests := true, laidLooks := .later }
def ModelMayCardSaid : Prop := Claim7.holds Tryz.pinned (.plain (OpenSpec.ofChange modelMaySpec)) modelMayCard

/-- THE TIED CARD OF 'afterglowlaw26.ModelDoes'. -/
def modelDoesCard : Claim7 := { stood := { row := modelDoesRow, standIns := [], harness := (true, "8fb9d2bce36525c9fda334c1d3496ee49433d2286de986d4be434cbe93723f15"), looks := true }, kinds := [], alts := [], laidByText := true, laidKinds := [.data], laidTests := true, laidLooks := .later }
def ModelDoesCardSaid : Prop := Claim7.holds Tryz.pinned (.plain (OpenSpec.ofChange modelDoesSpec)) modelDoesCard

/-- THE TIED CARD OF 'afterglowlaw26.ModelErrors'. -/
def modelErrorsCard : Claim7 := { stood := { row := modelErrorsRow, standIns := [], harness := (true, "8fb9d2bce36525c9fda334c1d3496ee49433d2286de986d4be434cbe93723f15"), looks := true }, kinds := [], alts := [], laidByText := true, laidKinds := [.data], laidTests := true, laidLooks := .later }
def ModelErrorsCardSaid : Prop := Claim7.holds Tryz.pinned (.plain (OpenSpec.ofChange modelErrorsSpec)) modelErrorsCard

/-- THE TIED CARD OF 'afterglowlaw26.ModelNever'. -/
def modelNeverCard : Claim7 := { stood := { row := modelNeverRow, standIns := [], harness := (true, "8fb9d2bce36525c9fda334c1d3496ee49433d2286de986d4be434cbe93723f15"), looks := true }, kinds := [], alts := [], laidByText := true, laidKinds := [.data], laidTests := true, laidLooks := .later }
def ModelNeverCardSaid : Prop := Claim7.holds Tryz.pinned (.plain (OpenSpec.ofChange modelNeverSpec)) modelNeverCard

/-- THE TIED CARD OF 'afterglowlaw26.ModelPairs'. -/
def modelPairsCard : Claim7 := { stood := { row := modelPairsRow, standIns := [], harness := (true, "8fb9d2bce36525c9fda334c1d3496ee49433d2286de986d4be434cbe93723f15"), looks := true }, kinds := [], alts := [], laidByText := true, laidKinds := [.data], laidTests := true, laidLooks := .later }
def ModelPairsCardSaid : Prop := Claim7.holds Tryz.pinned (.plain (OpenSpec.ofChange modelPairsSpec)) modelPairsCard

/-- THE SECOND FORM's CARD OF 'afterglowlaw26.ModelMay'. -/
def modelMayUptoCard : Claim7 := { stood := { row := modelMayUptoRow, standIns := [], harness := (true, "8fb9d2bce36525c9fda334c1d3496ee49433d2286de986d4be434cbe93723f15"), looks := true }, kinds := [], alts := [], laidByText := true, laidKinds := [.data], laidTests := true, laidLooks := .later }
def ModelMayUptoCardSaid : Prop := Claim7.holds Tryz.pinned (.plain (OpenSpec.upto modelMaySpec)) modelMayUptoCard

/-- THE SECOND FORM's CARD OF 'afterglowlaw26.ModelDoes'. -/
def modelDoesUptoCard : Claim7 := { stood := { row := modelDoesUptoRow, standIns := [], harness := (true, "8fb9d2bce36525c9fda334c1d3496ee49433d2286de986d4be434cbe93723f15"), looks := true }, kinds := [], alts := [], laidByText := true, laidKinds := [.data], laidTests := true, laidLooks := .later }
def ModelDoesUptoCardSaid : Prop := Claim7.holds Tryz.pinned (.plain (OpenSpec.upto modelDoesSpec)) modelDoesUptoCard

/-- THE SECOND FORM's CARD OF 'afterglowlaw26.ModelErrors'. -/
def modelErrorsUptoCard : Claim7 := { stood := { row := modelErrorsUptoRow, standIns := [], harness := (true, "8fb9d2bce36525c9fda334c1d3496ee49433d2286de986d4be434cbe93723f15"), looks := true }, kinds := [], alts := [], laidByText := true, laidKinds := [.data], laidTests := true, laidLooks := .later }
def ModelErrorsUptoCardSaid : Prop := Claim7.holds Tryz.pinned (.plain (OpenSpec.upto modelErrorsSpec)) modelErrorsUptoCard

/-- THE SECOND FORM's CARD OF 'afterglowlaw26.ModelNever'. -/
def modelNeverUptoCard : Claim7 := { stood := { row := modelNeverUptoRow, standIns := [], harness := (true, "8fb9d2bce36525c9fda334c1d3496ee49433d2286de986d4be434cbe93723f15"), looks := true }, kinds := [], alts := [], laidByText := true, laidKinds := [.data], laidTests := true, laidLooks := .later }
def ModelNeverUptoCardSaid : Prop := Claim7.holds Tryz.pinned (.plain (OpenSpec.upto modelNeverSpec)) modelNeverUptoCard

/-- THE SECOND FORM's CARD OF 'afterglowlaw26.ModelPairs'. -/
def modelPairsUptoCard : Claim7 := { stood := { row := modelPairsUptoRow, standIns := [], harness := (true, "8fb9d2bce36525c9fda334c1d3496ee49433d2286de986d4be434cbe93723f15"), looks := true }, kinds := [], alts := [], laidByText := true, laidKinds := [.data], laidTests := true, laidLooks := .later }
def ModelPairsUptoCardSaid : Prop := Claim7.holds Tryz.pinned (.plain (OpenSpec.upto modelPairsSpec)) modelPairsUptoCard
end Rows
end Go.Proofs.YtdhaaaeffhaadaaGreatDoor
