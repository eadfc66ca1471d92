/-
  DERIVED. GIVEN WITH THE SEED: THE CARDS: each row of YtoggponeookhbaaGreatDoorRows.lean that lists a variable, with what it lists TIED to the program's text (the seventh form; the later family's looks); each row that meets fmt, with fmt's text TOLD by the authors' own Lean function (tested against real Go, not proved from fmt's source: count such statements apart). THE CARD IS WHAT COUNTS. Prove the row's statement (the work); the ties are given (YtoggponeookhbaaGreatDoorTie.lean); close each card by the builder's one call (the guide's Derived/Test/ToyasCard.lean, 'card_holds'). Laid BY PROGRAM, IN A SANDBOX (cutbox-door.mjs). By AI agents, Wed Nov 11 2026. No macro, syntax, notation, axiom, sorry.
-/
import Derived.Test.YtoggponeookhbaaGreatDoorRows
import GoSem.ClaimSeven
namespace Go.Proofs.YtoggponeookhbaaGreatDoor
namespace Rows

/-- THE TIED CARD OF 'afterglowlaw29.OrderSearch'. -/
def orderSearchCard : Claim7 := { stood := { row := orderSearchRow, standIns := [], harness := (true, "4ca8e07d8e9c8a75911bde7213c299c3a127383f7a8260e0393b5dd2d024a00f"), looks := true }, kinds := [], alts := [], laidByText := true, laidKinds := [.data], laidTests := true, laidLooks := .later }
def OrderSearchCardSaid : Prop := Claim7.holds Tryz.pinned (.plain (OpenSpec.ofChange orderSearchSpec)) orderSearchCard

/-- THE TIED CARD OF 'afterglowlaw29.OrderReads'. -/
def orderReadsCard : Claim7 := { stood := { row := orderReadsRow, standIns := [], harness := (true, "4ca8e07d8e9c8a75911bde7213c299c3a127383f7a8260e0393b5dd2d024a00f"), looks := true }, kinds := [], alts := [], laidByText := true, laidKinds := [.data], laidTests := true, laidLooks := .later }
def OrderReadsCardSaid : Prop := Claim7.holds Tryz.pinned (.plain (OpenSpec.ofChange orderReadsSpec)) orderReadsCard

/-- THE TIED CARD OF 'afterglowlaw29.OrderIs'. -/
def orderIsCard : Claim7 := { stood := { row := orderIsRow, standIns := [], harness := (true, "4ca8e07d8e9c8a75911bde7213c299c3a127383f7a8260e0393b5dd2d024a00f"), looks := true }, kinds := [], alts := [], laidByText := true, laidKinds := [.data], laidTests := true, laidLooks := .later }
def OrderIsCardSaid : Prop := Claim7.holds Tryz.pinned (.plain (OpenSpec.ofChange orderIsSpec)) orderIsCard

/-- THE TIED CARD OF 'afterglowlaw29.OrderOne'. -/
def orderOneCard : Claim7 := { stood := { row := orderOneRow, standIns := [], harness := (true, "4ca8e07d8e9c8a75911bde7213c299c3a127383f7a8260e0393b5dd2d024a00f"), looks := true }, kinds := [], alts := [], laidByText := true, laidKinds := [.data], laidTests := true, laidLooks := .later }
def OrderOneCardSaid : Prop := Claim7.holds Tryz.pinned (.plain (OpenSpec.ofChange orderOneSpec)) orderOneCard

/-- THE SECOND FORM's CARD OF 'afterglowlaw29.OrderSearch'. -/
def orderSearchUptoCard : Claim7 := { stood := { row := orderSearchUptoRow, standIns := [], harness := (true, "4ca8e07d8e9c8a75911bde7213c299c3a127383f7a8260e0393b5dd2d024a00f"), looks := true }, kinds := [], alts := [], laidByText := true, laidKinds := [.data], laidTests := true, laidLooks := .later }
def OrderSearchUptoCardSaid : Prop := Claim7.holds Tryz.pinned (.plain (OpenSpec.upto orderSearchSpec)) orderSearchUptoCard

/-- THE SECOND FORM's CARD OF 'afterglowlaw29.OrderReads'. -/
def orderReadsUptoCard : Claim7 := { stood := { row := orderReadsUptoRow, standIns := [], harness := (true, "4ca8e07d8e9c8a75911bde7213c299c3a127383f7a8260e0393b5dd2d024a00f"), looks := true }, kinds := [], alts := [], laidByText := true, laidKinds := [.data], laidTests := true, laidLooks := .later }
def OrderReadsUptoCardSaid : Prop := Claim7.holds Tryz.pinned (.plain (OpenSpec.upto orderReadsSpec)) orderReadsUptoCard

/-- THE SECOND FORM's CARD OF 'afterglowlaw29.OrderIs'. -/
def orderIsUptoCard : Claim7 := { stood := { row := orderIsUptoRow, standIns := [], harness := (true, "4ca8e07d8e9c8a75911bde7213c299c3a127383f7a8260e0393b5dd2d024a00f"), looks := true }, kinds := [], alts := [], laidByText := true, laidKinds := [.data], laidTests := true, laidLooks := .later }
def OrderIsUptoCardSaid : Prop := Claim7.holds Tryz.pinned (.plain (OpenSpec.upto orderIsSpec)) orderIsUptoCard

/-- THE SECOND FORM's CARD OF 'afterglowlaw29.OrderOne'. -/
def orderOneUptoCard : Claim7 := { stood := { row := orderOneUptoRow, standIns := [], harness := (true, "4ca8e07d8e9c8a75911bde7213c299c3a127383f7a8260e0393b5dd2d024a00f"), looks := true }, kinds := [], alts := [], laidByText := true, laidKinds := [.data], laidTests := true, laidLooks := .later }
def OrderOneUptoCardSaid : Prop := Claim7.holds Tryz.pinned (.plain (OpenSpec.upto orderOneSpec)) orderOneUptoCard
end Rows
end Go.Proofs.YtoggponeookhbaaGreatDoor
