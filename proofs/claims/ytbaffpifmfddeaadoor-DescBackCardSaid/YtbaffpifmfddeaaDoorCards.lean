/-
  DERIVED. GIVEN WITH THE SEED: THE CARDS: each row of YtbaffpifmfddeaaDoorRows.lean that lists a variable, with what it lists TIED to the program's text (the seventh form; the later family's looks); each row that meets fmt, with fmt's text TOLD by the authors' own Lean function (tested against real Go, not proved from fmt's source: count such statements apart). THE CARD IS WHAT COUNTS. Prove the row's statement (the work); the ties are given (YtbaffpifmfddeaaDoorTie.lean); close each card by the builder's one call (the guide's Derived/Test/ToyasCard.lean, 'card_holds'). Laid BY PROGRAM, IN A SANDBOX (cutbox-door.mjs). By AI agents, Wed Nov 11 2026. No macro, syntax, notation, axiom, sorry.
-/
import Derived.Test.YtbaffpifmfddeaaDoorRows
import GoSem.ClaimSeven
namespace Go.Proofs.YtbaffpifmfddeaaDoor
namespace Rows

/-- THE TIED CARD OF 'afterglowlaw23.DescApart'. -/
def descApartCard : Claim7 := { stood := { row := descApartRow, standIns := [], harness := (true, "1484fc4d43ace41f8adca3ff280b41ecd5bed20c3031467d978860edf3a93db4"), looks := false }, kinds := [], alts := [], laidByText := true, laidKinds := [.widerDeep], laidTests := true, laidLooks := .later }
def DescApartCardSaid : Prop := Claim7.holds Tryd.pinned (.plain (OpenSpec.ofChange descApartSpec)) descApartCard

/-- THE TIED CARD OF 'afterglowlaw23.DescTells'. -/
def descTellsCard : Claim7 := { stood := { row := descTellsRow, standIns := [], harness := (true, "1484fc4d43ace41f8adca3ff280b41ecd5bed20c3031467d978860edf3a93db4"), looks := false }, kinds := [], alts := [], laidByText := true, laidKinds := [.widerDeep], laidTests := true, laidLooks := .later }
def DescTellsCardSaid : Prop := Claim7.holds Tryd.pinned (.plain (OpenSpec.ofChange descTellsSpec)) descTellsCard

/-- THE TIED CARD OF 'afterglowlaw23.DescBack'. -/
def descBackCard : Claim7 := { stood := { row := descBackRow, standIns := [], harness := (true, "1484fc4d43ace41f8adca3ff280b41ecd5bed20c3031467d978860edf3a93db4"), looks := false }, kinds := [], alts := [], laidByText := true, laidKinds := [.widerDeep], laidTests := true, laidLooks := .later }
def DescBackCardSaid : Prop := Claim7.holds Tryd.pinned (.plain (OpenSpec.ofChange descBackSpec)) descBackCard

/-- THE SECOND FORM's CARD OF 'afterglowlaw23.DescApart'. -/
def descApartUptoCard : Claim7 := { stood := { row := descApartUptoRow, standIns := [], harness := (true, "1484fc4d43ace41f8adca3ff280b41ecd5bed20c3031467d978860edf3a93db4"), looks := false }, kinds := [], alts := [], laidByText := true, laidKinds := [.widerDeep], laidTests := true, laidLooks := .later }
def DescApartUptoCardSaid : Prop := Claim7.holds Tryd.pinned (.plain (OpenSpec.upto descApartSpec)) descApartUptoCard

/-- THE SECOND FORM's CARD OF 'afterglowlaw23.DescTells'. -/
def descTellsUptoCard : Claim7 := { stood := { row := descTellsUptoRow, standIns := [], harness := (true, "1484fc4d43ace41f8adca3ff280b41ecd5bed20c3031467d978860edf3a93db4"), looks := false }, kinds := [], alts := [], laidByText := true, laidKinds := [.widerDeep], laidTests := true, laidLooks := .later }
def DescTellsUptoCardSaid : Prop := Claim7.holds Tryd.pinned (.plain (OpenSpec.upto descTellsSpec)) descTellsUptoCard

/-- THE SECOND FORM's CARD OF 'afterglowlaw23.DescBack'. -/
def descBackUptoCard : Claim7 := { stood := { row := descBackUptoRow, standIns := [], harness := (true, "1484fc4d43ace41f8adca3ff280b41ecd5bed20c3031467d978860edf3a93db4"), looks := false }, kinds := [], alts := [], laidByText := true, laidKinds := [.widerDeep], laidTests := true, laidLooks := .later }
def DescBackUptoCardSaid : Prop := Claim7.holds Tryd.pinned (.plain (OpenSpec.upto descBackSpec)) descBackUptoCard
end Rows
end Go.Proofs.YtbaffpifmfddeaaDoor
