/-
  NARROWER THAN 'FOR EVERY INPUT', by the rows' own cells (each row's printed sentence says how): OrderSearch: laid · OrderReads: laid · OrderIs: laid · OrderOne: laid.
  DERIVED. THE GIVEN ROWS OF THIS SEAT. 4 by the template 'for every input the law returns true; each argument reads behind the call as it read before'; 0 by the template 'total and deterministic' (their statements: YtoggponeookhbaaGreatDoorTotals.lean).
  GIVEN WITH THE SEED: the statements are not yours to turn. If you find one false, say at which input.
  Laid BY PROGRAM, IN A SANDBOX (cutbox-rows.mjs): the forced cells as the released guide's own fill.sh prints them over the translation 313fab71c6bb2cf1… (all of the seat's roots in one cut). By AI agents, Wed Nov 11 2026. No macro, syntax, notation, axiom, sorry.
-/
import Derived.Test.YtoggponeookhbaaGreatDoorChecked
import GoSem.Claim
import GoSem.ClaimJoined
import GoSem.ClaimMapViews
import Derived.JoinedTies
import Derived.KernelRfl
namespace Go.Proofs.YtoggponeookhbaaGreatDoor
/- THE CELL 'sum', in the pinned program and in every row, IS THE sha256 OF THE DUMP (.gsa) THAT YtoggponeookhbaaGreatDoorProg.lean LOADS. Nothing in Lean hashes anything: it is a label: what it is worth is what the hold of that sum in a sandbox is worth. -/
noncomputable def Tryz.pinned : Pinned := { name := "ytoggponeookhbaagreatdoor", sum := "313fab71c6bb2cf1c13deb37c360585f4bb53bc7fb2eaf41040c8dd64626bc44", checked := Tryz.checked }
namespace Rows
def none {H : Type} : Left H := { results := [], args := [] }

/- WHAT THE LISTED PACKAGE-LEVEL VARIABLES READ AS WHEN THE CALL BEGINS. Each datum BY PROGRAM (the guide's laid-datum.mjs) off the statement by which the dump's own 'gosem.cut.vars' lays the variable. In a bare row this is a premise. The card (YtoggponeookhbaaGreatDoorCards.lean) ties it to the program's text. -/
def laid_afterglow_proc_first {H : Type} : DataW H := .agg [.lit (.int .u64 1), .lit (.int .u64 0), .lit (.bool false), .lit (.int .u64 0)]

/-- 'afterglowlaw29.OrderSearch': WHATEVER THE INPUT: true; the input reads as it did. -/
def orderSearchSpec : ChangeSpec := { name := "orderSearch", fn := fun _ => fun
  | [d] => { results := [.lit (.bool true)], args := [d] }
  | _ => none }
def orderSearchRow : OpenClaim := { program := "ytoggponeookhbaagreatdoor", sum := "313fab71c6bb2cf1c13deb37c360585f4bb53bc7fb2eaf41040c8dd64626bc44", func := "afterglow/afterglowlaw29.OrderSearch", spec := "orderSearch", inPlace := ["internal/bytealg.IndexByteString", "internal/abi.NoEscape", "internal/bytealg.MakeNoZero", "slices.overlaps[afterglow/api.Proc]", "slices.overlaps[afterglow/api.Box]", "slices.overlaps[afterglow/api.Desc]", "slices.overlaps[afterglow/api.Name]"], unfollowed := true, recurses := true, named := ["afterglow/proc.first"], apart := false, laid := [("afterglow/proc.first", laid_afterglow_proc_first)] }
def OrderSearchSaid : Prop := orderSearchRow.holds Tryz.pinned (OpenSpec.ofChange orderSearchSpec)

/-- ITS FALSE NEIGHBOUR: 'it returns false'. Refute it at one input. -/
def orderSearchWrong : ChangeSpec := { name := "orderSearch", fn := fun _ => fun
  | [d] => { results := [.lit (.bool false)], args := [d] }
  | _ => none }
def OrderSearchWrongFalsely : Prop := orderSearchRow.holds Tryz.pinned (OpenSpec.ofChange orderSearchWrong)

/-- 'afterglowlaw29.OrderReads': WHATEVER THE INPUT: true; the input reads as it did. -/
def orderReadsSpec : ChangeSpec := { name := "orderReads", fn := fun _ => fun
  | [d1, d2] => { results := [.lit (.bool true)], args := [d1, d2] }
  | _ => none }
def orderReadsRow : OpenClaim := { program := "ytoggponeookhbaagreatdoor", sum := "313fab71c6bb2cf1c13deb37c360585f4bb53bc7fb2eaf41040c8dd64626bc44", func := "afterglow/afterglowlaw29.OrderReads", spec := "orderReads", inPlace := ["internal/bytealg.IndexByteString", "internal/abi.NoEscape", "internal/bytealg.MakeNoZero", "slices.overlaps[afterglow/api.Proc]", "slices.overlaps[afterglow/api.Box]", "slices.overlaps[afterglow/api.Desc]", "slices.overlaps[afterglow/api.Name]"], unfollowed := true, recurses := true, named := ["afterglow/proc.first"], apart := false, laid := [("afterglow/proc.first", laid_afterglow_proc_first)] }
def OrderReadsSaid : Prop := orderReadsRow.holds Tryz.pinned (OpenSpec.ofChange orderReadsSpec)

/-- ITS FALSE NEIGHBOUR: 'it returns false'. Refute it at one input. -/
def orderReadsWrong : ChangeSpec := { name := "orderReads", fn := fun _ => fun
  | [d1, d2] => { results := [.lit (.bool false)], args := [d1, d2] }
  | _ => none }
def OrderReadsWrongFalsely : Prop := orderReadsRow.holds Tryz.pinned (OpenSpec.ofChange orderReadsWrong)

/-- 'afterglowlaw29.OrderIs': WHATEVER THE INPUT: true; the input reads as it did. -/
def orderIsSpec : ChangeSpec := { name := "orderIs", fn := fun _ => fun
  | [d] => { results := [.lit (.bool true)], args := [d] }
  | _ => none }
def orderIsRow : OpenClaim := { program := "ytoggponeookhbaagreatdoor", sum := "313fab71c6bb2cf1c13deb37c360585f4bb53bc7fb2eaf41040c8dd64626bc44", func := "afterglow/afterglowlaw29.OrderIs", spec := "orderIs", inPlace := ["internal/bytealg.IndexByteString", "internal/abi.NoEscape", "internal/bytealg.MakeNoZero", "slices.overlaps[afterglow/api.Proc]", "slices.overlaps[afterglow/api.Box]", "slices.overlaps[afterglow/api.Desc]", "slices.overlaps[afterglow/api.Name]"], unfollowed := true, recurses := true, named := ["afterglow/proc.first"], apart := false, laid := [("afterglow/proc.first", laid_afterglow_proc_first)] }
def OrderIsSaid : Prop := orderIsRow.holds Tryz.pinned (OpenSpec.ofChange orderIsSpec)

/-- ITS FALSE NEIGHBOUR: 'it returns false'. Refute it at one input. -/
def orderIsWrong : ChangeSpec := { name := "orderIs", fn := fun _ => fun
  | [d] => { results := [.lit (.bool false)], args := [d] }
  | _ => none }
def OrderIsWrongFalsely : Prop := orderIsRow.holds Tryz.pinned (OpenSpec.ofChange orderIsWrong)

/-- 'afterglowlaw29.OrderOne': WHATEVER THE INPUT: true; the input reads as it did. -/
def orderOneSpec : ChangeSpec := { name := "orderOne", fn := fun _ => fun
  | [d1, d2] => { results := [.lit (.bool true)], args := [d1, d2] }
  | _ => none }
def orderOneRow : OpenClaim := { program := "ytoggponeookhbaagreatdoor", sum := "313fab71c6bb2cf1c13deb37c360585f4bb53bc7fb2eaf41040c8dd64626bc44", func := "afterglow/afterglowlaw29.OrderOne", spec := "orderOne", inPlace := ["internal/bytealg.IndexByteString", "internal/abi.NoEscape", "internal/bytealg.MakeNoZero", "slices.overlaps[afterglow/api.Proc]", "slices.overlaps[afterglow/api.Box]", "slices.overlaps[afterglow/api.Desc]", "slices.overlaps[afterglow/api.Name]"], unfollowed := true, recurses := true, named := ["afterglow/proc.first"], apart := false, laid := [("afterglow/proc.first", laid_afterglow_proc_first)] }
def OrderOneSaid : Prop := orderOneRow.holds Tryz.pinned (OpenSpec.ofChange orderOneSpec)

/-- ITS FALSE NEIGHBOUR: 'it returns false'. Refute it at one input. -/
def orderOneWrong : ChangeSpec := { name := "orderOne", fn := fun _ => fun
  | [d1, d2] => { results := [.lit (.bool false)], args := [d1, d2] }
  | _ => none }
def OrderOneWrongFalsely : Prop := orderOneRow.holds Tryz.pinned (OpenSpec.ofChange orderOneWrong)

/- THE SECOND FORM. 'bulk': how many values and letters a reading holds, each counted each time it is reached (what is shared counts as often as it is met; a slice's spare places count too). A statement '..UptoSaid' is the law's where the arguments, and the package variables that the reading takes, are together of bulk at most 1048576: NARROWER than '..Said'. Prove '..Said' where nothing that the law and all that it calls make is longer than what came in: it says more and counts as full. Else prove '..UptoSaid'. A law counts once. -/
mutual
def uptoBulk {H : Type} : DataW H → Nat
  | .lit (.string bytes) => bytes.length + 1
  | .lit _ => 1
  | .nil => 1
  | .ptr d => uptoBulk d + 1
  | .slice elems spare => uptoBulkAll elems + uptoBulkAll spare + 1
  | .agg parts => uptoBulkAll parts + 1
  | .iface _ d => uptoBulk d + 1
  | .map entries => uptoBulkEntries entries + 1
  | .held _ => 1
def uptoBulkAll {H : Type} : List (DataW H) → Nat
  | [] => 0
  | d :: r => uptoBulk d + uptoBulkAll r
def uptoBulkEntries {H : Type} : List (Lit × DataW H) → Nat
  | [] => 0
  | x :: r => uptoBulkEntry x + uptoBulkEntries r
def uptoBulkEntry {H : Type} : Lit × DataW H → Nat
  | (.string bytes, d) => bytes.length + uptoBulk d + 1
  | (_, d) => uptoBulk d + 1
 end
def uptoSmall : (H : Type) → List (DataW H) → Bool := fun _ ds => decide (uptoBulkAll ds ≤ 1048576)
def OpenSpec.upto (s : _root_.Go.ChangeSpec) : _root_.Go.OpenSpec := { _root_.Go.OpenSpec.ofChange s with cond := some uptoSmall }

/-- 'afterglowlaw29.OrderSearch', WHERE WHAT IT READS IS OF BULK AT MOST 1048576: true; the input reads as it did. -/
def orderSearchUptoRow : OpenClaim := { program := "ytoggponeookhbaagreatdoor", sum := "313fab71c6bb2cf1c13deb37c360585f4bb53bc7fb2eaf41040c8dd64626bc44", func := "afterglow/afterglowlaw29.OrderSearch", spec := "orderSearch", inPlace := ["internal/bytealg.IndexByteString", "internal/abi.NoEscape", "internal/bytealg.MakeNoZero", "slices.overlaps[afterglow/api.Proc]", "slices.overlaps[afterglow/api.Box]", "slices.overlaps[afterglow/api.Desc]", "slices.overlaps[afterglow/api.Name]"], unfollowed := true, recurses := true, named := ["afterglow/proc.first"], apart := false, laid := [("afterglow/proc.first", laid_afterglow_proc_first)], narrowed := true }
def OrderSearchUptoSaid : Prop := orderSearchUptoRow.holds Tryz.pinned (OpenSpec.upto orderSearchSpec)

/-- 'afterglowlaw29.OrderReads', WHERE WHAT IT READS IS OF BULK AT MOST 1048576: true; the input reads as it did. -/
def orderReadsUptoRow : OpenClaim := { program := "ytoggponeookhbaagreatdoor", sum := "313fab71c6bb2cf1c13deb37c360585f4bb53bc7fb2eaf41040c8dd64626bc44", func := "afterglow/afterglowlaw29.OrderReads", spec := "orderReads", inPlace := ["internal/bytealg.IndexByteString", "internal/abi.NoEscape", "internal/bytealg.MakeNoZero", "slices.overlaps[afterglow/api.Proc]", "slices.overlaps[afterglow/api.Box]", "slices.overlaps[afterglow/api.Desc]", "slices.overlaps[afterglow/api.Name]"], unfollowed := true, recurses := true, named := ["afterglow/proc.first"], apart := false, laid := [("afterglow/proc.first", laid_afterglow_proc_first)], narrowed := true }
def OrderReadsUptoSaid : Prop := orderReadsUptoRow.holds Tryz.pinned (OpenSpec.upto orderReadsSpec)

/-- 'afterglowlaw29.OrderIs', WHERE WHAT IT READS IS OF BULK AT MOST 1048576: true; the input reads as it did. -/
def orderIsUptoRow : OpenClaim := { program := "ytoggponeookhbaagreatdoor", sum := "313fab71c6bb2cf1c13deb37c360585f4bb53bc7fb2eaf41040c8dd64626bc44", func := "afterglow/afterglowlaw29.OrderIs", spec := "orderIs", inPlace := ["internal/bytealg.IndexByteString", "internal/abi.NoEscape", "internal/bytealg.MakeNoZero", "slices.overlaps[afterglow/api.Proc]", "slices.overlaps[afterglow/api.Box]", "slices.overlaps[afterglow/api.Desc]", "slices.overlaps[afterglow/api.Name]"], unfollowed := true, recurses := true, named := ["afterglow/proc.first"], apart := false, laid := [("afterglow/proc.first", laid_afterglow_proc_first)], narrowed := true }
def OrderIsUptoSaid : Prop := orderIsUptoRow.holds Tryz.pinned (OpenSpec.upto orderIsSpec)

/-- 'afterglowlaw29.OrderOne', WHERE WHAT IT READS IS OF BULK AT MOST 1048576: true; the input reads as it did. -/
def orderOneUptoRow : OpenClaim := { program := "ytoggponeookhbaagreatdoor", sum := "313fab71c6bb2cf1c13deb37c360585f4bb53bc7fb2eaf41040c8dd64626bc44", func := "afterglow/afterglowlaw29.OrderOne", spec := "orderOne", inPlace := ["internal/bytealg.IndexByteString", "internal/abi.NoEscape", "internal/bytealg.MakeNoZero", "slices.overlaps[afterglow/api.Proc]", "slices.overlaps[afterglow/api.Box]", "slices.overlaps[afterglow/api.Desc]", "slices.overlaps[afterglow/api.Name]"], unfollowed := true, recurses := true, named := ["afterglow/proc.first"], apart := false, laid := [("afterglow/proc.first", laid_afterglow_proc_first)], narrowed := true }
def OrderOneUptoSaid : Prop := orderOneUptoRow.holds Tryz.pinned (OpenSpec.upto orderOneSpec)

end Rows
end Go.Proofs.YtoggponeookhbaaGreatDoor
