/-
  NARROWER THAN 'FOR EVERY INPUT', by the rows' own cells (each row's printed sentence says how): ModelMay: laid · ModelDoes: laid · ModelErrors: laid · ModelNever: laid · ModelPairs: laid.
  DERIVED. THE GIVEN ROWS OF THIS SEAT. 5 by the template 'for every input the law returns true; each argument reads behind the call as it read before'; 0 by the template 'total and deterministic' (their statements: YtdhaaaeffhaadaaGreatDoorTotals.lean).
  GIVEN WITH THE SEED: the statements are not yours to turn. If you find one false, say at which input.
  Laid BY PROGRAM, IN A SANDBOX (cutbox-rows.mjs): the forced cells as the released guide's own fill.sh prints them over the translation 6ff94e18de25a834… (all of the seat's roots in one cut). By AI agents, Wed Nov 11 2026. No macro, syntax, notation, axiom, sorry.
-/
import Derived.Test.YtdhaaaeffhaadaaGreatDoorChecked
import GoSem.Claim
import GoSem.ClaimJoined
import GoSem.ClaimMapViews
import Derived.JoinedTies
import Derived.KernelRfl
namespace Go.Proofs.YtdhaaaeffhaadaaGreatDoor
/- THE CELL 'sum', in the pinned program and in every row, IS THE sha256 OF THE DUMP (.gsa) THAT YtdhaaaeffhaadaaGreatDoorProg.lean LOADS. Nothing in Lean hashes anything: it is a label: what it is worth is what the hold of that sum in a sandbox is worth. -/
noncomputable def Tryz.pinned : Pinned := { name := "ytdhaaaeffhaadaagreatdoor", sum := "6ff94e18de25a834d541a81a1629eb114d0ef2ae219f5f8427f2d40c87741c41", checked := Tryz.checked }
namespace Rows
def none {H : Type} : Left H := { results := [], args := [] }

/- WHAT THE LISTED PACKAGE-LEVEL VARIABLES READ AS WHEN THE CALL BEGINS. Each datum BY PROGRAM (the guide's laid-datum.mjs) off the statement by which the dump's own 'gosem.cut.vars' lays the variable. In a bare row this is a premise. The card (YtdhaaaeffhaadaaGreatDoorCards.lean) ties it to the program's text. -/
def laid_afterglow_proc_first {H : Type} : DataW H := .agg [.lit (.int .u64 1), .lit (.int .u64 0), .lit (.bool false), .lit (.int .u64 0)]

/-- 'afterglowlaw26.ModelMay': WHATEVER THE INPUT: true; the input reads as it did. -/
def modelMaySpec : ChangeSpec := { name := "modelMay", fn := fun _ => fun
  | [d1, d2] => { results := [.lit (.bool true)], args := [d1, d2] }
  | _ => none }
def modelMayRow : OpenClaim := { program := "ytdhaaaeffhaadaagreatdoor", sum := "6ff94e18de25a834d541a81a1629eb114d0ef2ae219f5f8427f2d40c87741c41", func := "afterglow/afterglowlaw26.ModelMay", spec := "modelMay", inPlace := ["internal/bytealg.IndexByteString", "internal/abi.NoEscape", "internal/bytealg.MakeNoZero", "slices.overlaps[afterglow/api.Proc]", "slices.overlaps[afterglow/api.Box]", "slices.overlaps[afterglow/api.Desc]", "slices.overlaps[afterglow/api.Name]"], unfollowed := true, recurses := true, named := ["afterglow/proc.first"], apart := false, laid := [("afterglow/proc.first", laid_afterglow_proc_first)] }
def ModelMaySaid : Prop := modelMayRow.holds Tryz.pinned (OpenSpec.ofChange modelMaySpec)

/-- ITS FALSE NEIGHBOUR: 'it returns false'. Refute it at one input. -/
def modelMayWrong : ChangeSpec := { name := "modelMay", fn := fun _ => fun
  | [d1, d2] => { results := [.lit (.bool false)], args := [d1, d2] }
  | _ => none }
def ModelMayWrongFalsely : Prop := modelMayRow.holds Tryz.pinned (OpenSpec.ofChange modelMayWrong)

/-- 'afterglowlaw26.ModelDoes': WHATEVER THE INPUT: true; the input reads as it did. -/
def modelDoesSpec : ChangeSpec := { name := "modelDoes", fn := fun _ => fun
  | [d1, d2] => { results := [.lit (.bool true)], args := [d1, d2] }
  | _ => none }
def modelDoesRow : OpenClaim := { program := "ytdhaaaeffhaadaagreatdoor", sum := "6ff94e18de25a834d541a81a1629eb114d0ef2ae219f5f8427f2d40c87741c41", func := "afterglow/afterglowlaw26.ModelDoes", spec := "modelDoes", inPlace := ["internal/bytealg.IndexByteString", "internal/abi.NoEscape", "internal/bytealg.MakeNoZero", "slices.overlaps[afterglow/api.Proc]", "slices.overlaps[afterglow/api.Box]", "slices.overlaps[afterglow/api.Desc]", "slices.overlaps[afterglow/api.Name]"], unfollowed := true, recurses := true, named := ["afterglow/proc.first"], apart := false, laid := [("afterglow/proc.first", laid_afterglow_proc_first)] }
def ModelDoesSaid : Prop := modelDoesRow.holds Tryz.pinned (OpenSpec.ofChange modelDoesSpec)

/-- ITS FALSE NEIGHBOUR: 'it returns false'. Refute it at one input. -/
def modelDoesWrong : ChangeSpec := { name := "modelDoes", fn := fun _ => fun
  | [d1, d2] => { results := [.lit (.bool false)], args := [d1, d2] }
  | _ => none }
def ModelDoesWrongFalsely : Prop := modelDoesRow.holds Tryz.pinned (OpenSpec.ofChange modelDoesWrong)

/-- 'afterglowlaw26.ModelErrors': WHATEVER THE INPUT: true; the input reads as it did. -/
def modelErrorsSpec : ChangeSpec := { name := "modelErrors", fn := fun _ => fun
  | [d1, d2] => { results := [.lit (.bool true)], args := [d1, d2] }
  | _ => none }
def modelErrorsRow : OpenClaim := { program := "ytdhaaaeffhaadaagreatdoor", sum := "6ff94e18de25a834d541a81a1629eb114d0ef2ae219f5f8427f2d40c87741c41", func := "afterglow/afterglowlaw26.ModelErrors", spec := "modelErrors", inPlace := ["internal/bytealg.IndexByteString", "internal/abi.NoEscape", "internal/bytealg.MakeNoZero", "slices.overlaps[afterglow/api.Proc]", "slices.overlaps[afterglow/api.Box]", "slices.overlaps[afterglow/api.Desc]", "slices.overlaps[afterglow/api.Name]"], unfollowed := true, recurses := true, named := ["afterglow/proc.first"], apart := false, laid := [("afterglow/proc.first", laid_afterglow_proc_first)] }
def ModelErrorsSaid : Prop := modelErrorsRow.holds Tryz.pinned (OpenSpec.ofChange modelErrorsSpec)

/-- ITS FALSE NEIGHBOUR: 'it returns false'. Refute it at one input. -/
def modelErrorsWrong : ChangeSpec := { name := "modelErrors", fn := fun _ => fun
  | [d1, d2] => { results := [.lit (.bool false)], args := [d1, d2] }
  | _ => none }
def ModelErrorsWrongFalsely : Prop := modelErrorsRow.holds Tryz.pinned (OpenSpec.ofChange modelErrorsWrong)

/-- 'afterglowlaw26.ModelNever': WHATEVER THE INPUT: true; the input reads as it did. -/
def modelNeverSpec : ChangeSpec := { name := "modelNever", fn := fun _ => fun
  | [d1, d2] => { results := [.lit (.bool true)], args := [d1, d2] }
  | _ => none }
def modelNeverRow : OpenClaim := { program := "ytdhaaaeffhaadaagreatdoor", sum := "6ff94e18de25a834d541a81a1629eb114d0ef2ae219f5f8427f2d40c87741c41", func := "afterglow/afterglowlaw26.ModelNever", spec := "modelNever", inPlace := ["internal/bytealg.IndexByteString", "internal/abi.NoEscape", "internal/bytealg.MakeNoZero", "slices.overlaps[afterglow/api.Proc]", "slices.overlaps[afterglow/api.Box]", "slices.overlaps[afterglow/api.Desc]", "slices.overlaps[afterglow/api.Name]"], unfollowed := true, recurses := true, named := ["afterglow/proc.first"], apart := false, laid := [("afterglow/proc.first", laid_afterglow_proc_first)] }
def ModelNeverSaid : Prop := modelNeverRow.holds Tryz.pinned (OpenSpec.ofChange modelNeverSpec)

/-- ITS FALSE NEIGHBOUR: 'it returns false'. Refute it at one input. -/
def modelNeverWrong : ChangeSpec := { name := "modelNever", fn := fun _ => fun
  | [d1, d2] => { results := [.lit (.bool false)], args := [d1, d2] }
  | _ => none }
def ModelNeverWrongFalsely : Prop := modelNeverRow.holds Tryz.pinned (OpenSpec.ofChange modelNeverWrong)

/-- 'afterglowlaw26.ModelPairs': WHATEVER THE INPUT: true; the input reads as it did. -/
def modelPairsSpec : ChangeSpec := { name := "modelPairs", fn := fun _ => fun
  | [d1, d2, d3] => { results := [.lit (.bool true)], args := [d1, d2, d3] }
  | _ => none }
def modelPairsRow : OpenClaim := { program := "ytdhaaaeffhaadaagreatdoor", sum := "6ff94e18de25a834d541a81a1629eb114d0ef2ae219f5f8427f2d40c87741c41", func := "afterglow/afterglowlaw26.ModelPairs", spec := "modelPairs", inPlace := ["internal/bytealg.IndexByteString", "internal/abi.NoEscape", "internal/bytealg.MakeNoZero", "slices.overlaps[afterglow/api.Proc]", "slices.overlaps[afterglow/api.Box]", "slices.overlaps[afterglow/api.Desc]", "slices.overlaps[afterglow/api.Name]"], unfollowed := true, recurses := true, named := ["afterglow/proc.first"], apart := false, laid := [("afterglow/proc.first", laid_afterglow_proc_first)] }
def ModelPairsSaid : Prop := modelPairsRow.holds Tryz.pinned (OpenSpec.ofChange modelPairsSpec)

/-- ITS FALSE NEIGHBOUR: 'it returns false'. Refute it at one input. -/
def modelPairsWrong : ChangeSpec := { name := "modelPairs", fn := fun _ => fun
  | [d1, d2, d3] => { results := [.lit (.bool false)], args := [d1, d2, d3] }
  | _ => none }
def ModelPairsWrongFalsely : Prop := modelPairsRow.holds Tryz.pinned (OpenSpec.ofChange modelPairsWrong)

/- THE SECOND FORM. 'bulk': how many values and letters a reading holds, each counted each time it is reached (what is shared counts as often as it is met; a slice's spare places count too). A statement '..UptoSaid' is the law's where the arguments, and the package variables that the reading takes, are together of bulk at most 1048576: NARROWER than '..Said'. Prove '..Said' where nothing that the law and all that it calls make is longer than what came in: it says more and counts as full. Else prove '..UptoSaid'. A law counts once. -/
mutual
def uptoBulk {H : Type} : DataW H → Nat
  | .lit (.string bytes) => bytes.length + 1
  | .lit _ => 1
  | .nil => 1
  | .ptr d => uptoBulk d + 1
  | .slice elems spare => uptoBulkAll elems + uptoBulkAll spare + 1
  | .agg parts => uptoBulkAll parts + 1
  | .iface _ d => uptoBulk d + 1
  | .map entries => uptoBulkEntries entries + 1
  | .held _ => 1
def uptoBulkAll {H : Type} : List (DataW H) → Nat
  | [] => 0
  | d :: r => uptoBulk d + uptoBulkAll r
def uptoBulkEntries {H : Type} : List (Lit × DataW H) → Nat
  | [] => 0
  | x :: r => uptoBulkEntry x + uptoBulkEntries r
def uptoBulkEntry {H : Type} : Lit × DataW H → Nat
  | (.string bytes, d) => bytes.length + uptoBulk d + 1
  | (_, d) => uptoBulk d + 1
 end
def uptoSmall : (H : Type) → List (DataW H) → Bool := fun _ ds => decide (uptoBulkAll ds ≤ 1048576)
def OpenSpec.upto (s : _root_.Go.ChangeSpec) : _root_.Go.OpenSpec := { _root_.Go.OpenSpec.ofChange s with cond := some uptoSmall }

/-- 'afterglowlaw26.ModelMay', WHERE WHAT IT READS IS OF BULK AT MOST 1048576: true; the input reads as it did. -/
def modelMayUptoRow : OpenClaim := { program := "ytdhaaaeffhaadaagreatdoor", sum := "6ff94e18de25a834d541a81a1629eb114d0ef2ae219f5f8427f2d40c87741c41", func := "afterglow/afterglowlaw26.ModelMay", spec := "modelMay", inPlace := ["internal/bytealg.IndexByteString", "internal/abi.NoEscape", "internal/bytealg.MakeNoZero", "slices.overlaps[afterglow/api.Proc]", "slices.overlaps[afterglow/api.Box]", "slices.overlaps[afterglow/api.Desc]", "slices.overlaps[afterglow/api.Name]"], unfollowed := true, recurses := true, named := ["afterglow/proc.first"], apart := false, laid := [("afterglow/proc.first", laid_afterglow_proc_first)], narrowed := true }
def ModelMayUptoSaid : Prop := modelMayUptoRow.holds Tryz.pinned (OpenSpec.upto modelMaySpec)

/-- 'afterglowlaw26.ModelDoes', WHERE WHAT IT READS IS OF BULK AT MOST 1048576: true; the input reads as it did. -/
def modelDoesUptoRow : OpenClaim := { program := "ytdhaaaeffhaadaagreatdoor", sum := "6ff94e18de25a834d541a81a1629eb114d0ef2ae219f5f8427f2d40c87741c41", func := "afterglow/afterglowlaw26.ModelDoes", spec := "modelDoes", inPlace := ["internal/bytealg.IndexByteString", "internal/abi.NoEscape", "internal/bytealg.MakeNoZero", "slices.overlaps[afterglow/api.Proc]", "slices.overlaps[afterglow/api.Box]", "slices.overlaps[afterglow/api.Desc]", "slices.overlaps[afterglow/api.Name]"], unfollowed := true, recurses := true, named := ["afterglow/proc.first"], apart := false, laid := [("afterglow/proc.first", laid_afterglow_proc_first)], narrowed := true }
def ModelDoesUptoSaid : Prop := modelDoesUptoRow.holds Tryz.pinned (OpenSpec.upto modelDoesSpec)

/-- 'afterglowlaw26.ModelErrors', WHERE WHAT IT READS IS OF BULK AT MOST 1048576: true; the input reads as it did. -/
def modelErrorsUptoRow : OpenClaim := { program := "ytdhaaaeffhaadaagreatdoor", sum := "6ff94e18de25a834d541a81a1629eb114d0ef2ae219f5f8427f2d40c87741c41", func := "afterglow/afterglowlaw26.ModelErrors", spec := "modelErrors", inPlace := ["internal/bytealg.IndexByteString", "internal/abi.NoEscape", "internal/bytealg.MakeNoZero", "slices.overlaps[afterglow/api.Proc]", "slices.overlaps[afterglow/api.Box]", "slices.overlaps[afterglow/api.Desc]", "slices.overlaps[afterglow/api.Name]"], unfollowed := true, recurses := true, named := ["afterglow/proc.first"], apart := false, laid := [("afterglow/proc.first", laid_afterglow_proc_first)], narrowed := true }
def ModelErrorsUptoSaid : Prop := modelErrorsUptoRow.holds Tryz.pinned (OpenSpec.upto modelErrorsSpec)

/-- 'afterglowlaw26.ModelNever', WHERE WHAT IT READS IS OF BULK AT MOST 1048576: true; the input reads as it did. -/
def modelNeverUptoRow : OpenClaim := { program := "ytdhaaaeffhaadaagreatdoor", sum := "6ff94e18de25a834d541a81a1629eb114d0ef2ae219f5f8427f2d40c87741c41", func := "afterglow/afterglowlaw26.ModelNever", spec := "modelNever", inPlace := ["internal/bytealg.IndexByteString", "internal/abi.NoEscape", "internal/bytealg.MakeNoZero", "slices.overlaps[afterglow/api.Proc]", "slices.overlaps[afterglow/api.Box]", "slices.overlaps[afterglow/api.Desc]", "slices.overlaps[afterglow/api.Name]"], unfollowed := true, recurses := true, named := ["afterglow/proc.first"], apart := false, laid := [("afterglow/proc.first", laid_afterglow_proc_first)], narrowed := true }
def ModelNeverUptoSaid : Prop := modelNeverUptoRow.holds Tryz.pinned (OpenSpec.upto modelNeverSpec)

/-- 'afterglowlaw26.ModelPairs', WHERE WHAT IT READS IS OF BULK AT MOST 1048576: true; the input reads as it did. -/
def modelPairsUptoRow : OpenClaim := { program := "ytdhaaaeffhaadaagreatdoor", sum := "6ff94e18de25a834d541a81a1629eb114d0ef2ae219f5f8427f2d40c87741c41", func := "afterglow/afterglowlaw26.ModelPairs", spec := "modelPairs", inPlace := ["internal/bytealg.IndexByteString", "internal/abi.NoEscape", "internal/bytealg.MakeNoZero", "slices.overlaps[afterglow/api.Proc]", "slices.overlaps[afterglow/api.Box]", "slices.overlaps[afterglow/api.Desc]", "slices.overlaps[afterglow/api.Name]"], unfollowed := true, recurses := true, named := ["afterglow/proc.first"], apart := false, laid := [("afterglow/proc.first", laid_afterglow_proc_first)], narrowed := true }
def ModelPairsUptoSaid : Prop := modelPairsUptoRow.holds Tryz.pinned (OpenSpec.upto modelPairsSpec)

end Rows
end Go.Proofs.YtdhaaaeffhaadaaGreatDoor
