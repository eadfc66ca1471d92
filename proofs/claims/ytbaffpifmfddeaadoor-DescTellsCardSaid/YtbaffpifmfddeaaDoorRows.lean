/-
  NARROWER THAN 'FOR EVERY INPUT', by the rows' own cells (each row's printed sentence says how): DescApart: laid · DescTells: laid · DescBack: laid.
  DERIVED. THE GIVEN ROWS OF THIS SEAT. 3 by the template 'for every input the law returns true; each argument reads behind the call as it read before'; 0 by the template 'total and deterministic' (their statements: YtbaffpifmfddeaaDoorTotals.lean).
  GIVEN WITH THE SEED: the statements are not yours to turn. If you find one false, say at which input.
  Laid BY PROGRAM, IN A SANDBOX (cutbox-rows.mjs): the forced cells as the released guide's own fill.sh prints them over the translation 6b39c9d3da677ea1… (all of the seat's roots in one cut). By AI agents, Wed Nov 11 2026. No macro, syntax, notation, axiom, sorry.
-/
import Derived.Test.YtbaffpifmfddeaaDoorChecked
import GoSem.Claim
import GoSem.ClaimJoined
import GoSem.ClaimMapViews
import Derived.JoinedTies
import Derived.KernelRfl
namespace Go.Proofs.YtbaffpifmfddeaaDoor
/- THE CELL 'sum', in the pinned program and in every row, IS THE sha256 OF THE DUMP (.gsa) THAT YtbaffpifmfddeaaDoorProg.lean LOADS. Nothing in Lean hashes anything: it is a label: what it is worth is what the hold of that sum in a sandbox is worth. -/
noncomputable def Tryd.pinned : Pinned := { name := "ytbaffpifmfddeaadoor", sum := "6b39c9d3da677ea116b5a03dec0913c7d6a0ac48a2377020acd3e168a8a40b41", checked := Tryd.checked }
namespace Rows
def none {H : Type} : Left H := { results := [], args := [] }

/- WHAT THE LISTED PACKAGE-LEVEL VARIABLES READ AS WHEN THE CALL BEGINS. Each datum BY PROGRAM (the guide's laid-datum.mjs) off the statement by which the dump's own 'gosem.cut.vars' lays the variable. In a bare row this is a premise. The card (YtbaffpifmfddeaaDoorCards.lean) ties it to the program's text. -/
def laid_afterglow_desc_parts {H : Type} : DataW H := .slice [.agg [.lit (.int .i64 3), .lit (.int .i64 32)], .agg [.lit (.int .i64 0), .lit (.int .i64 3)]] []

/-- 'afterglowlaw23.DescApart': WHATEVER THE INPUT: true; the input reads as it did. -/
def descApartSpec : ChangeSpec := { name := "descApart", fn := fun _ => fun
  | [d1, d2] => { results := [.lit (.bool true)], args := [d1, d2] }
  | _ => none }
def descApartRow : OpenClaim := { program := "ytbaffpifmfddeaadoor", sum := "6b39c9d3da677ea116b5a03dec0913c7d6a0ac48a2377020acd3e168a8a40b41", func := "afterglow/afterglowlaw23.DescApart", spec := "descApart", inPlace := ["slices.overlaps[afterglow/api.Desc]"], unfollowed := true, recurses := true, named := ["afterglow/desc.parts"], apart := false, laid := [("afterglow/desc.parts", laid_afterglow_desc_parts)] }
def DescApartSaid : Prop := descApartRow.holds Tryd.pinned (OpenSpec.ofChange descApartSpec)

/-- ITS FALSE NEIGHBOUR: 'it returns false'. Refute it at one input. -/
def descApartWrong : ChangeSpec := { name := "descApart", fn := fun _ => fun
  | [d1, d2] => { results := [.lit (.bool false)], args := [d1, d2] }
  | _ => none }
def DescApartWrongFalsely : Prop := descApartRow.holds Tryd.pinned (OpenSpec.ofChange descApartWrong)

/-- 'afterglowlaw23.DescTells': WHATEVER THE INPUT: true; the input reads as it did. -/
def descTellsSpec : ChangeSpec := { name := "descTells", fn := fun _ => fun
  | [d1, d2, d3] => { results := [.lit (.bool true)], args := [d1, d2, d3] }
  | _ => none }
def descTellsRow : OpenClaim := { program := "ytbaffpifmfddeaadoor", sum := "6b39c9d3da677ea116b5a03dec0913c7d6a0ac48a2377020acd3e168a8a40b41", func := "afterglow/afterglowlaw23.DescTells", spec := "descTells", inPlace := ["slices.overlaps[afterglow/api.Desc]"], unfollowed := true, recurses := true, named := ["afterglow/desc.parts"], apart := false, laid := [("afterglow/desc.parts", laid_afterglow_desc_parts)] }
def DescTellsSaid : Prop := descTellsRow.holds Tryd.pinned (OpenSpec.ofChange descTellsSpec)

/-- ITS FALSE NEIGHBOUR: 'it returns false'. Refute it at one input. -/
def descTellsWrong : ChangeSpec := { name := "descTells", fn := fun _ => fun
  | [d1, d2, d3] => { results := [.lit (.bool false)], args := [d1, d2, d3] }
  | _ => none }
def DescTellsWrongFalsely : Prop := descTellsRow.holds Tryd.pinned (OpenSpec.ofChange descTellsWrong)

/-- 'afterglowlaw23.DescBack': WHATEVER THE INPUT: true; the input reads as it did. -/
def descBackSpec : ChangeSpec := { name := "descBack", fn := fun _ => fun
  | [d1, d2, d3] => { results := [.lit (.bool true)], args := [d1, d2, d3] }
  | _ => none }
def descBackRow : OpenClaim := { program := "ytbaffpifmfddeaadoor", sum := "6b39c9d3da677ea116b5a03dec0913c7d6a0ac48a2377020acd3e168a8a40b41", func := "afterglow/afterglowlaw23.DescBack", spec := "descBack", inPlace := ["slices.overlaps[afterglow/api.Desc]"], unfollowed := true, recurses := true, named := ["afterglow/desc.parts"], apart := false, laid := [("afterglow/desc.parts", laid_afterglow_desc_parts)] }
def DescBackSaid : Prop := descBackRow.holds Tryd.pinned (OpenSpec.ofChange descBackSpec)

/-- ITS FALSE NEIGHBOUR: 'it returns false'. Refute it at one input. -/
def descBackWrong : ChangeSpec := { name := "descBack", fn := fun _ => fun
  | [d1, d2, d3] => { results := [.lit (.bool false)], args := [d1, d2, d3] }
  | _ => none }
def DescBackWrongFalsely : Prop := descBackRow.holds Tryd.pinned (OpenSpec.ofChange descBackWrong)

/- THE SECOND FORM. 'bulk': how many values and letters a reading holds, each counted each time it is reached (what is shared counts as often as it is met; a slice's spare places count too). A statement '..UptoSaid' is the law's where the arguments, and the package variables that the reading takes, are together of bulk at most 1048576: NARROWER than '..Said'. Prove '..Said' where nothing that the law and all that it calls make is longer than what came in: it says more and counts as full. Else prove '..UptoSaid'. A law counts once. -/
mutual
def uptoBulk {H : Type} : DataW H → Nat
  | .lit (.string bytes) => bytes.length + 1
  | .lit _ => 1
  | .nil => 1
  | .ptr d => uptoBulk d + 1
  | .slice elems spare => uptoBulkAll elems + uptoBulkAll spare + 1
  | .agg parts => uptoBulkAll parts + 1
  | .iface _ d => uptoBulk d + 1
  | .map entries => uptoBulkEntries entries + 1
  | .held _ => 1
def uptoBulkAll {H : Type} : List (DataW H) → Nat
  | [] => 0
  | d :: r => uptoBulk d + uptoBulkAll r
def uptoBulkEntries {H : Type} : List (Lit × DataW H) → Nat
  | [] => 0
  | x :: r => uptoBulkEntry x + uptoBulkEntries r
def uptoBulkEntry {H : Type} : Lit × DataW H → Nat
  | (.string bytes, d) => bytes.length + uptoBulk d + 1
  | (_, d) => uptoBulk d + 1
 end
def uptoSmall : (H : Type) → List (DataW H) → Bool := fun _ ds => decide (uptoBulkAll ds ≤ 1048576)
def OpenSpec.upto (s : _root_.Go.ChangeSpec) : _root_.Go.OpenSpec := { _root_.Go.OpenSpec.ofChange s with cond := some uptoSmall }

/-- 'afterglowlaw23.DescApart', WHERE WHAT IT READS IS OF BULK AT MOST 1048576: true; the input reads as it did. -/
def descApartUptoRow : OpenClaim := { program := "ytbaffpifmfddeaadoor", sum := "6b39c9d3da677ea116b5a03dec0913c7d6a0ac48a2377020acd3e168a8a40b41", func := "afterglow/afterglowlaw23.DescApart", spec := "descApart", inPlace := ["slices.overlaps[afterglow/api.Desc]"], unfollowed := true, recurses := true, named := ["afterglow/desc.parts"], apart := false, laid := [("afterglow/desc.parts", laid_afterglow_desc_parts)], narrowed := true }
def DescApartUptoSaid : Prop := descApartUptoRow.holds Tryd.pinned (OpenSpec.upto descApartSpec)

/-- 'afterglowlaw23.DescTells', WHERE WHAT IT READS IS OF BULK AT MOST 1048576: true; the input reads as it did. -/
def descTellsUptoRow : OpenClaim := { program := "ytbaffpifmfddeaadoor", sum := "6b39c9d3da677ea116b5a03dec0913c7d6a0ac48a2377020acd3e168a8a40b41", func := "afterglow/afterglowlaw23.DescTells", spec := "descTells", inPlace := ["slices.overlaps[afterglow/api.Desc]"], unfollowed := true, recurses := true, named := ["afterglow/desc.parts"], apart := false, laid := [("afterglow/desc.parts", laid_afterglow_desc_parts)], narrowed := true }
def DescTellsUptoSaid : Prop := descTellsUptoRow.holds Tryd.pinned (OpenSpec.upto descTellsSpec)

/-- 'afterglowlaw23.DescBack', WHERE WHAT IT READS IS OF BULK AT MOST 1048576: true; the input reads as it did. -/
def descBackUptoRow : OpenClaim := { program := "ytbaffpifmfddeaadoor", sum := "6b39c9d3da677ea116b5a03dec0913c7d6a0ac48a2377020acd3e168a8a40b41", func := "afterglow/afterglowlaw23.DescBack", spec := "descBack", inPlace := ["slices.overlaps[afterglow/api.Desc]"], unfollowed := true, recurses := true, named := ["afterglow/desc.parts"], apart := false, laid := [("afterglow/desc.parts", laid_afterglow_desc_parts)], narrowed := true }
def DescBackUptoSaid : Prop := descBackUptoRow.holds Tryd.pinned (OpenSpec.upto descBackSpec)

end Rows
end Go.Proofs.YtbaffpifmfddeaaDoor
