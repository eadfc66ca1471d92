/-
  No cell of these rows narrows 'for every input' (looked for: loops, veiled, ifaces, maps, wideKeys, modest, calm, conditions, laid).
  DERIVED. THE GIVEN ROWS OF THIS SEAT. 4 by the template 'for every input the law returns true; each argument reads behind the call as it read before'; 0 by the template 'total and deterministic' (their statements: YtjdeaihnpgkphaaTotals.lean).
  GIVEN WITH THE SEED: the statements are not yours to turn. If you find one false, say at which input.
  Laid BY PROGRAM, IN A SANDBOX (cutbox-rows.mjs): the forced cells as the released guide's own fill.sh prints them over the translation 8715ae7faa01686e… (all of the seat's roots in one cut). By AI agents, Wed Nov 11 2026. No macro, syntax, notation, axiom, sorry.
-/
import Derived.Test.YtjdeaihnpgkphaaChecked
import GoSem.Claim
import GoSem.ClaimJoined
import GoSem.ClaimMapViews
import Derived.JoinedTies
import Derived.KernelRfl
namespace Go.Proofs.Ytjdeaihnpgkphaa
/- THE CELL 'sum', in the pinned program and in every row, IS THE sha256 OF THE DUMP (.gsa) THAT YtjdeaihnpgkphaaProg.lean LOADS. Nothing in Lean hashes anything: it is a label: what it is worth is what the hold of that sum in a sandbox is worth. -/
noncomputable def Try.pinned : Pinned := { name := "ytjdeaihnpgkphaa", sum := "8715ae7faa01686eb19a3b5e2d43463684cd3db5be6f738f87fb2d773f502b8f", checked := Try.checked }
namespace Rows
def none {H : Type} : Left H := { results := [], args := [] }

/-- 'afterglowlaw25.IpcNames': WHATEVER THE INPUT: true; the input reads as it did. -/
def ipcNamesSpec : ChangeSpec := { name := "ipcNames", fn := fun _ => fun
  | [d1, d2] => { results := [.lit (.bool true)], args := [d1, d2] }
  | _ => none }
def ipcNamesRow : OpenClaim := { program := "ytjdeaihnpgkphaa", sum := "8715ae7faa01686eb19a3b5e2d43463684cd3db5be6f738f87fb2d773f502b8f", func := "afterglow/afterglowlaw25.IpcNames", spec := "ipcNames", inPlace := ["slices.overlaps[afterglow/api.Name]", "slices.overlaps[afterglow/api.Box]"], unfollowed := true, recurses := true, apart := false }
def IpcNamesSaid : Prop := ipcNamesRow.holds Try.pinned (OpenSpec.ofChange ipcNamesSpec)

/-- ITS FALSE NEIGHBOUR: 'it returns false'. Refute it at one input. -/
def ipcNamesWrong : ChangeSpec := { name := "ipcNames", fn := fun _ => fun
  | [d1, d2] => { results := [.lit (.bool false)], args := [d1, d2] }
  | _ => none }
def IpcNamesWrongFalsely : Prop := ipcNamesRow.holds Try.pinned (OpenSpec.ofChange ipcNamesWrong)

/-- 'afterglowlaw25.IpcOrder': WHATEVER THE INPUT: true; the input reads as it did. -/
def ipcOrderSpec : ChangeSpec := { name := "ipcOrder", fn := fun _ => fun
  | [d1, d2, d3] => { results := [.lit (.bool true)], args := [d1, d2, d3] }
  | _ => none }
def ipcOrderRow : OpenClaim := { program := "ytjdeaihnpgkphaa", sum := "8715ae7faa01686eb19a3b5e2d43463684cd3db5be6f738f87fb2d773f502b8f", func := "afterglow/afterglowlaw25.IpcOrder", spec := "ipcOrder", inPlace := ["slices.overlaps[afterglow/api.Name]", "slices.overlaps[afterglow/api.Box]"], unfollowed := true, recurses := true, apart := false }
def IpcOrderSaid : Prop := ipcOrderRow.holds Try.pinned (OpenSpec.ofChange ipcOrderSpec)

/-- ITS FALSE NEIGHBOUR: 'it returns false'. Refute it at one input. -/
def ipcOrderWrong : ChangeSpec := { name := "ipcOrder", fn := fun _ => fun
  | [d1, d2, d3] => { results := [.lit (.bool false)], args := [d1, d2, d3] }
  | _ => none }
def IpcOrderWrongFalsely : Prop := ipcOrderRow.holds Try.pinned (OpenSpec.ofChange ipcOrderWrong)

/-- 'afterglowlaw25.IpcBack': WHATEVER THE INPUT: true; the input reads as it did. -/
def ipcBackSpec : ChangeSpec := { name := "ipcBack", fn := fun _ => fun
  | [d1, d2, d3] => { results := [.lit (.bool true)], args := [d1, d2, d3] }
  | _ => none }
def ipcBackRow : OpenClaim := { program := "ytjdeaihnpgkphaa", sum := "8715ae7faa01686eb19a3b5e2d43463684cd3db5be6f738f87fb2d773f502b8f", func := "afterglow/afterglowlaw25.IpcBack", spec := "ipcBack", inPlace := ["slices.overlaps[afterglow/api.Name]", "slices.overlaps[afterglow/api.Box]"], unfollowed := true, recurses := true, apart := false }
def IpcBackSaid : Prop := ipcBackRow.holds Try.pinned (OpenSpec.ofChange ipcBackSpec)

/-- ITS FALSE NEIGHBOUR: 'it returns false'. Refute it at one input. -/
def ipcBackWrong : ChangeSpec := { name := "ipcBack", fn := fun _ => fun
  | [d1, d2, d3] => { results := [.lit (.bool false)], args := [d1, d2, d3] }
  | _ => none }
def IpcBackWrongFalsely : Prop := ipcBackRow.holds Try.pinned (OpenSpec.ofChange ipcBackWrong)

/-- 'afterglowlaw25.IpcWords': WHATEVER THE INPUT: true; the input reads as it did. -/
def ipcWordsSpec : ChangeSpec := { name := "ipcWords", fn := fun _ => fun
  | [d1, d2, d3] => { results := [.lit (.bool true)], args := [d1, d2, d3] }
  | _ => none }
def ipcWordsRow : OpenClaim := { program := "ytjdeaihnpgkphaa", sum := "8715ae7faa01686eb19a3b5e2d43463684cd3db5be6f738f87fb2d773f502b8f", func := "afterglow/afterglowlaw25.IpcWords", spec := "ipcWords", inPlace := ["slices.overlaps[afterglow/api.Name]", "slices.overlaps[afterglow/api.Box]"], unfollowed := true, recurses := true, apart := false }
def IpcWordsSaid : Prop := ipcWordsRow.holds Try.pinned (OpenSpec.ofChange ipcWordsSpec)

/-- ITS FALSE NEIGHBOUR: 'it returns false'. Refute it at one input. -/
def ipcWordsWrong : ChangeSpec := { name := "ipcWords", fn := fun _ => fun
  | [d1, d2, d3] => { results := [.lit (.bool false)], args := [d1, d2, d3] }
  | _ => none }
def IpcWordsWrongFalsely : Prop := ipcWordsRow.holds Try.pinned (OpenSpec.ofChange ipcWordsWrong)

/- THE SECOND FORM. 'bulk': how many values and letters a reading holds, each counted each time it is reached (what is shared counts as often as it is met; a slice's spare places count too). A statement '..UptoSaid' is the law's where the arguments, and the package variables that the reading takes, are together of bulk at most 1048576: NARROWER than '..Said'. Prove '..Said' where nothing that the law and all that it calls make is longer than what came in: it says more and counts as full. Else prove '..UptoSaid'. A law counts once. -/
mutual
def uptoBulk {H : Type} : DataW H → Nat
  | .lit (.string bytes) => bytes.length + 1
  | .lit _ => 1
  | .nil => 1
  | .ptr d => uptoBulk d + 1
  | .slice elems spare => uptoBulkAll elems + uptoBulkAll spare + 1
  | .agg parts => uptoBulkAll parts + 1
  | .iface _ d => uptoBulk d + 1
  | .map entries => uptoBulkEntries entries + 1
  | .held _ => 1
def uptoBulkAll {H : Type} : List (DataW H) → Nat
  | [] => 0
  | d :: r => uptoBulk d + uptoBulkAll r
def uptoBulkEntries {H : Type} : List (Lit × DataW H) → Nat
  | [] => 0
  | x :: r => uptoBulkEntry x + uptoBulkEntries r
def uptoBulkEntry {H : Type} : Lit × DataW H → Nat
  | (.string bytes, d) => bytes.length + uptoBulk d + 1
  | (_, d) => uptoBulk d + 1
 end
def uptoSmall : (H : Type) → List (DataW H) → Bool := fun _ ds => decide (uptoBulkAll ds ≤ 1048576)
def OpenSpec.upto (s : _root_.Go.ChangeSpec) : _root_.Go.OpenSpec := { _root_.Go.OpenSpec.ofChange s with cond := some uptoSmall }

/-- 'afterglowlaw25.IpcNames', WHERE WHAT IT READS IS OF BULK AT MOST 1048576: true; the input reads as it did. -/
def ipcNamesUptoRow : OpenClaim := { program := "ytjdeaihnpgkphaa", sum := "8715ae7faa01686eb19a3b5e2d43463684cd3db5be6f738f87fb2d773f502b8f", func := "afterglow/afterglowlaw25.IpcNames", spec := "ipcNames", inPlace := ["slices.overlaps[afterglow/api.Name]", "slices.overlaps[afterglow/api.Box]"], unfollowed := true, recurses := true, apart := false, narrowed := true }
def IpcNamesUptoSaid : Prop := ipcNamesUptoRow.holds Try.pinned (OpenSpec.upto ipcNamesSpec)

/-- 'afterglowlaw25.IpcOrder', WHERE WHAT IT READS IS OF BULK AT MOST 1048576: true; the input reads as it did. -/
def ipcOrderUptoRow : OpenClaim := { program := "ytjdeaihnpgkphaa", sum := "8715ae7faa01686eb19a3b5e2d43463684cd3db5be6f738f87fb2d773f502b8f", func := "afterglow/afterglowlaw25.IpcOrder", spec := "ipcOrder", inPlace := ["slices.overlaps[afterglow/api.Name]", "slices.overlaps[afterglow/api.Box]"], unfollowed := true, recurses := true, apart := false, narrowed := true }
def IpcOrderUptoSaid : Prop := ipcOrderUptoRow.holds Try.pinned (OpenSpec.upto ipcOrderSpec)

/-- 'afterglowlaw25.IpcBack', WHERE WHAT IT READS IS OF BULK AT MOST 1048576: true; the input reads as it did. -/
def ipcBackUptoRow : OpenClaim := { program := "ytjdeaihnpgkphaa", sum := "8715ae7faa01686eb19a3b5e2d43463684cd3db5be6f738f87fb2d773f502b8f", func := "afterglow/afterglowlaw25.IpcBack", spec := "ipcBack", inPlace := ["slices.overlaps[afterglow/api.Name]", "slices.overlaps[afterglow/api.Box]"], unfollowed := true, recurses := true, apart := false, narrowed := true }
def IpcBackUptoSaid : Prop := ipcBackUptoRow.holds Try.pinned (OpenSpec.upto ipcBackSpec)

/-- 'afterglowlaw25.IpcWords', WHERE WHAT IT READS IS OF BULK AT MOST 1048576: true; the input reads as it did. -/
def ipcWordsUptoRow : OpenClaim := { program := "ytjdeaihnpgkphaa", sum := "8715ae7faa01686eb19a3b5e2d43463684cd3db5be6f738f87fb2d773f502b8f", func := "afterglow/afterglowlaw25.IpcWords", spec := "ipcWords", inPlace := ["slices.overlaps[afterglow/api.Name]", "slices.overlaps[afterglow/api.Box]"], unfollowed := true, recurses := true, apart := false, narrowed := true }
def IpcWordsUptoSaid : Prop := ipcWordsUptoRow.holds Try.pinned (OpenSpec.upto ipcWordsSpec)

end Rows
end Go.Proofs.Ytjdeaihnpgkphaa
