/-
  No cell of these rows narrows 'for every input' (looked for: loops, veiled, ifaces, maps, wideKeys, modest, calm, conditions, laid).
  DERIVED. THE GIVEN ROWS OF THIS SEAT. 7 by the template 'for every input the law returns true; each argument reads behind the call as it read before'; 0 by the template 'total and deterministic' (their statements: YtdemjanelbajlaaTotals.lean).
  GIVEN WITH THE SEED: the statements are not yours to turn. If you find one false, say at which input.
  Laid BY PROGRAM, IN A SANDBOX (cutbox-rows.mjs): the forced cells as the released guide's own fill.sh prints them over the translation 58f14650a5090922… (all of the seat's roots in one cut). By AI agents, Wed Nov 11 2026. No macro, syntax, notation, axiom, sorry.
-/
import Derived.Test.YtdemjanelbajlaaChecked
import GoSem.Claim
import GoSem.ClaimJoined
import GoSem.ClaimMapViews
import Derived.JoinedTies
import Derived.KernelRfl
namespace Go.Proofs.Ytdemjanelbajlaa
/- THE CELL 'sum', in the pinned program and in every row, IS THE sha256 OF THE DUMP (.gsa) THAT YtdemjanelbajlaaProg.lean LOADS. Nothing in Lean hashes anything: it is a label: what it is worth is what the hold of that sum in a sandbox is worth. -/
noncomputable def Try.pinned : Pinned := { name := "ytdemjanelbajlaa", sum := "58f14650a5090922bbfd9c13d1e7b4ae9c9cbaec72e61624383574c1977b38b5", checked := Try.checked }
namespace Rows
def none {H : Type} : Left H := { results := [], args := [] }

/-- 'afterglowlaw18.BucketWants': WHATEVER THE INPUT: true; the input reads as it did. -/
def bucketWantsSpec : ChangeSpec := { name := "bucketWants", fn := fun _ => fun
  | [d] => { results := [.lit (.bool true)], args := [d] }
  | _ => none }
def bucketWantsRow : OpenClaim := { program := "ytdemjanelbajlaa", sum := "58f14650a5090922bbfd9c13d1e7b4ae9c9cbaec72e61624383574c1977b38b5", func := "afterglow/afterglowlaw18.BucketWants", spec := "bucketWants", unfollowed := true, recurses := true, apart := false }
def BucketWantsSaid : Prop := bucketWantsRow.holds Try.pinned (OpenSpec.ofChange bucketWantsSpec)

/-- ITS FALSE NEIGHBOUR: 'it returns false'. Refute it at one input. -/
def bucketWantsWrong : ChangeSpec := { name := "bucketWants", fn := fun _ => fun
  | [d] => { results := [.lit (.bool false)], args := [d] }
  | _ => none }
def BucketWantsWrongFalsely : Prop := bucketWantsRow.holds Try.pinned (OpenSpec.ofChange bucketWantsWrong)

/-- 'afterglowlaw18.BucketKeys': WHATEVER THE INPUT: true; the input reads as it did. -/
def bucketKeysSpec : ChangeSpec := { name := "bucketKeys", fn := fun _ => fun
  | [d1, d2] => { results := [.lit (.bool true)], args := [d1, d2] }
  | _ => none }
def bucketKeysRow : OpenClaim := { program := "ytdemjanelbajlaa", sum := "58f14650a5090922bbfd9c13d1e7b4ae9c9cbaec72e61624383574c1977b38b5", func := "afterglow/afterglowlaw18.BucketKeys", spec := "bucketKeys", unfollowed := true, recurses := true, apart := false }
def BucketKeysSaid : Prop := bucketKeysRow.holds Try.pinned (OpenSpec.ofChange bucketKeysSpec)

/-- ITS FALSE NEIGHBOUR: 'it returns false'. Refute it at one input. -/
def bucketKeysWrong : ChangeSpec := { name := "bucketKeys", fn := fun _ => fun
  | [d1, d2] => { results := [.lit (.bool false)], args := [d1, d2] }
  | _ => none }
def BucketKeysWrongFalsely : Prop := bucketKeysRow.holds Try.pinned (OpenSpec.ofChange bucketKeysWrong)

/-- 'afterglowlaw18.BucketSteady': WHATEVER THE INPUT: true; the input reads as it did. -/
def bucketSteadySpec : ChangeSpec := { name := "bucketSteady", fn := fun _ => fun
  | [d1, d2] => { results := [.lit (.bool true)], args := [d1, d2] }
  | _ => none }
def bucketSteadyRow : OpenClaim := { program := "ytdemjanelbajlaa", sum := "58f14650a5090922bbfd9c13d1e7b4ae9c9cbaec72e61624383574c1977b38b5", func := "afterglow/afterglowlaw18.BucketSteady", spec := "bucketSteady", unfollowed := true, recurses := true, apart := false }
def BucketSteadySaid : Prop := bucketSteadyRow.holds Try.pinned (OpenSpec.ofChange bucketSteadySpec)

/-- ITS FALSE NEIGHBOUR: 'it returns false'. Refute it at one input. -/
def bucketSteadyWrong : ChangeSpec := { name := "bucketSteady", fn := fun _ => fun
  | [d1, d2] => { results := [.lit (.bool false)], args := [d1, d2] }
  | _ => none }
def BucketSteadyWrongFalsely : Prop := bucketSteadyRow.holds Try.pinned (OpenSpec.ofChange bucketSteadyWrong)

/-- 'afterglowlaw18.BucketOf': WHATEVER THE INPUT: true; the input reads as it did. -/
def bucketOfSpec : ChangeSpec := { name := "bucketOf", fn := fun _ => fun
  | [d1, d2] => { results := [.lit (.bool true)], args := [d1, d2] }
  | _ => none }
def bucketOfRow : OpenClaim := { program := "ytdemjanelbajlaa", sum := "58f14650a5090922bbfd9c13d1e7b4ae9c9cbaec72e61624383574c1977b38b5", func := "afterglow/afterglowlaw18.BucketOf", spec := "bucketOf", unfollowed := true, recurses := true, apart := false }
def BucketOfSaid : Prop := bucketOfRow.holds Try.pinned (OpenSpec.ofChange bucketOfSpec)

/-- ITS FALSE NEIGHBOUR: 'it returns false'. Refute it at one input. -/
def bucketOfWrong : ChangeSpec := { name := "bucketOf", fn := fun _ => fun
  | [d1, d2] => { results := [.lit (.bool false)], args := [d1, d2] }
  | _ => none }
def BucketOfWrongFalsely : Prop := bucketOfRow.holds Try.pinned (OpenSpec.ofChange bucketOfWrong)

/-- 'afterglowlaw18.BucketParts': WHATEVER THE INPUT: true; the input reads as it did. -/
def bucketPartsSpec : ChangeSpec := { name := "bucketParts", fn := fun _ => fun
  | [d1, d2] => { results := [.lit (.bool true)], args := [d1, d2] }
  | _ => none }
def bucketPartsRow : OpenClaim := { program := "ytdemjanelbajlaa", sum := "58f14650a5090922bbfd9c13d1e7b4ae9c9cbaec72e61624383574c1977b38b5", func := "afterglow/afterglowlaw18.BucketParts", spec := "bucketParts", unfollowed := true, recurses := true, apart := false }
def BucketPartsSaid : Prop := bucketPartsRow.holds Try.pinned (OpenSpec.ofChange bucketPartsSpec)

/-- ITS FALSE NEIGHBOUR: 'it returns false'. Refute it at one input. -/
def bucketPartsWrong : ChangeSpec := { name := "bucketParts", fn := fun _ => fun
  | [d1, d2] => { results := [.lit (.bool false)], args := [d1, d2] }
  | _ => none }
def BucketPartsWrongFalsely : Prop := bucketPartsRow.holds Try.pinned (OpenSpec.ofChange bucketPartsWrong)

/-- 'afterglowlaw18.BucketTurns': WHATEVER THE INPUT: true; the input reads as it did. -/
def bucketTurnsSpec : ChangeSpec := { name := "bucketTurns", fn := fun _ => fun
  | [d] => { results := [.lit (.bool true)], args := [d] }
  | _ => none }
def bucketTurnsRow : OpenClaim := { program := "ytdemjanelbajlaa", sum := "58f14650a5090922bbfd9c13d1e7b4ae9c9cbaec72e61624383574c1977b38b5", func := "afterglow/afterglowlaw18.BucketTurns", spec := "bucketTurns", unfollowed := true, recurses := true, apart := false }
def BucketTurnsSaid : Prop := bucketTurnsRow.holds Try.pinned (OpenSpec.ofChange bucketTurnsSpec)

/-- ITS FALSE NEIGHBOUR: 'it returns false'. Refute it at one input. -/
def bucketTurnsWrong : ChangeSpec := { name := "bucketTurns", fn := fun _ => fun
  | [d] => { results := [.lit (.bool false)], args := [d] }
  | _ => none }
def BucketTurnsWrongFalsely : Prop := bucketTurnsRow.holds Try.pinned (OpenSpec.ofChange bucketTurnsWrong)

/-- 'afterglowlaw18.BucketOrder': WHATEVER THE INPUT: true; the input reads as it did. -/
def bucketOrderSpec : ChangeSpec := { name := "bucketOrder", fn := fun _ => fun
  | [d] => { results := [.lit (.bool true)], args := [d] }
  | _ => none }
def bucketOrderRow : OpenClaim := { program := "ytdemjanelbajlaa", sum := "58f14650a5090922bbfd9c13d1e7b4ae9c9cbaec72e61624383574c1977b38b5", func := "afterglow/afterglowlaw18.BucketOrder", spec := "bucketOrder", unfollowed := true, recurses := true, apart := false }
def BucketOrderSaid : Prop := bucketOrderRow.holds Try.pinned (OpenSpec.ofChange bucketOrderSpec)

/-- ITS FALSE NEIGHBOUR: 'it returns false'. Refute it at one input. -/
def bucketOrderWrong : ChangeSpec := { name := "bucketOrder", fn := fun _ => fun
  | [d] => { results := [.lit (.bool false)], args := [d] }
  | _ => none }
def BucketOrderWrongFalsely : Prop := bucketOrderRow.holds Try.pinned (OpenSpec.ofChange bucketOrderWrong)

/- THE SECOND FORM. 'bulk': how many values and letters a reading holds, each counted each time it is reached (what is shared counts as often as it is met; a slice's spare places count too). A statement '..UptoSaid' is the law's where the arguments, and the package variables that the reading takes, are together of bulk at most 1048576: NARROWER than '..Said'. Prove '..Said' where nothing that the law and all that it calls make is longer than what came in: it says more and counts as full. Else prove '..UptoSaid'. A law counts once. -/
mutual
def uptoBulk {H : Type} : DataW H → Nat
  | .lit (.string bytes) => bytes.length + 1
  | .lit _ => 1
  | .nil => 1
  | .ptr d => uptoBulk d + 1
  | .slice elems spare => uptoBulkAll elems + uptoBulkAll spare + 1
  | .agg parts => uptoBulkAll parts + 1
  | .iface _ d => uptoBulk d + 1
  | .map entries => uptoBulkEntries entries + 1
  | .held _ => 1
def uptoBulkAll {H : Type} : List (DataW H) → Nat
  | [] => 0
  | d :: r => uptoBulk d + uptoBulkAll r
def uptoBulkEntries {H : Type} : List (Lit × DataW H) → Nat
  | [] => 0
  | x :: r => uptoBulkEntry x + uptoBulkEntries r
def uptoBulkEntry {H : Type} : Lit × DataW H → Nat
  | (.string bytes, d) => bytes.length + uptoBulk d + 1
  | (_, d) => uptoBulk d + 1
 end
def uptoSmall : (H : Type) → List (DataW H) → Bool := fun _ ds => decide (uptoBulkAll ds ≤ 1048576)
def OpenSpec.upto (s : _root_.Go.ChangeSpec) : _root_.Go.OpenSpec := { _root_.Go.OpenSpec.ofChange s with cond := some uptoSmall }

/-- 'afterglowlaw18.BucketWants', WHERE WHAT IT READS IS OF BULK AT MOST 1048576: true; the input reads as it did. -/
def bucketWantsUptoRow : OpenClaim := { program := "ytdemjanelbajlaa", sum := "58f14650a5090922bbfd9c13d1e7b4ae9c9cbaec72e61624383574c1977b38b5", func := "afterglow/afterglowlaw18.BucketWants", spec := "bucketWants", unfollowed := true, recurses := true, apart := false, narrowed := true }
def BucketWantsUptoSaid : Prop := bucketWantsUptoRow.holds Try.pinned (OpenSpec.upto bucketWantsSpec)

/-- 'afterglowlaw18.BucketKeys', WHERE WHAT IT READS IS OF BULK AT MOST 1048576: true; the input reads as it did. -/
def bucketKeysUptoRow : OpenClaim := { program := "ytdemjanelbajlaa", sum := "58f14650a5090922bbfd9c13d1e7b4ae9c9cbaec72e61624383574c1977b38b5", func := "afterglow/afterglowlaw18.BucketKeys", spec := "bucketKeys", unfollowed := true, recurses := true, apart := false, narrowed := true }
def BucketKeysUptoSaid : Prop := bucketKeysUptoRow.holds Try.pinned (OpenSpec.upto bucketKeysSpec)

/-- 'afterglowlaw18.BucketSteady', WHERE WHAT IT READS IS OF BULK AT MOST 1048576: true; the input reads as it did. -/
def bucketSteadyUptoRow : OpenClaim := { program := "ytdemjanelbajlaa", sum := "58f14650a5090922bbfd9c13d1e7b4ae9c9cbaec72e61624383574c1977b38b5", func := "afterglow/afterglowlaw18.BucketSteady", spec := "bucketSteady", unfollowed := true, recurses := true, apart := false, narrowed := true }
def BucketSteadyUptoSaid : Prop := bucketSteadyUptoRow.holds Try.pinned (OpenSpec.upto bucketSteadySpec)

/-- 'afterglowlaw18.BucketOf', WHERE WHAT IT READS IS OF BULK AT MOST 1048576: true; the input reads as it did. -/
def bucketOfUptoRow : OpenClaim := { program := "ytdemjanelbajlaa", sum := "58f14650a5090922bbfd9c13d1e7b4ae9c9cbaec72e61624383574c1977b38b5", func := "afterglow/afterglowlaw18.BucketOf", spec := "bucketOf", unfollowed := true, recurses := true, apart := false, narrowed := true }
def BucketOfUptoSaid : Prop := bucketOfUptoRow.holds Try.pinned (OpenSpec.upto bucketOfSpec)

/-- 'afterglowlaw18.BucketParts', WHERE WHAT IT READS IS OF BULK AT MOST 1048576: true; the input reads as it did. -/
def bucketPartsUptoRow : OpenClaim := { program := "ytdemjanelbajlaa", sum := "58f14650a5090922bbfd9c13d1e7b4ae9c9cbaec72e61624383574c1977b38b5", func := "afterglow/afterglowlaw18.BucketParts", spec := "bucketParts", unfollowed := true, recurses := true, apart := false, narrowed := true }
def BucketPartsUptoSaid : Prop := bucketPartsUptoRow.holds Try.pinned (OpenSpec.upto bucketPartsSpec)

/-- 'afterglowlaw18.BucketTurns', WHERE WHAT IT READS IS OF BULK AT MOST 1048576: true; the input reads as it did. -/
def bucketTurnsUptoRow : OpenClaim := { program := "ytdemjanelbajlaa", sum := "58f14650a5090922bbfd9c13d1e7b4ae9c9cbaec72e61624383574c1977b38b5", func := "afterglow/afterglowlaw18.BucketTurns", spec := "bucketTurns", unfollowed := true, recurses := true, apart := false, narrowed := true }
def BucketTurnsUptoSaid : Prop := bucketTurnsUptoRow.holds Try.pinned (OpenSpec.upto bucketTurnsSpec)

/-- 'afterglowlaw18.BucketOrder', WHERE WHAT IT READS IS OF BULK AT MOST 1048576: true; the input reads as it did. -/
def bucketOrderUptoRow : OpenClaim := { program := "ytdemjanelbajlaa", sum := "58f14650a5090922bbfd9c13d1e7b4ae9c9cbaec72e61624383574c1977b38b5", func := "afterglow/afterglowlaw18.BucketOrder", spec := "bucketOrder", unfollowed := true, recurses := true, apart := false, narrowed := true }
def BucketOrderUptoSaid : Prop := bucketOrderUptoRow.holds Try.pinned (OpenSpec.upto bucketOrderSpec)

end Rows
end Go.Proofs.Ytdemjanelbajlaa
