/-
  What the arguments' types read as (printed by a tool of the prover's).
-/
import Derived.Test.YtdemjanelbajlaaGTypes
import Derived.Test.YtdemjanelbajlaaDcRow
import Derived.Test.YtdemjanelbajlaaRows
namespace Go.Proofs.Ytdemjanelbajlaa
open Go.RowKit Go.Dc
set_option maxRecDepth 100000
theorem opn31 : Opn Try.prog 31 (Ty.int .u64) (DInt .u64) := opn_int Try.underlying31 (by kernel_rfl)
theorem opn35 : Opn Try.prog 35 (Ty.slice (Ty.int .u64)) (DSlice (DInt .u64)) := opn_slice Try.underlying35 (by kernel_rfl) opn31 (by decide)
theorem opn3 : Opn Try.prog 3 (Ty.int .i64) (DInt .i64) := opn_int Try.underlying3 (by kernel_rfl)
theorem opn39 : Opn Try.prog 39 (Ty.slice (Ty.slice (Ty.int .u64))) (DSlice (DSlice (DInt .u64))) := opn_slice Try.underlying39 (by kernel_rfl) opn35 (by decide)
theorem opn47 : Opn Try.prog 47 (Ty.slice (Ty.int .i64)) (DSlice (DInt .i64)) := opn_slice Try.underlying47 (by kernel_rfl) opn3 (by decide)
theorem opn24 : Opn Try.prog 24 tGPair (DStruct (DCons (DInt .i64) (DOne (DInt .i64))) (fun d : GPair => (d.f0, d.f1))) := opn_arr2 (fun d : GPair => (d.f0, d.f1)) (fun p => ⟨p.1, p.2⟩) (fun _ => rfl) Try.underlying24 (by kernel_rfl) opn3 rfl
theorem opn22 : Opn Try.prog 22 (Ty.slice tGPair) (DSlice (DStruct (DCons (DInt .i64) (DOne (DInt .i64))) (fun d : GPair => (d.f0, d.f1)))) := opn_slice Try.underlying22 (by kernel_rfl) opn24 (by decide)
theorem good_u64 {H : Type} {d : DataW H} {x : Int} (h : DInt .u64 d x) : 0 ≤ x ∧ x < 18446744073709551616 := by
  have := h.2
  simp [Lit.wf, IntKind.min, IntKind.max, IntKind.signed, IntKind.bits] at this
  omega
theorem good_i64 {H : Type} {d : DataW H} {x : Int} (h : DInt .i64 d x) : -9223372036854775808 ≤ x ∧ x < 9223372036854775808 := by
  have := h.2
  simp [Lit.wf, IntKind.min, IntKind.max, IntKind.signed, IntKind.bits] at this
  omega
theorem good_us {H : Type} {d : DataW H} {xs : List Int} (h : DSlice (DInt .u64) d xs) : ∀ x ∈ xs, 0 ≤ x ∧ x < 18446744073709551616 := fun x hx => let ⟨_, he⟩ := h.mem x hx; good_u64 he
theorem good_uss {H : Type} {d : DataW H} {xs : List (List Int)} (h : DSlice (DSlice (DInt .u64)) d xs) : ∀ r ∈ xs, ∀ x ∈ r, 0 ≤ x ∧ x < 18446744073709551616 := fun r hr => let ⟨_, he⟩ := h.mem r hr; good_us he
theorem good_pair {H : Type} {d : DataW H} {x : GPair} (h : DStruct (DCons (DInt .i64) (DOne (DInt .i64))) (fun d : GPair => (d.f0, d.f1)) d x) : (-9223372036854775808 ≤ x.f0 ∧ x.f0 < 9223372036854775808) ∧ (-9223372036854775808 ≤ x.f1 ∧ x.f1 < 9223372036854775808) := by
  obtain ⟨_, _, _, _, _, h0, _, _, h1⟩ := h
  exact ⟨good_i64 h0, good_i64 h1⟩

end Go.Proofs.Ytdemjanelbajlaa
