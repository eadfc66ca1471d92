/-
  What the arguments' types read as (printed by a tool of the prover's).
-/
import Derived.Test.YtjdeaihnpgkphaaGTypes
import Derived.Test.YtjdeaihnpgkphaaDcRow
import Derived.Test.YtjdeaihnpgkphaaRows
namespace Go.Proofs.Ytjdeaihnpgkphaa
open Go.RowKit Go.Dc
set_option maxRecDepth 100000
theorem opn29 : Opn Try.prog 29 (Ty.int .u64) (DInt .u64) := opn_int Try.underlying29 (by kernel_rfl)
theorem opn31 : Opn Try.prog 31 tGName (DStruct (DCons (DInt .u64) (DOne (DInt .u64))) (fun d : GName => (d.fName, d.fPid))) := opn_struct (fun d : GName => (d.fName, d.fPid)) (fun p => ⟨p.1, p.2⟩) (fun _ => rfl) Try.underlying31 (by kernel_rfl) rfl (opnF_cons rfl opn29 rfl (opnF_one rfl opn29))
theorem opn22 : Opn Try.prog 22 (Ty.slice tGName) (DSlice (DStruct (DCons (DInt .u64) (DOne (DInt .u64))) (fun d : GName => (d.fName, d.fPid)))) := opn_slice Try.underlying22 (by kernel_rfl) opn31 (by decide)
theorem opn40 : Opn Try.prog 40 (Ty.slice (Ty.int .u64)) (DSlice (DInt .u64)) := opn_slice Try.underlying40 (by kernel_rfl) opn29 (by decide)
theorem opn61 : Opn Try.prog 61 tGBox (DStruct (DCons (DInt .u64) (DOne (DSlice (DInt .u64)))) (fun d : GBox => (d.fPid, d.fWords))) := opn_struct (fun d : GBox => (d.fPid, d.fWords)) (fun p => ⟨p.1, p.2⟩) (fun _ => rfl) Try.underlying61 (by kernel_rfl) rfl (opnF_cons rfl opn29 rfl (opnF_one rfl opn40))
theorem opn23 : Opn Try.prog 23 (Ty.slice tGBox) (DSlice (DStruct (DCons (DInt .u64) (DOne (DSlice (DInt .u64)))) (fun d : GBox => (d.fPid, d.fWords)))) := opn_slice Try.underlying23 (by kernel_rfl) opn61 (by decide)
theorem opn25 : Opn Try.prog 25 tGIpc (DStruct (DCons (DSlice (DStruct (DCons (DInt .u64) (DOne (DInt .u64))) (fun d : GName => (d.fName, d.fPid)))) (DOne (DSlice (DStruct (DCons (DInt .u64) (DOne (DSlice (DInt .u64)))) (fun d : GBox => (d.fPid, d.fWords)))))) (fun d : GIpc => (d.fNames, d.fBoxes))) := opn_struct (fun d : GIpc => (d.fNames, d.fBoxes)) (fun p => ⟨p.1, p.2⟩) (fun _ => rfl) Try.underlying25 (by kernel_rfl) rfl (opnF_cons rfl opn22 rfl (opnF_one rfl opn23))
theorem opn39 : Opn Try.prog 39 tGTwo (DStruct (DCons (DInt .u64) (DOne (DInt .u64))) (fun d : GTwo => (d.f0, d.f1))) := opn_arr2 (fun d : GTwo => (d.f0, d.f1)) (fun p => ⟨p.1, p.2⟩) (fun _ => rfl) Try.underlying39 (by kernel_rfl) opn29 rfl
theorem good_u64 {H : Type} {d : DataW H} {x : Int} (h : DInt .u64 d x) : 0 ≤ x ∧ x < 18446744073709551616 := by
  have := h.2
  simp [Lit.wf, IntKind.min, IntKind.max, IntKind.signed, IntKind.bits] at this
  omega
theorem good_us {H : Type} {d : DataW H} {xs : List Int} (h : DSlice (DInt .u64) d xs) : ∀ x ∈ xs, 0 ≤ x ∧ x < 18446744073709551616 := fun x hx => let ⟨_, he⟩ := h.mem x hx; good_u64 he
theorem good_name {H : Type} {d : DataW H} {x : GName} (h : DStruct (DCons (DInt .u64) (DOne (DInt .u64))) (fun d : GName => (d.fName, d.fPid)) d x) : 0 ≤ x.fName ∧ x.fName < 18446744073709551616 := by
  obtain ⟨_, _, _, _, _, h, _⟩ := h
  exact good_u64 h
theorem good_box {H : Type} {d : DataW H} {x : GBox} (h : DStruct (DCons (DInt .u64) (DOne (DSlice (DInt .u64)))) (fun d : GBox => (d.fPid, d.fWords)) d x) : 0 ≤ x.fPid ∧ x.fPid < 18446744073709551616 := by
  obtain ⟨_, _, _, _, _, h, _⟩ := h
  exact good_u64 h
theorem good_names {H : Type} {d : DataW H} {xs : List GName} (h : DSlice (DStruct (DCons (DInt .u64) (DOne (DInt .u64))) (fun d : GName => (d.fName, d.fPid))) d xs) : ∀ x ∈ xs, 0 ≤ x.fName ∧ x.fName < 18446744073709551616 := fun x hx => let ⟨_, he⟩ := h.mem x hx; good_name he
theorem good_ipc {H : Type} {d : DataW H} {x : GIpc} (h : DStruct (DCons (DSlice (DStruct (DCons (DInt .u64) (DOne (DInt .u64))) (fun d : GName => (d.fName, d.fPid)))) (DOne (DSlice (DStruct (DCons (DInt .u64) (DOne (DSlice (DInt .u64)))) (fun d : GBox => (d.fPid, d.fWords)))))) (fun d : GIpc => (d.fNames, d.fBoxes)) d x) : (∀ z ∈ x.fNames, 0 ≤ z.fName ∧ z.fName < 18446744073709551616) ∧ ∀ z ∈ x.fBoxes, 0 ≤ z.fPid ∧ z.fPid < 18446744073709551616 := by
  obtain ⟨_, _, _, _, _, h1, _, _, h2⟩ := h
  exact ⟨good_names h1, fun z hz => let ⟨_, he⟩ := h2.mem z hz; good_box he⟩

end Go.Proofs.Ytjdeaihnpgkphaa
