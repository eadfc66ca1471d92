/-
  What the arguments' types read as (printed by a tool of the prover's).
-/
import Derived.Test.YtbaffpifmfddeaaDoorGTypes
import Derived.Test.YtbaffpifmfddeaaDoorDcRow
import Derived.Test.YtbaffpifmfddeaaDoorCards
import Derived.Test.YtbaffpifmfddeaaDoorTie
namespace Go.Proofs.YtbaffpifmfddeaaDoor
open Go.RowKit Go.Dc
set_option maxRecDepth 100000
theorem opn27 : Opn Tryd.prog 27 (Ty.int .u64) (DInt .u64) := opn_int Tryd.underlying27 (by kernel_rfl)
theorem opn3 : Opn Tryd.prog 3 (Ty.int .i64) (DInt .i64) := opn_int Tryd.underlying3 (by kernel_rfl)
theorem opn29 : Opn Tryd.prog 29 tGDesc (DStruct (DCons (DInt .u64) (DCons (DInt .i64) (DOne (DInt .u64)))) (fun d : GDesc => (d.fPid, d.fFd, d.fWhat))) := opn_struct (fun d : GDesc => (d.fPid, d.fFd, d.fWhat)) (fun p => ⟨p.1, p.2.1, p.2.2⟩) (fun _ => rfl) Tryd.underlying29 (by kernel_rfl) rfl (opnF_cons rfl opn27 rfl (opnF_cons rfl opn3 rfl (opnF_one rfl opn27)))
theorem opn22 : Opn Tryd.prog 22 (Ty.slice tGDesc) (DSlice (DStruct (DCons (DInt .u64) (DCons (DInt .i64) (DOne (DInt .u64)))) (fun d : GDesc => (d.fPid, d.fFd, d.fWhat)))) := opn_slice Tryd.underlying22 (by kernel_rfl) opn29 (by decide)
theorem opn38 : Opn Tryd.prog 38 (Ty.slice (Ty.int .u64)) (DSlice (DInt .u64)) := opn_slice Tryd.underlying38 (by kernel_rfl) opn27 (by decide)
theorem opn76 : Opn Tryd.prog 76 tGField (DStruct (DCons (DInt .i64) (DOne (DInt .i64))) (fun d : GField => (d.fAt, d.fWide))) := opn_struct (fun d : GField => (d.fAt, d.fWide)) (fun p => ⟨p.1, p.2⟩) (fun _ => rfl) Tryd.underlying76 (by kernel_rfl) rfl (opnF_cons rfl opn3 rfl (opnF_one rfl opn3))
theorem opn66 : Opn Tryd.prog 66 (Ty.slice tGField) (DSlice (DStruct (DCons (DInt .i64) (DOne (DInt .i64))) (fun d : GField => (d.fAt, d.fWide)))) := opn_slice Tryd.underlying66 (by kernel_rfl) opn76 (by decide)
theorem g_parts_reads {x : List GField} (h : DSlice (DStruct (DCons (DInt .i64) (DOne (DInt .i64))) (fun d : GField => (d.fAt, d.fWide))) (Rows.laid_afterglow_desc_parts (H := Unit)) x) : x = g_parts := by
  simp [Rows.laid_afterglow_desc_parts, DSlice, DAll, DStruct, DCons, DOne, DInt] at h
  obtain ⟨⟨a, b⟩, _, rfl, ⟨_, _, ⟨rfl, rfl⟩, ⟨h1, _⟩, _, h2, h3, _⟩, ⟨c, d⟩, rfl, ⟨_, _, ⟨rfl, rfl⟩, ⟨h4, _⟩, _, h5, h6, _⟩⟩ := h
  simp at h2 h5
  subst h2; subst h5
  simp at h1 h3 h4 h6
  subst h1; subst h3; subst h4; subst h6
  rfl
theorem good_u64 {H : Type} {d : DataW H} {x : Int} (h : DInt .u64 d x) : 0 ≤ x ∧ x < 18446744073709551616 := by
  have := h.2
  simp [Lit.wf, IntKind.min, IntKind.max, IntKind.signed, IntKind.bits] at this
  omega
theorem good_desc {H : Type} {d : DataW H} {x : GDesc} (h : DStruct (DCons (DInt .u64) (DCons (DInt .i64) (DOne (DInt .u64)))) (fun d : GDesc => (d.fPid, d.fFd, d.fWhat)) d x) : 0 ≤ x.fPid ∧ x.fPid < 18446744073709551616 := by
  obtain ⟨_, _, _, _, _, h, _⟩ := h
  exact good_u64 h

end Go.Proofs.YtbaffpifmfddeaaDoor
