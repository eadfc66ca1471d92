/-
  The program's functions compute the plain ones (printed by a tool of the prover's).
-/
import Derived.Test.YtbaffpifmfddeaaDoorGTypes
namespace Go.Proofs.YtbaffpifmfddeaaDoor
open Go.RowKit Go.Dc Go.Shelf
set_option maxRecDepth 100000 in
set_option maxHeartbeats 4000000 in
theorem d_is_c {O : List Nat} {w : World} (hO : OB O w) {v0 : Value} {x0 : GDesc} (h0 : tGDesc.is O w v0 x0) : Calls Tryd.prog 25 #[v0] w (Gives (rt1 Ty.bool) O w (d_is x0)) := by
  obtain rfl := tGDesc_is.1 h0
  have hF := Fr.refl [] w
  have hO0 := hO
  have hS := Sub.refl O
  obtain ⟨r, h⟩ : ∃ r, d_is x0 = r := ⟨_, rfl⟩
  rw [h]
  refine calls_of (args := [(.agg #[(.int .u64 x0.fPid), (.int .i64 x0.fFd), (.int .u64 x0.fWhat)])]) (N := 16) Tryd.func25 rfl rfl rfl ?_
  unfold d_is at h
  refine wc_seq ?_
  refine wc_region (l := [0, 1]) rfl ?_
  refine wo_box rfl rfl rfl rfl rfl rfl [(.int .u64 x0.fPid), (.int .i64 x0.fFd), (.int .u64 x0.fWhat)] rfl hO (fun b1 w2 n3 => ?_)
  have hb1 := n3.blk
  have gb1 := n3.ge0 hF
  have ib1 : b1 ∈ b1 :: O := List.mem_cons_self
  have hO := n3.ob
  have hF := hF.trans n3.fr
  have hS := Sub.cons hS b1
  refine wo_seg Θ_ok [1] [(1, (.pointer (some ⟨b1, 0, none⟩)))] rfl ⟨rfl, trivial⟩ ?_
  refine wo_nil ?_
  refine wq_seq ?_
  refine wc_seq ?_
  refine wc_region (l := [0, 1, 2, 3, 4, 5, 6, 7, 8, 9, 10, 11, 12, 13]) rfl ?_
  refine wo_seg Θ_ok [0] [(1, (.pointer (some ⟨b1, 0, none⟩))), (3, (.pointer (some ⟨b1, 0, none⟩)))] rfl ⟨rfl, rfl, trivial⟩ ?_
  refine wo_load Θ_ok rfl rfl rfl rfl rfl rfl rfl hb1 [(.int .u64 x0.fPid)] rfl rfl (.inr rfl) (.int .u64 x0.fPid) rfl ?_
  refine wo_seg Θ_ok [2, 3] [(1, (.pointer (some ⟨b1, 0, none⟩))), (6, (.bool (decide (x0.fPid < (4294967296 : Int)))))] rfl ⟨rfl, rfl, trivial⟩ ?_
  rcases bif_some h with ⟨hc4, h⟩ | ⟨hc4, h⟩
  rotate_left
  · refine wo_know 6 false rfl hc4 ?_
    refine wo_seg Θ_ok [4, 5, 6, 7, 8, 9, 10, 11, 12, 13] [(2, (.bool false))] rfl ⟨rfl, trivial⟩ ?_
    refine wo_nil ?_
    refine wq_seq ?_
    refine wc_ret ?_
    subst h
    exact wq_ret rfl ⟨_, rfl, (bool_is.2 rfl), hF⟩
  refine wo_know 6 true rfl hc4 ?_
  refine wo_seg Θ_ok [4] [(1, (.pointer (some ⟨b1, 0, none⟩))), (6, (.bool true)), (7, (.pointer (some ⟨b1, 1, none⟩)))] rfl ⟨rfl, rfl, rfl, trivial⟩ ?_
  refine wo_load Θ_ok rfl rfl rfl rfl rfl rfl rfl hb1 [(.int .i64 x0.fFd)] rfl rfl (.inr rfl) (.int .i64 x0.fFd) rfl ?_
  refine wo_seg Θ_ok [6, 7, 8] [(1, (.pointer (some ⟨b1, 0, none⟩))), (11, (.bool (decide (x0.fFd ≥ (0 : Int)))))] rfl ⟨rfl, rfl, trivial⟩ ?_
  rcases bif_some h with ⟨hc5, h⟩ | ⟨hc5, h⟩
  rotate_left
  · refine wo_know 11 false rfl hc5 ?_
    refine wo_seg Θ_ok [9, 10, 11, 12, 13] [(2, (.bool false))] rfl ⟨rfl, trivial⟩ ?_
    refine wo_nil ?_
    refine wq_seq ?_
    refine wc_ret ?_
    subst h
    exact wq_ret rfl ⟨_, rfl, (bool_is.2 rfl), hF⟩
  refine wo_know 11 true rfl hc5 ?_
  refine wo_seg Θ_ok [9] [(11, (.bool true)), (12, (.pointer (some ⟨b1, 1, none⟩)))] rfl ⟨rfl, rfl, trivial⟩ ?_
  refine wo_load Θ_ok rfl rfl rfl rfl rfl rfl rfl hb1 [(.int .i64 x0.fFd)] rfl rfl (.inr rfl) (.int .i64 x0.fFd) rfl ?_
  refine wo_seg Θ_ok [11, 12, 13] [(2, (.bool (decide (x0.fFd < (8 : Int)))))] rfl ⟨rfl, trivial⟩ ?_
  refine wo_nil ?_
  refine wq_seq ?_
  refine wc_ret ?_
  subst h
  exact wq_ret rfl ⟨_, rfl, (bool_is.2 rfl), hF⟩
set_option maxRecDepth 100000 in
set_option maxHeartbeats 4000000 in
theorem isNaN_u_c {O : List Nat} {w : World} (hO : OB O w) {v0 : Value} {x0 : Int} (h0 : (Ty.int .u64).is O w v0 x0) : Calls Tryd.prog 47 #[v0] w (Gives (rt1 Ty.bool) O w (isNaN_u x0)) := by
  obtain rfl := int_is.1 h0
  have hF := Fr.refl [] w
  have hO0 := hO
  have hS := Sub.refl O
  obtain ⟨r, h⟩ : ∃ r, isNaN_u x0 = r := ⟨_, rfl⟩
  rw [h]
  refine calls_of (args := [(.int .u64 x0)]) (N := 6) Tryd.func47 rfl rfl rfl ?_
  unfold isNaN_u at h
  refine wc_seq ?_
  refine wc_region (l := [0]) rfl ?_
  refine wo_seg Θ_ok [0] [(0, (.int .u64 x0))] rfl ⟨rfl, trivial⟩ ?_
  refine wo_nil ?_
  refine wq_seq ?_
  refine wc_seq ?_
  refine wc_region (l := [0, 1, 2, 3]) rfl ?_
  refine wo_seg Θ_ok [0, 1, 2, 3] [(2, (.bool (x0 != x0)))] rfl ⟨rfl, trivial⟩ ?_
  refine wo_nil ?_
  refine wq_seq ?_
  refine wc_ret ?_
  subst h
  exact wq_ret rfl ⟨_, rfl, (bool_is.2 rfl), hF⟩
set_option maxRecDepth 100000 in
set_option maxHeartbeats 4000000 in
theorem isNaN_i_c {O : List Nat} {w : World} (hO : OB O w) {v0 : Value} {x0 : Int} (h0 : (Ty.int .i64).is O w v0 x0) : Calls Tryd.prog 48 #[v0] w (Gives (rt1 Ty.bool) O w (isNaN_i x0)) := by
  obtain rfl := int_is.1 h0
  have hF := Fr.refl [] w
  have hO0 := hO
  have hS := Sub.refl O
  obtain ⟨r, h⟩ : ∃ r, isNaN_i x0 = r := ⟨_, rfl⟩
  rw [h]
  refine calls_of (args := [(.int .i64 x0)]) (N := 6) Tryd.func48 rfl rfl rfl ?_
  unfold isNaN_i at h
  refine wc_seq ?_
  refine wc_region (l := [0]) rfl ?_
  refine wo_seg Θ_ok [0] [(0, (.int .i64 x0))] rfl ⟨rfl, trivial⟩ ?_
  refine wo_nil ?_
  refine wq_seq ?_
  refine wc_seq ?_
  refine wc_region (l := [0, 1, 2, 3]) rfl ?_
  refine wo_seg Θ_ok [0, 1, 2, 3] [(2, (.bool (x0 != x0)))] rfl ⟨rfl, trivial⟩ ?_
  refine wo_nil ?_
  refine wq_seq ?_
  refine wc_ret ?_
  subst h
  exact wq_ret rfl ⟨_, rfl, (bool_is.2 rfl), hF⟩
set_option maxRecDepth 100000 in
set_option maxHeartbeats 4000000 in
theorem cmp_u_c {O : List Nat} {w : World} (hO : OB O w) {v0 : Value} {x0 : Int} (h0 : (Ty.int .u64).is O w v0 x0) {v1 : Value} {x1 : Int} (h1 : (Ty.int .u64).is O w v1 x1) : Calls Tryd.prog 39 #[v0, v1] w (Gives (rt1 (Ty.int .i64)) O w (cmp_u x0 x1)) := by
  obtain rfl := int_is.1 h0
  obtain rfl := int_is.1 h1
  have hF := Fr.refl [] w
  have hO0 := hO
  have hS := Sub.refl O
  obtain ⟨r, h⟩ : ∃ r, cmp_u x0 x1 = r := ⟨_, rfl⟩
  rw [h]
  refine calls_of (args := [(.int .u64 x0), (.int .u64 x1)]) (N := 20) Tryd.func39 rfl rfl rfl ?_
  unfold cmp_u at h
  refine wc_seq ?_
  refine wc_region (l := [0]) rfl ?_
  refine wo_seg Θ_ok [0] [(0, (.int .u64 x0)), (1, (.int .u64 x1))] rfl ⟨rfl, rfl, trivial⟩ ?_
  refine wo_nil ?_
  refine wq_seq ?_
  refine wc_seq ?_
  refine wc_region (l := [0, 1, 2]) rfl ?_
  refine wo_seg Θ_ok [0] [(0, (.int .u64 x0)), (1, (.int .u64 x1)), (7, (.int .u64 x0))] rfl ⟨rfl, rfl, rfl, trivial⟩ ?_
  refine wo_gives rfl rfl rfl rfl rfl ent47 rfl (isNaN_u_c hO (int_is.2 rfl)) (fun v1 w2 h3 f4 => ?_)
  have hO := f4.ob hO
  have hF := hF.trans f4
  obtain rfl := bool_is.1 h3
  refine wo_seg Θ_ok [2] [(0, (.int .u64 x0)), (1, (.int .u64 x1)), (5, (.bool ((isNaN_u x0))))] rfl ⟨rfl, rfl, rfl, trivial⟩ ?_
  refine wo_nil ?_
  refine wq_seq ?_
  refine wc_seq ?_
  refine wc_region (l := [0, 1, 2]) rfl ?_
  refine wo_seg Θ_ok [0] [(0, (.int .u64 x0)), (1, (.int .u64 x1)), (5, (.bool ((isNaN_u x0)))), (9, (.int .u64 x1))] rfl ⟨rfl, rfl, rfl, rfl, trivial⟩ ?_
  refine wo_gives rfl rfl rfl rfl rfl ent47 rfl (isNaN_u_c hO (int_is.2 rfl)) (fun v5 w6 h7 f8 => ?_)
  have hO := f8.ob hO
  have hF := hF.trans f8
  obtain rfl := bool_is.1 h7
  refine wo_seg Θ_ok [2] [(0, (.int .u64 x0)), (1, (.int .u64 x1)), (5, (.bool ((isNaN_u x0)))), (6, (.bool ((isNaN_u x1))))] rfl ⟨rfl, rfl, rfl, rfl, trivial⟩ ?_
  refine wo_nil ?_
  refine wq_seq ?_
  refine wc_seq ?_
  refine wc_seq ?_
  refine wc_region (l := [0]) rfl ?_
  refine wo_seg Θ_ok [0] [(0, (.int .u64 x0)), (1, (.int .u64 x1)), (6, (.bool ((isNaN_u x1)))), (11, (.bool ((isNaN_u x0))))] rfl ⟨rfl, rfl, rfl, rfl, trivial⟩ ?_
  refine wo_nil ?_
  refine wq_seq ?_
  rcases bif_some h with ⟨hc9, h⟩ | ⟨hc9, h⟩
  · refine wc_known_true rfl hc9 ?_
    refine wc_seq ?_
    refine wc_seq ?_
    refine wc_region (l := [0]) rfl ?_
    refine wo_seg Θ_ok [0] [(12, (.bool ((isNaN_u x1))))] rfl ⟨rfl, trivial⟩ ?_
    refine wo_nil ?_
    refine wq_seq ?_
    rcases bif_some h with ⟨hc10, h⟩ | ⟨hc10, h⟩
    · refine wc_known_true rfl hc10 ?_
      refine wc_seq ?_
      refine wc_region (l := [0]) rfl ?_
      refine wo_seg Θ_ok [0] [(4, (.int .i64 0))] rfl ⟨rfl, trivial⟩ ?_
      refine wo_nil ?_
      refine wq_seq ?_
      refine wc_ret ?_
      subst h
      exact wq_then_ret (wq_then_ret (wq_ret rfl ⟨_, rfl, (int_is.2 rfl), hF⟩))
    refine wc_known_false rfl hc10 ?_
    refine wc_skip ?_
    refine wq_seq ?_
    refine wc_seq ?_
    refine wc_region (l := [0]) rfl ?_
    refine wo_seg Θ_ok [0] [(4, (.int .i64 (-1)))] rfl ⟨rfl, trivial⟩ ?_
    refine wo_nil ?_
    refine wq_seq ?_
    refine wc_ret ?_
    subst h
    exact wq_then_ret (wq_ret rfl ⟨_, rfl, (int_is.2 rfl), hF⟩)
  refine wc_known_false rfl hc9 ?_
  refine wc_skip ?_
  refine wq_seq ?_
  refine wc_seq ?_
  refine wc_seq ?_
  refine wc_region (l := [0]) rfl ?_
  refine wo_seg Θ_ok [0] [(0, (.int .u64 x0)), (1, (.int .u64 x1)), (13, (.bool ((isNaN_u x1))))] rfl ⟨rfl, rfl, rfl, trivial⟩ ?_
  refine wo_nil ?_
  refine wq_seq ?_
  rcases bif_some h with ⟨hc11, h⟩ | ⟨hc11, h⟩
  · refine wc_known_true rfl hc11 ?_
    refine wc_seq ?_
    refine wc_region (l := [0]) rfl ?_
    refine wo_seg Θ_ok [0] [(4, (.int .i64 1))] rfl ⟨rfl, trivial⟩ ?_
    refine wo_nil ?_
    refine wq_seq ?_
    refine wc_ret ?_
    subst h
    exact wq_then_ret (wq_ret rfl ⟨_, rfl, (int_is.2 rfl), hF⟩)
  refine wc_known_false rfl hc11 ?_
  refine wc_skip ?_
  refine wq_seq ?_
  refine wc_seq ?_
  refine wc_seq ?_
  refine wc_region (l := [0, 1, 2]) rfl ?_
  refine wo_seg Θ_ok [0, 1, 2] [(0, (.int .u64 x0)), (1, (.int .u64 x1)), (16, (.bool (decide (x0 < x1))))] rfl ⟨rfl, rfl, rfl, trivial⟩ ?_
  refine wo_nil ?_
  refine wq_seq ?_
  rcases bif_some h with ⟨hc12, h⟩ | ⟨hc12, h⟩
  · refine wc_known_true rfl hc12 ?_
    refine wc_seq ?_
    refine wc_region (l := [0]) rfl ?_
    refine wo_seg Θ_ok [0] [(4, (.int .i64 (-1)))] rfl ⟨rfl, trivial⟩ ?_
    refine wo_nil ?_
    refine wq_seq ?_
    refine wc_ret ?_
    subst h
    exact wq_then_ret (wq_ret rfl ⟨_, rfl, (int_is.2 rfl), hF⟩)
  refine wc_known_false rfl hc12 ?_
  refine wc_skip ?_
  refine wq_seq ?_
  refine wc_seq ?_
  refine wc_seq ?_
  refine wc_region (l := [0, 1, 2]) rfl ?_
  refine wo_seg Θ_ok [0, 1, 2] [(19, (.bool (decide (x0 > x1))))] rfl ⟨rfl, trivial⟩ ?_
  refine wo_nil ?_
  refine wq_seq ?_
  rcases bif_some h with ⟨hc13, h⟩ | ⟨hc13, h⟩
  · refine wc_known_true rfl hc13 ?_
    refine wc_seq ?_
    refine wc_region (l := [0]) rfl ?_
    refine wo_seg Θ_ok [0] [(4, (.int .i64 1))] rfl ⟨rfl, trivial⟩ ?_
    refine wo_nil ?_
    refine wq_seq ?_
    refine wc_ret ?_
    subst h
    exact wq_then_ret (wq_ret rfl ⟨_, rfl, (int_is.2 rfl), hF⟩)
  refine wc_known_false rfl hc13 ?_
  refine wc_skip ?_
  refine wq_seq ?_
  refine wc_seq ?_
  refine wc_region (l := [0]) rfl ?_
  refine wo_seg Θ_ok [0] [(4, (.int .i64 0))] rfl ⟨rfl, trivial⟩ ?_
  refine wo_nil ?_
  refine wq_seq ?_
  refine wc_ret ?_
  subst h
  exact wq_ret rfl ⟨_, rfl, (int_is.2 rfl), hF⟩
set_option maxRecDepth 100000 in
set_option maxHeartbeats 4000000 in
theorem cmp_i_c {O : List Nat} {w : World} (hO : OB O w) {v0 : Value} {x0 : Int} (h0 : (Ty.int .i64).is O w v0 x0) {v1 : Value} {x1 : Int} (h1 : (Ty.int .i64).is O w v1 x1) : Calls Tryd.prog 40 #[v0, v1] w (Gives (rt1 (Ty.int .i64)) O w (cmp_i x0 x1)) := by
  obtain rfl := int_is.1 h0
  obtain rfl := int_is.1 h1
  have hF := Fr.refl [] w
  have hO0 := hO
  have hS := Sub.refl O
  obtain ⟨r, h⟩ : ∃ r, cmp_i x0 x1 = r := ⟨_, rfl⟩
  rw [h]
  refine calls_of (args := [(.int .i64 x0), (.int .i64 x1)]) (N := 20) Tryd.func40 rfl rfl rfl ?_
  unfold cmp_i at h
  refine wc_seq ?_
  refine wc_region (l := [0]) rfl ?_
  refine wo_seg Θ_ok [0] [(0, (.int .i64 x0)), (1, (.int .i64 x1))] rfl ⟨rfl, rfl, trivial⟩ ?_
  refine wo_nil ?_
  refine wq_seq ?_
  refine wc_seq ?_
  refine wc_region (l := [0, 1, 2]) rfl ?_
  refine wo_seg Θ_ok [0] [(0, (.int .i64 x0)), (1, (.int .i64 x1)), (7, (.int .i64 x0))] rfl ⟨rfl, rfl, rfl, trivial⟩ ?_
  refine wo_gives rfl rfl rfl rfl rfl ent48 rfl (isNaN_i_c hO (int_is.2 rfl)) (fun v1 w2 h3 f4 => ?_)
  have hO := f4.ob hO
  have hF := hF.trans f4
  obtain rfl := bool_is.1 h3
  refine wo_seg Θ_ok [2] [(0, (.int .i64 x0)), (1, (.int .i64 x1)), (5, (.bool ((isNaN_i x0))))] rfl ⟨rfl, rfl, rfl, trivial⟩ ?_
  refine wo_nil ?_
  refine wq_seq ?_
  refine wc_seq ?_
  refine wc_region (l := [0, 1, 2]) rfl ?_
  refine wo_seg Θ_ok [0] [(0, (.int .i64 x0)), (1, (.int .i64 x1)), (5, (.bool ((isNaN_i x0)))), (9, (.int .i64 x1))] rfl ⟨rfl, rfl, rfl, rfl, trivial⟩ ?_
  refine wo_gives rfl rfl rfl rfl rfl ent48 rfl (isNaN_i_c hO (int_is.2 rfl)) (fun v5 w6 h7 f8 => ?_)
  have hO := f8.ob hO
  have hF := hF.trans f8
  obtain rfl := bool_is.1 h7
  refine wo_seg Θ_ok [2] [(0, (.int .i64 x0)), (1, (.int .i64 x1)), (5, (.bool ((isNaN_i x0)))), (6, (.bool ((isNaN_i x1))))] rfl ⟨rfl, rfl, rfl, rfl, trivial⟩ ?_
  refine wo_nil ?_
  refine wq_seq ?_
  refine wc_seq ?_
  refine wc_seq ?_
  refine wc_region (l := [0]) rfl ?_
  refine wo_seg Θ_ok [0] [(0, (.int .i64 x0)), (1, (.int .i64 x1)), (6, (.bool ((isNaN_i x1)))), (11, (.bool ((isNaN_i x0))))] rfl ⟨rfl, rfl, rfl, rfl, trivial⟩ ?_
  refine wo_nil ?_
  refine wq_seq ?_
  rcases bif_some h with ⟨hc9, h⟩ | ⟨hc9, h⟩
  · refine wc_known_true rfl hc9 ?_
    refine wc_seq ?_
    refine wc_seq ?_
    refine wc_region (l := [0]) rfl ?_
    refine wo_seg Θ_ok [0] [(12, (.bool ((isNaN_i x1))))] rfl ⟨rfl, trivial⟩ ?_
    refine wo_nil ?_
    refine wq_seq ?_
    rcases bif_some h with ⟨hc10, h⟩ | ⟨hc10, h⟩
    · refine wc_known_true rfl hc10 ?_
      refine wc_seq ?_
      refine wc_region (l := [0]) rfl ?_
      refine wo_seg Θ_ok [0] [(4, (.int .i64 0))] rfl ⟨rfl, trivial⟩ ?_
      refine wo_nil ?_
      refine wq_seq ?_
      refine wc_ret ?_
      subst h
      exact wq_then_ret (wq_then_ret (wq_ret rfl ⟨_, rfl, (int_is.2 rfl), hF⟩))
    refine wc_known_false rfl hc10 ?_
    refine wc_skip ?_
    refine wq_seq ?_
    refine wc_seq ?_
    refine wc_region (l := [0]) rfl ?_
    refine wo_seg Θ_ok [0] [(4, (.int .i64 (-1)))] rfl ⟨rfl, trivial⟩ ?_
    refine wo_nil ?_
    refine wq_seq ?_
    refine wc_ret ?_
    subst h
    exact wq_then_ret (wq_ret rfl ⟨_, rfl, (int_is.2 rfl), hF⟩)
  refine wc_known_false rfl hc9 ?_
  refine wc_skip ?_
  refine wq_seq ?_
  refine wc_seq ?_
  refine wc_seq ?_
  refine wc_region (l := [0]) rfl ?_
  refine wo_seg Θ_ok [0] [(0, (.int .i64 x0)), (1, (.int .i64 x1)), (13, (.bool ((isNaN_i x1))))] rfl ⟨rfl, rfl, rfl, trivial⟩ ?_
  refine wo_nil ?_
  refine wq_seq ?_
  rcases bif_some h with ⟨hc11, h⟩ | ⟨hc11, h⟩
  · refine wc_known_true rfl hc11 ?_
    refine wc_seq ?_
    refine wc_region (l := [0]) rfl ?_
    refine wo_seg Θ_ok [0] [(4, (.int .i64 1))] rfl ⟨rfl, trivial⟩ ?_
    refine wo_nil ?_
    refine wq_seq ?_
    refine wc_ret ?_
    subst h
    exact wq_then_ret (wq_ret rfl ⟨_, rfl, (int_is.2 rfl), hF⟩)
  refine wc_known_false rfl hc11 ?_
  refine wc_skip ?_
  refine wq_seq ?_
  refine wc_seq ?_
  refine wc_seq ?_
  refine wc_region (l := [0, 1, 2]) rfl ?_
  refine wo_seg Θ_ok [0, 1, 2] [(0, (.int .i64 x0)), (1, (.int .i64 x1)), (16, (.bool (decide (x0 < x1))))] rfl ⟨rfl, rfl, rfl, trivial⟩ ?_
  refine wo_nil ?_
  refine wq_seq ?_
  rcases bif_some h with ⟨hc12, h⟩ | ⟨hc12, h⟩
  · refine wc_known_true rfl hc12 ?_
    refine wc_seq ?_
    refine wc_region (l := [0]) rfl ?_
    refine wo_seg Θ_ok [0] [(4, (.int .i64 (-1)))] rfl ⟨rfl, trivial⟩ ?_
    refine wo_nil ?_
    refine wq_seq ?_
    refine wc_ret ?_
    subst h
    exact wq_then_ret (wq_ret rfl ⟨_, rfl, (int_is.2 rfl), hF⟩)
  refine wc_known_false rfl hc12 ?_
  refine wc_skip ?_
  refine wq_seq ?_
  refine wc_seq ?_
  refine wc_seq ?_
  refine wc_region (l := [0, 1, 2]) rfl ?_
  refine wo_seg Θ_ok [0, 1, 2] [(19, (.bool (decide (x0 > x1))))] rfl ⟨rfl, trivial⟩ ?_
  refine wo_nil ?_
  refine wq_seq ?_
  rcases bif_some h with ⟨hc13, h⟩ | ⟨hc13, h⟩
  · refine wc_known_true rfl hc13 ?_
    refine wc_seq ?_
    refine wc_region (l := [0]) rfl ?_
    refine wo_seg Θ_ok [0] [(4, (.int .i64 1))] rfl ⟨rfl, trivial⟩ ?_
    refine wo_nil ?_
    refine wq_seq ?_
    refine wc_ret ?_
    subst h
    exact wq_then_ret (wq_ret rfl ⟨_, rfl, (int_is.2 rfl), hF⟩)
  refine wc_known_false rfl hc13 ?_
  refine wc_skip ?_
  refine wq_seq ?_
  refine wc_seq ?_
  refine wc_region (l := [0]) rfl ?_
  refine wo_seg Θ_ok [0] [(4, (.int .i64 0))] rfl ⟨rfl, trivial⟩ ?_
  refine wo_nil ?_
  refine wq_seq ?_
  refine wc_ret ?_
  subst h
  exact wq_ret rfl ⟨_, rfl, (int_is.2 rfl), hF⟩
set_option maxRecDepth 100000 in
set_option maxHeartbeats 4000000 in
theorem r_Is_c {O : List Nat} {w : World} (hO : OB O w) {v0 : Value} {x0 : GDesc} (h0 : tGDesc.is O w v0 x0) : Calls Tryd.prog 20 #[v0] w (Gives (rt1 Ty.bool) O w (r_Is x0)) := by
  obtain rfl := tGDesc_is.1 h0
  have hF := Fr.refl [] w
  have hO0 := hO
  have hS := Sub.refl O
  obtain ⟨r, h⟩ : ∃ r, r_Is x0 = r := ⟨_, rfl⟩
  rw [h]
  refine calls_of (args := [(.agg #[(.int .u64 x0.fPid), (.int .i64 x0.fFd), (.int .u64 x0.fWhat)])]) (N := 16) Tryd.func20 rfl rfl rfl ?_
  unfold r_Is at h
  refine wc_seq ?_
  refine wc_region (l := [0, 1]) rfl ?_
  refine wo_box rfl rfl rfl rfl rfl rfl [(.int .u64 x0.fPid), (.int .i64 x0.fFd), (.int .u64 x0.fWhat)] rfl hO (fun b1 w2 n3 => ?_)
  have hb1 := n3.blk
  have gb1 := n3.ge0 hF
  have ib1 : b1 ∈ b1 :: O := List.mem_cons_self
  have hO := n3.ob
  have hF := hF.trans n3.fr
  have hS := Sub.cons hS b1
  refine wo_seg Θ_ok [1] [(1, (.pointer (some ⟨b1, 0, none⟩)))] rfl ⟨rfl, trivial⟩ ?_
  refine wo_nil ?_
  refine wq_seq ?_
  refine wc_seq ?_
  refine wc_region (l := [0, 1, 2, 3, 4, 5, 6, 7, 8, 9, 10, 11, 12, 13]) rfl ?_
  refine wo_seg Θ_ok [0] [(1, (.pointer (some ⟨b1, 0, none⟩))), (3, (.pointer (some ⟨b1, 0, none⟩)))] rfl ⟨rfl, rfl, trivial⟩ ?_
  refine wo_load Θ_ok rfl rfl rfl rfl rfl rfl rfl hb1 [(.int .u64 x0.fPid)] rfl rfl (.inr rfl) (.int .u64 x0.fPid) rfl ?_
  refine wo_seg Θ_ok [2, 3] [(1, (.pointer (some ⟨b1, 0, none⟩))), (6, (.bool (decide (x0.fPid < (4294967296 : Int)))))] rfl ⟨rfl, rfl, trivial⟩ ?_
  rcases bif_some h with ⟨hc4, h⟩ | ⟨hc4, h⟩
  rotate_left
  · refine wo_know 6 false rfl hc4 ?_
    refine wo_seg Θ_ok [4, 5, 6, 7, 8, 9, 10, 11, 12, 13] [(2, (.bool false))] rfl ⟨rfl, trivial⟩ ?_
    refine wo_nil ?_
    refine wq_seq ?_
    refine wc_ret ?_
    subst h
    exact wq_ret rfl ⟨_, rfl, (bool_is.2 rfl), hF⟩
  refine wo_know 6 true rfl hc4 ?_
  refine wo_seg Θ_ok [4] [(1, (.pointer (some ⟨b1, 0, none⟩))), (6, (.bool true)), (7, (.pointer (some ⟨b1, 1, none⟩)))] rfl ⟨rfl, rfl, rfl, trivial⟩ ?_
  refine wo_load Θ_ok rfl rfl rfl rfl rfl rfl rfl hb1 [(.int .i64 x0.fFd)] rfl rfl (.inr rfl) (.int .i64 x0.fFd) rfl ?_
  refine wo_seg Θ_ok [6, 7, 8] [(1, (.pointer (some ⟨b1, 0, none⟩))), (11, (.bool (decide (x0.fFd ≥ (0 : Int)))))] rfl ⟨rfl, rfl, trivial⟩ ?_
  rcases bif_some h with ⟨hc5, h⟩ | ⟨hc5, h⟩
  rotate_left
  · refine wo_know 11 false rfl hc5 ?_
    refine wo_seg Θ_ok [9, 10, 11, 12, 13] [(2, (.bool false))] rfl ⟨rfl, trivial⟩ ?_
    refine wo_nil ?_
    refine wq_seq ?_
    refine wc_ret ?_
    subst h
    exact wq_ret rfl ⟨_, rfl, (bool_is.2 rfl), hF⟩
  refine wo_know 11 true rfl hc5 ?_
  refine wo_seg Θ_ok [9] [(11, (.bool true)), (12, (.pointer (some ⟨b1, 1, none⟩)))] rfl ⟨rfl, rfl, trivial⟩ ?_
  refine wo_load Θ_ok rfl rfl rfl rfl rfl rfl rfl hb1 [(.int .i64 x0.fFd)] rfl rfl (.inr rfl) (.int .i64 x0.fFd) rfl ?_
  refine wo_seg Θ_ok [11, 12, 13] [(2, (.bool (decide (x0.fFd ≤ (7 : Int)))))] rfl ⟨rfl, trivial⟩ ?_
  refine wo_nil ?_
  refine wq_seq ?_
  refine wc_ret ?_
  subst h
  exact wq_ret rfl ⟨_, rfl, (bool_is.2 rfl), hF⟩
set_option maxRecDepth 100000 in
set_option maxHeartbeats 4000000 in
theorem r_ahead_c {O : List Nat} {w : World} (hO : OB O w) {v0 : Value} {x0 : GDesc} (h0 : tGDesc.is O w v0 x0) {v1 : Value} {x1 : GDesc} (h1 : tGDesc.is O w v1 x1) : Calls Tryd.prog 34 #[v0, v1] w (Gives (rt1 Ty.bool) O w (r_ahead x0 x1)) := by
  obtain rfl := tGDesc_is.1 h0
  obtain rfl := tGDesc_is.1 h1
  have hF := Fr.refl [] w
  have hO0 := hO
  have hS := Sub.refl O
  obtain ⟨r, h⟩ : ∃ r, r_ahead x0 x1 = r := ⟨_, rfl⟩
  rw [h]
  refine calls_of (args := [(.agg #[(.int .u64 x0.fPid), (.int .i64 x0.fFd), (.int .u64 x0.fWhat)]), (.agg #[(.int .u64 x1.fPid), (.int .i64 x1.fFd), (.int .u64 x1.fWhat)])]) (N := 24) Tryd.func34 rfl rfl rfl ?_
  unfold r_ahead at h
  refine wc_seq ?_
  refine wc_region (l := [0, 1, 2]) rfl ?_
  refine wo_box rfl rfl rfl rfl rfl rfl [(.int .u64 x0.fPid), (.int .i64 x0.fFd), (.int .u64 x0.fWhat)] rfl hO (fun b1 w2 n3 => ?_)
  have hb1 := n3.blk
  have gb1 := n3.ge0 hF
  have ib1 : b1 ∈ b1 :: O := List.mem_cons_self
  have hO := n3.ob
  have hF := hF.trans n3.fr
  have hS := Sub.cons hS b1
  refine wo_box rfl rfl rfl rfl rfl rfl [(.int .u64 x1.fPid), (.int .i64 x1.fFd), (.int .u64 x1.fWhat)] rfl hO (fun b4 w5 n6 => ?_)
  have nb4b1 : b4 ≠ b1 := by have := hb1.lt; have := n6.ge; omega
  have hb1 := hb1.fr0 n6.fr
  have ib1 := List.mem_cons_of_mem b4 ib1
  have hb4 := n6.blk
  have gb4 := n6.ge0 hF
  have ib4 : b4 ∈ b4 :: (b1 :: O) := List.mem_cons_self
  have hO := n6.ob
  have hF := hF.trans n6.fr
  have hS := Sub.cons hS b4
  refine wo_seg Θ_ok [2] [(2, (.pointer (some ⟨b1, 0, none⟩))), (3, (.pointer (some ⟨b4, 0, none⟩)))] rfl ⟨rfl, rfl, trivial⟩ ?_
  refine wo_nil ?_
  refine wq_seq ?_
  refine wc_seq ?_
  refine wc_region (l := [0, 1, 2, 3, 4, 5, 6, 7, 8, 9, 10, 11, 12, 13, 14, 15, 16, 17, 18, 19]) rfl ?_
  refine wo_seg Θ_ok [0] [(2, (.pointer (some ⟨b1, 0, none⟩))), (3, (.pointer (some ⟨b4, 0, none⟩))), (5, (.pointer (some ⟨b1, 0, none⟩)))] rfl ⟨rfl, rfl, rfl, trivial⟩ ?_
  refine wo_load Θ_ok rfl rfl rfl rfl rfl rfl rfl hb1 [(.int .u64 x0.fPid)] rfl rfl (.inr rfl) (.int .u64 x0.fPid) rfl ?_
  refine wo_seg Θ_ok [2] [(2, (.pointer (some ⟨b1, 0, none⟩))), (3, (.pointer (some ⟨b4, 0, none⟩))), (6, (.int .u64 x0.fPid)), (7, (.pointer (some ⟨b4, 0, none⟩)))] rfl ⟨rfl, rfl, rfl, rfl, trivial⟩ ?_
  refine wo_load Θ_ok rfl rfl rfl rfl rfl rfl rfl hb4 [(.int .u64 x1.fPid)] rfl rfl (.inr rfl) (.int .u64 x1.fPid) rfl ?_
  refine wo_seg Θ_ok [4, 5] [(2, (.pointer (some ⟨b1, 0, none⟩))), (3, (.pointer (some ⟨b4, 0, none⟩))), (10, (.bool (decide (x0.fPid < x1.fPid))))] rfl ⟨rfl, rfl, rfl, trivial⟩ ?_
  rcases bif_some h with ⟨hc7, h⟩ | ⟨hc7, h⟩
  · refine wo_know 10 true rfl hc7 ?_
    refine wo_seg Θ_ok [6, 7, 8, 9, 10, 11, 12, 13, 14, 15, 16, 17, 18, 19] [(4, (.bool true))] rfl ⟨rfl, trivial⟩ ?_
    refine wo_nil ?_
    refine wq_seq ?_
    refine wc_ret ?_
    subst h
    exact wq_ret rfl ⟨_, rfl, (bool_is.2 rfl), hF⟩
  refine wo_know 10 false rfl hc7 ?_
  refine wo_seg Θ_ok [6] [(2, (.pointer (some ⟨b1, 0, none⟩))), (3, (.pointer (some ⟨b4, 0, none⟩))), (10, (.bool false)), (11, (.pointer (some ⟨b1, 0, none⟩)))] rfl ⟨rfl, rfl, rfl, rfl, trivial⟩ ?_
  refine wo_load Θ_ok rfl rfl rfl rfl rfl rfl rfl hb1 [(.int .u64 x0.fPid)] rfl rfl (.inr rfl) (.int .u64 x0.fPid) rfl ?_
  refine wo_seg Θ_ok [8] [(2, (.pointer (some ⟨b1, 0, none⟩))), (3, (.pointer (some ⟨b4, 0, none⟩))), (10, (.bool false)), (12, (.int .u64 x0.fPid)), (13, (.pointer (some ⟨b4, 0, none⟩)))] rfl ⟨rfl, rfl, rfl, rfl, rfl, trivial⟩ ?_
  refine wo_load Θ_ok rfl rfl rfl rfl rfl rfl rfl hb4 [(.int .u64 x1.fPid)] rfl rfl (.inr rfl) (.int .u64 x1.fPid) rfl ?_
  refine wo_seg Θ_ok [10, 11] [(2, (.pointer (some ⟨b1, 0, none⟩))), (3, (.pointer (some ⟨b4, 0, none⟩))), (10, (.bool false)), (16, (.bool (x0.fPid == x1.fPid)))] rfl ⟨rfl, rfl, rfl, rfl, trivial⟩ ?_
  rcases bif_some h with ⟨hc8, h⟩ | ⟨hc8, h⟩
  rotate_left
  · refine wo_know 16 false rfl hc8 ?_
    refine wo_seg Θ_ok [12, 13, 14, 15, 16, 17, 18, 19] [(4, (.bool false))] rfl ⟨rfl, trivial⟩ ?_
    refine wo_nil ?_
    refine wq_seq ?_
    refine wc_ret ?_
    subst h
    exact wq_ret rfl ⟨_, rfl, (bool_is.2 rfl), hF⟩
  refine wo_know 16 true rfl hc8 ?_
  refine wo_seg Θ_ok [12] [(3, (.pointer (some ⟨b4, 0, none⟩))), (10, (.bool false)), (16, (.bool true)), (17, (.pointer (some ⟨b1, 1, none⟩)))] rfl ⟨rfl, rfl, rfl, rfl, trivial⟩ ?_
  refine wo_load Θ_ok rfl rfl rfl rfl rfl rfl rfl hb1 [(.int .i64 x0.fFd)] rfl rfl (.inr rfl) (.int .i64 x0.fFd) rfl ?_
  refine wo_seg Θ_ok [14] [(10, (.bool false)), (16, (.bool true)), (18, (.int .i64 x0.fFd)), (19, (.pointer (some ⟨b4, 1, none⟩)))] rfl ⟨rfl, rfl, rfl, rfl, trivial⟩ ?_
  refine wo_load Θ_ok rfl rfl rfl rfl rfl rfl rfl hb4 [(.int .i64 x1.fFd)] rfl rfl (.inr rfl) (.int .i64 x1.fFd) rfl ?_
  refine wo_seg Θ_ok [16, 17, 18, 19] [(4, (.bool (decide (x0.fFd < x1.fFd))))] rfl ⟨rfl, trivial⟩ ?_
  refine wo_nil ?_
  refine wq_seq ?_
  refine wc_ret ?_
  subst h
  exact wq_ret rfl ⟨_, rfl, (bool_is.2 rfl), hF⟩
set_option maxRecDepth 100000 in
set_option maxHeartbeats 4000000 in
theorem r_Key_c {O : List Nat} {w : World} (hO : OB O w) {v0 : Value} {x0 : GDesc} (h0 : tGDesc.is O w v0 x0) : Calls Tryd.prog 21 #[v0] w (Gives (rt1 (Ty.int .u64)) O w (r_Key x0)) := by
  obtain rfl := tGDesc_is.1 h0
  have hF := Fr.refl [] w
  have hO0 := hO
  have hS := Sub.refl O
  obtain ⟨r, h⟩ : ∃ r, r_Key x0 = r := ⟨_, rfl⟩
  rw [h]
  refine calls_of (args := [(.agg #[(.int .u64 x0.fPid), (.int .i64 x0.fFd), (.int .u64 x0.fWhat)])]) (N := 10) Tryd.func21 rfl rfl rfl ?_
  unfold r_Key at h
  refine wc_seq ?_
  refine wc_region (l := [0, 1]) rfl ?_
  refine wo_box rfl rfl rfl rfl rfl rfl [(.int .u64 x0.fPid), (.int .i64 x0.fFd), (.int .u64 x0.fWhat)] rfl hO (fun b1 w2 n3 => ?_)
  have hb1 := n3.blk
  have gb1 := n3.ge0 hF
  have ib1 : b1 ∈ b1 :: O := List.mem_cons_self
  have hO := n3.ob
  have hF := hF.trans n3.fr
  have hS := Sub.cons hS b1
  refine wo_seg Θ_ok [1] [(1, (.pointer (some ⟨b1, 0, none⟩)))] rfl ⟨rfl, trivial⟩ ?_
  refine wo_nil ?_
  refine wq_seq ?_
  refine wc_seq ?_
  refine wc_region (l := [0, 1, 2, 3, 4, 5, 6, 7]) rfl ?_
  refine wo_seg Θ_ok [0] [(1, (.pointer (some ⟨b1, 0, none⟩))), (3, (.pointer (some ⟨b1, 0, none⟩)))] rfl ⟨rfl, rfl, trivial⟩ ?_
  refine wo_load Θ_ok rfl rfl rfl rfl rfl rfl rfl hb1 [(.int .u64 x0.fPid)] rfl rfl (.inr rfl) (.int .u64 x0.fPid) rfl ?_
  refine wo_seg Θ_ok [2, 3] [(5, (.int .u64 (IntKind.u64.wrap ((8 : Int) * x0.fPid)))), (6, (.pointer (some ⟨b1, 1, none⟩)))] rfl ⟨rfl, rfl, trivial⟩ ?_
  refine wo_load Θ_ok rfl rfl rfl rfl rfl rfl rfl hb1 [(.int .i64 x0.fFd)] rfl rfl (.inr rfl) (.int .i64 x0.fFd) rfl ?_
  refine wo_seg Θ_ok [5, 6, 7] [(2, (.int .u64 (IntKind.u64.wrap ((IntKind.u64.wrap ((8 : Int) * x0.fPid)) + (IntKind.u64.wrap x0.fFd)))))] rfl ⟨rfl, trivial⟩ ?_
  refine wo_nil ?_
  refine wq_seq ?_
  refine wc_ret ?_
  subst h
  exact wq_ret rfl ⟨_, rfl, (int_is.2 rfl), hF⟩
set_option maxRecDepth 100000 in
set_option maxHeartbeats 4000000 in
theorem ones_c {O : List Nat} {w : World} (hO : OB O w) {v0 : Value} {x0 : Int} (h0 : (Ty.int .i64).is O w v0 x0) {r : Int} (h : ones x0 = some r) : Calls Tryd.prog 52 #[v0] w (Gives (rt1 (Ty.int .u64)) O w r) := by
  obtain rfl := int_is.1 h0
  have hF := Fr.refl [] w
  have hO0 := hO
  have hS := Sub.refl O
  refine calls_of (args := [(.int .i64 x0)]) (N := 8) Tryd.func52 rfl rfl rfl ?_
  unfold ones at h
  refine wc_seq ?_
  refine wc_region (l := [0]) rfl ?_
  refine wo_seg Θ_ok [0] [(0, (.int .i64 x0))] rfl ⟨rfl, trivial⟩ ?_
  refine wo_nil ?_
  refine wq_seq ?_
  refine wc_seq ?_
  refine wc_seq ?_
  refine wc_region (l := [0, 1]) rfl ?_
  refine wo_seg Θ_ok [0, 1] [(0, (.int .i64 x0)), (4, (.bool (decide (x0 ≥ (64 : Int)))))] rfl ⟨rfl, rfl, trivial⟩ ?_
  refine wo_nil ?_
  refine wq_seq ?_
  rcases bif_some h with ⟨hc1, h⟩ | ⟨hc1, h⟩
  · refine wc_known_true rfl hc1 ?_
    refine wc_seq ?_
    refine wc_region (l := [0]) rfl ?_
    refine wo_seg Θ_ok [0] [(2, (.int .u64 18446744073709551615))] rfl ⟨rfl, trivial⟩ ?_
    refine wo_nil ?_
    refine wq_seq ?_
    refine wc_ret ?_
    cases h
    exact wq_then_ret (wq_ret rfl ⟨_, rfl, (int_is.2 rfl), hF⟩)
  refine wc_known_false rfl hc1 ?_
  refine wc_skip ?_
  refine wq_seq ?_
  refine wc_seq ?_
  refine wc_region (l := [0, 1, 2, 3]) rfl ?_
  refine wo_seg Θ_ok [0] [(5, (.int .i64 x0))] rfl ⟨rfl, trivial⟩ ?_
  obtain ⟨y2, hz3, h⟩ := bind_some h
  refine wo_bin rfl rfl rfl rfl rfl rfl rfl (run_shl hz3) ?_
  refine wo_seg Θ_ok [2, 3] [(2, (.int .u64 (IntKind.u64.wrap (y2 - (1 : Int)))))] rfl ⟨rfl, trivial⟩ ?_
  refine wo_nil ?_
  refine wq_seq ?_
  refine wc_ret ?_
  cases h
  exact wq_ret rfl ⟨_, rfl, (int_is.2 rfl), hF⟩
set_option maxRecDepth 100000 in
set_option maxHeartbeats 4000000 in
theorem mask_c {O : List Nat} {w : World} (hO : OB O w) {v0 : Value} {x0 : GBitsField} (h0 : tGBitsField.is O w v0 x0) {r : Int} (h : mask x0 = some r) : Calls Tryd.prog 51 #[v0] w (Gives (rt1 (Ty.int .u64)) O w r) := by
  obtain rfl := tGBitsField_is.1 h0
  have hF := Fr.refl [] w
  have hO0 := hO
  have hS := Sub.refl O
  refine calls_of (args := [(.agg #[(.int .i64 x0.fField.fAt), (.int .i64 x0.fField.fWide)])]) (N := 11) Tryd.func51 rfl rfl rfl ?_
  unfold mask at h
  refine wc_seq ?_
  refine wc_region (l := [0, 1]) rfl ?_
  refine wo_box rfl rfl rfl rfl rfl rfl [(.int .i64 x0.fField.fAt), (.int .i64 x0.fField.fWide)] rfl hO (fun b1 w2 n3 => ?_)
  have hb1 := n3.blk
  have gb1 := n3.ge0 hF
  have ib1 : b1 ∈ b1 :: O := List.mem_cons_self
  have hO := n3.ob
  have hF := hF.trans n3.fr
  have hS := Sub.cons hS b1
  refine wo_seg Θ_ok [1] [(1, (.pointer (some ⟨b1, 0, none⟩)))] rfl ⟨rfl, trivial⟩ ?_
  refine wo_nil ?_
  refine wq_seq ?_
  refine wc_seq ?_
  obtain ⟨y4, hy5, h⟩ := bind_some h
  obtain ⟨y6, hz7, h⟩ := bind_some h
  refine wc_draw mixed [⟨3, [], [1]⟩, ⟨4, [0], []⟩, ⟨5, [1], []⟩, ⟨6, [2], []⟩, ⟨7, [], [1]⟩, ⟨8, [4], []⟩, ⟨9, [5], []⟩, ⟨10, [3, 6], []⟩, ⟨2, [7], []⟩] [SP.eq (.pointer (some ⟨b1, 0, none⟩)), SP.eq (.pointer (some ⟨b1, 1, none⟩)), SP.eq (.int .i64 x0.fField.fWide), SP.eq (.int .u64 y4), SP.eq (.pointer (some ⟨b1, 0, none⟩)), SP.eq (.pointer (some ⟨b1, 0, none⟩)), SP.eq (.int .i64 x0.fField.fAt), SP.eq (.int .u64 y6), SP.eq (.int .u64 y6)] rfl rfl rfl ⟨?_, ?_, ?_, ?_, ?_, ?_, ?_, ?_, ?_, trivial⟩ ?_
  · intro a w2 hfr hN hds hb hd
    exact op_plain Θ_ok ⟨hN, hds, rows_get (E := [(1, (.pointer (some ⟨b1, 0, none⟩)))]) ⟨hb 1 rfl _ rfl, trivial⟩⟩ rfl rfl rfl rfl rfl
  · intro a w2 hfr hN hds hb hd
    exact op_plain Θ_ok ⟨hN, hds, rows_get (E := [(3, (.pointer (some ⟨b1, 0, none⟩)))]) ⟨(hd 0 rfl _ _ rfl rfl), trivial⟩⟩ rfl rfl rfl rfl rfl
  · intro a w2 hfr hN hds hb hd
    have hb1 := hb1.fr0 hfr
    exact op_load Θ_ok ⟨hN, hds, rows_get (E := [(4, (.pointer (some ⟨b1, 1, none⟩)))]) ⟨(hd 1 rfl _ _ rfl rfl), trivial⟩⟩ rfl rfl rfl rfl rfl rfl hb1 [(.int .i64 x0.fField.fWide)] rfl rfl (.inr rfl) (.int .i64 x0.fField.fWide) rfl
  · intro a w2 hfr hN hds hb hd
    exact (op_call ⟨hN, hds, rows_get (E := [(5, (.int .i64 x0.fField.fWide))]) ⟨(hd 2 rfl _ _ rfl rfl), trivial⟩⟩ rfl rfl rfl rfl ent52 rfl (ones_c (hfr.ob hO) (int_is.2 rfl) hy5)).weaken (fun u w3 ⟨hu, hf⟩ => ⟨int_is.1 hu, hf⟩)
  · intro a w2 hfr hN hds hb hd
    exact op_plain Θ_ok ⟨hN, hds, rows_get (E := [(1, (.pointer (some ⟨b1, 0, none⟩)))]) ⟨hb 1 rfl _ rfl, trivial⟩⟩ rfl rfl rfl rfl rfl
  · intro a w2 hfr hN hds hb hd
    exact op_plain Θ_ok ⟨hN, hds, rows_get (E := [(7, (.pointer (some ⟨b1, 0, none⟩)))]) ⟨(hd 4 rfl _ _ rfl rfl), trivial⟩⟩ rfl rfl rfl rfl rfl
  · intro a w2 hfr hN hds hb hd
    have hb1 := hb1.fr0 hfr
    exact op_load Θ_ok ⟨hN, hds, rows_get (E := [(8, (.pointer (some ⟨b1, 0, none⟩)))]) ⟨(hd 5 rfl _ _ rfl rfl), trivial⟩⟩ rfl rfl rfl rfl rfl rfl hb1 [(.int .i64 x0.fField.fAt)] rfl rfl (.inr rfl) (.int .i64 x0.fField.fAt) rfl
  · intro a w2 hfr hN hds hb hd
    exact op_bin ⟨hN, hds, rows_get (E := [(6, (.int .u64 y4)), (9, (.int .i64 x0.fField.fAt))]) ⟨(hd 3 rfl _ _ rfl rfl), (hd 6 rfl _ _ rfl rfl), trivial⟩⟩ rfl rfl rfl rfl rfl rfl (run_shl hz7)
  · intro a w2 hfr hN hds hb hd
    exact op_plain Θ_ok ⟨hN, hds, rows_get (E := [(10, (.int .u64 y6))]) ⟨(hd 7 rfl _ _ rfl rfl), trivial⟩⟩ rfl rfl rfl rfl rfl
  intro a w9 f8 hN hds hb hr
  have hO := f8.ob hO
  have hF := hF.trans f8
  refine wq_go (E := [(2, (.int .u64 y6))]) hN hds ⟨(hr 8 _ _ rfl rfl), trivial⟩ ?_
  refine wq_seq ?_
  refine wc_ret ?_
  cases h
  exact wq_ret rfl ⟨_, rfl, (int_is.2 rfl), hF⟩
set_option maxRecDepth 100000 in
set_option maxHeartbeats 4000000 in
theorem f_is_c {O : List Nat} {w : World} (hO : OB O w) {v0 : Value} {x0 : GField} (h0 : tGField.is O w v0 x0) : Calls Tryd.prog 50 #[v0] w (Gives (rt1 Ty.bool) O w (f_is x0)) := by
  obtain rfl := tGField_is.1 h0
  have hF := Fr.refl [] w
  have hO0 := hO
  have hS := Sub.refl O
  obtain ⟨r, h⟩ : ∃ r, f_is x0 = r := ⟨_, rfl⟩
  rw [h]
  refine calls_of (args := [(.agg #[(.int .i64 x0.fAt), (.int .i64 x0.fWide)])]) (N := 29) Tryd.func50 rfl rfl rfl ?_
  unfold f_is at h
  refine wc_seq ?_
  refine wc_region (l := [0, 1]) rfl ?_
  refine wo_box rfl rfl rfl rfl rfl rfl [(.int .i64 x0.fAt), (.int .i64 x0.fWide)] rfl hO (fun b1 w2 n3 => ?_)
  have hb1 := n3.blk
  have gb1 := n3.ge0 hF
  have ib1 : b1 ∈ b1 :: O := List.mem_cons_self
  have hO := n3.ob
  have hF := hF.trans n3.fr
  have hS := Sub.cons hS b1
  refine wo_seg Θ_ok [1] [(1, (.pointer (some ⟨b1, 0, none⟩)))] rfl ⟨rfl, trivial⟩ ?_
  refine wo_nil ?_
  refine wq_seq ?_
  refine wc_seq ?_
  refine wc_region (l := [0, 1, 2, 3, 4, 5, 6, 7, 8, 9, 10, 11, 12, 13, 14, 15, 16, 17, 18, 19, 20, 21, 22, 23, 24, 25, 26]) rfl ?_
  refine wo_seg Θ_ok [0] [(1, (.pointer (some ⟨b1, 0, none⟩))), (3, (.pointer (some ⟨b1, 0, none⟩)))] rfl ⟨rfl, rfl, trivial⟩ ?_
  refine wo_load Θ_ok rfl rfl rfl rfl rfl rfl rfl hb1 [(.int .i64 x0.fAt)] rfl rfl (.inr rfl) (.int .i64 x0.fAt) rfl ?_
  refine wo_seg Θ_ok [2, 3] [(1, (.pointer (some ⟨b1, 0, none⟩))), (6, (.bool (decide (x0.fAt ≥ (0 : Int)))))] rfl ⟨rfl, rfl, trivial⟩ ?_
  rcases bif_some h with ⟨hc4, h⟩ | ⟨hc4, h⟩
  rotate_left
  · refine wo_know 6 false rfl hc4 ?_
    refine wo_seg Θ_ok [4, 5, 6, 7, 8, 9, 10, 11, 12, 13, 14, 15, 16, 17, 18, 19, 20, 21, 22, 23, 24, 25, 26] [(2, (.bool false))] rfl ⟨rfl, trivial⟩ ?_
    refine wo_nil ?_
    refine wq_seq ?_
    refine wc_ret ?_
    subst h
    exact wq_ret rfl ⟨_, rfl, (bool_is.2 rfl), hF⟩
  refine wo_know 6 true rfl hc4 ?_
  refine wo_seg Θ_ok [4] [(1, (.pointer (some ⟨b1, 0, none⟩))), (6, (.bool true)), (7, (.pointer (some ⟨b1, 1, none⟩)))] rfl ⟨rfl, rfl, rfl, trivial⟩ ?_
  refine wo_load Θ_ok rfl rfl rfl rfl rfl rfl rfl hb1 [(.int .i64 x0.fWide)] rfl rfl (.inr rfl) (.int .i64 x0.fWide) rfl ?_
  refine wo_seg Θ_ok [6, 7, 8] [(1, (.pointer (some ⟨b1, 0, none⟩))), (11, (.bool (decide (x0.fWide ≥ (1 : Int)))))] rfl ⟨rfl, rfl, trivial⟩ ?_
  rcases bif_some h with ⟨hc5, h⟩ | ⟨hc5, h⟩
  rotate_left
  · refine wo_know 11 false rfl hc5 ?_
    refine wo_seg Θ_ok [9, 10, 11, 12, 13, 14, 15, 16, 17, 18, 19, 20, 21, 22, 23, 24, 25, 26] [(2, (.bool false))] rfl ⟨rfl, trivial⟩ ?_
    refine wo_nil ?_
    refine wq_seq ?_
    refine wc_ret ?_
    subst h
    exact wq_ret rfl ⟨_, rfl, (bool_is.2 rfl), hF⟩
  refine wo_know 11 true rfl hc5 ?_
  refine wo_seg Θ_ok [9] [(1, (.pointer (some ⟨b1, 0, none⟩))), (11, (.bool true)), (12, (.pointer (some ⟨b1, 0, none⟩)))] rfl ⟨rfl, rfl, rfl, trivial⟩ ?_
  refine wo_load Θ_ok rfl rfl rfl rfl rfl rfl rfl hb1 [(.int .i64 x0.fAt)] rfl rfl (.inr rfl) (.int .i64 x0.fAt) rfl ?_
  refine wo_seg Θ_ok [11, 12, 13] [(1, (.pointer (some ⟨b1, 0, none⟩))), (16, (.bool (decide (x0.fAt ≤ (64 : Int)))))] rfl ⟨rfl, rfl, trivial⟩ ?_
  rcases bif_some h with ⟨hc6, h⟩ | ⟨hc6, h⟩
  rotate_left
  · refine wo_know 16 false rfl hc6 ?_
    refine wo_seg Θ_ok [14, 15, 16, 17, 18, 19, 20, 21, 22, 23, 24, 25, 26] [(2, (.bool false))] rfl ⟨rfl, trivial⟩ ?_
    refine wo_nil ?_
    refine wq_seq ?_
    refine wc_ret ?_
    subst h
    exact wq_ret rfl ⟨_, rfl, (bool_is.2 rfl), hF⟩
  refine wo_know 16 true rfl hc6 ?_
  refine wo_seg Θ_ok [14] [(1, (.pointer (some ⟨b1, 0, none⟩))), (16, (.bool true)), (17, (.pointer (some ⟨b1, 1, none⟩)))] rfl ⟨rfl, rfl, rfl, trivial⟩ ?_
  refine wo_load Θ_ok rfl rfl rfl rfl rfl rfl rfl hb1 [(.int .i64 x0.fWide)] rfl rfl (.inr rfl) (.int .i64 x0.fWide) rfl ?_
  refine wo_seg Θ_ok [16, 17, 18] [(1, (.pointer (some ⟨b1, 0, none⟩))), (21, (.bool (decide (x0.fWide ≤ (64 : Int)))))] rfl ⟨rfl, rfl, trivial⟩ ?_
  rcases bif_some h with ⟨hc7, h⟩ | ⟨hc7, h⟩
  rotate_left
  · refine wo_know 21 false rfl hc7 ?_
    refine wo_seg Θ_ok [19, 20, 21, 22, 23, 24, 25, 26] [(2, (.bool false))] rfl ⟨rfl, trivial⟩ ?_
    refine wo_nil ?_
    refine wq_seq ?_
    refine wc_ret ?_
    subst h
    exact wq_ret rfl ⟨_, rfl, (bool_is.2 rfl), hF⟩
  refine wo_know 21 true rfl hc7 ?_
  refine wo_seg Θ_ok [19] [(1, (.pointer (some ⟨b1, 0, none⟩))), (21, (.bool true)), (22, (.pointer (some ⟨b1, 0, none⟩)))] rfl ⟨rfl, rfl, rfl, trivial⟩ ?_
  refine wo_load Θ_ok rfl rfl rfl rfl rfl rfl rfl hb1 [(.int .i64 x0.fAt)] rfl rfl (.inr rfl) (.int .i64 x0.fAt) rfl ?_
  refine wo_seg Θ_ok [21] [(21, (.bool true)), (23, (.int .i64 x0.fAt)), (24, (.pointer (some ⟨b1, 1, none⟩)))] rfl ⟨rfl, rfl, rfl, trivial⟩ ?_
  refine wo_load Θ_ok rfl rfl rfl rfl rfl rfl rfl hb1 [(.int .i64 x0.fWide)] rfl rfl (.inr rfl) (.int .i64 x0.fWide) rfl ?_
  refine wo_seg Θ_ok [23, 24, 25, 26] [(2, (.bool (decide ((IntKind.i64.wrap (x0.fAt + x0.fWide)) ≤ (64 : Int)))))] rfl ⟨rfl, trivial⟩ ?_
  refine wo_nil ?_
  refine wq_seq ?_
  refine wc_ret ?_
  subst h
  exact wq_ret rfl ⟨_, rfl, (bool_is.2 rfl), hF⟩
set_option maxRecDepth 100000 in
set_option maxHeartbeats 4000000 in
theorem f_get_c {O : List Nat} {w : World} (hO : OB O w) {v0 : Value} {x0 : GBitsField} (h0 : tGBitsField.is O w v0 x0) {v1 : Value} {x1 : Int} (h1 : (Ty.int .u64).is O w v1 x1) {r : Int} (h : f_get x0 x1 = some r) : Calls Tryd.prog 46 #[v0, v1] w (Gives (rt1 (Ty.int .u64)) O w r) := by
  obtain rfl := tGBitsField_is.1 h0
  obtain rfl := int_is.1 h1
  have hF := Fr.refl [] w
  have hO0 := hO
  have hS := Sub.refl O
  refine calls_of (args := [(.agg #[(.int .i64 x0.fField.fAt), (.int .i64 x0.fField.fWide)]), (.int .u64 x1)]) (N := 13) Tryd.func46 rfl rfl rfl ?_
  unfold f_get at h
  refine wc_seq ?_
  refine wc_region (l := [0, 1]) rfl ?_
  refine wo_box rfl rfl rfl rfl rfl rfl [(.int .i64 x0.fField.fAt), (.int .i64 x0.fField.fWide)] rfl hO (fun b1 w2 n3 => ?_)
  have hb1 := n3.blk
  have gb1 := n3.ge0 hF
  have ib1 : b1 ∈ b1 :: O := List.mem_cons_self
  have hO := n3.ob
  have hF := hF.trans n3.fr
  have hS := Sub.cons hS b1
  refine wo_seg Θ_ok [1] [(1, (.int .u64 x1)), (2, (.pointer (some ⟨b1, 0, none⟩)))] rfl ⟨rfl, rfl, trivial⟩ ?_
  refine wo_nil ?_
  refine wq_seq ?_
  refine wc_seq ?_
  obtain ⟨y4, hy5, h⟩ := bind_some h
  obtain ⟨y6, hz7, h⟩ := bind_some h
  refine wc_draw mixed [⟨5, [], [1]⟩, ⟨6, [], [2]⟩, ⟨7, [1], []⟩, ⟨8, [0, 2], []⟩, ⟨9, [], [2]⟩, ⟨10, [4], []⟩, ⟨11, [5], []⟩, ⟨12, [3, 6], []⟩, ⟨4, [7], []⟩] [SP.eq (.int .u64 x1), SP.eq (.agg #[(.int .i64 x0.fField.fAt), (.int .i64 x0.fField.fWide)]), SP.eq (.int .u64 y4), SP.eq (.int .u64 (bits .and .u64 x1 y4)), SP.eq (.pointer (some ⟨b1, 0, none⟩)), SP.eq (.pointer (some ⟨b1, 0, none⟩)), SP.eq (.int .i64 x0.fField.fAt), SP.eq (.int .u64 y6), SP.eq (.int .u64 y6)] rfl rfl rfl ⟨?_, ?_, ?_, ?_, ?_, ?_, ?_, ?_, ?_, trivial⟩ ?_
  · intro a w2 hfr hN hds hb hd
    exact op_plain Θ_ok ⟨hN, hds, rows_get (E := [(1, (.int .u64 x1))]) ⟨hb 1 rfl _ rfl, trivial⟩⟩ rfl rfl rfl rfl rfl
  · intro a w2 hfr hN hds hb hd
    have hb1 := hb1.fr0 hfr
    exact op_load Θ_ok ⟨hN, hds, rows_get (E := [(2, (.pointer (some ⟨b1, 0, none⟩)))]) ⟨hb 2 rfl _ rfl, trivial⟩⟩ rfl rfl rfl rfl rfl rfl hb1 [(.int .i64 x0.fField.fAt), (.int .i64 x0.fField.fWide)] rfl rfl (.inl rfl) (.agg #[(.int .i64 x0.fField.fAt), (.int .i64 x0.fField.fWide)]) rfl
  · intro a w2 hfr hN hds hb hd
    exact (op_call ⟨hN, hds, rows_get (E := [(6, (.agg #[(.int .i64 x0.fField.fAt), (.int .i64 x0.fField.fWide)]))]) ⟨(hd 1 rfl _ _ rfl rfl), trivial⟩⟩ rfl rfl rfl rfl ent51 rfl (mask_c (hfr.ob hO) ((tGBitsField_is (x := x0)).2 rfl) hy5)).weaken (fun u w3 ⟨hu, hf⟩ => ⟨int_is.1 hu, hf⟩)
  · intro a w2 hfr hN hds hb hd
    exact op_plain Θ_ok ⟨hN, hds, rows_get (E := [(5, (.int .u64 x1)), (7, (.int .u64 y4))]) ⟨(hd 0 rfl _ _ rfl rfl), (hd 2 rfl _ _ rfl rfl), trivial⟩⟩ rfl rfl rfl rfl rfl
  · intro a w2 hfr hN hds hb hd
    exact op_plain Θ_ok ⟨hN, hds, rows_get (E := [(2, (.pointer (some ⟨b1, 0, none⟩)))]) ⟨hb 2 rfl _ rfl, trivial⟩⟩ rfl rfl rfl rfl rfl
  · intro a w2 hfr hN hds hb hd
    exact op_plain Θ_ok ⟨hN, hds, rows_get (E := [(9, (.pointer (some ⟨b1, 0, none⟩)))]) ⟨(hd 4 rfl _ _ rfl rfl), trivial⟩⟩ rfl rfl rfl rfl rfl
  · intro a w2 hfr hN hds hb hd
    have hb1 := hb1.fr0 hfr
    exact op_load Θ_ok ⟨hN, hds, rows_get (E := [(10, (.pointer (some ⟨b1, 0, none⟩)))]) ⟨(hd 5 rfl _ _ rfl rfl), trivial⟩⟩ rfl rfl rfl rfl rfl rfl hb1 [(.int .i64 x0.fField.fAt)] rfl rfl (.inr rfl) (.int .i64 x0.fField.fAt) rfl
  · intro a w2 hfr hN hds hb hd
    exact op_bin ⟨hN, hds, rows_get (E := [(8, (.int .u64 (bits .and .u64 x1 y4))), (11, (.int .i64 x0.fField.fAt))]) ⟨(hd 3 rfl _ _ rfl rfl), (hd 6 rfl _ _ rfl rfl), trivial⟩⟩ rfl rfl rfl rfl rfl rfl (run_shr hz7)
  · intro a w2 hfr hN hds hb hd
    exact op_plain Θ_ok ⟨hN, hds, rows_get (E := [(12, (.int .u64 y6))]) ⟨(hd 7 rfl _ _ rfl rfl), trivial⟩⟩ rfl rfl rfl rfl rfl
  intro a w9 f8 hN hds hb hr
  have hO := f8.ob hO
  have hF := hF.trans f8
  refine wq_go (E := [(4, (.int .u64 y6))]) hN hds ⟨(hr 8 _ _ rfl rfl), trivial⟩ ?_
  refine wq_seq ?_
  refine wc_ret ?_
  cases h
  exact wq_ret rfl ⟨_, rfl, (int_is.2 rfl), hF⟩
set_option maxRecDepth 100000 in
set_option maxHeartbeats 4000000 in
theorem cmp_or_c {O : List Nat} {w : World} (hO : OB O w) {v0 : Value} {x0 : List Int} (h0 : (Ty.slice (Ty.int .i64)).is O w v0 x0) : Calls Tryd.prog 38 #[v0] w (Gives (rt1 (Ty.int .i64)) O w (cmp_or x0)) := by
  have hF := Fr.refl [] w
  have hO0 := hO
  have hS := Sub.refl O
  obtain ⟨r, h⟩ : ∃ r, cmp_or x0 = r := ⟨_, rfl⟩
  rw [h]
  refine calls_of (args := [v0]) (N := 18) Tryd.func38 rfl rfl rfl ?_
  unfold cmp_or at h
  refine wc_seq ?_
  refine wc_region (l := [0]) rfl ?_
  refine wo_seg Θ_ok [0] [(0, v0)] rfl ⟨rfl, trivial⟩ ?_
  refine wo_nil ?_
  refine wq_seq ?_
  refine wc_seq ?_
  refine wc_region (l := [0]) rfl ?_
  refine wo_seg Θ_ok [0] [(0, v0), (3, (.int .i64 0))] rfl ⟨rfl, rfl, trivial⟩ ?_
  refine wo_nil ?_
  refine wq_seq ?_
  obtain ⟨k2, hk3, h⟩ := letk_some h
  refine wc_join (fun E W => ∃ (O6 : List Nat), E = [(3, (.int .i64 0))] ∧ Tr O w O6 W ∧ OB O6 W ∧ Sub O O6 ∧ Fr [] w W ∧ k2 = r) ?_ (fun K4 hK5 => ?_)
  · rintro E w7 ⟨O6, rfl, T1, hO, hS, hF, h⟩
    subst hk3
    (try dsimp only at h)
    refine wc_seq ?_
    refine wc_region (l := [0, 1]) rfl ?_
    refine wo_seg Θ_ok [0, 1] [(2, (.int .i64 0))] rfl ⟨rfl, trivial⟩ ?_
    refine wo_nil ?_
    refine wq_seq ?_
    refine wc_ret ?_
    subst h
    exact wq_ret rfl ⟨_, rfl, (int_is.2 rfl), hF⟩
  clear hk3
  have T1 := Tr.refl O w
  refine wc_seq ?_
  refine wc_region (l := [0, 1, 2]) rfl ?_
  refine wo_seg Θ_ok [0] [(3, (.int .i64 0)), (6, v0)] rfl ⟨rfl, rfl, trivial⟩ ?_
  obtain ⟨A8, c9, rfl, hlc9, hmc9⟩ := slice_form h0
  refine wo_seg Θ_ok [1] [(3, (.int .i64 0)), (6, (.slice A8 x0.length c9)), (7, (.int .i64 (x0.length : Int)))] rfl ⟨rfl, rfl, rfl, trivial⟩ ?_
  refine wo_seg Θ_ok [2] [(3, (.int .i64 0)), (6, (.slice A8 x0.length c9)), (7, (.int .i64 (x0.length : Int))), (8, (.int .i64 0))] rfl ⟨rfl, rfl, rfl, rfl, trivial⟩ ?_
  refine wo_nil ?_
  refine wq_seq ?_
  refine wc_block ?_
  refine wc_loop (fun m E W => ∃ (rest12 : List Int) (i11 : Nat) (O15 : List Nat), rest12.length = m ∧ x0.drop i11 = rest12 ∧ E = [(3, (.int .i64 0)), (6, (.slice A8 x0.length c9)), (7, (.int .i64 (x0.length : Int))), (8, (.int .i64 (i11 : Int)))] ∧ Tr O w O15 W ∧ OB O15 W ∧ Sub O O15 ∧ Fr [] w W ∧ cmp_or_l1 k2 rest12 i11 = r) _ [(3, (.int .i64 0)), (6, (.slice A8 x0.length c9)), (7, (.int .i64 (x0.length : Int))), (8, (.int .i64 ((0 : Nat) : Int)))] ⟨rfl, rfl, rfl, rfl, trivial⟩ ⟨x0, 0, O, rfl, rfl, rfl, Tr.refl _ _, hO, hS, hF, h⟩ ?_
  rintro m E w16 ⟨rest12, i11, O15, rfl, hd14, rfl, T10, hO, hS, hF, h⟩
  have T1 := T1.trans T10
  have h0 := h0.tr T10
  rcases rest12 with _ | ⟨z13, rest12⟩
  · rw [cmp_or_l1] at h
    have hl20 := drop_nil hd14
    have hc17 : (decide ((i11 : Int) < (x0.length : Int))) = false := decide_eq_false (by omega)
    refine wc_seq ?_
    refine wc_region (l := [0]) rfl ?_
    refine wo_seg Θ_ok [0] [(3, (.int .i64 0)), (6, (.slice A8 x0.length c9)), (7, (.int .i64 (x0.length : Int))), (8, (.int .i64 (i11 : Int))), (9, (.bool (decide ((i11 : Int) < (x0.length : Int)))))] rfl ⟨rfl, rfl, rfl, rfl, rfl, trivial⟩ ?_
    refine wo_nil ?_
    refine wq_seq ?_
    refine wc_seq ?_
    refine wc_known_false rfl hc17 ?_
    refine wc_exit ?_
    exact wq_then_exit (wq_then_exit (wq_block_exit (wq_join hK5 [(3, (.int .i64 0))] ⟨rfl, trivial⟩ ⟨O15, rfl, T1, hO, hS, hF, h⟩)))
  rw [cmp_or_l1] at h
  obtain ⟨hl21, hg19, hd14⟩ := drop_cons hd14
  have hc18 : (decide ((i11 : Int) < (x0.length : Int))) = true := decide_eq_true (by omega)
  refine wc_seq ?_
  refine wc_region (l := [0]) rfl ?_
  refine wo_seg Θ_ok [0] [(3, (.int .i64 0)), (6, (.slice A8 x0.length c9)), (7, (.int .i64 (x0.length : Int))), (8, (.int .i64 (i11 : Int))), (9, (.bool (decide ((i11 : Int) < (x0.length : Int)))))] rfl ⟨rfl, rfl, rfl, rfl, rfl, trivial⟩ ?_
  refine wo_nil ?_
  refine wq_seq ?_
  refine wc_seq ?_
  refine wc_known_true rfl hc18 ?_
  refine wc_skip ?_
  refine wq_seq ?_
  refine wc_seq ?_
  refine wc_block ?_
  refine wc_seq ?_
  refine wc_region (l := [0, 1, 2]) rfl ?_
  refine wo_index Θ_ok rfl rfl rfl rfl rfl rfl rfl rfl rfl rfl h0 rfl (by omega) hg19 (fun p22 h23 => ?_)
  refine wo_loadp Θ_ok rfl rfl rfl rfl rfl rfl rfl h23 rfl rfl (fun v24 h25 => ?_)
  obtain rfl := int_is.1 h25
  refine wo_seg Θ_ok [2] [(3, (.int .i64 0)), (5, (.int .i64 z13)), (6, (.slice A8 x0.length c9)), (7, (.int .i64 (x0.length : Int))), (8, (.int .i64 (i11 : Int)))] rfl ⟨rfl, rfl, rfl, rfl, rfl, trivial⟩ ?_
  refine wo_nil ?_
  refine wq_seq ?_
  refine wc_seq ?_
  refine wc_region (l := [0, 1, 2]) rfl ?_
  refine wo_seg Θ_ok [0, 1, 2] [(3, (.int .i64 0)), (5, (.int .i64 z13)), (6, (.slice A8 x0.length c9)), (7, (.int .i64 (x0.length : Int))), (8, (.int .i64 (i11 : Int))), (14, (.bool (z13 != (0 : Int))))] rfl ⟨rfl, rfl, rfl, rfl, rfl, rfl, trivial⟩ ?_
  refine wo_nil ?_
  refine wq_seq ?_
  rcases bif_some h with ⟨hc26, h⟩ | ⟨hc26, h⟩
  rotate_left
  · refine wc_known_false rfl hc26 ?_
    refine wc_skip ?_
    refine wq_block (wq_seq ?_)
    refine wc_region (l := [0, 1]) rfl ?_
    refine wo_seg Θ_ok [0, 1] [(3, (.int .i64 0)), (6, (.slice A8 x0.length c9)), (7, (.int .i64 (x0.length : Int))), (8, (.int .i64 (IntKind.i64.wrap ((i11 : Int) + (1 : Int)))))] rfl ⟨rfl, rfl, rfl, rfl, trivial⟩ ?_
    refine wo_nil ?_
    exact wq_next rest12.length [(3, (.int .i64 0)), (6, (.slice A8 x0.length c9)), (7, (.int .i64 (x0.length : Int))), (8, (.int .i64 ((i11 + 1 : Nat) : Int)))] (Nat.lt_succ_self _) ⟨rfl, rfl, rfl, congrArg (fun z => some (Value.int .i64 z)) (wrap_succ hl21 (Nat.le_trans hlc9 hmc9)), trivial⟩ ⟨rest12, i11 + 1, O15, rfl, hd14, rfl, T10, hO, hS, hF, h⟩
  refine wc_known_true rfl hc26 ?_
  refine wc_seq ?_
  refine wc_region (l := [0, 1]) rfl ?_
  refine wo_seg Θ_ok [0, 1] [(2, (.int .i64 z13))] rfl ⟨rfl, trivial⟩ ?_
  refine wo_nil ?_
  refine wq_seq ?_
  refine wc_ret ?_
  subst h
  exact wq_block_ret (wq_then_ret (wq_then_ret (wq_block_ret (wq_then_ret (wq_ret rfl ⟨_, rfl, (int_is.2 rfl), hF⟩)))))
set_option maxRecDepth 100000 in
set_option maxHeartbeats 4000000 in
theorem r_Right_c {O : List Nat} {w : World} (hO : OB O w) {v0 : Value} {x0 : List GDesc} (h0 : (Ty.slice tGDesc).is O w v0 x0) {r : Bool} (h : r_Right x0 = some r) : Calls Tryd.prog 14 #[v0] w (Gives (rt1 Ty.bool) O w r) := by
  have hF := Fr.refl [] w
  have hO0 := hO
  have hS := Sub.refl O
  refine calls_of (args := [v0]) (N := 33) Tryd.func14 rfl rfl rfl ?_
  unfold r_Right at h
  refine wc_seq ?_
  refine wc_region (l := [0]) rfl ?_
  refine wo_seg Θ_ok [0] [(0, v0)] rfl ⟨rfl, trivial⟩ ?_
  refine wo_nil ?_
  refine wq_seq ?_
  obtain ⟨k2, hk3, h⟩ := letk_some h
  refine wc_join (fun E W => ∃ (O6 : List Nat), E = [(0, v0)] ∧ Tr O w O6 W ∧ OB O6 W ∧ Sub O O6 ∧ Fr [] w W ∧ k2 = some r) ?_ (fun K4 hK5 => ?_)
  · rintro E w7 ⟨O6, rfl, T1, hO, hS, hF, h⟩
    have h0 := h0.tr T1
    subst hk3
    (try dsimp only at h)
    refine wc_seq ?_
    refine wc_region (l := [0, 1, 2, 3]) rfl ?_
    refine wo_seg Θ_ok [0] [(30, v0)] rfl ⟨rfl, trivial⟩ ?_
    obtain ⟨A8, c9, rfl, hlc9, hmc9⟩ := slice_form h0
    refine wo_seg Θ_ok [1] [(31, (.int .i64 (x0.length : Int)))] rfl ⟨rfl, trivial⟩ ?_
    refine wo_seg Θ_ok [2, 3] [(2, (.bool (decide ((x0.length : Int) ≤ (64 : Int)))))] rfl ⟨rfl, trivial⟩ ?_
    refine wo_nil ?_
    refine wq_seq ?_
    refine wc_ret ?_
    cases h
    exact wq_ret rfl ⟨_, rfl, (bool_is.2 rfl), hF⟩
  clear hk3
  have T1 := Tr.refl O w
  refine wc_seq ?_
  refine wc_region (l := [0, 1, 2]) rfl ?_
  refine wo_seg Θ_ok [0] [(0, v0), (5, v0)] rfl ⟨rfl, rfl, trivial⟩ ?_
  obtain ⟨A10, c11, rfl, hlc11, hmc11⟩ := slice_form h0
  refine wo_seg Θ_ok [1] [(0, (.slice A10 x0.length c11)), (5, (.slice A10 x0.length c11)), (6, (.int .i64 (x0.length : Int)))] rfl ⟨rfl, rfl, rfl, trivial⟩ ?_
  refine wo_seg Θ_ok [2] [(0, (.slice A10 x0.length c11)), (5, (.slice A10 x0.length c11)), (6, (.int .i64 (x0.length : Int))), (7, (.int .i64 0))] rfl ⟨rfl, rfl, rfl, rfl, trivial⟩ ?_
  refine wo_nil ?_
  refine wq_seq ?_
  refine wc_block ?_
  refine wc_loop (fun m E W => ∃ (rest14 : List GDesc) (i13 : Nat) (O17 : List Nat), rest14.length = m ∧ x0.drop i13 = rest14 ∧ E = [(0, (.slice A10 x0.length c11)), (5, (.slice A10 x0.length c11)), (6, (.int .i64 (x0.length : Int))), (7, (.int .i64 (i13 : Int)))] ∧ Tr O w O17 W ∧ OB O17 W ∧ Sub O O17 ∧ Fr [] w W ∧ r_Right_l1 x0 k2 rest14 i13 = some r) _ [(0, (.slice A10 x0.length c11)), (5, (.slice A10 x0.length c11)), (6, (.int .i64 (x0.length : Int))), (7, (.int .i64 ((0 : Nat) : Int)))] ⟨rfl, rfl, rfl, rfl, trivial⟩ ⟨x0, 0, O, rfl, rfl, rfl, Tr.refl _ _, hO, hS, hF, h⟩ ?_
  rintro m E w18 ⟨rest14, i13, O17, rfl, hd16, rfl, T12, hO, hS, hF, h⟩
  have T1 := T1.trans T12
  have h0 := h0.tr T12
  rcases rest14 with _ | ⟨z15, rest14⟩
  · rw [r_Right_l1] at h
    have hl22 := drop_nil hd16
    have hc19 : (decide ((i13 : Int) < (x0.length : Int))) = false := decide_eq_false (by omega)
    refine wc_seq ?_
    refine wc_region (l := [0]) rfl ?_
    refine wo_seg Θ_ok [0] [(0, (.slice A10 x0.length c11)), (5, (.slice A10 x0.length c11)), (6, (.int .i64 (x0.length : Int))), (7, (.int .i64 (i13 : Int))), (8, (.bool (decide ((i13 : Int) < (x0.length : Int)))))] rfl ⟨rfl, rfl, rfl, rfl, rfl, trivial⟩ ?_
    refine wo_nil ?_
    refine wq_seq ?_
    refine wc_seq ?_
    refine wc_known_false rfl hc19 ?_
    refine wc_exit ?_
    exact wq_then_exit (wq_then_exit (wq_block_exit (wq_join hK5 [(0, (.slice A10 x0.length c11))] ⟨rfl, trivial⟩ ⟨O17, rfl, T1, hO, hS, hF, h⟩)))
  rw [r_Right_l1] at h
  obtain ⟨hl23, hg21, hd16⟩ := drop_cons hd16
  have hc20 : (decide ((i13 : Int) < (x0.length : Int))) = true := decide_eq_true (by omega)
  refine wc_seq ?_
  refine wc_region (l := [0]) rfl ?_
  refine wo_seg Θ_ok [0] [(0, (.slice A10 x0.length c11)), (5, (.slice A10 x0.length c11)), (6, (.int .i64 (x0.length : Int))), (7, (.int .i64 (i13 : Int))), (8, (.bool (decide ((i13 : Int) < (x0.length : Int)))))] rfl ⟨rfl, rfl, rfl, rfl, rfl, trivial⟩ ?_
  refine wo_nil ?_
  refine wq_seq ?_
  refine wc_seq ?_
  refine wc_known_true rfl hc20 ?_
  refine wc_skip ?_
  refine wq_seq ?_
  refine wc_seq ?_
  refine wc_block ?_
  refine wc_seq ?_
  refine wc_region (l := [0, 1, 2, 3, 4, 5]) rfl ?_
  refine wo_seg Θ_ok [0] [(0, (.slice A10 x0.length c11)), (5, (.slice A10 x0.length c11)), (6, (.int .i64 (x0.length : Int))), (7, (.int .i64 (i13 : Int))), (9, (.int .i64 (i13 : Int)))] rfl ⟨rfl, rfl, rfl, rfl, rfl, trivial⟩ ?_
  refine wo_index Θ_ok rfl rfl rfl rfl rfl rfl rfl rfl rfl rfl h0 rfl (by omega) hg21 (fun p24 h25 => ?_)
  refine wo_loadp Θ_ok rfl rfl rfl rfl rfl rfl rfl h25 rfl rfl (fun v26 h27 => ?_)
  obtain rfl := tGDesc_is.1 h27
  refine wo_alloc Θ_ok rfl rfl rfl rfl rfl rfl [(.int .u64 0), (.int .i64 0), (.int .u64 0)] rfl hO (fun b28 w29 n30 => ?_)
  have h0 := h0.tr n30.tr
  have T1 := T1.trans n30.tr
  have T12 := T12.trans n30.tr
  have hb28 := n30.blk
  have gb28 := n30.ge0 hF
  have ib28 : b28 ∈ b28 :: O17 := List.mem_cons_self
  have hO := n30.ob
  have hF := hF.trans n30.fr
  have hS := Sub.cons hS b28
  refine wo_seg Θ_ok [4] [(0, (.slice A10 x0.length c11)), (3, (.int .i64 (i13 : Int))), (4, (.pointer (some ⟨b28, 0, none⟩))), (5, (.slice A10 x0.length c11)), (6, (.int .i64 (x0.length : Int))), (7, (.int .i64 (i13 : Int))), (11, (.agg #[(.int .u64 z15.fPid), (.int .i64 z15.fFd), (.int .u64 z15.fWhat)]))] rfl ⟨rfl, rfl, rfl, rfl, rfl, rfl, rfl, trivial⟩ ?_
  refine wo_store Θ_ok rfl rfl rfl rfl rfl rfl rfl hb28 [(.int .u64 z15.fPid), (.int .i64 z15.fFd), (.int .u64 z15.fWhat)] rfl rfl (by simp [Value.oneCell']) rfl [(.int .u64 z15.fPid), (.int .i64 z15.fFd), (.int .u64 z15.fWhat)] rfl (fun w31 hb28 f32 => ?_)
  have h0 := h0.tr (f32.tr (one_in ib28))
  have T1 := T1.trans (f32.tr (one_in ib28))
  have T12 := T12.trans (f32.tr (one_in ib28))
  have hO := f32.ob hO
  have hF := hF.own f32 gb28
  refine wo_nil ?_
  refine wq_seq ?_
  refine wc_seq ?_
  rcases bif_some h with ⟨hc33, h⟩ | ⟨hc33, h⟩
  · refine wc_draw mixed [⟨12, [], [4]⟩, ⟨13, [0], []⟩, ⟨14, [1], []⟩, ⟨15, [2], []⟩, ⟨16, [3], [3]⟩, ⟨17, [3, 4], []⟩, ⟨18, [3, 5], []⟩, ⟨19, [6], [0]⟩, ⟨20, [6], [3]⟩, ⟨21, [6, 8], []⟩, ⟨22, [6, 7, 9], []⟩, ⟨23, [6, 10], []⟩, ⟨24, [6], [4]⟩, ⟨25, [6, 11, 12], []⟩, ⟨26, [6, 13], []⟩, ⟨27, [3, 6, 14], []⟩, ⟨28, [3, 15], []⟩] [SP.eq (.agg #[(.int .u64 z15.fPid), (.int .i64 z15.fFd), (.int .u64 z15.fWhat)]), SP.eq (.bool ((r_Is z15))), SP.eq (.bool (!(r_Is z15))), SP.eq (.bool (!(r_Is z15))), SP.eq undef, SP.eq undef, SP.eq undef, SP.eq undef, SP.eq undef, SP.eq undef, SP.eq undef, SP.eq undef, SP.eq undef, SP.eq undef, SP.eq undef, SP.eq undef, SP.eq (.bool true)] rfl rfl rfl ⟨?_, ?_, ?_, ?_, ?_, ?_, ?_, ?_, ?_, ?_, ?_, ?_, ?_, ?_, ?_, ?_, ?_, trivial⟩ ?_
    · intro a w2 hfr hN hds hb hd
      have hb28 := hb28.fr0 hfr
      exact op_load Θ_ok ⟨hN, hds, rows_get (E := [(4, (.pointer (some ⟨b28, 0, none⟩)))]) ⟨hb 4 rfl _ rfl, trivial⟩⟩ rfl rfl rfl rfl rfl rfl hb28 [(.int .u64 z15.fPid), (.int .i64 z15.fFd), (.int .u64 z15.fWhat)] rfl rfl (.inl rfl) (.agg #[(.int .u64 z15.fPid), (.int .i64 z15.fFd), (.int .u64 z15.fWhat)]) rfl
    · intro a w2 hfr hN hds hb hd
      exact (op_call ⟨hN, hds, rows_get (E := [(12, (.agg #[(.int .u64 z15.fPid), (.int .i64 z15.fFd), (.int .u64 z15.fWhat)]))]) ⟨(hd 0 rfl _ _ rfl rfl), trivial⟩⟩ rfl rfl rfl rfl ent20 rfl (r_Is_c (hfr.ob hO) ((tGDesc_is (x := z15)).2 rfl))).weaken (fun u w3 ⟨hu, hf⟩ => ⟨bool_is.1 hu, hf⟩)
    · intro a w2 hfr hN hds hb hd
      exact op_plain Θ_ok ⟨hN, hds, rows_get (E := [(13, (.bool ((r_Is z15))))]) ⟨(hd 1 rfl _ _ rfl rfl), trivial⟩⟩ rfl rfl rfl rfl rfl
    · intro a w2 hfr hN hds hb hd
      exact op_plain Θ_ok ⟨hN, hds, rows_get (E := [(14, (.bool (!(r_Is z15))))]) ⟨(hd 2 rfl _ _ rfl rfl), trivial⟩⟩ rfl rfl rfl rfl rfl
    · intro a w2 hfr hN hds hb hd
      exact op_skip ⟨hN, hds, rows_get (E := [(3, (.int .i64 (i13 : Int))), (15, (.bool true))]) ⟨hb 3 rfl _ rfl, ((hd 3 rfl _ _ rfl rfl).trans (congrArg _ hc33)), trivial⟩⟩ rfl rfl rfl
    · intro a w2 hfr hN hds hb hd
      exact op_skip ⟨hN, hds, rows_get (E := [(15, (.bool true)), (16, undef)]) ⟨((hd 3 rfl _ _ rfl rfl).trans (congrArg _ hc33)), (hd 4 rfl _ _ rfl rfl), trivial⟩⟩ rfl rfl rfl
    · intro a w2 hfr hN hds hb hd
      exact op_skip ⟨hN, hds, rows_get (E := [(15, (.bool true)), (17, undef)]) ⟨((hd 3 rfl _ _ rfl rfl).trans (congrArg _ hc33)), (hd 5 rfl _ _ rfl rfl), trivial⟩⟩ rfl rfl rfl
    · intro a w2 hfr hN hds hb hd
      have h0 := h0.tr hfr.tr0
      exact op_skip ⟨hN, hds, rows_get (E := [(0, (.slice A10 x0.length c11)), (18, undef)]) ⟨hb 0 rfl _ rfl, (hd 6 rfl _ _ rfl rfl), trivial⟩⟩ rfl rfl rfl
    · intro a w2 hfr hN hds hb hd
      exact op_skip ⟨hN, hds, rows_get (E := [(3, (.int .i64 (i13 : Int))), (18, undef)]) ⟨hb 3 rfl _ rfl, (hd 6 rfl _ _ rfl rfl), trivial⟩⟩ rfl rfl rfl
    · intro a w2 hfr hN hds hb hd
      exact op_skip ⟨hN, hds, rows_get (E := [(18, undef), (20, undef)]) ⟨(hd 6 rfl _ _ rfl rfl), (hd 8 rfl _ _ rfl rfl), trivial⟩⟩ rfl rfl rfl
    · intro a w2 hfr hN hds hb hd
      exact op_skip ⟨hN, hds, rows_get (E := [(18, undef), (19, undef), (21, undef)]) ⟨(hd 6 rfl _ _ rfl rfl), (hd 7 rfl _ _ rfl rfl), (hd 9 rfl _ _ rfl rfl), trivial⟩⟩ rfl rfl rfl
    · intro a w2 hfr hN hds hb hd
      exact op_skip ⟨hN, hds, rows_get (E := [(18, undef), (22, undef)]) ⟨(hd 6 rfl _ _ rfl rfl), (hd 10 rfl _ _ rfl rfl), trivial⟩⟩ rfl rfl rfl
    · intro a w2 hfr hN hds hb hd
      exact op_skip ⟨hN, hds, rows_get (E := [(4, (.pointer (some ⟨b28, 0, none⟩))), (18, undef)]) ⟨hb 4 rfl _ rfl, (hd 6 rfl _ _ rfl rfl), trivial⟩⟩ rfl rfl rfl
    · intro a w2 hfr hN hds hb hd
      exact op_skip ⟨hN, hds, rows_get (E := [(18, undef), (23, undef), (24, undef)]) ⟨(hd 6 rfl _ _ rfl rfl), (hd 11 rfl _ _ rfl rfl), (hd 12 rfl _ _ rfl rfl), trivial⟩⟩ rfl rfl rfl
    · intro a w2 hfr hN hds hb hd
      exact op_skip ⟨hN, hds, rows_get (E := [(18, undef), (25, undef)]) ⟨(hd 6 rfl _ _ rfl rfl), (hd 13 rfl _ _ rfl rfl), trivial⟩⟩ rfl rfl rfl
    · intro a w2 hfr hN hds hb hd
      exact op_skip ⟨hN, hds, rows_get (E := [(15, (.bool true)), (18, undef), (26, undef)]) ⟨((hd 3 rfl _ _ rfl rfl).trans (congrArg _ hc33)), (hd 6 rfl _ _ rfl rfl), (hd 14 rfl _ _ rfl rfl), trivial⟩⟩ rfl rfl rfl
    · intro a w2 hfr hN hds hb hd
      exact op_plain Θ_ok ⟨hN, hds, rows_get (E := [(15, (.bool true)), (27, undef)]) ⟨((hd 3 rfl _ _ rfl rfl).trans (congrArg _ hc33)), (hd 15 rfl _ _ rfl rfl), trivial⟩⟩ rfl rfl rfl rfl rfl
    intro a w35 f34 hN hds hb hr
    have h0 := h0.tr f34.tr0
    have T1 := T1.trans f34.tr0
    have T12 := T12.trans f34.tr0
    have hO := f34.ob hO
    have hF := hF.trans f34
    refine wq_go (E := [(0, (.slice A10 x0.length c11)), (5, (.slice A10 x0.length c11)), (6, (.int .i64 (x0.length : Int))), (7, (.int .i64 (i13 : Int))), (28, (.bool true))]) hN hds ⟨hb 0 _ rfl rfl, hb 5 _ rfl rfl, hb 6 _ rfl rfl, hb 7 _ rfl rfl, (hr 16 _ _ rfl rfl), trivial⟩ ?_
    refine wq_seq ?_
    refine wc_true rfl ?_
    refine wc_seq ?_
    refine wc_region (l := [0]) rfl ?_
    refine wo_seg Θ_ok [0] [(2, (.bool false))] rfl ⟨rfl, trivial⟩ ?_
    refine wo_nil ?_
    refine wq_seq ?_
    refine wc_ret ?_
    cases h
    exact wq_block_ret (wq_then_ret (wq_then_ret (wq_block_ret (wq_then_ret (wq_ret rfl ⟨_, rfl, (bool_is.2 rfl), hF⟩)))))
  rcases bif_some h with ⟨hc36, h⟩ | ⟨hc36, h⟩
  rotate_left
  · refine wc_draw mixed [⟨12, [], [4]⟩, ⟨13, [0], []⟩, ⟨14, [1], []⟩, ⟨15, [2], []⟩, ⟨16, [3], [3]⟩, ⟨17, [3, 4], []⟩, ⟨18, [3, 5], []⟩, ⟨19, [6], [0]⟩, ⟨20, [6], [3]⟩, ⟨21, [6, 8], []⟩, ⟨22, [6, 7, 9], []⟩, ⟨23, [6, 10], []⟩, ⟨24, [6], [4]⟩, ⟨25, [6, 11, 12], []⟩, ⟨26, [6, 13], []⟩, ⟨27, [3, 6, 14], []⟩, ⟨28, [3, 15], []⟩] [SP.eq (.agg #[(.int .u64 z15.fPid), (.int .i64 z15.fFd), (.int .u64 z15.fWhat)]), SP.eq (.bool ((r_Is z15))), SP.eq (.bool (!(r_Is z15))), SP.eq (.bool (!(r_Is z15))), SP.eq (.int .i64 (i13 : Int)), SP.eq (.bool (decide ((i13 : Int) > (0 : Int)))), SP.eq (.bool (decide ((i13 : Int) > (0 : Int)))), SP.eq undef, SP.eq undef, SP.eq undef, SP.eq undef, SP.eq undef, SP.eq undef, SP.eq undef, SP.eq undef, SP.eq (.bool false), SP.eq (.bool false)] rfl rfl rfl ⟨?_, ?_, ?_, ?_, ?_, ?_, ?_, ?_, ?_, ?_, ?_, ?_, ?_, ?_, ?_, ?_, ?_, trivial⟩ ?_
    · intro a w2 hfr hN hds hb hd
      have hb28 := hb28.fr0 hfr
      exact op_load Θ_ok ⟨hN, hds, rows_get (E := [(4, (.pointer (some ⟨b28, 0, none⟩)))]) ⟨hb 4 rfl _ rfl, trivial⟩⟩ rfl rfl rfl rfl rfl rfl hb28 [(.int .u64 z15.fPid), (.int .i64 z15.fFd), (.int .u64 z15.fWhat)] rfl rfl (.inl rfl) (.agg #[(.int .u64 z15.fPid), (.int .i64 z15.fFd), (.int .u64 z15.fWhat)]) rfl
    · intro a w2 hfr hN hds hb hd
      exact (op_call ⟨hN, hds, rows_get (E := [(12, (.agg #[(.int .u64 z15.fPid), (.int .i64 z15.fFd), (.int .u64 z15.fWhat)]))]) ⟨(hd 0 rfl _ _ rfl rfl), trivial⟩⟩ rfl rfl rfl rfl ent20 rfl (r_Is_c (hfr.ob hO) ((tGDesc_is (x := z15)).2 rfl))).weaken (fun u w3 ⟨hu, hf⟩ => ⟨bool_is.1 hu, hf⟩)
    · intro a w2 hfr hN hds hb hd
      exact op_plain Θ_ok ⟨hN, hds, rows_get (E := [(13, (.bool ((r_Is z15))))]) ⟨(hd 1 rfl _ _ rfl rfl), trivial⟩⟩ rfl rfl rfl rfl rfl
    · intro a w2 hfr hN hds hb hd
      exact op_plain Θ_ok ⟨hN, hds, rows_get (E := [(14, (.bool (!(r_Is z15))))]) ⟨(hd 2 rfl _ _ rfl rfl), trivial⟩⟩ rfl rfl rfl rfl rfl
    · intro a w2 hfr hN hds hb hd
      exact op_plain Θ_ok ⟨hN, hds, rows_get (E := [(3, (.int .i64 (i13 : Int))), (15, (.bool false))]) ⟨hb 3 rfl _ rfl, ((hd 3 rfl _ _ rfl rfl).trans (congrArg _ hc33)), trivial⟩⟩ rfl rfl rfl rfl rfl
    · intro a w2 hfr hN hds hb hd
      exact op_plain Θ_ok ⟨hN, hds, rows_get (E := [(15, (.bool false)), (16, (.int .i64 (i13 : Int)))]) ⟨((hd 3 rfl _ _ rfl rfl).trans (congrArg _ hc33)), (hd 4 rfl _ _ rfl rfl), trivial⟩⟩ rfl rfl rfl rfl rfl
    · intro a w2 hfr hN hds hb hd
      exact op_plain Θ_ok ⟨hN, hds, rows_get (E := [(15, (.bool false)), (17, (.bool (decide ((i13 : Int) > (0 : Int)))))]) ⟨((hd 3 rfl _ _ rfl rfl).trans (congrArg _ hc33)), (hd 5 rfl _ _ rfl rfl), trivial⟩⟩ rfl rfl rfl rfl rfl
    · intro a w2 hfr hN hds hb hd
      have h0 := h0.tr hfr.tr0
      exact op_skip ⟨hN, hds, rows_get (E := [(0, (.slice A10 x0.length c11)), (18, (.bool false))]) ⟨hb 0 rfl _ rfl, ((hd 6 rfl _ _ rfl rfl).trans (congrArg _ hc36)), trivial⟩⟩ rfl rfl rfl
    · intro a w2 hfr hN hds hb hd
      exact op_skip ⟨hN, hds, rows_get (E := [(3, (.int .i64 (i13 : Int))), (18, (.bool false))]) ⟨hb 3 rfl _ rfl, ((hd 6 rfl _ _ rfl rfl).trans (congrArg _ hc36)), trivial⟩⟩ rfl rfl rfl
    · intro a w2 hfr hN hds hb hd
      exact op_skip ⟨hN, hds, rows_get (E := [(18, (.bool false)), (20, undef)]) ⟨((hd 6 rfl _ _ rfl rfl).trans (congrArg _ hc36)), (hd 8 rfl _ _ rfl rfl), trivial⟩⟩ rfl rfl rfl
    · intro a w2 hfr hN hds hb hd
      exact op_skip ⟨hN, hds, rows_get (E := [(18, (.bool false)), (19, undef), (21, undef)]) ⟨((hd 6 rfl _ _ rfl rfl).trans (congrArg _ hc36)), (hd 7 rfl _ _ rfl rfl), (hd 9 rfl _ _ rfl rfl), trivial⟩⟩ rfl rfl rfl
    · intro a w2 hfr hN hds hb hd
      exact op_skip ⟨hN, hds, rows_get (E := [(18, (.bool false)), (22, undef)]) ⟨((hd 6 rfl _ _ rfl rfl).trans (congrArg _ hc36)), (hd 10 rfl _ _ rfl rfl), trivial⟩⟩ rfl rfl rfl
    · intro a w2 hfr hN hds hb hd
      exact op_skip ⟨hN, hds, rows_get (E := [(4, (.pointer (some ⟨b28, 0, none⟩))), (18, (.bool false))]) ⟨hb 4 rfl _ rfl, ((hd 6 rfl _ _ rfl rfl).trans (congrArg _ hc36)), trivial⟩⟩ rfl rfl rfl
    · intro a w2 hfr hN hds hb hd
      exact op_skip ⟨hN, hds, rows_get (E := [(18, (.bool false)), (23, undef), (24, undef)]) ⟨((hd 6 rfl _ _ rfl rfl).trans (congrArg _ hc36)), (hd 11 rfl _ _ rfl rfl), (hd 12 rfl _ _ rfl rfl), trivial⟩⟩ rfl rfl rfl
    · intro a w2 hfr hN hds hb hd
      exact op_skip ⟨hN, hds, rows_get (E := [(18, (.bool false)), (25, undef)]) ⟨((hd 6 rfl _ _ rfl rfl).trans (congrArg _ hc36)), (hd 13 rfl _ _ rfl rfl), trivial⟩⟩ rfl rfl rfl
    · intro a w2 hfr hN hds hb hd
      exact op_plain Θ_ok ⟨hN, hds, rows_get (E := [(15, (.bool false)), (18, (.bool false)), (26, undef)]) ⟨((hd 3 rfl _ _ rfl rfl).trans (congrArg _ hc33)), ((hd 6 rfl _ _ rfl rfl).trans (congrArg _ hc36)), (hd 14 rfl _ _ rfl rfl), trivial⟩⟩ rfl rfl rfl rfl rfl
    · intro a w2 hfr hN hds hb hd
      exact op_plain Θ_ok ⟨hN, hds, rows_get (E := [(15, (.bool false)), (27, (.bool false))]) ⟨((hd 3 rfl _ _ rfl rfl).trans (congrArg _ hc33)), (hd 15 rfl _ _ rfl rfl), trivial⟩⟩ rfl rfl rfl rfl rfl
    intro a w49 f48 hN hds hb hr
    have h0 := h0.tr f48.tr0
    have T1 := T1.trans f48.tr0
    have T12 := T12.trans f48.tr0
    have hO := f48.ob hO
    have hF := hF.trans f48
    refine wq_go (E := [(0, (.slice A10 x0.length c11)), (5, (.slice A10 x0.length c11)), (6, (.int .i64 (x0.length : Int))), (7, (.int .i64 (i13 : Int))), (28, (.bool false))]) hN hds ⟨hb 0 _ rfl rfl, hb 5 _ rfl rfl, hb 6 _ rfl rfl, hb 7 _ rfl rfl, (hr 16 _ _ rfl rfl), trivial⟩ ?_
    refine wq_seq ?_
    refine wc_false rfl ?_
    refine wc_skip ?_
    refine wq_block (wq_seq ?_)
    refine wc_region (l := [0, 1]) rfl ?_
    refine wo_seg Θ_ok [0, 1] [(0, (.slice A10 x0.length c11)), (5, (.slice A10 x0.length c11)), (6, (.int .i64 (x0.length : Int))), (7, (.int .i64 (IntKind.i64.wrap ((i13 : Int) + (1 : Int)))))] rfl ⟨rfl, rfl, rfl, rfl, trivial⟩ ?_
    refine wo_nil ?_
    exact wq_next rest14.length [(0, (.slice A10 x0.length c11)), (5, (.slice A10 x0.length c11)), (6, (.int .i64 (x0.length : Int))), (7, (.int .i64 ((i13 + 1 : Nat) : Int)))] (Nat.lt_succ_self _) ⟨rfl, rfl, rfl, congrArg (fun z => some (Value.int .i64 z)) (wrap_succ hl23 (Nat.le_trans hlc11 hmc11)), trivial⟩ ⟨rest14, i13 + 1, b28 :: O17, rfl, hd16, rfl, T12, hO, hS, hF, h⟩
  obtain ⟨y37, hz38, h⟩ := bind_some h
  refine wc_draw mixed [⟨12, [], [4]⟩, ⟨13, [0], []⟩, ⟨14, [1], []⟩, ⟨15, [2], []⟩, ⟨16, [3], [3]⟩, ⟨17, [3, 4], []⟩, ⟨18, [3, 5], []⟩, ⟨19, [6], [0]⟩, ⟨20, [6], [3]⟩, ⟨21, [6, 8], []⟩, ⟨22, [6, 7, 9], []⟩, ⟨23, [6, 10], []⟩, ⟨24, [6], [4]⟩, ⟨25, [6, 11, 12], []⟩, ⟨26, [6, 13], []⟩, ⟨27, [3, 6, 14], []⟩, ⟨28, [3, 15], []⟩] [SP.eq (.agg #[(.int .u64 z15.fPid), (.int .i64 z15.fFd), (.int .u64 z15.fWhat)]), SP.eq (.bool ((r_Is z15))), SP.eq (.bool (!(r_Is z15))), SP.eq (.bool (!(r_Is z15))), SP.eq (.int .i64 (i13 : Int)), SP.eq (.bool (decide ((i13 : Int) > (0 : Int)))), SP.eq (.bool (decide ((i13 : Int) > (0 : Int)))), SP.is (Ty.slice tGDesc) (b28 :: O17) x0, SP.eq (.int .i64 (i13 : Int)), SP.eq (.int .i64 (IntKind.i64.wrap ((i13 : Int) - (1 : Int)))), SP.is (Ty.ptr tGDesc) (b28 :: O17) y37, SP.eq (.agg #[(.int .u64 y37.fPid), (.int .i64 y37.fFd), (.int .u64 y37.fWhat)]), SP.eq (.agg #[(.int .u64 z15.fPid), (.int .i64 z15.fFd), (.int .u64 z15.fWhat)]), SP.eq (.bool ((r_ahead y37 z15))), SP.eq (.bool (!(r_ahead y37 z15))), SP.eq (.bool (!(r_ahead y37 z15))), SP.eq (.bool (!(r_ahead y37 z15)))] rfl rfl rfl ⟨?_, ?_, ?_, ?_, ?_, ?_, ?_, ?_, ?_, ?_, ?_, ?_, ?_, ?_, ?_, ?_, ?_, trivial⟩ ?_
  · intro a w2 hfr hN hds hb hd
    have hb28 := hb28.fr0 hfr
    exact op_load Θ_ok ⟨hN, hds, rows_get (E := [(4, (.pointer (some ⟨b28, 0, none⟩)))]) ⟨hb 4 rfl _ rfl, trivial⟩⟩ rfl rfl rfl rfl rfl rfl hb28 [(.int .u64 z15.fPid), (.int .i64 z15.fFd), (.int .u64 z15.fWhat)] rfl rfl (.inl rfl) (.agg #[(.int .u64 z15.fPid), (.int .i64 z15.fFd), (.int .u64 z15.fWhat)]) rfl
  · intro a w2 hfr hN hds hb hd
    exact (op_call ⟨hN, hds, rows_get (E := [(12, (.agg #[(.int .u64 z15.fPid), (.int .i64 z15.fFd), (.int .u64 z15.fWhat)]))]) ⟨(hd 0 rfl _ _ rfl rfl), trivial⟩⟩ rfl rfl rfl rfl ent20 rfl (r_Is_c (hfr.ob hO) ((tGDesc_is (x := z15)).2 rfl))).weaken (fun u w3 ⟨hu, hf⟩ => ⟨bool_is.1 hu, hf⟩)
  · intro a w2 hfr hN hds hb hd
    exact op_plain Θ_ok ⟨hN, hds, rows_get (E := [(13, (.bool ((r_Is z15))))]) ⟨(hd 1 rfl _ _ rfl rfl), trivial⟩⟩ rfl rfl rfl rfl rfl
  · intro a w2 hfr hN hds hb hd
    exact op_plain Θ_ok ⟨hN, hds, rows_get (E := [(14, (.bool (!(r_Is z15))))]) ⟨(hd 2 rfl _ _ rfl rfl), trivial⟩⟩ rfl rfl rfl rfl rfl
  · intro a w2 hfr hN hds hb hd
    exact op_plain Θ_ok ⟨hN, hds, rows_get (E := [(3, (.int .i64 (i13 : Int))), (15, (.bool false))]) ⟨hb 3 rfl _ rfl, ((hd 3 rfl _ _ rfl rfl).trans (congrArg _ hc33)), trivial⟩⟩ rfl rfl rfl rfl rfl
  · intro a w2 hfr hN hds hb hd
    exact op_plain Θ_ok ⟨hN, hds, rows_get (E := [(15, (.bool false)), (16, (.int .i64 (i13 : Int)))]) ⟨((hd 3 rfl _ _ rfl rfl).trans (congrArg _ hc33)), (hd 4 rfl _ _ rfl rfl), trivial⟩⟩ rfl rfl rfl rfl rfl
  · intro a w2 hfr hN hds hb hd
    exact op_plain Θ_ok ⟨hN, hds, rows_get (E := [(15, (.bool false)), (17, (.bool (decide ((i13 : Int) > (0 : Int)))))]) ⟨((hd 3 rfl _ _ rfl rfl).trans (congrArg _ hc33)), (hd 5 rfl _ _ rfl rfl), trivial⟩⟩ rfl rfl rfl rfl rfl
  · intro a w2 hfr hN hds hb hd
    have h0 := h0.tr hfr.tr0
    exact (op_plain Θ_ok ⟨hN, hds, rows_get (E := [(0, (.slice A10 x0.length c11)), (18, (.bool true))]) ⟨hb 0 rfl _ rfl, ((hd 6 rfl _ _ rfl rfl).trans (congrArg _ hc36)), trivial⟩⟩ rfl rfl rfl rfl rfl).weaken (fun u w3 ⟨hu, hf⟩ => by subst hu; exact ⟨h0.tr hf.tr0, hf⟩)
  · intro a w2 hfr hN hds hb hd
    exact op_plain Θ_ok ⟨hN, hds, rows_get (E := [(3, (.int .i64 (i13 : Int))), (18, (.bool true))]) ⟨hb 3 rfl _ rfl, ((hd 6 rfl _ _ rfl rfl).trans (congrArg _ hc36)), trivial⟩⟩ rfl rfl rfl rfl rfl
  · intro a w2 hfr hN hds hb hd
    exact op_plain Θ_ok ⟨hN, hds, rows_get (E := [(18, (.bool true)), (20, (.int .i64 (i13 : Int)))]) ⟨((hd 6 rfl _ _ rfl rfl).trans (congrArg _ hc36)), (hd 8 rfl _ _ rfl rfl), trivial⟩⟩ rfl rfl rfl rfl rfl
  · intro a w2 hfr hN hds hb hd
    have d41 : (Ty.slice tGDesc).is (b28 :: O17) w2 (a.tmps.getD 19 undef) x0 := hd 7 rfl _ _ rfl rfl
    obtain ⟨u39, e40⟩ : ∃ v, a.tmps.getD 19 undef = v := ⟨_, rfl⟩
    rw [e40] at d41
    exact op_index (j := (IntKind.i64.wrap ((i13 : Int) - (1 : Int)))) Θ_ok ⟨hN, hds, rows_get (E := [(18, (.bool true)), (19, u39), (21, (.int .i64 (IntKind.i64.wrap ((i13 : Int) - (1 : Int)))))]) ⟨((hd 6 rfl _ _ rfl rfl).trans (congrArg _ hc36)), e40, (hd 9 rfl _ _ rfl rfl), trivial⟩⟩ rfl rfl rfl rfl rfl rfl rfl rfl rfl d41 rfl (idx_some hz38).1 (idx_some hz38).2
  · intro a w2 hfr hN hds hb hd
    have d44 : (Ty.ptr tGDesc).is (b28 :: O17) w2 (a.tmps.getD 22 undef) y37 := hd 10 rfl _ _ rfl rfl
    obtain ⟨u42, e43⟩ : ∃ v, a.tmps.getD 22 undef = v := ⟨_, rfl⟩
    rw [e43] at d44
    exact (op_loadp Θ_ok ⟨hN, hds, rows_get (E := [(18, (.bool true)), (22, u42)]) ⟨((hd 6 rfl _ _ rfl rfl).trans (congrArg _ hc36)), e43, trivial⟩⟩ rfl rfl rfl rfl rfl rfl d44 rfl rfl).weaken (fun u w3 ⟨hu, hf⟩ => ⟨tGDesc_is.1 hu, hf⟩)
  · intro a w2 hfr hN hds hb hd
    have hb28 := hb28.fr0 hfr
    exact op_load Θ_ok ⟨hN, hds, rows_get (E := [(4, (.pointer (some ⟨b28, 0, none⟩))), (18, (.bool true))]) ⟨hb 4 rfl _ rfl, ((hd 6 rfl _ _ rfl rfl).trans (congrArg _ hc36)), trivial⟩⟩ rfl rfl rfl rfl rfl rfl hb28 [(.int .u64 z15.fPid), (.int .i64 z15.fFd), (.int .u64 z15.fWhat)] rfl rfl (.inl rfl) (.agg #[(.int .u64 z15.fPid), (.int .i64 z15.fFd), (.int .u64 z15.fWhat)]) rfl
  · intro a w2 hfr hN hds hb hd
    exact (op_call ⟨hN, hds, rows_get (E := [(18, (.bool true)), (23, (.agg #[(.int .u64 y37.fPid), (.int .i64 y37.fFd), (.int .u64 y37.fWhat)])), (24, (.agg #[(.int .u64 z15.fPid), (.int .i64 z15.fFd), (.int .u64 z15.fWhat)]))]) ⟨((hd 6 rfl _ _ rfl rfl).trans (congrArg _ hc36)), (hd 11 rfl _ _ rfl rfl), (hd 12 rfl _ _ rfl rfl), trivial⟩⟩ rfl rfl rfl rfl ent34 rfl (r_ahead_c (hfr.ob hO) ((tGDesc_is (x := y37)).2 rfl) ((tGDesc_is (x := z15)).2 rfl))).weaken (fun u w3 ⟨hu, hf⟩ => ⟨bool_is.1 hu, hf⟩)
  · intro a w2 hfr hN hds hb hd
    exact op_plain Θ_ok ⟨hN, hds, rows_get (E := [(18, (.bool true)), (25, (.bool ((r_ahead y37 z15))))]) ⟨((hd 6 rfl _ _ rfl rfl).trans (congrArg _ hc36)), (hd 13 rfl _ _ rfl rfl), trivial⟩⟩ rfl rfl rfl rfl rfl
  · intro a w2 hfr hN hds hb hd
    exact op_plain Θ_ok ⟨hN, hds, rows_get (E := [(15, (.bool false)), (18, (.bool true)), (26, (.bool (!(r_ahead y37 z15))))]) ⟨((hd 3 rfl _ _ rfl rfl).trans (congrArg _ hc33)), ((hd 6 rfl _ _ rfl rfl).trans (congrArg _ hc36)), (hd 14 rfl _ _ rfl rfl), trivial⟩⟩ rfl rfl rfl rfl rfl
  · intro a w2 hfr hN hds hb hd
    exact op_plain Θ_ok ⟨hN, hds, rows_get (E := [(15, (.bool false)), (27, (.bool (!(r_ahead y37 z15))))]) ⟨((hd 3 rfl _ _ rfl rfl).trans (congrArg _ hc33)), (hd 15 rfl _ _ rfl rfl), trivial⟩⟩ rfl rfl rfl rfl rfl
  intro a w46 f45 hN hds hb hr
  have h0 := h0.tr f45.tr0
  have T1 := T1.trans f45.tr0
  have T12 := T12.trans f45.tr0
  have hO := f45.ob hO
  have hF := hF.trans f45
  refine wq_go (E := [(0, (.slice A10 x0.length c11)), (5, (.slice A10 x0.length c11)), (6, (.int .i64 (x0.length : Int))), (7, (.int .i64 (i13 : Int))), (28, (.bool (!(r_ahead y37 z15))))]) hN hds ⟨hb 0 _ rfl rfl, hb 5 _ rfl rfl, hb 6 _ rfl rfl, hb 7 _ rfl rfl, (hr 16 _ _ rfl rfl), trivial⟩ ?_
  refine wq_seq ?_
  rcases bif_some h with ⟨hc47, h⟩ | ⟨hc47, h⟩
  rotate_left
  · refine wc_known_false rfl hc47 ?_
    refine wc_skip ?_
    refine wq_block (wq_seq ?_)
    refine wc_region (l := [0, 1]) rfl ?_
    refine wo_seg Θ_ok [0, 1] [(0, (.slice A10 x0.length c11)), (5, (.slice A10 x0.length c11)), (6, (.int .i64 (x0.length : Int))), (7, (.int .i64 (IntKind.i64.wrap ((i13 : Int) + (1 : Int)))))] rfl ⟨rfl, rfl, rfl, rfl, trivial⟩ ?_
    refine wo_nil ?_
    exact wq_next rest14.length [(0, (.slice A10 x0.length c11)), (5, (.slice A10 x0.length c11)), (6, (.int .i64 (x0.length : Int))), (7, (.int .i64 ((i13 + 1 : Nat) : Int)))] (Nat.lt_succ_self _) ⟨rfl, rfl, rfl, congrArg (fun z => some (Value.int .i64 z)) (wrap_succ hl23 (Nat.le_trans hlc11 hmc11)), trivial⟩ ⟨rest14, i13 + 1, b28 :: O17, rfl, hd16, rfl, T12, hO, hS, hF, h⟩
  refine wc_known_true rfl hc47 ?_
  refine wc_seq ?_
  refine wc_region (l := [0]) rfl ?_
  refine wo_seg Θ_ok [0] [(2, (.bool false))] rfl ⟨rfl, trivial⟩ ?_
  refine wo_nil ?_
  refine wq_seq ?_
  refine wc_ret ?_
  cases h
  exact wq_block_ret (wq_then_ret (wq_then_ret (wq_block_ret (wq_then_ret (wq_ret rfl ⟨_, rfl, (bool_is.2 rfl), hF⟩)))))
set_option maxRecDepth 100000 in
set_option maxHeartbeats 4000000 in
theorem r_Find_c {O : List Nat} {w : World} (hO : OB O w) {v0 : Value} {x0 : List GDesc} (h0 : (Ty.slice tGDesc).is O w v0 x0) {v1 : Value} {x1 : Int} (h1 : (Ty.int .u64).is O w v1 x1) {v2 : Value} {x2 : Int} (h2 : (Ty.int .i64).is O w v2 x2) : Calls Tryd.prog 16 #[v0, v1, v2] w (Gives (rt1 (Ty.int .i64)) O w (r_Find x0 x1 x2)) := by
  obtain rfl := int_is.1 h1
  obtain rfl := int_is.1 h2
  have hF := Fr.refl [] w
  have hO0 := hO
  have hS := Sub.refl O
  obtain ⟨r, h⟩ : ∃ r, r_Find x0 x1 x2 = r := ⟨_, rfl⟩
  rw [h]
  refine calls_of (args := [v0, (.int .u64 x1), (.int .i64 x2)]) (N := 28) Tryd.func16 rfl rfl rfl ?_
  unfold r_Find at h
  refine wc_seq ?_
  refine wc_region (l := [0]) rfl ?_
  refine wo_seg Θ_ok [0] [(0, v0), (1, (.int .u64 x1)), (2, (.int .i64 x2))] rfl ⟨rfl, rfl, rfl, trivial⟩ ?_
  refine wo_nil ?_
  refine wq_seq ?_
  obtain ⟨k2, hk3, h⟩ := letk_some h
  refine wc_join (fun E W => ∃ (O6 : List Nat), E = [] ∧ Tr O w O6 W ∧ OB O6 W ∧ Sub O O6 ∧ Fr [] w W ∧ k2 = r) ?_ (fun K4 hK5 => ?_)
  · rintro E w7 ⟨O6, rfl, T1, hO, hS, hF, h⟩
    subst hk3
    (try dsimp only at h)
    refine wc_seq ?_
    refine wc_region (l := [0]) rfl ?_
    refine wo_seg Θ_ok [0] [(6, (.int .i64 (-1)))] rfl ⟨rfl, trivial⟩ ?_
    refine wo_nil ?_
    refine wq_seq ?_
    refine wc_ret ?_
    subst h
    exact wq_ret rfl ⟨_, rfl, (int_is.2 rfl), hF⟩
  clear hk3
  have T1 := Tr.refl O w
  refine wc_seq ?_
  refine wc_region (l := [0, 1, 2]) rfl ?_
  refine wo_seg Θ_ok [0] [(1, (.int .u64 x1)), (2, (.int .i64 x2)), (9, v0)] rfl ⟨rfl, rfl, rfl, trivial⟩ ?_
  obtain ⟨A8, c9, rfl, hlc9, hmc9⟩ := slice_form h0
  refine wo_seg Θ_ok [1] [(1, (.int .u64 x1)), (2, (.int .i64 x2)), (9, (.slice A8 x0.length c9)), (10, (.int .i64 (x0.length : Int)))] rfl ⟨rfl, rfl, rfl, rfl, trivial⟩ ?_
  refine wo_seg Θ_ok [2] [(1, (.int .u64 x1)), (2, (.int .i64 x2)), (9, (.slice A8 x0.length c9)), (10, (.int .i64 (x0.length : Int))), (11, (.int .i64 0))] rfl ⟨rfl, rfl, rfl, rfl, rfl, trivial⟩ ?_
  refine wo_nil ?_
  refine wq_seq ?_
  refine wc_block ?_
  refine wc_loop (fun m E W => ∃ (rest12 : List GDesc) (i11 : Nat) (O15 : List Nat), rest12.length = m ∧ x0.drop i11 = rest12 ∧ E = [(1, (.int .u64 x1)), (2, (.int .i64 x2)), (9, (.slice A8 x0.length c9)), (10, (.int .i64 (x0.length : Int))), (11, (.int .i64 (i11 : Int)))] ∧ Tr O w O15 W ∧ OB O15 W ∧ Sub O O15 ∧ Fr [] w W ∧ r_Find_l1 x1 x2 k2 rest12 i11 = r) _ [(1, (.int .u64 x1)), (2, (.int .i64 x2)), (9, (.slice A8 x0.length c9)), (10, (.int .i64 (x0.length : Int))), (11, (.int .i64 ((0 : Nat) : Int)))] ⟨rfl, rfl, rfl, rfl, rfl, trivial⟩ ⟨x0, 0, O, rfl, rfl, rfl, Tr.refl _ _, hO, hS, hF, h⟩ ?_
  rintro m E w16 ⟨rest12, i11, O15, rfl, hd14, rfl, T10, hO, hS, hF, h⟩
  have T1 := T1.trans T10
  have h0 := h0.tr T10
  rcases rest12 with _ | ⟨z13, rest12⟩
  · rw [r_Find_l1] at h
    have hl20 := drop_nil hd14
    have hc17 : (decide ((i11 : Int) < (x0.length : Int))) = false := decide_eq_false (by omega)
    refine wc_seq ?_
    refine wc_region (l := [0]) rfl ?_
    refine wo_seg Θ_ok [0] [(1, (.int .u64 x1)), (2, (.int .i64 x2)), (9, (.slice A8 x0.length c9)), (10, (.int .i64 (x0.length : Int))), (11, (.int .i64 (i11 : Int))), (12, (.bool (decide ((i11 : Int) < (x0.length : Int)))))] rfl ⟨rfl, rfl, rfl, rfl, rfl, rfl, trivial⟩ ?_
    refine wo_nil ?_
    refine wq_seq ?_
    refine wc_seq ?_
    refine wc_known_false rfl hc17 ?_
    refine wc_exit ?_
    exact wq_then_exit (wq_then_exit (wq_block_exit (wq_join hK5 [] trivial ⟨O15, rfl, T1, hO, hS, hF, h⟩)))
  rw [r_Find_l1] at h
  obtain ⟨hl21, hg19, hd14⟩ := drop_cons hd14
  have hc18 : (decide ((i11 : Int) < (x0.length : Int))) = true := decide_eq_true (by omega)
  refine wc_seq ?_
  refine wc_region (l := [0]) rfl ?_
  refine wo_seg Θ_ok [0] [(1, (.int .u64 x1)), (2, (.int .i64 x2)), (9, (.slice A8 x0.length c9)), (10, (.int .i64 (x0.length : Int))), (11, (.int .i64 (i11 : Int))), (12, (.bool (decide ((i11 : Int) < (x0.length : Int)))))] rfl ⟨rfl, rfl, rfl, rfl, rfl, rfl, trivial⟩ ?_
  refine wo_nil ?_
  refine wq_seq ?_
  refine wc_seq ?_
  refine wc_known_true rfl hc18 ?_
  refine wc_skip ?_
  refine wq_seq ?_
  refine wc_seq ?_
  refine wc_block ?_
  refine wc_seq ?_
  refine wc_region (l := [0, 1, 2, 3, 4, 5]) rfl ?_
  refine wo_seg Θ_ok [0] [(1, (.int .u64 x1)), (2, (.int .i64 x2)), (9, (.slice A8 x0.length c9)), (10, (.int .i64 (x0.length : Int))), (11, (.int .i64 (i11 : Int))), (13, (.int .i64 (i11 : Int)))] rfl ⟨rfl, rfl, rfl, rfl, rfl, rfl, trivial⟩ ?_
  refine wo_index Θ_ok rfl rfl rfl rfl rfl rfl rfl rfl rfl rfl h0 rfl (by omega) hg19 (fun p22 h23 => ?_)
  refine wo_loadp Θ_ok rfl rfl rfl rfl rfl rfl rfl h23 rfl rfl (fun v24 h25 => ?_)
  obtain rfl := tGDesc_is.1 h25
  refine wo_alloc Θ_ok rfl rfl rfl rfl rfl rfl [(.int .u64 0), (.int .i64 0), (.int .u64 0)] rfl hO (fun b26 w27 n28 => ?_)
  have h0 := h0.tr n28.tr
  have T1 := T1.trans n28.tr
  have T10 := T10.trans n28.tr
  have hb26 := n28.blk
  have gb26 := n28.ge0 hF
  have ib26 : b26 ∈ b26 :: O15 := List.mem_cons_self
  have hO := n28.ob
  have hF := hF.trans n28.fr
  have hS := Sub.cons hS b26
  refine wo_seg Θ_ok [4] [(1, (.int .u64 x1)), (2, (.int .i64 x2)), (7, (.int .i64 (i11 : Int))), (8, (.pointer (some ⟨b26, 0, none⟩))), (9, (.slice A8 x0.length c9)), (10, (.int .i64 (x0.length : Int))), (11, (.int .i64 (i11 : Int))), (15, (.agg #[(.int .u64 z13.fPid), (.int .i64 z13.fFd), (.int .u64 z13.fWhat)]))] rfl ⟨rfl, rfl, rfl, rfl, rfl, rfl, rfl, rfl, trivial⟩ ?_
  refine wo_store Θ_ok rfl rfl rfl rfl rfl rfl rfl hb26 [(.int .u64 z13.fPid), (.int .i64 z13.fFd), (.int .u64 z13.fWhat)] rfl rfl (by simp [Value.oneCell']) rfl [(.int .u64 z13.fPid), (.int .i64 z13.fFd), (.int .u64 z13.fWhat)] rfl (fun w29 hb26 f30 => ?_)
  have h0 := h0.tr (f30.tr (one_in ib26))
  have T1 := T1.trans (f30.tr (one_in ib26))
  have T10 := T10.trans (f30.tr (one_in ib26))
  have hO := f30.ob hO
  have hF := hF.own f30 gb26
  refine wo_nil ?_
  refine wq_seq ?_
  refine wc_seq ?_
  refine wc_region (l := [0, 1, 2, 3, 4, 5, 6, 7, 8, 9]) rfl ?_
  refine wo_seg Θ_ok [0] [(1, (.int .u64 x1)), (2, (.int .i64 x2)), (7, (.int .i64 (i11 : Int))), (8, (.pointer (some ⟨b26, 0, none⟩))), (9, (.slice A8 x0.length c9)), (10, (.int .i64 (x0.length : Int))), (11, (.int .i64 (i11 : Int))), (16, (.pointer (some ⟨b26, 0, none⟩)))] rfl ⟨rfl, rfl, rfl, rfl, rfl, rfl, rfl, rfl, trivial⟩ ?_
  refine wo_load Θ_ok rfl rfl rfl rfl rfl rfl rfl hb26 [(.int .u64 z13.fPid)] rfl rfl (.inr rfl) (.int .u64 z13.fPid) rfl ?_
  refine wo_seg Θ_ok [2, 3, 4] [(1, (.int .u64 x1)), (2, (.int .i64 x2)), (7, (.int .i64 (i11 : Int))), (8, (.pointer (some ⟨b26, 0, none⟩))), (9, (.slice A8 x0.length c9)), (10, (.int .i64 (x0.length : Int))), (11, (.int .i64 (i11 : Int))), (20, (.bool (z13.fPid == x1)))] rfl ⟨rfl, rfl, rfl, rfl, rfl, rfl, rfl, rfl, trivial⟩ ?_
  rcases bif_some h with ⟨hc31, h⟩ | ⟨hc31, h⟩
  rotate_left
  · refine wo_know 20 false rfl hc31 ?_
    refine wo_seg Θ_ok [5, 6, 7, 8, 9] [(1, (.int .u64 x1)), (2, (.int .i64 x2)), (7, (.int .i64 (i11 : Int))), (9, (.slice A8 x0.length c9)), (10, (.int .i64 (x0.length : Int))), (11, (.int .i64 (i11 : Int))), (25, (.bool false))] rfl ⟨rfl, rfl, rfl, rfl, rfl, rfl, rfl, trivial⟩ ?_
    refine wo_nil ?_
    refine wq_seq ?_
    refine wc_false rfl ?_
    refine wc_skip ?_
    refine wq_block (wq_seq ?_)
    refine wc_region (l := [0, 1]) rfl ?_
    refine wo_seg Θ_ok [0, 1] [(1, (.int .u64 x1)), (2, (.int .i64 x2)), (9, (.slice A8 x0.length c9)), (10, (.int .i64 (x0.length : Int))), (11, (.int .i64 (IntKind.i64.wrap ((i11 : Int) + (1 : Int)))))] rfl ⟨rfl, rfl, rfl, rfl, rfl, trivial⟩ ?_
    refine wo_nil ?_
    exact wq_next rest12.length [(1, (.int .u64 x1)), (2, (.int .i64 x2)), (9, (.slice A8 x0.length c9)), (10, (.int .i64 (x0.length : Int))), (11, (.int .i64 ((i11 + 1 : Nat) : Int)))] (Nat.lt_succ_self _) ⟨rfl, rfl, rfl, rfl, congrArg (fun z => some (Value.int .i64 z)) (wrap_succ hl21 (Nat.le_trans hlc9 hmc9)), trivial⟩ ⟨rest12, i11 + 1, b26 :: O15, rfl, hd14, rfl, T10, hO, hS, hF, h⟩
  refine wo_know 20 true rfl hc31 ?_
  refine wo_seg Θ_ok [5] [(1, (.int .u64 x1)), (2, (.int .i64 x2)), (7, (.int .i64 (i11 : Int))), (9, (.slice A8 x0.length c9)), (10, (.int .i64 (x0.length : Int))), (11, (.int .i64 (i11 : Int))), (20, (.bool true)), (21, (.pointer (some ⟨b26, 1, none⟩)))] rfl ⟨rfl, rfl, rfl, rfl, rfl, rfl, rfl, rfl, trivial⟩ ?_
  refine wo_load Θ_ok rfl rfl rfl rfl rfl rfl rfl hb26 [(.int .i64 z13.fFd)] rfl rfl (.inr rfl) (.int .i64 z13.fFd) rfl ?_
  refine wo_seg Θ_ok [7, 8, 9] [(1, (.int .u64 x1)), (2, (.int .i64 x2)), (7, (.int .i64 (i11 : Int))), (9, (.slice A8 x0.length c9)), (10, (.int .i64 (x0.length : Int))), (11, (.int .i64 (i11 : Int))), (25, (.bool (z13.fFd == x2)))] rfl ⟨rfl, rfl, rfl, rfl, rfl, rfl, rfl, trivial⟩ ?_
  refine wo_nil ?_
  refine wq_seq ?_
  rcases bif_some h with ⟨hc32, h⟩ | ⟨hc32, h⟩
  rotate_left
  · refine wc_known_false rfl hc32 ?_
    refine wc_skip ?_
    refine wq_block (wq_seq ?_)
    refine wc_region (l := [0, 1]) rfl ?_
    refine wo_seg Θ_ok [0, 1] [(1, (.int .u64 x1)), (2, (.int .i64 x2)), (9, (.slice A8 x0.length c9)), (10, (.int .i64 (x0.length : Int))), (11, (.int .i64 (IntKind.i64.wrap ((i11 : Int) + (1 : Int)))))] rfl ⟨rfl, rfl, rfl, rfl, rfl, trivial⟩ ?_
    refine wo_nil ?_
    exact wq_next rest12.length [(1, (.int .u64 x1)), (2, (.int .i64 x2)), (9, (.slice A8 x0.length c9)), (10, (.int .i64 (x0.length : Int))), (11, (.int .i64 ((i11 + 1 : Nat) : Int)))] (Nat.lt_succ_self _) ⟨rfl, rfl, rfl, rfl, congrArg (fun z => some (Value.int .i64 z)) (wrap_succ hl21 (Nat.le_trans hlc9 hmc9)), trivial⟩ ⟨rest12, i11 + 1, b26 :: O15, rfl, hd14, rfl, T10, hO, hS, hF, h⟩
  refine wc_known_true rfl hc32 ?_
  refine wc_seq ?_
  refine wc_region (l := [0, 1]) rfl ?_
  refine wo_seg Θ_ok [0, 1] [(6, (.int .i64 (i11 : Int)))] rfl ⟨rfl, trivial⟩ ?_
  refine wo_nil ?_
  refine wq_seq ?_
  refine wc_ret ?_
  subst h
  exact wq_block_ret (wq_then_ret (wq_then_ret (wq_block_ret (wq_then_ret (wq_ret rfl ⟨_, rfl, (int_is.2 rfl), hF⟩)))))
set_option maxRecDepth 100000 in
set_option maxHeartbeats 4000000 in
theorem r_Count_c {O : List Nat} {w : World} (hO : OB O w) {v0 : Value} {x0 : List GDesc} (h0 : (Ty.slice tGDesc).is O w v0 x0) {v1 : Value} {x1 : Int} (h1 : (Ty.int .u64).is O w v1 x1) : Calls Tryd.prog 17 #[v0, v1] w (Gives (rt1 (Ty.int .i64)) O w (r_Count x0 x1)) := by
  obtain rfl := int_is.1 h1
  have hF := Fr.refl [] w
  have hO0 := hO
  have hS := Sub.refl O
  obtain ⟨r, h⟩ : ∃ r, r_Count x0 x1 = r := ⟨_, rfl⟩
  rw [h]
  refine calls_of (args := [v0, (.int .u64 x1)]) (N := 22) Tryd.func17 rfl rfl rfl ?_
  unfold r_Count at h
  refine wc_seq ?_
  refine wc_region (l := [0]) rfl ?_
  refine wo_seg Θ_ok [0] [(0, v0), (1, (.int .u64 x1))] rfl ⟨rfl, rfl, trivial⟩ ?_
  refine wo_nil ?_
  refine wq_seq ?_
  refine wc_seq ?_
  refine wc_region (l := [0]) rfl ?_
  refine wo_seg Θ_ok [0] [(0, v0), (1, (.int .u64 x1)), (5, (.int .i64 0))] rfl ⟨rfl, rfl, rfl, trivial⟩ ?_
  refine wo_nil ?_
  refine wq_seq ?_
  obtain ⟨k2, hk3, h⟩ := letk_some h
  refine wc_join (fun E W => ∃ (O7 : List Nat) (p6 : Int), E = [(5, (.int .i64 p6))] ∧ Tr O w O7 W ∧ OB O7 W ∧ Sub O O7 ∧ Fr [] w W ∧ k2 p6 = r) ?_ (fun K4 hK5 => ?_)
  · rintro E w8 ⟨O7, p6, rfl, T1, hO, hS, hF, h⟩
    subst hk3
    (try dsimp only at h)
    refine wc_seq ?_
    refine wc_region (l := [0, 1]) rfl ?_
    refine wo_seg Θ_ok [0, 1] [(4, (.int .i64 p6))] rfl ⟨rfl, trivial⟩ ?_
    refine wo_nil ?_
    refine wq_seq ?_
    refine wc_ret ?_
    subst h
    exact wq_ret rfl ⟨_, rfl, (int_is.2 rfl), hF⟩
  clear hk3
  have T1 := Tr.refl O w
  refine wc_seq ?_
  refine wc_region (l := [0, 1, 2]) rfl ?_
  refine wo_seg Θ_ok [0] [(1, (.int .u64 x1)), (5, (.int .i64 0)), (8, v0)] rfl ⟨rfl, rfl, rfl, trivial⟩ ?_
  obtain ⟨A9, c10, rfl, hlc10, hmc10⟩ := slice_form h0
  refine wo_seg Θ_ok [1] [(1, (.int .u64 x1)), (5, (.int .i64 0)), (8, (.slice A9 x0.length c10)), (9, (.int .i64 (x0.length : Int)))] rfl ⟨rfl, rfl, rfl, rfl, trivial⟩ ?_
  refine wo_seg Θ_ok [2] [(1, (.int .u64 x1)), (5, (.int .i64 0)), (8, (.slice A9 x0.length c10)), (9, (.int .i64 (x0.length : Int))), (10, (.int .i64 0))] rfl ⟨rfl, rfl, rfl, rfl, rfl, trivial⟩ ?_
  refine wo_nil ?_
  refine wq_seq ?_
  refine wc_block ?_
  refine wc_loop (fun m E W => ∃ (rest14 : List GDesc) (i13 : Nat) (O17 : List Nat) (p12 : Int), rest14.length = m ∧ x0.drop i13 = rest14 ∧ E = [(1, (.int .u64 x1)), (5, (.int .i64 p12)), (8, (.slice A9 x0.length c10)), (9, (.int .i64 (x0.length : Int))), (10, (.int .i64 (i13 : Int)))] ∧ Tr O w O17 W ∧ OB O17 W ∧ Sub O O17 ∧ Fr [] w W ∧ r_Count_l1 x1 k2 rest14 i13 p12 = r) _ [(1, (.int .u64 x1)), (5, (.int .i64 0)), (8, (.slice A9 x0.length c10)), (9, (.int .i64 (x0.length : Int))), (10, (.int .i64 ((0 : Nat) : Int)))] ⟨rfl, rfl, rfl, rfl, rfl, trivial⟩ ⟨x0, 0, O, (0 : Int), rfl, rfl, rfl, Tr.refl _ _, hO, hS, hF, h⟩ ?_
  rintro m E w18 ⟨rest14, i13, O17, p12, rfl, hd16, rfl, T11, hO, hS, hF, h⟩
  have T1 := T1.trans T11
  have h0 := h0.tr T11
  rcases rest14 with _ | ⟨z15, rest14⟩
  · rw [r_Count_l1] at h
    have hl22 := drop_nil hd16
    have hc19 : (decide ((i13 : Int) < (x0.length : Int))) = false := decide_eq_false (by omega)
    refine wc_seq ?_
    refine wc_region (l := [0]) rfl ?_
    refine wo_seg Θ_ok [0] [(1, (.int .u64 x1)), (5, (.int .i64 p12)), (8, (.slice A9 x0.length c10)), (9, (.int .i64 (x0.length : Int))), (10, (.int .i64 (i13 : Int))), (11, (.bool (decide ((i13 : Int) < (x0.length : Int)))))] rfl ⟨rfl, rfl, rfl, rfl, rfl, rfl, trivial⟩ ?_
    refine wo_nil ?_
    refine wq_seq ?_
    refine wc_seq ?_
    refine wc_known_false rfl hc19 ?_
    refine wc_exit ?_
    exact wq_then_exit (wq_then_exit (wq_block_exit (wq_join hK5 [(5, (.int .i64 p12))] ⟨rfl, trivial⟩ ⟨O17, p12, rfl, T1, hO, hS, hF, h⟩)))
  rw [r_Count_l1] at h
  obtain ⟨hl23, hg21, hd16⟩ := drop_cons hd16
  have hc20 : (decide ((i13 : Int) < (x0.length : Int))) = true := decide_eq_true (by omega)
  refine wc_seq ?_
  refine wc_region (l := [0]) rfl ?_
  refine wo_seg Θ_ok [0] [(1, (.int .u64 x1)), (5, (.int .i64 p12)), (8, (.slice A9 x0.length c10)), (9, (.int .i64 (x0.length : Int))), (10, (.int .i64 (i13 : Int))), (11, (.bool (decide ((i13 : Int) < (x0.length : Int)))))] rfl ⟨rfl, rfl, rfl, rfl, rfl, rfl, trivial⟩ ?_
  refine wo_nil ?_
  refine wq_seq ?_
  refine wc_seq ?_
  refine wc_known_true rfl hc20 ?_
  refine wc_skip ?_
  refine wq_seq ?_
  refine wc_seq ?_
  refine wc_block ?_
  refine wc_seq ?_
  refine wc_region (l := [0, 1, 2, 3]) rfl ?_
  refine wo_index Θ_ok rfl rfl rfl rfl rfl rfl rfl rfl rfl rfl h0 rfl (by omega) hg21 (fun p24 h25 => ?_)
  refine wo_loadp Θ_ok rfl rfl rfl rfl rfl rfl rfl h25 rfl rfl (fun v26 h27 => ?_)
  obtain rfl := tGDesc_is.1 h27
  refine wo_alloc Θ_ok rfl rfl rfl rfl rfl rfl [(.int .u64 0), (.int .i64 0), (.int .u64 0)] rfl hO (fun b28 w29 n30 => ?_)
  have h0 := h0.tr n30.tr
  have T1 := T1.trans n30.tr
  have T11 := T11.trans n30.tr
  have hb28 := n30.blk
  have gb28 := n30.ge0 hF
  have ib28 : b28 ∈ b28 :: O17 := List.mem_cons_self
  have hO := n30.ob
  have hF := hF.trans n30.fr
  have hS := Sub.cons hS b28
  refine wo_store Θ_ok rfl rfl rfl rfl rfl rfl rfl hb28 [(.int .u64 z15.fPid), (.int .i64 z15.fFd), (.int .u64 z15.fWhat)] rfl rfl (by simp [Value.oneCell']) rfl [(.int .u64 z15.fPid), (.int .i64 z15.fFd), (.int .u64 z15.fWhat)] rfl (fun w31 hb28 f32 => ?_)
  have h0 := h0.tr (f32.tr (one_in ib28))
  have T1 := T1.trans (f32.tr (one_in ib28))
  have T11 := T11.trans (f32.tr (one_in ib28))
  have hO := f32.ob hO
  have hF := hF.own f32 gb28
  refine wo_nil ?_
  refine wq_seq ?_
  refine wc_seq ?_
  refine wc_region (l := [0, 1, 2, 3]) rfl ?_
  refine wo_seg Θ_ok [0] [(1, (.int .u64 x1)), (5, (.int .i64 p12)), (8, (.slice A9 x0.length c10)), (9, (.int .i64 (x0.length : Int))), (10, (.int .i64 (i13 : Int))), (14, (.pointer (some ⟨b28, 2, none⟩)))] rfl ⟨rfl, rfl, rfl, rfl, rfl, rfl, trivial⟩ ?_
  refine wo_load Θ_ok rfl rfl rfl rfl rfl rfl rfl hb28 [(.int .u64 z15.fWhat)] rfl rfl (.inr rfl) (.int .u64 z15.fWhat) rfl ?_
  refine wo_seg Θ_ok [2, 3] [(1, (.int .u64 x1)), (5, (.int .i64 p12)), (8, (.slice A9 x0.length c10)), (9, (.int .i64 (x0.length : Int))), (10, (.int .i64 (i13 : Int))), (17, (.bool (z15.fWhat == x1)))] rfl ⟨rfl, rfl, rfl, rfl, rfl, rfl, trivial⟩ ?_
  refine wo_nil ?_
  refine wq_seq ?_
  rcases bif_some h with ⟨hc33, h⟩ | ⟨hc33, h⟩
  rotate_left
  · refine wc_known_false rfl hc33 ?_
    refine wc_skip ?_
    refine wq_block (wq_seq ?_)
    refine wc_region (l := [0, 1]) rfl ?_
    refine wo_seg Θ_ok [0, 1] [(1, (.int .u64 x1)), (5, (.int .i64 p12)), (8, (.slice A9 x0.length c10)), (9, (.int .i64 (x0.length : Int))), (10, (.int .i64 (IntKind.i64.wrap ((i13 : Int) + (1 : Int)))))] rfl ⟨rfl, rfl, rfl, rfl, rfl, trivial⟩ ?_
    refine wo_nil ?_
    exact wq_next rest14.length [(1, (.int .u64 x1)), (5, (.int .i64 p12)), (8, (.slice A9 x0.length c10)), (9, (.int .i64 (x0.length : Int))), (10, (.int .i64 ((i13 + 1 : Nat) : Int)))] (Nat.lt_succ_self _) ⟨rfl, rfl, rfl, rfl, congrArg (fun z => some (Value.int .i64 z)) (wrap_succ hl23 (Nat.le_trans hlc10 hmc10)), trivial⟩ ⟨rest14, i13 + 1, b28 :: O17, p12, rfl, hd16, rfl, T11, hO, hS, hF, h⟩
  refine wc_known_true rfl hc33 ?_
  refine wc_region (l := [0, 1, 2]) rfl ?_
  refine wo_seg Θ_ok [0, 1, 2] [(1, (.int .u64 x1)), (5, (.int .i64 (IntKind.i64.wrap (p12 + (1 : Int))))), (8, (.slice A9 x0.length c10)), (9, (.int .i64 (x0.length : Int))), (10, (.int .i64 (i13 : Int)))] rfl ⟨rfl, rfl, rfl, rfl, rfl, trivial⟩ ?_
  refine wo_nil ?_
  refine wq_block (wq_seq ?_)
  refine wc_region (l := [0, 1]) rfl ?_
  refine wo_seg Θ_ok [0, 1] [(1, (.int .u64 x1)), (5, (.int .i64 (IntKind.i64.wrap (p12 + (1 : Int))))), (8, (.slice A9 x0.length c10)), (9, (.int .i64 (x0.length : Int))), (10, (.int .i64 (IntKind.i64.wrap ((i13 : Int) + (1 : Int)))))] rfl ⟨rfl, rfl, rfl, rfl, rfl, trivial⟩ ?_
  refine wo_nil ?_
  exact wq_next rest14.length [(1, (.int .u64 x1)), (5, (.int .i64 (IntKind.i64.wrap (p12 + (1 : Int))))), (8, (.slice A9 x0.length c10)), (9, (.int .i64 (x0.length : Int))), (10, (.int .i64 ((i13 + 1 : Nat) : Int)))] (Nat.lt_succ_self _) ⟨rfl, rfl, rfl, rfl, congrArg (fun z => some (Value.int .i64 z)) (wrap_succ hl23 (Nat.le_trans hlc10 hmc10)), trivial⟩ ⟨rest14, i13 + 1, b28 :: O17, (IntKind.i64.wrap (p12 + (1 : Int))), rfl, hd16, rfl, T11, hO, hS, hF, h⟩
set_option maxRecDepth 100000 in
set_option maxHeartbeats 4000000 in
theorem r_Same_c {O : List Nat} {w : World} (hO : OB O w) {v0 : Value} {x0 : List GDesc} (h0 : (Ty.slice tGDesc).is O w v0 x0) {v1 : Value} {x1 : List GDesc} (h1 : (Ty.slice tGDesc).is O w v1 x1) {r : Bool} (h : r_Same x0 x1 = some r) : Calls Tryd.prog 23 #[v0, v1] w (Gives (rt1 Ty.bool) O w r) := by
  have hF := Fr.refl [] w
  have hO0 := hO
  have hS := Sub.refl O
  refine calls_of (args := [v0, v1]) (N := 26) Tryd.func23 rfl rfl rfl ?_
  unfold r_Same at h
  refine wc_seq ?_
  refine wc_region (l := [0]) rfl ?_
  refine wo_seg Θ_ok [0] [(0, v0), (1, v1)] rfl ⟨rfl, rfl, trivial⟩ ?_
  refine wo_nil ?_
  refine wq_seq ?_
  refine wc_seq ?_
  refine wc_seq ?_
  refine wc_region (l := [0, 1, 2, 3, 4]) rfl ?_
  refine wo_seg Θ_ok [0] [(0, v0), (1, v1), (7, v0)] rfl ⟨rfl, rfl, rfl, trivial⟩ ?_
  obtain ⟨A1, c2, rfl, hlc2, hmc2⟩ := slice_form h0
  refine wo_seg Θ_ok [1] [(0, (.slice A1 x0.length c2)), (1, v1), (8, (.int .i64 (x0.length : Int)))] rfl ⟨rfl, rfl, rfl, trivial⟩ ?_
  refine wo_seg Θ_ok [2] [(0, (.slice A1 x0.length c2)), (1, v1), (8, (.int .i64 (x0.length : Int))), (9, v1)] rfl ⟨rfl, rfl, rfl, rfl, trivial⟩ ?_
  obtain ⟨A3, c4, rfl, hlc4, hmc4⟩ := slice_form h1
  refine wo_seg Θ_ok [3] [(0, (.slice A1 x0.length c2)), (1, (.slice A3 x1.length c4)), (8, (.int .i64 (x0.length : Int))), (10, (.int .i64 (x1.length : Int)))] rfl ⟨rfl, rfl, rfl, rfl, trivial⟩ ?_
  refine wo_seg Θ_ok [4] [(0, (.slice A1 x0.length c2)), (1, (.slice A3 x1.length c4)), (11, (.bool ((x0.length : Int) != (x1.length : Int))))] rfl ⟨rfl, rfl, rfl, trivial⟩ ?_
  refine wo_nil ?_
  refine wq_seq ?_
  rcases bif_some h with ⟨hc5, h⟩ | ⟨hc5, h⟩
  · refine wc_known_true rfl hc5 ?_
    refine wc_seq ?_
    refine wc_region (l := [0]) rfl ?_
    refine wo_seg Θ_ok [0] [(4, (.bool false))] rfl ⟨rfl, trivial⟩ ?_
    refine wo_nil ?_
    refine wq_seq ?_
    refine wc_ret ?_
    cases h
    exact wq_then_ret (wq_ret rfl ⟨_, rfl, (bool_is.2 rfl), hF⟩)
  refine wc_known_false rfl hc5 ?_
  refine wc_skip ?_
  refine wq_seq ?_
  obtain ⟨k7, hk8, h⟩ := letk_some h
  refine wc_join (fun E W => ∃ (O11 : List Nat), E = [] ∧ Tr O w O11 W ∧ OB O11 W ∧ Sub O O11 ∧ Fr [] w W ∧ k7 = some r) ?_ (fun K9 hK10 => ?_)
  · rintro E w12 ⟨O11, rfl, T6, hO, hS, hF, h⟩
    subst hk8
    (try dsimp only at h)
    refine wc_seq ?_
    refine wc_region (l := [0]) rfl ?_
    refine wo_seg Θ_ok [0] [(4, (.bool true))] rfl ⟨rfl, trivial⟩ ?_
    refine wo_nil ?_
    refine wq_seq ?_
    refine wc_ret ?_
    cases h
    exact wq_ret rfl ⟨_, rfl, (bool_is.2 rfl), hF⟩
  clear hk8
  have T6 := Tr.refl O w
  refine wc_seq ?_
  refine wc_region (l := [0, 1, 2]) rfl ?_
  refine wo_seg Θ_ok [0, 1, 2] [(1, (.slice A3 x1.length c4)), (12, (.slice A1 x0.length c2)), (13, (.int .i64 (x0.length : Int))), (14, (.int .i64 0))] rfl ⟨rfl, rfl, rfl, rfl, trivial⟩ ?_
  refine wo_nil ?_
  refine wq_seq ?_
  refine wc_block ?_
  refine wc_loop (fun m E W => ∃ (rest15 : List GDesc) (i14 : Nat) (O18 : List Nat), rest15.length = m ∧ x0.drop i14 = rest15 ∧ E = [(1, (.slice A3 x1.length c4)), (12, (.slice A1 x0.length c2)), (13, (.int .i64 (x0.length : Int))), (14, (.int .i64 (i14 : Int)))] ∧ Tr O w O18 W ∧ OB O18 W ∧ Sub O O18 ∧ Fr [] w W ∧ r_Same_l1 x1 k7 rest15 i14 = some r) _ [(1, (.slice A3 x1.length c4)), (12, (.slice A1 x0.length c2)), (13, (.int .i64 (x0.length : Int))), (14, (.int .i64 ((0 : Nat) : Int)))] ⟨rfl, rfl, rfl, rfl, trivial⟩ ⟨x0, 0, O, rfl, rfl, rfl, Tr.refl _ _, hO, hS, hF, h⟩ ?_
  rintro m E w19 ⟨rest15, i14, O18, rfl, hd17, rfl, T13, hO, hS, hF, h⟩
  have T6 := T6.trans T13
  have h1 := h1.tr T13
  have h0 := h0.tr T13
  rcases rest15 with _ | ⟨z16, rest15⟩
  · rw [r_Same_l1] at h
    have hl23 := drop_nil hd17
    have hc20 : (decide ((i14 : Int) < (x0.length : Int))) = false := decide_eq_false (by omega)
    refine wc_seq ?_
    refine wc_region (l := [0]) rfl ?_
    refine wo_seg Θ_ok [0] [(1, (.slice A3 x1.length c4)), (12, (.slice A1 x0.length c2)), (13, (.int .i64 (x0.length : Int))), (14, (.int .i64 (i14 : Int))), (15, (.bool (decide ((i14 : Int) < (x0.length : Int)))))] rfl ⟨rfl, rfl, rfl, rfl, rfl, trivial⟩ ?_
    refine wo_nil ?_
    refine wq_seq ?_
    refine wc_seq ?_
    refine wc_known_false rfl hc20 ?_
    refine wc_exit ?_
    exact wq_then_exit (wq_then_exit (wq_block_exit (wq_join hK10 [] trivial ⟨O18, rfl, T6, hO, hS, hF, h⟩)))
  rw [r_Same_l1] at h
  obtain ⟨hl24, hg22, hd17⟩ := drop_cons hd17
  have hc21 : (decide ((i14 : Int) < (x0.length : Int))) = true := decide_eq_true (by omega)
  refine wc_seq ?_
  refine wc_region (l := [0]) rfl ?_
  refine wo_seg Θ_ok [0] [(1, (.slice A3 x1.length c4)), (12, (.slice A1 x0.length c2)), (13, (.int .i64 (x0.length : Int))), (14, (.int .i64 (i14 : Int))), (15, (.bool (decide ((i14 : Int) < (x0.length : Int)))))] rfl ⟨rfl, rfl, rfl, rfl, rfl, trivial⟩ ?_
  refine wo_nil ?_
  refine wq_seq ?_
  refine wc_seq ?_
  refine wc_known_true rfl hc21 ?_
  refine wc_skip ?_
  refine wq_seq ?_
  refine wc_seq ?_
  refine wc_block ?_
  refine wc_seq ?_
  refine wc_region (l := [0, 1, 2, 3, 4, 5]) rfl ?_
  refine wo_seg Θ_ok [0] [(1, (.slice A3 x1.length c4)), (12, (.slice A1 x0.length c2)), (13, (.int .i64 (x0.length : Int))), (14, (.int .i64 (i14 : Int))), (16, (.int .i64 (i14 : Int)))] rfl ⟨rfl, rfl, rfl, rfl, rfl, trivial⟩ ?_
  refine wo_index Θ_ok rfl rfl rfl rfl rfl rfl rfl rfl rfl rfl h0 rfl (by omega) hg22 (fun p25 h26 => ?_)
  refine wo_loadp Θ_ok rfl rfl rfl rfl rfl rfl rfl h26 rfl rfl (fun v27 h28 => ?_)
  obtain rfl := tGDesc_is.1 h28
  refine wo_alloc Θ_ok rfl rfl rfl rfl rfl rfl [(.int .u64 0), (.int .i64 0), (.int .u64 0)] rfl hO (fun b29 w30 n31 => ?_)
  have h1 := h1.tr n31.tr
  have h0 := h0.tr n31.tr
  have T6 := T6.trans n31.tr
  have T13 := T13.trans n31.tr
  have hb29 := n31.blk
  have gb29 := n31.ge0 hF
  have ib29 : b29 ∈ b29 :: O18 := List.mem_cons_self
  have hO := n31.ob
  have hF := hF.trans n31.fr
  have hS := Sub.cons hS b29
  refine wo_seg Θ_ok [4] [(1, (.slice A3 x1.length c4)), (5, (.int .i64 (i14 : Int))), (6, (.pointer (some ⟨b29, 0, none⟩))), (12, (.slice A1 x0.length c2)), (13, (.int .i64 (x0.length : Int))), (14, (.int .i64 (i14 : Int))), (18, (.agg #[(.int .u64 z16.fPid), (.int .i64 z16.fFd), (.int .u64 z16.fWhat)]))] rfl ⟨rfl, rfl, rfl, rfl, rfl, rfl, rfl, trivial⟩ ?_
  refine wo_store Θ_ok rfl rfl rfl rfl rfl rfl rfl hb29 [(.int .u64 z16.fPid), (.int .i64 z16.fFd), (.int .u64 z16.fWhat)] rfl rfl (by simp [Value.oneCell']) rfl [(.int .u64 z16.fPid), (.int .i64 z16.fFd), (.int .u64 z16.fWhat)] rfl (fun w32 hb29 f33 => ?_)
  have h1 := h1.tr (f33.tr (one_in ib29))
  have h0 := h0.tr (f33.tr (one_in ib29))
  have T6 := T6.trans (f33.tr (one_in ib29))
  have T13 := T13.trans (f33.tr (one_in ib29))
  have hO := f33.ob hO
  have hF := hF.own f33 gb29
  refine wo_nil ?_
  refine wq_seq ?_
  refine wc_seq ?_
  obtain ⟨y34, hz35, h⟩ := bind_some h
  refine wc_draw mixed [⟨19, [], [6]⟩, ⟨20, [], [1]⟩, ⟨21, [], [5]⟩, ⟨22, [1, 2], []⟩, ⟨23, [3], []⟩, ⟨24, [0, 4], []⟩] [SP.eq (.agg #[(.int .u64 z16.fPid), (.int .i64 z16.fFd), (.int .u64 z16.fWhat)]), SP.is (Ty.slice tGDesc) (b29 :: O18) x1, SP.eq (.int .i64 (i14 : Int)), SP.is (Ty.ptr tGDesc) (b29 :: O18) y34, SP.eq (.agg #[(.int .u64 y34.fPid), (.int .i64 y34.fFd), (.int .u64 y34.fWhat)]), SP.eq (.bool (!(eqGDesc z16 y34)))] rfl rfl rfl ⟨?_, ?_, ?_, ?_, ?_, ?_, trivial⟩ ?_
  · intro a w2 hfr hN hds hb hd
    have hb29 := hb29.fr0 hfr
    exact op_load Θ_ok ⟨hN, hds, rows_get (E := [(6, (.pointer (some ⟨b29, 0, none⟩)))]) ⟨hb 6 rfl _ rfl, trivial⟩⟩ rfl rfl rfl rfl rfl rfl hb29 [(.int .u64 z16.fPid), (.int .i64 z16.fFd), (.int .u64 z16.fWhat)] rfl rfl (.inl rfl) (.agg #[(.int .u64 z16.fPid), (.int .i64 z16.fFd), (.int .u64 z16.fWhat)]) rfl
  · intro a w2 hfr hN hds hb hd
    have h1 := h1.tr hfr.tr0
    exact (op_plain Θ_ok ⟨hN, hds, rows_get (E := [(1, (.slice A3 x1.length c4))]) ⟨hb 1 rfl _ rfl, trivial⟩⟩ rfl rfl rfl rfl rfl).weaken (fun u w3 ⟨hu, hf⟩ => by subst hu; exact ⟨h1.tr hf.tr0, hf⟩)
  · intro a w2 hfr hN hds hb hd
    exact op_plain Θ_ok ⟨hN, hds, rows_get (E := [(5, (.int .i64 (i14 : Int)))]) ⟨hb 5 rfl _ rfl, trivial⟩⟩ rfl rfl rfl rfl rfl
  · intro a w2 hfr hN hds hb hd
    have d38 : (Ty.slice tGDesc).is (b29 :: O18) w2 (a.tmps.getD 20 undef) x1 := hd 1 rfl _ _ rfl rfl
    obtain ⟨u36, e37⟩ : ∃ v, a.tmps.getD 20 undef = v := ⟨_, rfl⟩
    rw [e37] at d38
    exact op_index (j := (i14 : Int)) Θ_ok ⟨hN, hds, rows_get (E := [(20, u36), (21, (.int .i64 (i14 : Int)))]) ⟨e37, (hd 2 rfl _ _ rfl rfl), trivial⟩⟩ rfl rfl rfl rfl rfl rfl rfl rfl rfl d38 rfl (idx_some hz35).1 (idx_some hz35).2
  · intro a w2 hfr hN hds hb hd
    have d41 : (Ty.ptr tGDesc).is (b29 :: O18) w2 (a.tmps.getD 22 undef) y34 := hd 3 rfl _ _ rfl rfl
    obtain ⟨u39, e40⟩ : ∃ v, a.tmps.getD 22 undef = v := ⟨_, rfl⟩
    rw [e40] at d41
    exact (op_loadp Θ_ok ⟨hN, hds, rows_get (E := [(22, u39)]) ⟨e40, trivial⟩⟩ rfl rfl rfl rfl rfl rfl d41 rfl rfl).weaken (fun u w3 ⟨hu, hf⟩ => ⟨tGDesc_is.1 hu, hf⟩)
  · intro a w2 hfr hN hds hb hd
    exact op_bin ⟨hN, hds, rows_get (E := [(19, (.agg #[(.int .u64 z16.fPid), (.int .i64 z16.fFd), (.int .u64 z16.fWhat)])), (23, (.agg #[(.int .u64 y34.fPid), (.int .i64 y34.fFd), (.int .u64 y34.fWhat)]))]) ⟨(hd 0 rfl _ _ rfl rfl), (hd 4 rfl _ _ rfl rfl), trivial⟩⟩ rfl rfl rfl rfl rfl rfl (neq29 _ _)
  intro a w43 f42 hN hds hb hr
  have h1 := h1.tr f42.tr0
  have h0 := h0.tr f42.tr0
  have T6 := T6.trans f42.tr0
  have T13 := T13.trans f42.tr0
  have hO := f42.ob hO
  have hF := hF.trans f42
  refine wq_go (E := [(1, (.slice A3 x1.length c4)), (12, (.slice A1 x0.length c2)), (13, (.int .i64 (x0.length : Int))), (14, (.int .i64 (i14 : Int))), (24, (.bool (!(eqGDesc z16 y34))))]) hN hds ⟨hb 1 _ rfl rfl, hb 12 _ rfl rfl, hb 13 _ rfl rfl, hb 14 _ rfl rfl, (hr 5 _ _ rfl rfl), trivial⟩ ?_
  refine wq_seq ?_
  rcases bif_some h with ⟨hc44, h⟩ | ⟨hc44, h⟩
  rotate_left
  · refine wc_known_false rfl hc44 ?_
    refine wc_skip ?_
    refine wq_block (wq_seq ?_)
    refine wc_region (l := [0, 1]) rfl ?_
    refine wo_seg Θ_ok [0, 1] [(1, (.slice A3 x1.length c4)), (12, (.slice A1 x0.length c2)), (13, (.int .i64 (x0.length : Int))), (14, (.int .i64 (IntKind.i64.wrap ((i14 : Int) + (1 : Int)))))] rfl ⟨rfl, rfl, rfl, rfl, trivial⟩ ?_
    refine wo_nil ?_
    exact wq_next rest15.length [(1, (.slice A3 x1.length c4)), (12, (.slice A1 x0.length c2)), (13, (.int .i64 (x0.length : Int))), (14, (.int .i64 ((i14 + 1 : Nat) : Int)))] (Nat.lt_succ_self _) ⟨rfl, rfl, rfl, congrArg (fun z => some (Value.int .i64 z)) (wrap_succ hl24 (Nat.le_trans hlc2 hmc2)), trivial⟩ ⟨rest15, i14 + 1, b29 :: O18, rfl, hd17, rfl, T13, hO, hS, hF, h⟩
  refine wc_known_true rfl hc44 ?_
  refine wc_seq ?_
  refine wc_region (l := [0]) rfl ?_
  refine wo_seg Θ_ok [0] [(4, (.bool false))] rfl ⟨rfl, trivial⟩ ?_
  refine wo_nil ?_
  refine wq_seq ?_
  refine wc_ret ?_
  cases h
  exact wq_block_ret (wq_then_ret (wq_then_ret (wq_block_ret (wq_then_ret (wq_ret rfl ⟨_, rfl, (bool_is.2 rfl), hF⟩)))))
end Go.Proofs.YtbaffpifmfddeaaDoor
