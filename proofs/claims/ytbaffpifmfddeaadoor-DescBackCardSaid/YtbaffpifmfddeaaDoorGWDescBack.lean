/-
  The program's functions compute the plain ones (printed by a tool of the prover's).
-/
import Derived.Test.YtbaffpifmfddeaaDoorGWalk4
namespace Go.Proofs.YtbaffpifmfddeaaDoor
open Go.RowKit Go.Dc Go.Shelf
set_option maxRecDepth 100000 in
set_option maxHeartbeats 4000000 in
theorem l_Back_c {O : List Nat} {w : World} (hO : OB O w) {fuel : Nat} (hg0 : (Ty.ptr (Ty.slice tGField)).is O w (.pointer (some ⟨0, 0, none⟩)) g_parts) {v0 : Value} {x0 : List GDesc} (h0 : (Ty.slice tGDesc).is O w v0 x0) {v1 : Value} {x1 : Int} (h1 : (Ty.int .u64).is O w v1 x1) {v2 : Value} {x2 : Int} (h2 : (Ty.int .u64).is O w v2 x2) {r : Bool} (h : l_Back fuel x0 x1 x2 = some r) : Calls Tryd.prog 5 #[v0, v1, v2] w (Gives (rt1 Ty.bool) O w r) := by
  obtain rfl := int_is.1 h1
  obtain rfl := int_is.1 h2
  have hF := Fr.refl [] w
  have hO0 := hO
  have hS := Sub.refl O
  refine calls_of (args := [v0, (.int .u64 x1), (.int .u64 x2)]) (N := 120) Tryd.func5 rfl rfl rfl ?_
  unfold l_Back at h
  refine wc_seq ?_
  refine wc_region (l := [0]) rfl ?_
  refine wo_seg Θ_ok [0] [(0, v0), (1, (.int .u64 x1)), (2, (.int .u64 x2))] rfl ⟨rfl, rfl, rfl, trivial⟩ ?_
  refine wo_nil ?_
  refine wq_seq ?_
  refine wc_seq ?_
  refine wc_seq ?_
  refine wc_region (l := [0, 1]) rfl ?_
  obtain ⟨y5, hy6, h⟩ := bind_some h
  refine wo_gives rfl rfl rfl rfl rfl ent6 rfl (wakes_c hO hg0 hy6) (fun v1 w2 h3 f4 => ?_)
  have h0 := h0.tr f4.tr0
  have hg0 := hg0.tr f4.tr0
  have hO := f4.ob hO
  have hF := hF.trans f4
  obtain rfl := bool_is.1 h3
  refine wo_seg Θ_ok [1] [(0, v0), (1, (.int .u64 x1)), (2, (.int .u64 x2)), (23, (.bool (!y5)))] rfl ⟨rfl, rfl, rfl, rfl, trivial⟩ ?_
  refine wo_nil ?_
  refine wq_seq ?_
  rcases bif_some h with ⟨hc7, h⟩ | ⟨hc7, h⟩
  · refine wc_known_true rfl hc7 ?_
    refine wc_seq ?_
    refine wc_region (l := [0]) rfl ?_
    refine wo_seg Θ_ok [0] [(6, (.bool false))] rfl ⟨rfl, trivial⟩ ?_
    refine wo_nil ?_
    refine wq_seq ?_
    refine wc_ret ?_
    cases h
    exact wq_then_ret (wq_ret rfl ⟨_, rfl, (bool_is.2 rfl), hF⟩)
  refine wc_known_false rfl hc7 ?_
  refine wc_skip ?_
  refine wq_seq ?_
  refine wc_seq ?_
  refine wc_region (l := [0, 1, 2]) rfl ?_
  refine wo_seg Θ_ok [0] [(1, (.int .u64 x1)), (2, (.int .u64 x2)), (24, v0)] rfl ⟨rfl, rfl, rfl, trivial⟩ ?_
  obtain ⟨y12, hy13, h⟩ := bind_some h
  refine wo_gives rfl rfl rfl rfl rfl ent7 rfl (own_c hO h0 hy13) (fun v8 w9 h10 f11 => ?_)
  have hg0 := hg0.tr f11.tr0
  have hO := f11.ob hO
  have hF := hF.trans f11
  refine wo_seg Θ_ok [2] [(1, (.int .u64 x1)), (2, (.int .u64 x2)), (7, v8)] rfl ⟨rfl, rfl, rfl, trivial⟩ ?_
  refine wo_nil ?_
  refine wq_seq ?_
  refine wc_seq ?_
  refine wc_region (l := [0, 1, 2, 3, 4, 5, 6, 7, 8, 9, 10]) rfl ?_
  refine wo_seg Θ_ok [0, 1, 2] [(1, (.int .u64 x1)), (2, (.int .u64 x2)), (7, v8), (27, v8), (28, (.int .u64 x1)), (29, (.int .u64 x2))] rfl ⟨rfl, rfl, rfl, rfl, rfl, rfl, trivial⟩ ?_
  obtain ⟨y18, hy19, h⟩ := bind_some h
  refine wo_gives rfl rfl rfl rfl rfl ent10 rfl (d_Open_c hO h10 (int_is.2 rfl) (int_is.2 rfl) hy19) (fun v14 w15 h16 f17 => ?_)
  have h10 := h10.tr f17.tr0
  have hg0 := hg0.tr f17.tr0
  have hO := f17.ob hO
  have hF := hF.trans f17
  obtain ⟨u20, u22, u24, rfl, h21, h23, h25⟩ := h16
  obtain rfl := int_is.1 h23
  obtain rfl := int_is.1 h25
  refine wo_seg Θ_ok [4, 5, 6, 7, 8, 9, 10] [(1, (.int .u64 x1)), (2, (.int .u64 x2)), (7, v8), (8, u20), (9, (.int .i64 y18.2.1)), (10, (.int .i64 y18.2.2))] rfl ⟨rfl, rfl, rfl, rfl, rfl, rfl, trivial⟩ ?_
  refine wo_nil ?_
  refine wq_seq ?_
  refine wc_seq ?_
  refine wc_seq ?_
  refine wc_region (l := [0, 1]) rfl ?_
  refine wo_seg Θ_ok [0, 1] [(1, (.int .u64 x1)), (2, (.int .u64 x2)), (7, v8), (8, u20), (9, (.int .i64 y18.2.1)), (35, (.bool (y18.2.2 != (0 : Int))))] rfl ⟨rfl, rfl, rfl, rfl, rfl, rfl, trivial⟩ ?_
  refine wo_nil ?_
  refine wq_seq ?_
  rcases bif_some h with ⟨hc26, h⟩ | ⟨hc26, h⟩
  · refine wc_known_true rfl hc26 ?_
    refine wc_seq ?_
    refine wc_region (l := [0, 1, 2, 3]) rfl ?_
    refine wo_seg Θ_ok [0] [(36, u20)] rfl ⟨rfl, trivial⟩ ?_
    obtain ⟨A27, c28, rfl, hlc28, hmc28⟩ := slice_form h21
    refine wo_seg Θ_ok [1] [(37, (.int .i64 (y18.1.length : Int)))] rfl ⟨rfl, trivial⟩ ?_
    refine wo_seg Θ_ok [2, 3] [(6, (.bool ((y18.1.length : Int) == (0 : Int))))] rfl ⟨rfl, trivial⟩ ?_
    refine wo_nil ?_
    refine wq_seq ?_
    refine wc_ret ?_
    cases h
    exact wq_then_ret (wq_ret rfl ⟨_, rfl, (bool_is.2 rfl), hF⟩)
  refine wc_known_false rfl hc26 ?_
  refine wc_skip ?_
  refine wq_seq ?_
  refine wc_seq ?_
  refine wc_seq ?_
  refine wc_region (l := [0, 1, 2, 3, 4, 5, 6, 7, 8]) rfl ?_
  refine wo_seg Θ_ok [0, 1, 2] [(1, (.int .u64 x1)), (2, (.int .u64 x2)), (7, v8), (8, u20), (9, (.int .i64 y18.2.1)), (40, u20), (41, (.int .u64 x1)), (42, (.int .i64 y18.2.1))] rfl ⟨rfl, rfl, rfl, rfl, rfl, rfl, rfl, rfl, trivial⟩ ?_
  obtain ⟨y33, hy34, h⟩ := bind_some h
  refine wo_gives rfl rfl rfl rfl rfl ent15 rfl (d_Has_c hO h21 (int_is.2 rfl) (int_is.2 rfl) hy34) (fun v29 w30 h31 f32 => ?_)
  have h10 := h10.tr f32.tr0
  have h21 := h21.tr f32.tr0
  have hg0 := hg0.tr f32.tr0
  have hO := f32.ob hO
  have hF := hF.trans f32
  obtain ⟨u35, u37, rfl, h36, h38⟩ := h31
  obtain rfl := int_is.1 h36
  obtain rfl := bool_is.1 h38
  refine wo_seg Θ_ok [4, 5, 6, 7, 8] [(1, (.int .u64 x1)), (2, (.int .u64 x2)), (7, v8), (8, u20), (9, (.int .i64 y18.2.1)), (11, (.int .u64 y33.1)), (12, (.bool y33.2))] rfl ⟨rfl, rfl, rfl, rfl, rfl, rfl, rfl, trivial⟩ ?_
  refine wo_nil ?_
  refine wq_seq ?_
  refine wc_seq ?_
  refine wc_region (l := [0, 1, 2, 3, 4, 5, 6]) rfl ?_
  refine wo_seg Θ_ok [0, 1, 2] [(1, (.int .u64 x1)), (2, (.int .u64 x2)), (7, v8), (8, u20), (9, (.int .i64 y18.2.1)), (11, (.int .u64 y33.1)), (48, (.bool (!y33.2)))] rfl ⟨rfl, rfl, rfl, rfl, rfl, rfl, rfl, trivial⟩ ?_
  rcases bif_some h with ⟨hc39, h⟩ | ⟨hc39, h⟩
  · refine wo_know 48 true rfl hc39 ?_
    refine wo_seg Θ_ok [3, 4, 5, 6] [(1, (.int .u64 x1)), (2, (.int .u64 x2)), (7, v8), (8, u20), (9, (.int .i64 y18.2.1)), (52, (.bool true))] rfl ⟨rfl, rfl, rfl, rfl, rfl, rfl, trivial⟩ ?_
    refine wo_nil ?_
    refine wq_seq ?_
    refine wc_true rfl ?_
    refine wc_seq ?_
    refine wc_region (l := [0]) rfl ?_
    refine wo_seg Θ_ok [0] [(6, (.bool false))] rfl ⟨rfl, trivial⟩ ?_
    refine wo_nil ?_
    refine wq_seq ?_
    refine wc_ret ?_
    cases h
    exact wq_then_ret (wq_ret rfl ⟨_, rfl, (bool_is.2 rfl), hF⟩)
  refine wo_know 48 false rfl hc39 ?_
  refine wo_seg Θ_ok [3, 4, 5, 6] [(1, (.int .u64 x1)), (2, (.int .u64 x2)), (7, v8), (8, u20), (9, (.int .i64 y18.2.1)), (52, (.bool (y33.1 != x2)))] rfl ⟨rfl, rfl, rfl, rfl, rfl, rfl, trivial⟩ ?_
  refine wo_nil ?_
  refine wq_seq ?_
  rcases bif_some h with ⟨hc40, h⟩ | ⟨hc40, h⟩
  · refine wc_known_true rfl hc40 ?_
    refine wc_seq ?_
    refine wc_region (l := [0]) rfl ?_
    refine wo_seg Θ_ok [0] [(6, (.bool false))] rfl ⟨rfl, trivial⟩ ?_
    refine wo_nil ?_
    refine wq_seq ?_
    refine wc_ret ?_
    cases h
    exact wq_then_ret (wq_ret rfl ⟨_, rfl, (bool_is.2 rfl), hF⟩)
  refine wc_known_false rfl hc40 ?_
  refine wc_skip ?_
  refine wq_seq ?_
  refine wc_seq ?_
  refine wc_seq ?_
  refine wc_region (l := [0, 1, 2, 3, 4, 5, 6, 7, 8]) rfl ?_
  refine wo_seg Θ_ok [0, 1, 2] [(1, (.int .u64 x1)), (2, (.int .u64 x2)), (7, v8), (8, u20), (9, (.int .i64 y18.2.1)), (54, v8), (55, (.int .u64 x1)), (56, (.int .i64 y18.2.1))] rfl ⟨rfl, rfl, rfl, rfl, rfl, rfl, rfl, rfl, trivial⟩ ?_
  obtain ⟨y45, hy46, h⟩ := bind_some h
  refine wo_gives rfl rfl rfl rfl rfl ent15 rfl (d_Has_c hO h10 (int_is.2 rfl) (int_is.2 rfl) hy46) (fun v41 w42 h43 f44 => ?_)
  have h10 := h10.tr f44.tr0
  have h21 := h21.tr f44.tr0
  have hg0 := hg0.tr f44.tr0
  have hO := f44.ob hO
  have hF := hF.trans f44
  obtain ⟨u47, u49, rfl, h48, h50⟩ := h43
  obtain rfl := int_is.1 h48
  obtain rfl := bool_is.1 h50
  refine wo_seg Θ_ok [4, 5, 6, 7, 8] [(1, (.int .u64 x1)), (2, (.int .u64 x2)), (7, v8), (8, u20), (9, (.int .i64 y18.2.1)), (14, (.bool y45.2))] rfl ⟨rfl, rfl, rfl, rfl, rfl, rfl, trivial⟩ ?_
  refine wo_nil ?_
  refine wq_seq ?_
  refine wc_seq ?_
  refine wc_region (l := [0]) rfl ?_
  refine wo_seg Θ_ok [0] [(1, (.int .u64 x1)), (2, (.int .u64 x2)), (7, v8), (8, u20), (9, (.int .i64 y18.2.1)), (60, (.bool y45.2))] rfl ⟨rfl, rfl, rfl, rfl, rfl, rfl, trivial⟩ ?_
  refine wo_nil ?_
  refine wq_seq ?_
  rcases bif_some h with ⟨hc51, h⟩ | ⟨hc51, h⟩
  · refine wc_known_true rfl hc51 ?_
    refine wc_seq ?_
    refine wc_region (l := [0]) rfl ?_
    refine wo_seg Θ_ok [0] [(6, (.bool false))] rfl ⟨rfl, trivial⟩ ?_
    refine wo_nil ?_
    refine wq_seq ?_
    refine wc_ret ?_
    cases h
    exact wq_then_ret (wq_ret rfl ⟨_, rfl, (bool_is.2 rfl), hF⟩)
  refine wc_known_false rfl hc51 ?_
  refine wc_skip ?_
  refine wq_seq ?_
  refine wc_seq ?_
  refine wc_region (l := [0, 1, 2, 3, 4, 5, 6, 7, 8, 9]) rfl ?_
  refine wo_seg Θ_ok [0, 1, 2] [(2, (.int .u64 x2)), (7, v8), (8, u20), (62, u20), (63, (.int .u64 x1)), (64, (.int .i64 y18.2.1))] rfl ⟨rfl, rfl, rfl, rfl, rfl, rfl, trivial⟩ ?_
  refine wo_litd Θ_ok rfl rfl rfl rfl rfl rfl rfl rfl rfl rfl (T := (Ty.int .i64)) (xs := [y18.2.1]) (vs := [(.int .i64 y18.2.1)]) rfl ⟨(int_is.2 rfl), trivial⟩ rfl rfl rfl hO (fun v52 w53 h54 f55 => ?_)
  have h10 := h10.tr f55.tr0
  have h21 := h21.tr f55.tr0
  have hg0 := hg0.tr f55.tr0
  have hO := f55.ob hO
  have hF := hF.trans f55
  obtain ⟨y60, hy61, h⟩ := bind_some h
  refine wo_gives rfl rfl rfl rfl rfl ent12 rfl (d_Close_c hO h21 (int_is.2 rfl) h54 hy61) (fun v56 w57 h58 f59 => ?_)
  have h10 := h10.tr f59.tr0
  have h21 := h21.tr f59.tr0
  have hg0 := hg0.tr f59.tr0
  have hO := f59.ob hO
  have hF := hF.trans f59
  obtain ⟨u62, u64, rfl, h63, h65⟩ := h58
  obtain rfl := int_is.1 h65
  refine wo_seg Θ_ok [5, 6, 7, 8, 9] [(2, (.int .u64 x2)), (7, v8), (8, u20), (10, (.int .i64 y60.2)), (15, u62)] rfl ⟨rfl, rfl, rfl, rfl, rfl, trivial⟩ ?_
  refine wo_nil ?_
  refine wq_seq ?_
  refine wc_seq ?_
  refine wc_seq ?_
  refine wc_region (l := [0, 1, 2, 3, 4, 5, 6, 7]) rfl ?_
  refine wo_seg Θ_ok [0, 1, 2] [(2, (.int .u64 x2)), (7, v8), (8, u20), (15, u62), (71, (.bool (y60.2 != (0 : Int))))] rfl ⟨rfl, rfl, rfl, rfl, rfl, trivial⟩ ?_
  rcases bif_some h with ⟨hc66, h⟩ | ⟨hc66, h⟩
  · refine wo_know 71 true rfl hc66 ?_
    refine wo_seg Θ_ok [3, 4, 5, 6, 7] [(2, (.int .u64 x2)), (7, v8), (8, u20), (76, (.bool true))] rfl ⟨rfl, rfl, rfl, rfl, trivial⟩ ?_
    refine wo_nil ?_
    refine wq_seq ?_
    refine wc_true rfl ?_
    refine wc_seq ?_
    refine wc_region (l := [0]) rfl ?_
    refine wo_seg Θ_ok [0] [(6, (.bool false))] rfl ⟨rfl, trivial⟩ ?_
    refine wo_nil ?_
    refine wq_seq ?_
    refine wc_ret ?_
    cases h
    exact wq_then_ret (wq_ret rfl ⟨_, rfl, (bool_is.2 rfl), hF⟩)
  refine wo_know 71 false rfl hc66 ?_
  refine wo_seg Θ_ok [3, 4] [(2, (.int .u64 x2)), (7, v8), (8, u20), (71, (.bool false)), (72, u62), (73, v8)] rfl ⟨rfl, rfl, rfl, rfl, rfl, rfl, trivial⟩ ?_
  obtain ⟨y71, hy72, h⟩ := bind_some h
  refine wo_gives rfl rfl rfl rfl rfl ent13 rfl (s_Equal_c hO h63 h10 hy72) (fun v67 w68 h69 f70 => ?_)
  have h10 := h10.tr f70.tr0
  have h21 := h21.tr f70.tr0
  have hg0 := hg0.tr f70.tr0
  have hO := f70.ob hO
  have hF := hF.trans f70
  obtain rfl := bool_is.1 h69
  refine wo_seg Θ_ok [6, 7] [(2, (.int .u64 x2)), (7, v8), (8, u20), (76, (.bool (!y71)))] rfl ⟨rfl, rfl, rfl, rfl, trivial⟩ ?_
  refine wo_nil ?_
  refine wq_seq ?_
  rcases bif_some h with ⟨hc73, h⟩ | ⟨hc73, h⟩
  · refine wc_known_true rfl hc73 ?_
    refine wc_seq ?_
    refine wc_region (l := [0]) rfl ?_
    refine wo_seg Θ_ok [0] [(6, (.bool false))] rfl ⟨rfl, trivial⟩ ?_
    refine wo_nil ?_
    refine wq_seq ?_
    refine wc_ret ?_
    cases h
    exact wq_then_ret (wq_ret rfl ⟨_, rfl, (bool_is.2 rfl), hF⟩)
  refine wc_known_false rfl hc73 ?_
  refine wc_skip ?_
  refine wq_seq ?_
  obtain ⟨k75, hk76, h⟩ := letk_some h
  refine wc_join (fun E W => ∃ (O79 : List Nat), E = [(2, (.int .u64 x2)), (7, v8), (8, u20)] ∧ Tr O w68 O79 W ∧ OB O79 W ∧ Sub O O79 ∧ Fr [] w W ∧ k75 = some r) ?_ (fun K77 hK78 => ?_)
  · rintro E w80 ⟨O79, rfl, T74, hO, hS, hF, h⟩
    have h10 := h10.tr T74
    have h21 := h21.tr T74
    have hg0 := hg0.tr T74
    subst hk76
    (try dsimp only at h)
    refine wc_seq ?_
    refine wc_region (l := [0, 1, 2, 3, 4, 5, 6, 7, 8, 9, 10, 11, 12, 13]) rfl ?_
    refine wo_seg Θ_ok [0] [(2, (.int .u64 x2)), (7, v8), (8, u20), (107, u20)] rfl ⟨rfl, rfl, rfl, rfl, trivial⟩ ?_
    obtain ⟨y85, hy86, h⟩ := bind_some h
    refine wo_gives rfl rfl rfl rfl rfl ent8 rfl (d_Check_c hO h21 hy86) (fun v81 w82 h83 f84 => ?_)
    have h10 := h10.tr f84.tr0
    have h21 := h21.tr f84.tr0
    have hg0 := hg0.tr f84.tr0
    have hO := f84.ob hO
    have hF := hF.trans f84
    obtain rfl := int_is.1 h83
    refine wo_seg Θ_ok [2, 3] [(2, (.int .u64 x2)), (7, v8), (8, u20), (110, (.bool (y85 == (0 : Int))))] rfl ⟨rfl, rfl, rfl, rfl, trivial⟩ ?_
    rcases bif_some h with ⟨hc87, h⟩ | ⟨hc87, h⟩
    rotate_left
    · refine wo_know 110 false rfl hc87 ?_
      refine wo_seg Θ_ok [4, 5, 6, 7, 8, 9, 10, 11, 12, 13] [(6, (.bool false))] rfl ⟨rfl, trivial⟩ ?_
      refine wo_nil ?_
      refine wq_seq ?_
      refine wc_ret ?_
      cases h
      exact wq_ret rfl ⟨_, rfl, (bool_is.2 rfl), hF⟩
    refine wo_know 110 true rfl hc87 ?_
    refine wo_seg Θ_ok [4, 5] [(2, (.int .u64 x2)), (7, v8), (110, (.bool true)), (111, u20), (112, (.int .u64 x2))] rfl ⟨rfl, rfl, rfl, rfl, rfl, trivial⟩ ?_
    obtain ⟨y92, hy93, h⟩ := bind_some h
    refine wo_gives rfl rfl rfl rfl rfl ent18 rfl (d_Count_c hO h21 (int_is.2 rfl) hy93) (fun v88 w89 h90 f91 => ?_)
    have h10 := h10.tr f91.tr0
    have hg0 := hg0.tr f91.tr0
    have hO := f91.ob hO
    have hF := hF.trans f91
    obtain rfl := int_is.1 h90
    refine wo_seg Θ_ok [7, 8] [(110, (.bool true)), (113, (.int .i64 y92)), (114, v8), (115, (.int .u64 x2))] rfl ⟨rfl, rfl, rfl, rfl, trivial⟩ ?_
    obtain ⟨y98, hy99, h⟩ := bind_some h
    refine wo_gives rfl rfl rfl rfl rfl ent18 rfl (d_Count_c hO h10 (int_is.2 rfl) hy99) (fun v94 w95 h96 f97 => ?_)
    have hg0 := hg0.tr f97.tr0
    have hO := f97.ob hO
    have hF := hF.trans f97
    obtain rfl := int_is.1 h96
    refine wo_seg Θ_ok [10, 11, 12, 13] [(6, (.bool (y92 == (IntKind.i64.wrap (y98 + (1 : Int))))))] rfl ⟨rfl, trivial⟩ ?_
    refine wo_nil ?_
    refine wq_seq ?_
    refine wc_ret ?_
    cases h
    exact wq_ret rfl ⟨_, rfl, (bool_is.2 rfl), hF⟩
  clear hk76
  have T74 := Tr.refl O w68
  refine wc_seq ?_
  refine wc_region (l := [0, 1, 2]) rfl ?_
  refine wo_seg Θ_ok [0] [(2, (.int .u64 x2)), (7, v8), (8, u20), (77, u20)] rfl ⟨rfl, rfl, rfl, rfl, trivial⟩ ?_
  obtain ⟨A100, c101, rfl, hlc101, hmc101⟩ := slice_form h21
  refine wo_seg Θ_ok [1] [(2, (.int .u64 x2)), (7, v8), (8, (.slice A100 y18.1.length c101)), (77, (.slice A100 y18.1.length c101)), (78, (.int .i64 (y18.1.length : Int)))] rfl ⟨rfl, rfl, rfl, rfl, rfl, trivial⟩ ?_
  refine wo_seg Θ_ok [2] [(2, (.int .u64 x2)), (7, v8), (8, (.slice A100 y18.1.length c101)), (77, (.slice A100 y18.1.length c101)), (78, (.int .i64 (y18.1.length : Int))), (79, (.int .i64 0))] rfl ⟨rfl, rfl, rfl, rfl, rfl, rfl, trivial⟩ ?_
  refine wo_nil ?_
  refine wq_seq ?_
  refine wc_block ?_
  refine wc_loop (fun m E W => ∃ (rest104 : List GDesc) (i103 : Nat) (O107 : List Nat), rest104.length = m ∧ y18.1.drop i103 = rest104 ∧ E = [(2, (.int .u64 x2)), (7, v8), (8, (.slice A100 y18.1.length c101)), (77, (.slice A100 y18.1.length c101)), (78, (.int .i64 (y18.1.length : Int))), (79, (.int .i64 (i103 : Int)))] ∧ Tr O w68 O107 W ∧ OB O107 W ∧ Sub O O107 ∧ Fr [] w W ∧ l_Back_l1 k75 rest104 i103 = some r) _ [(2, (.int .u64 x2)), (7, v8), (8, (.slice A100 y18.1.length c101)), (77, (.slice A100 y18.1.length c101)), (78, (.int .i64 (y18.1.length : Int))), (79, (.int .i64 ((0 : Nat) : Int)))] ⟨rfl, rfl, rfl, rfl, rfl, rfl, trivial⟩ ⟨y18.1, 0, O, rfl, rfl, rfl, Tr.refl _ _, hO, hS, hF, h⟩ ?_
  rintro m E w108 ⟨rest104, i103, O107, rfl, hd106, rfl, T102, hO, hS, hF, h⟩
  have T74 := T74.trans T102
  have h10 := h10.tr T102
  have h21 := h21.tr T102
  have hg0 := hg0.tr T102
  rcases rest104 with _ | ⟨z105, rest104⟩
  · rw [l_Back_l1] at h
    have hl112 := drop_nil hd106
    have hc109 : (decide ((i103 : Int) < (y18.1.length : Int))) = false := decide_eq_false (by omega)
    refine wc_seq ?_
    refine wc_region (l := [0]) rfl ?_
    refine wo_seg Θ_ok [0] [(2, (.int .u64 x2)), (7, v8), (8, (.slice A100 y18.1.length c101)), (77, (.slice A100 y18.1.length c101)), (78, (.int .i64 (y18.1.length : Int))), (79, (.int .i64 (i103 : Int))), (80, (.bool (decide ((i103 : Int) < (y18.1.length : Int)))))] rfl ⟨rfl, rfl, rfl, rfl, rfl, rfl, rfl, trivial⟩ ?_
    refine wo_nil ?_
    refine wq_seq ?_
    refine wc_seq ?_
    refine wc_known_false rfl hc109 ?_
    refine wc_exit ?_
    exact wq_then_exit (wq_then_exit (wq_block_exit (wq_join hK78 [(2, (.int .u64 x2)), (7, v8), (8, (.slice A100 y18.1.length c101))] ⟨rfl, rfl, rfl, trivial⟩ ⟨O107, rfl, T74, hO, hS, hF, h⟩)))
  rw [l_Back_l1] at h
  obtain ⟨hl113, hg111, hd106⟩ := drop_cons hd106
  have hc110 : (decide ((i103 : Int) < (y18.1.length : Int))) = true := decide_eq_true (by omega)
  refine wc_seq ?_
  refine wc_region (l := [0]) rfl ?_
  refine wo_seg Θ_ok [0] [(2, (.int .u64 x2)), (7, v8), (8, (.slice A100 y18.1.length c101)), (77, (.slice A100 y18.1.length c101)), (78, (.int .i64 (y18.1.length : Int))), (79, (.int .i64 (i103 : Int))), (80, (.bool (decide ((i103 : Int) < (y18.1.length : Int)))))] rfl ⟨rfl, rfl, rfl, rfl, rfl, rfl, rfl, trivial⟩ ?_
  refine wo_nil ?_
  refine wq_seq ?_
  refine wc_seq ?_
  refine wc_known_true rfl hc110 ?_
  refine wc_skip ?_
  refine wq_seq ?_
  refine wc_seq ?_
  refine wc_block ?_
  refine wc_seq ?_
  refine wc_region (l := [0, 1, 2, 3]) rfl ?_
  refine wo_index Θ_ok rfl rfl rfl rfl rfl rfl rfl rfl rfl rfl h21 rfl (by omega) hg111 (fun p114 h115 => ?_)
  refine wo_loadp Θ_ok rfl rfl rfl rfl rfl rfl rfl h115 rfl rfl (fun v116 h117 => ?_)
  obtain rfl := tGDesc_is.1 h117
  refine wo_alloc Θ_ok rfl rfl rfl rfl rfl rfl [(.int .u64 0), (.int .i64 0), (.int .u64 0)] rfl hO (fun b118 w119 n120 => ?_)
  have h10 := h10.tr n120.tr
  have h21 := h21.tr n120.tr
  have hg0 := hg0.tr n120.tr
  have T74 := T74.trans n120.tr
  have T102 := T102.trans n120.tr
  have hb118 := n120.blk
  have gb118 := n120.ge0 hF
  have ib118 : b118 ∈ b118 :: O107 := List.mem_cons_self
  have hO := n120.ob
  have hF := hF.trans n120.fr
  have hS := Sub.cons hS b118
  refine wo_store Θ_ok rfl rfl rfl rfl rfl rfl rfl hb118 [(.int .u64 z105.fPid), (.int .i64 z105.fFd), (.int .u64 z105.fWhat)] rfl rfl (by simp [Value.oneCell']) rfl [(.int .u64 z105.fPid), (.int .i64 z105.fFd), (.int .u64 z105.fWhat)] rfl (fun w121 hb118 f122 => ?_)
  have h10 := h10.tr (f122.tr (one_in ib118))
  have h21 := h21.tr (f122.tr (one_in ib118))
  have hg0 := hg0.tr (f122.tr (one_in ib118))
  have T74 := T74.trans (f122.tr (one_in ib118))
  have T102 := T102.trans (f122.tr (one_in ib118))
  have hO := f122.ob hO
  have hF := hF.own f122 gb118
  refine wo_nil ?_
  refine wq_seq ?_
  refine wc_seq ?_
  refine wc_region (l := [0, 1, 2, 3, 4, 5, 6]) rfl ?_
  refine wo_load Θ_ok rfl rfl rfl rfl rfl rfl rfl hb118 [(.int .u64 z105.fPid), (.int .i64 z105.fFd), (.int .u64 z105.fWhat)] rfl rfl (.inl rfl) (.agg #[(.int .u64 z105.fPid), (.int .i64 z105.fFd), (.int .u64 z105.fWhat)]) rfl ?_
  obtain ⟨y127, hy128, h⟩ := bind_some h
  refine wo_gives rfl rfl rfl rfl rfl ent19 rfl (d_Key_c hO hg0 ((tGDesc_is (x := z105)).2 rfl) hy128) (fun v123 w124 h125 f126 => ?_)
  have h10 := h10.tr f126.tr0
  have h21 := h21.tr f126.tr0
  have hg0 := hg0.tr f126.tr0
  have hb118 := hb118.fr0 f126
  have T74 := T74.trans f126.tr0
  have T102 := T102.trans f126.tr0
  have hO := f126.ob hO
  have hF := hF.trans f126
  obtain ⟨u129, u131, rfl, h130, h132⟩ := h125
  obtain rfl := int_is.1 h130
  obtain rfl := int_is.1 h132
  refine wo_seg Θ_ok [2, 3, 4, 5, 6] [(2, (.int .u64 x2)), (7, v8), (8, (.slice A100 y18.1.length c101)), (17, (.pointer (some ⟨b118, 0, none⟩))), (18, (.int .u64 y127.1)), (19, (.int .i64 y127.2)), (77, (.slice A100 y18.1.length c101)), (78, (.int .i64 (y18.1.length : Int))), (79, (.int .i64 (i103 : Int)))] rfl ⟨rfl, rfl, rfl, rfl, rfl, rfl, rfl, rfl, rfl, trivial⟩ ?_
  refine wo_nil ?_
  refine wq_seq ?_
  refine wc_seq ?_
  refine wc_region (l := [0, 1, 2, 3, 4, 5, 6, 7, 8, 9]) rfl ?_
  refine wo_seg Θ_ok [0, 1] [(2, (.int .u64 x2)), (7, v8), (8, (.slice A100 y18.1.length c101)), (17, (.pointer (some ⟨b118, 0, none⟩))), (19, (.int .i64 y127.2)), (77, (.slice A100 y18.1.length c101)), (78, (.int .i64 (y18.1.length : Int))), (79, (.int .i64 (i103 : Int))), (89, (.int .u64 y127.1)), (90, (.pointer (some ⟨b118, 2, none⟩)))] rfl ⟨rfl, rfl, rfl, rfl, rfl, rfl, rfl, rfl, rfl, rfl, trivial⟩ ?_
  refine wo_load Θ_ok rfl rfl rfl rfl rfl rfl rfl hb118 [(.int .u64 z105.fWhat)] rfl rfl (.inr rfl) (.int .u64 z105.fWhat) rfl ?_
  obtain ⟨y137, hy138, h⟩ := bind_some h
  refine wo_gives rfl rfl rfl rfl rfl ent22 rfl (d_Back_c hO hg0 (int_is.2 rfl) (int_is.2 rfl) hy138) (fun v133 w134 h135 f136 => ?_)
  have h10 := h10.tr f136.tr0
  have h21 := h21.tr f136.tr0
  have hg0 := hg0.tr f136.tr0
  have hb118 := hb118.fr0 f136
  have T74 := T74.trans f136.tr0
  have T102 := T102.trans f136.tr0
  have hO := f136.ob hO
  have hF := hF.trans f136
  obtain ⟨u139, u141, rfl, h140, h142⟩ := h135
  obtain rfl := tGDesc_is.1 h140
  obtain rfl := int_is.1 h142
  refine wo_seg Θ_ok [4, 5, 6] [(2, (.int .u64 x2)), (7, v8), (8, (.slice A100 y18.1.length c101)), (17, (.pointer (some ⟨b118, 0, none⟩))), (19, (.int .i64 y127.2)), (77, (.slice A100 y18.1.length c101)), (78, (.int .i64 (y18.1.length : Int))), (79, (.int .i64 (i103 : Int))), (93, (.agg #[(.int .u64 y137.1.fPid), (.int .i64 y137.1.fFd), (.int .u64 y137.1.fWhat)])), (94, (.int .i64 y137.2))] rfl ⟨rfl, rfl, rfl, rfl, rfl, rfl, rfl, rfl, rfl, rfl, trivial⟩ ?_
  refine wo_alloc Θ_ok rfl rfl rfl rfl rfl rfl [(.int .u64 0), (.int .i64 0), (.int .u64 0)] rfl hO (fun b143 w144 n145 => ?_)
  have h10 := h10.tr n145.tr
  have h21 := h21.tr n145.tr
  have hg0 := hg0.tr n145.tr
  have T74 := T74.trans n145.tr
  have T102 := T102.trans n145.tr
  have nb143b118 : b143 ≠ b118 := by have := hb118.lt; have := n145.ge; omega
  have hb118 := hb118.fr0 n145.fr
  have ib118 := List.mem_cons_of_mem b143 ib118
  have hb143 := n145.blk
  have gb143 := n145.ge0 hF
  have ib143 : b143 ∈ b143 :: (b118 :: O107) := List.mem_cons_self
  have hO := n145.ob
  have hF := hF.trans n145.fr
  have hS := Sub.cons hS b143
  refine wo_store Θ_ok rfl rfl rfl rfl rfl rfl rfl hb143 [(.int .u64 y137.1.fPid), (.int .i64 y137.1.fFd), (.int .u64 y137.1.fWhat)] rfl rfl (by simp [Value.oneCell']) rfl [(.int .u64 y137.1.fPid), (.int .i64 y137.1.fFd), (.int .u64 y137.1.fWhat)] rfl (fun w146 hb143 f147 => ?_)
  have h10 := h10.tr (f147.tr (one_in ib143))
  have h21 := h21.tr (f147.tr (one_in ib143))
  have hg0 := hg0.tr (f147.tr (one_in ib143))
  have T74 := T74.trans (f147.tr (one_in ib143))
  have T102 := T102.trans (f147.tr (one_in ib143))
  have hb118 := hb118.fr f147 (nin nb143b118.symm)
  have hO := f147.ob hO
  have hF := hF.own f147 gb143
  refine wo_seg Θ_ok [9] [(2, (.int .u64 x2)), (7, v8), (8, (.slice A100 y18.1.length c101)), (17, (.pointer (some ⟨b118, 0, none⟩))), (19, (.int .i64 y127.2)), (20, (.pointer (some ⟨b143, 0, none⟩))), (21, (.int .i64 y137.2)), (77, (.slice A100 y18.1.length c101)), (78, (.int .i64 (y18.1.length : Int))), (79, (.int .i64 (i103 : Int)))] rfl ⟨rfl, rfl, rfl, rfl, rfl, rfl, rfl, rfl, rfl, rfl, trivial⟩ ?_
  refine wo_nil ?_
  refine wq_seq ?_
  refine wc_seq ?_
  refine wc_region (l := [0, 1, 2, 3, 4, 5, 6, 7, 8, 9, 10]) rfl ?_
  refine wo_seg Θ_ok [0, 1, 2] [(2, (.int .u64 x2)), (7, v8), (8, (.slice A100 y18.1.length c101)), (17, (.pointer (some ⟨b118, 0, none⟩))), (20, (.pointer (some ⟨b143, 0, none⟩))), (21, (.int .i64 y137.2)), (77, (.slice A100 y18.1.length c101)), (78, (.int .i64 (y18.1.length : Int))), (79, (.int .i64 (i103 : Int))), (97, (.bool (y127.2 != (0 : Int))))] rfl ⟨rfl, rfl, rfl, rfl, rfl, rfl, rfl, rfl, rfl, rfl, trivial⟩ ?_
  rcases bif_some h with ⟨hc148, h⟩ | ⟨hc148, h⟩
  · refine wo_know 97 true rfl hc148 ?_
    refine wo_seg Θ_ok [3, 4, 5, 6, 7, 8, 9, 10] [(2, (.int .u64 x2)), (7, v8), (8, (.slice A100 y18.1.length c101)), (77, (.slice A100 y18.1.length c101)), (78, (.int .i64 (y18.1.length : Int))), (79, (.int .i64 (i103 : Int))), (105, (.bool true))] rfl ⟨rfl, rfl, rfl, rfl, rfl, rfl, rfl, trivial⟩ ?_
    refine wo_nil ?_
    refine wq_seq ?_
    refine wc_true rfl ?_
    refine wc_seq ?_
    refine wc_region (l := [0]) rfl ?_
    refine wo_seg Θ_ok [0] [(6, (.bool false))] rfl ⟨rfl, trivial⟩ ?_
    refine wo_nil ?_
    refine wq_seq ?_
    refine wc_ret ?_
    cases h
    exact wq_block_ret (wq_then_ret (wq_then_ret (wq_block_ret (wq_then_ret (wq_ret rfl ⟨_, rfl, (bool_is.2 rfl), hF⟩)))))
  refine wo_know 97 false rfl hc148 ?_
  refine wo_seg Θ_ok [3, 4, 5, 6] [(2, (.int .u64 x2)), (7, v8), (8, (.slice A100 y18.1.length c101)), (17, (.pointer (some ⟨b118, 0, none⟩))), (20, (.pointer (some ⟨b143, 0, none⟩))), (77, (.slice A100 y18.1.length c101)), (78, (.int .i64 (y18.1.length : Int))), (79, (.int .i64 (i103 : Int))), (101, (.bool (y137.2 != (0 : Int))))] rfl ⟨rfl, rfl, rfl, rfl, rfl, rfl, rfl, rfl, rfl, trivial⟩ ?_
  rcases bif_some h with ⟨hc149, h⟩ | ⟨hc149, h⟩
  · refine wo_know 101 true rfl hc149 ?_
    refine wo_seg Θ_ok [7, 8, 9, 10] [(2, (.int .u64 x2)), (7, v8), (8, (.slice A100 y18.1.length c101)), (77, (.slice A100 y18.1.length c101)), (78, (.int .i64 (y18.1.length : Int))), (79, (.int .i64 (i103 : Int))), (105, (.bool true))] rfl ⟨rfl, rfl, rfl, rfl, rfl, rfl, rfl, trivial⟩ ?_
    refine wo_nil ?_
    refine wq_seq ?_
    refine wc_true rfl ?_
    refine wc_seq ?_
    refine wc_region (l := [0]) rfl ?_
    refine wo_seg Θ_ok [0] [(6, (.bool false))] rfl ⟨rfl, trivial⟩ ?_
    refine wo_nil ?_
    refine wq_seq ?_
    refine wc_ret ?_
    cases h
    exact wq_block_ret (wq_then_ret (wq_then_ret (wq_block_ret (wq_then_ret (wq_ret rfl ⟨_, rfl, (bool_is.2 rfl), hF⟩)))))
  refine wo_know 101 false rfl hc149 ?_
  refine wo_load Θ_ok rfl rfl rfl rfl rfl rfl rfl hb143 [(.int .u64 y137.1.fPid), (.int .i64 y137.1.fFd), (.int .u64 y137.1.fWhat)] rfl rfl (.inl rfl) (.agg #[(.int .u64 y137.1.fPid), (.int .i64 y137.1.fFd), (.int .u64 y137.1.fWhat)]) rfl ?_
  refine wo_load Θ_ok rfl rfl rfl rfl rfl rfl rfl hb118 [(.int .u64 z105.fPid), (.int .i64 z105.fFd), (.int .u64 z105.fWhat)] rfl rfl (.inl rfl) (.agg #[(.int .u64 z105.fPid), (.int .i64 z105.fFd), (.int .u64 z105.fWhat)]) rfl ?_
  refine wo_bin rfl rfl rfl rfl rfl rfl rfl (neq29 _ _) ?_
  refine wo_seg Θ_ok [10] [(2, (.int .u64 x2)), (7, v8), (8, (.slice A100 y18.1.length c101)), (77, (.slice A100 y18.1.length c101)), (78, (.int .i64 (y18.1.length : Int))), (79, (.int .i64 (i103 : Int))), (105, (.bool (!(eqGDesc y137.1 z105))))] rfl ⟨rfl, rfl, rfl, rfl, rfl, rfl, rfl, trivial⟩ ?_
  refine wo_nil ?_
  refine wq_seq ?_
  rcases bif_some h with ⟨hc150, h⟩ | ⟨hc150, h⟩
  rotate_left
  · refine wc_known_false rfl hc150 ?_
    refine wc_skip ?_
    refine wq_block (wq_seq ?_)
    refine wc_region (l := [0, 1]) rfl ?_
    refine wo_seg Θ_ok [0, 1] [(2, (.int .u64 x2)), (7, v8), (8, (.slice A100 y18.1.length c101)), (77, (.slice A100 y18.1.length c101)), (78, (.int .i64 (y18.1.length : Int))), (79, (.int .i64 (IntKind.i64.wrap ((i103 : Int) + (1 : Int)))))] rfl ⟨rfl, rfl, rfl, rfl, rfl, rfl, trivial⟩ ?_
    refine wo_nil ?_
    exact wq_next rest104.length [(2, (.int .u64 x2)), (7, v8), (8, (.slice A100 y18.1.length c101)), (77, (.slice A100 y18.1.length c101)), (78, (.int .i64 (y18.1.length : Int))), (79, (.int .i64 ((i103 + 1 : Nat) : Int)))] (Nat.lt_succ_self _) ⟨rfl, rfl, rfl, rfl, rfl, congrArg (fun z => some (Value.int .i64 z)) (wrap_succ hl113 (Nat.le_trans hlc101 hmc101)), trivial⟩ ⟨rest104, i103 + 1, b143 :: b118 :: O107, rfl, hd106, rfl, T102, hO, hS, hF, h⟩
  refine wc_known_true rfl hc150 ?_
  refine wc_seq ?_
  refine wc_region (l := [0]) rfl ?_
  refine wo_seg Θ_ok [0] [(6, (.bool false))] rfl ⟨rfl, trivial⟩ ?_
  refine wo_nil ?_
  refine wq_seq ?_
  refine wc_ret ?_
  cases h
  exact wq_block_ret (wq_then_ret (wq_then_ret (wq_block_ret (wq_then_ret (wq_ret rfl ⟨_, rfl, (bool_is.2 rfl), hF⟩)))))
end Go.Proofs.YtbaffpifmfddeaaDoor
