/-
  The program's functions compute the plain ones (printed by a tool of the prover's).
-/
import Derived.Test.YtbaffpifmfddeaaDoorGWalk4
namespace Go.Proofs.YtbaffpifmfddeaaDoor
open Go.RowKit Go.Dc Go.Shelf
set_option maxRecDepth 100000 in
set_option maxHeartbeats 4000000 in
theorem l_Apart_c {O : List Nat} {w : World} (hO : OB O w) {fuel : Nat} (hg0 : (Ty.ptr (Ty.slice tGField)).is O w (.pointer (some ⟨0, 0, none⟩)) g_parts) {v0 : Value} {x0 : List GDesc} (h0 : (Ty.slice tGDesc).is O w v0 x0) {v1 : Value} {x1 : List GDesc} (h1 : (Ty.slice tGDesc).is O w v1 x1) {r : Bool} (h : l_Apart fuel x0 x1 = some r) : Calls Tryd.prog 3 #[v0, v1] w (Gives (rt1 Ty.bool) O w r) := by
  have hF := Fr.refl [] w
  have hO0 := hO
  have hS := Sub.refl O
  refine calls_of (args := [v0, v1]) (N := 105) Tryd.func3 rfl rfl rfl ?_
  unfold l_Apart at h
  refine wc_seq ?_
  refine wc_region (l := [0]) rfl ?_
  refine wo_seg Θ_ok [0] [(0, v0), (1, v1)] rfl ⟨rfl, rfl, trivial⟩ ?_
  refine wo_nil ?_
  refine wq_seq ?_
  refine wc_seq ?_
  refine wc_seq ?_
  refine wc_region (l := [0, 1]) rfl ?_
  obtain ⟨y5, hy6, h⟩ := bind_some h
  refine wo_gives rfl rfl rfl rfl rfl ent6 rfl (wakes_c hO hg0 hy6) (fun v1 w2 h3 f4 => ?_)
  have h0 := h0.tr f4.tr0
  have h1 := h1.tr f4.tr0
  have hg0 := hg0.tr f4.tr0
  have hO := f4.ob hO
  have hF := hF.trans f4
  obtain rfl := bool_is.1 h3
  refine wo_seg Θ_ok [1] [(0, v0), (1, v1), (16, (.bool (!y5)))] rfl ⟨rfl, rfl, rfl, trivial⟩ ?_
  refine wo_nil ?_
  refine wq_seq ?_
  rcases bif_some h with ⟨hc7, h⟩ | ⟨hc7, h⟩
  · refine wc_known_true rfl hc7 ?_
    refine wc_seq ?_
    refine wc_region (l := [0]) rfl ?_
    refine wo_seg Θ_ok [0] [(4, (.bool false))] rfl ⟨rfl, trivial⟩ ?_
    refine wo_nil ?_
    refine wq_seq ?_
    refine wc_ret ?_
    cases h
    exact wq_then_ret (wq_ret rfl ⟨_, rfl, (bool_is.2 rfl), hF⟩)
  refine wc_known_false rfl hc7 ?_
  refine wc_skip ?_
  refine wq_seq ?_
  refine wc_seq ?_
  refine wc_region (l := [0, 1, 2]) rfl ?_
  refine wo_seg Θ_ok [0] [(1, v1), (17, v0)] rfl ⟨rfl, rfl, trivial⟩ ?_
  obtain ⟨y12, hy13, h⟩ := bind_some h
  refine wo_gives rfl rfl rfl rfl rfl ent7 rfl (own_c hO h0 hy13) (fun v8 w9 h10 f11 => ?_)
  have h1 := h1.tr f11.tr0
  have hg0 := hg0.tr f11.tr0
  have hO := f11.ob hO
  have hF := hF.trans f11
  refine wo_seg Θ_ok [2] [(1, v1), (5, v8)] rfl ⟨rfl, rfl, trivial⟩ ?_
  refine wo_nil ?_
  refine wq_seq ?_
  refine wc_seq ?_
  refine wc_seq ?_
  refine wc_region (l := [0, 1, 2]) rfl ?_
  refine wo_seg Θ_ok [0] [(1, v1), (5, v8), (19, v8)] rfl ⟨rfl, rfl, rfl, trivial⟩ ?_
  obtain ⟨y18, hy19, h⟩ := bind_some h
  refine wo_gives rfl rfl rfl rfl rfl ent8 rfl (d_Check_c hO h10 hy19) (fun v14 w15 h16 f17 => ?_)
  have h1 := h1.tr f17.tr0
  have h10 := h10.tr f17.tr0
  have hg0 := hg0.tr f17.tr0
  have hO := f17.ob hO
  have hF := hF.trans f17
  obtain rfl := int_is.1 h16
  refine wo_seg Θ_ok [2] [(1, v1), (5, v8), (21, (.bool (y18 != (0 : Int))))] rfl ⟨rfl, rfl, rfl, trivial⟩ ?_
  refine wo_nil ?_
  refine wq_seq ?_
  rcases bif_some h with ⟨hc20, h⟩ | ⟨hc20, h⟩
  · refine wc_known_true rfl hc20 ?_
    refine wc_seq ?_
    refine wc_region (l := [0]) rfl ?_
    refine wo_seg Θ_ok [0] [(4, (.bool true))] rfl ⟨rfl, trivial⟩ ?_
    refine wo_nil ?_
    refine wq_seq ?_
    refine wc_ret ?_
    cases h
    exact wq_then_ret (wq_ret rfl ⟨_, rfl, (bool_is.2 rfl), hF⟩)
  refine wc_known_false rfl hc20 ?_
  refine wc_skip ?_
  refine wq_seq ?_
  obtain ⟨k22, hk23, h⟩ := letk_some h
  refine wc_join (fun E W => ∃ (O26 : List Nat), E = [] ∧ Tr O w15 O26 W ∧ OB O26 W ∧ Sub O O26 ∧ Fr [] w W ∧ k22 = some r) ?_ (fun K24 hK25 => ?_)
  · rintro E w27 ⟨O26, rfl, T21, hO, hS, hF, h⟩
    have hg0 := hg0.tr T21
    subst hk23
    (try dsimp only at h)
    refine wc_seq ?_
    refine wc_region (l := [0]) rfl ?_
    refine wo_seg Θ_ok [0] [(4, (.bool true))] rfl ⟨rfl, trivial⟩ ?_
    refine wo_nil ?_
    refine wq_seq ?_
    refine wc_ret ?_
    cases h
    exact wq_ret rfl ⟨_, rfl, (bool_is.2 rfl), hF⟩
  clear hk23
  have T21 := Tr.refl O w15
  refine wc_seq ?_
  refine wc_region (l := [0, 1, 2]) rfl ?_
  refine wo_seg Θ_ok [0] [(5, v8), (22, v1)] rfl ⟨rfl, rfl, trivial⟩ ?_
  obtain ⟨A28, c29, rfl, hlc29, hmc29⟩ := slice_form h1
  refine wo_seg Θ_ok [1] [(5, v8), (22, (.slice A28 x1.length c29)), (23, (.int .i64 (x1.length : Int)))] rfl ⟨rfl, rfl, rfl, trivial⟩ ?_
  refine wo_seg Θ_ok [2] [(5, v8), (22, (.slice A28 x1.length c29)), (23, (.int .i64 (x1.length : Int))), (24, (.int .i64 0))] rfl ⟨rfl, rfl, rfl, rfl, trivial⟩ ?_
  refine wo_nil ?_
  refine wq_seq ?_
  refine wc_block ?_
  refine wc_loop (fun m E W => ∃ (rest35 : List GDesc) (i34 : Nat) (O38 : List Nat) (p31 : List GDesc) (v32 : Value), rest35.length = m ∧ x1.drop i34 = rest35 ∧ E = [(5, v32), (22, (.slice A28 x1.length c29)), (23, (.int .i64 (x1.length : Int))), (24, (.int .i64 (i34 : Int)))] ∧ Tr O w15 O38 W ∧ OB O38 W ∧ Sub O O38 ∧ Fr [] w W ∧ (Ty.slice tGDesc).is O38 W v32 p31 ∧ l_Apart_l1 k22 fuel rest35 i34 p31 = some r) _ [(5, v8), (22, (.slice A28 x1.length c29)), (23, (.int .i64 (x1.length : Int))), (24, (.int .i64 ((0 : Nat) : Int)))] ⟨rfl, rfl, rfl, rfl, trivial⟩ ⟨x1, 0, O, y12, v8, rfl, rfl, rfl, Tr.refl _ _, hO, hS, hF, h10, h⟩ ?_
  rintro m E w39 ⟨rest35, i34, O38, p31, v32, rfl, hd37, rfl, T30, hO, hS, hF, h33, h⟩
  have T21 := T21.trans T30
  have h1 := h1.tr T30
  have hg0 := hg0.tr T30
  rcases rest35 with _ | ⟨z36, rest35⟩
  · rw [l_Apart_l1] at h
    have hl43 := drop_nil hd37
    have hc40 : (decide ((i34 : Int) < (x1.length : Int))) = false := decide_eq_false (by omega)
    refine wc_seq ?_
    refine wc_region (l := [0]) rfl ?_
    refine wo_seg Θ_ok [0] [(5, v32), (22, (.slice A28 x1.length c29)), (23, (.int .i64 (x1.length : Int))), (24, (.int .i64 (i34 : Int))), (25, (.bool (decide ((i34 : Int) < (x1.length : Int)))))] rfl ⟨rfl, rfl, rfl, rfl, rfl, trivial⟩ ?_
    refine wo_nil ?_
    refine wq_seq ?_
    refine wc_seq ?_
    refine wc_known_false rfl hc40 ?_
    refine wc_exit ?_
    exact wq_then_exit (wq_then_exit (wq_block_exit (wq_join hK25 [] trivial ⟨O38, rfl, T21, hO, hS, hF, h⟩)))
  rw [l_Apart_l1] at h
  obtain ⟨hl44, hg42, hd37⟩ := drop_cons hd37
  have hc41 : (decide ((i34 : Int) < (x1.length : Int))) = true := decide_eq_true (by omega)
  refine wc_seq ?_
  refine wc_region (l := [0]) rfl ?_
  refine wo_seg Θ_ok [0] [(5, v32), (22, (.slice A28 x1.length c29)), (23, (.int .i64 (x1.length : Int))), (24, (.int .i64 (i34 : Int))), (25, (.bool (decide ((i34 : Int) < (x1.length : Int)))))] rfl ⟨rfl, rfl, rfl, rfl, rfl, trivial⟩ ?_
  refine wo_nil ?_
  refine wq_seq ?_
  refine wc_seq ?_
  refine wc_known_true rfl hc41 ?_
  refine wc_skip ?_
  refine wq_seq ?_
  refine wc_seq ?_
  refine wc_block ?_
  refine wc_seq ?_
  refine wc_region (l := [0, 1, 2, 3, 4, 5]) rfl ?_
  refine wo_seg Θ_ok [0] [(5, v32), (22, (.slice A28 x1.length c29)), (23, (.int .i64 (x1.length : Int))), (24, (.int .i64 (i34 : Int))), (26, (.int .i64 (i34 : Int)))] rfl ⟨rfl, rfl, rfl, rfl, rfl, trivial⟩ ?_
  refine wo_index Θ_ok rfl rfl rfl rfl rfl rfl rfl rfl rfl rfl h1 rfl (by omega) hg42 (fun p45 h46 => ?_)
  refine wo_loadp Θ_ok rfl rfl rfl rfl rfl rfl rfl h46 rfl rfl (fun v47 h48 => ?_)
  obtain rfl := tGDesc_is.1 h48
  refine wo_alloc Θ_ok rfl rfl rfl rfl rfl rfl [(.int .u64 0), (.int .i64 0), (.int .u64 0)] rfl hO (fun b49 w50 n51 => ?_)
  have h33 := h33.tr n51.tr
  have h1 := h1.tr n51.tr
  have hg0 := hg0.tr n51.tr
  have T21 := T21.trans n51.tr
  have T30 := T30.trans n51.tr
  have hb49 := n51.blk
  have gb49 := n51.ge0 hF
  have ib49 : b49 ∈ b49 :: O38 := List.mem_cons_self
  have hO := n51.ob
  have hF := hF.trans n51.fr
  have hS := Sub.cons hS b49
  refine wo_seg Θ_ok [4] [(5, v32), (6, (.int .i64 (i34 : Int))), (7, (.pointer (some ⟨b49, 0, none⟩))), (22, (.slice A28 x1.length c29)), (23, (.int .i64 (x1.length : Int))), (24, (.int .i64 (i34 : Int))), (28, (.agg #[(.int .u64 z36.fPid), (.int .i64 z36.fFd), (.int .u64 z36.fWhat)]))] rfl ⟨rfl, rfl, rfl, rfl, rfl, rfl, rfl, trivial⟩ ?_
  refine wo_store Θ_ok rfl rfl rfl rfl rfl rfl rfl hb49 [(.int .u64 z36.fPid), (.int .i64 z36.fFd), (.int .u64 z36.fWhat)] rfl rfl (by simp [Value.oneCell']) rfl [(.int .u64 z36.fPid), (.int .i64 z36.fFd), (.int .u64 z36.fWhat)] rfl (fun w52 hb49 f53 => ?_)
  have h33 := h33.tr (f53.tr (one_in ib49))
  have h1 := h1.tr (f53.tr (one_in ib49))
  have hg0 := hg0.tr (f53.tr (one_in ib49))
  have T21 := T21.trans (f53.tr (one_in ib49))
  have T30 := T30.trans (f53.tr (one_in ib49))
  have hO := f53.ob hO
  have hF := hF.own f53 gb49
  refine wo_nil ?_
  refine wq_seq ?_
  refine wc_seq ?_
  refine wc_seq ?_
  refine wc_region (l := [0, 1]) rfl ?_
  refine wo_seg Θ_ok [0, 1] [(5, v32), (7, (.pointer (some ⟨b49, 0, none⟩))), (22, (.slice A28 x1.length c29)), (23, (.int .i64 (x1.length : Int))), (24, (.int .i64 (i34 : Int))), (30, (.bool ((i34 : Int) == (20 : Int))))] rfl ⟨rfl, rfl, rfl, rfl, rfl, rfl, trivial⟩ ?_
  refine wo_nil ?_
  refine wq_seq ?_
  rcases bif_some h with ⟨hc54, h⟩ | ⟨hc54, h⟩
  · refine wc_known_true rfl hc54 ?_
    refine wc_exit ?_
    exact wq_then_exit (wq_block_past rfl (wq_then_exit (wq_then_exit (wq_block_exit (wq_join hK25 [] trivial ⟨b49 :: O38, rfl, T21, hO, hS, hF, h⟩)))))
  refine wc_known_false rfl hc54 ?_
  refine wc_skip ?_
  refine wq_seq ?_
  refine wc_seq ?_
  refine wc_region (l := [0, 1, 2, 3, 4, 5, 6, 7, 8]) rfl ?_
  refine wo_seg Θ_ok [0, 1] [(5, v32), (7, (.pointer (some ⟨b49, 0, none⟩))), (22, (.slice A28 x1.length c29)), (23, (.int .i64 (x1.length : Int))), (24, (.int .i64 (i34 : Int))), (32, v32), (33, (.pointer (some ⟨b49, 0, none⟩)))] rfl ⟨rfl, rfl, rfl, rfl, rfl, rfl, rfl, trivial⟩ ?_
  refine wo_load Θ_ok rfl rfl rfl rfl rfl rfl rfl hb49 [(.int .u64 z36.fPid)] rfl rfl (.inr rfl) (.int .u64 z36.fPid) rfl ?_
  obtain ⟨y59, hy60, h⟩ := bind_some h
  refine wo_gives rfl rfl rfl rfl rfl ent9 rfl (d_Drop_c hO h33 (int_is.2 rfl) hy60) (fun v55 w56 h57 f58 => ?_)
  have h33 := h33.tr f58.tr0
  have h1 := h1.tr f58.tr0
  have hg0 := hg0.tr f58.tr0
  have hb49 := hb49.fr0 f58
  have T21 := T21.trans f58.tr0
  have T30 := T30.trans f58.tr0
  have hO := f58.ob hO
  have hF := hF.trans f58
  obtain ⟨u61, u63, rfl, h62, h64⟩ := h57
  obtain rfl := int_is.1 h64
  refine wo_seg Θ_ok [4, 5, 6, 7, 8] [(5, v32), (7, (.pointer (some ⟨b49, 0, none⟩))), (8, u61), (9, (.int .i64 y59.2)), (22, (.slice A28 x1.length c29)), (23, (.int .i64 (x1.length : Int))), (24, (.int .i64 (i34 : Int)))] rfl ⟨rfl, rfl, rfl, rfl, rfl, rfl, rfl, trivial⟩ ?_
  refine wo_nil ?_
  refine wq_seq ?_
  refine wc_seq ?_
  refine wc_region (l := [0]) rfl ?_
  refine wo_seg Θ_ok [0] [(5, v32), (7, (.pointer (some ⟨b49, 0, none⟩))), (8, u61), (9, (.int .i64 y59.2)), (22, (.slice A28 x1.length c29)), (23, (.int .i64 (x1.length : Int))), (24, (.int .i64 (i34 : Int)))] rfl ⟨rfl, rfl, rfl, rfl, rfl, rfl, rfl, trivial⟩ ?_
  refine wo_nil ?_
  refine wq_seq ?_
  refine wc_seq ?_
  refine wc_region (l := [0]) rfl ?_
  refine wo_seg Θ_ok [0] [(5, v32), (7, (.pointer (some ⟨b49, 0, none⟩))), (8, u61), (9, (.int .i64 y59.2)), (22, (.slice A28 x1.length c29)), (23, (.int .i64 (x1.length : Int))), (24, (.int .i64 (i34 : Int)))] rfl ⟨rfl, rfl, rfl, rfl, rfl, rfl, rfl, trivial⟩ ?_
  refine wo_nil ?_
  refine wq_seq ?_
  refine wc_seq ?_
  refine wc_region (l := [0]) rfl ?_
  refine wo_seg Θ_ok [0] [(5, v32), (7, (.pointer (some ⟨b49, 0, none⟩))), (8, u61), (9, (.int .i64 y59.2)), (22, (.slice A28 x1.length c29)), (23, (.int .i64 (x1.length : Int))), (24, (.int .i64 (i34 : Int)))] rfl ⟨rfl, rfl, rfl, rfl, rfl, rfl, rfl, trivial⟩ ?_
  refine wo_nil ?_
  refine wq_seq ?_
  obtain ⟨k66, hk67, h⟩ := letk_some h
  refine wc_join (fun E W => ∃ (O75 : List Nat) (p70 : List GDesc) (p73 : Int) (p74 : Int) (v71 : Value), E = [(5, v32), (7, (.pointer (some ⟨b49, 0, none⟩))), (8, u61), (9, (.int .i64 y59.2)), (10, v71), (11, (.int .i64 p73)), (12, (.int .i64 p74)), (22, (.slice A28 x1.length c29)), (23, (.int .i64 (x1.length : Int))), (24, (.int .i64 (i34 : Int)))] ∧ Tr (b49 :: O38) w56 O75 W ∧ OB O75 W ∧ Sub O O75 ∧ Fr [] w W ∧ b49 ∈ O75 ∧ Blk W b49 29 [(.int .u64 z36.fPid), (.int .i64 z36.fFd), (.int .u64 z36.fWhat)] ∧ (Ty.slice tGDesc).is O75 W v71 p70 ∧ k66 p70 p73 p74 = some r) ?_ (fun K68 hK69 => ?_)
  rotate_left
  · clear hk67
    have T65 := Tr.refl (b49 :: O38) w56
    refine wc_seq ?_
    refine wc_region (l := [0, 1, 2]) rfl ?_
    refine wo_seg Θ_ok [0] [(5, v32), (7, (.pointer (some ⟨b49, 0, none⟩))), (8, u61), (9, (.int .i64 y59.2)), (22, (.slice A28 x1.length c29)), (23, (.int .i64 (x1.length : Int))), (24, (.int .i64 (i34 : Int))), (38, (.pointer (some ⟨b49, 2, none⟩)))] rfl ⟨rfl, rfl, rfl, rfl, rfl, rfl, rfl, rfl, trivial⟩ ?_
    refine wo_load Θ_ok rfl rfl rfl rfl rfl rfl rfl hb49 [(.int .u64 z36.fWhat)] rfl rfl (.inr rfl) (.int .u64 z36.fWhat) rfl ?_
    refine wo_seg Θ_ok [2] [(5, v32), (7, (.pointer (some ⟨b49, 0, none⟩))), (8, u61), (9, (.int .i64 y59.2)), (22, (.slice A28 x1.length c29)), (23, (.int .i64 (x1.length : Int))), (24, (.int .i64 (i34 : Int))), (40, (.int .u64 (z36.fWhat.tmod (3 : Int))))] rfl ⟨rfl, rfl, rfl, rfl, rfl, rfl, rfl, rfl, trivial⟩ ?_
    refine wo_nil ?_
    refine wq_seq ?_
    refine wc_block ?_
    refine wc_seq ?_
    refine wc_region (l := [0, 1]) rfl ?_
    refine wo_seg Θ_ok [0, 1] [(5, v32), (7, (.pointer (some ⟨b49, 0, none⟩))), (8, u61), (9, (.int .i64 y59.2)), (22, (.slice A28 x1.length c29)), (23, (.int .i64 (x1.length : Int))), (24, (.int .i64 (i34 : Int))), (40, (.int .u64 (z36.fWhat.tmod (3 : Int)))), (51, (.bool ((z36.fWhat.tmod (3 : Int)) == (0 : Int))))] rfl ⟨rfl, rfl, rfl, rfl, rfl, rfl, rfl, rfl, rfl, trivial⟩ ?_
    refine wo_nil ?_
    refine wq_seq ?_
    rcases bif_some h with ⟨hc106, h⟩ | ⟨hc106, h⟩
    · refine wc_known_true rfl hc106 ?_
      refine wc_seq ?_
      refine wc_region (l := [0, 1, 2, 3, 4, 5, 6, 7, 8, 9, 10, 11]) rfl ?_
      refine wo_seg Θ_ok [0, 1] [(5, v32), (7, (.pointer (some ⟨b49, 0, none⟩))), (8, u61), (9, (.int .i64 y59.2)), (22, (.slice A28 x1.length c29)), (23, (.int .i64 (x1.length : Int))), (24, (.int .i64 (i34 : Int))), (54, v32), (55, (.pointer (some ⟨b49, 0, none⟩)))] rfl ⟨rfl, rfl, rfl, rfl, rfl, rfl, rfl, rfl, rfl, trivial⟩ ?_
      refine wo_load Θ_ok rfl rfl rfl rfl rfl rfl rfl hb49 [(.int .u64 z36.fPid)] rfl rfl (.inr rfl) (.int .u64 z36.fPid) rfl ?_
      refine wo_seg Θ_ok [3] [(5, v32), (7, (.pointer (some ⟨b49, 0, none⟩))), (8, u61), (9, (.int .i64 y59.2)), (22, (.slice A28 x1.length c29)), (23, (.int .i64 (x1.length : Int))), (24, (.int .i64 (i34 : Int))), (54, v32), (56, (.int .u64 z36.fPid)), (57, (.pointer (some ⟨b49, 2, none⟩)))] rfl ⟨rfl, rfl, rfl, rfl, rfl, rfl, rfl, rfl, rfl, rfl, trivial⟩ ?_
      refine wo_load Θ_ok rfl rfl rfl rfl rfl rfl rfl hb49 [(.int .u64 z36.fWhat)] rfl rfl (.inr rfl) (.int .u64 z36.fWhat) rfl ?_
      obtain ⟨y111, hy112, h⟩ := bind_some h
      refine wo_gives rfl rfl rfl rfl rfl ent10 rfl (d_Open_c hO h33 (int_is.2 rfl) (int_is.2 rfl) hy112) (fun v107 w108 h109 f110 => ?_)
      have h33 := h33.tr f110.tr0
      have h1 := h1.tr f110.tr0
      have h62 := h62.tr f110.tr0
      have hg0 := hg0.tr f110.tr0
      have hb49 := hb49.fr0 f110
      have T21 := T21.trans f110.tr0
      have T30 := T30.trans f110.tr0
      have T65 := T65.trans f110.tr0
      have hO := f110.ob hO
      have hF := hF.trans f110
      obtain ⟨u113, u115, u117, rfl, h114, h116, h118⟩ := h109
      obtain rfl := int_is.1 h116
      obtain rfl := int_is.1 h118
      refine wo_seg Θ_ok [6, 7, 8, 9, 10, 11] [(5, v32), (7, (.pointer (some ⟨b49, 0, none⟩))), (8, u61), (9, (.int .i64 y59.2)), (10, u113), (11, (.int .i64 y111.2.2)), (22, (.slice A28 x1.length c29)), (23, (.int .i64 (x1.length : Int))), (24, (.int .i64 (i34 : Int)))] rfl ⟨rfl, rfl, rfl, rfl, rfl, rfl, rfl, rfl, rfl, trivial⟩ ?_
      refine wo_nil ?_
      refine wq_seq ?_
      refine wc_region (l := [0]) rfl ?_
      refine wo_seg Θ_ok [0] [(5, v32), (7, (.pointer (some ⟨b49, 0, none⟩))), (8, u61), (9, (.int .i64 y59.2)), (10, u113), (11, (.int .i64 y111.2.2)), (12, (.int .i64 1)), (22, (.slice A28 x1.length c29)), (23, (.int .i64 (x1.length : Int))), (24, (.int .i64 (i34 : Int)))] rfl ⟨rfl, rfl, rfl, rfl, rfl, rfl, rfl, rfl, rfl, rfl, trivial⟩ ?_
      refine wo_nil ?_
      exact wq_block (wq_join hK69 [(5, v32), (7, (.pointer (some ⟨b49, 0, none⟩))), (8, u61), (9, (.int .i64 y59.2)), (10, u113), (11, (.int .i64 y111.2.2)), (12, (.int .i64 1)), (22, (.slice A28 x1.length c29)), (23, (.int .i64 (x1.length : Int))), (24, (.int .i64 (i34 : Int)))] ⟨rfl, rfl, rfl, rfl, rfl, rfl, rfl, rfl, rfl, rfl, trivial⟩ ⟨b49 :: O38, y111.1, y111.2.2, (1 : Int), u113, rfl, T65, hO, hS, hF, ib49, hb49, h114, h⟩)
    refine wc_known_false rfl hc106 ?_
    refine wc_seq ?_
    refine wc_region (l := [0, 1]) rfl ?_
    refine wo_seg Θ_ok [0, 1] [(5, v32), (7, (.pointer (some ⟨b49, 0, none⟩))), (8, u61), (9, (.int .i64 y59.2)), (22, (.slice A28 x1.length c29)), (23, (.int .i64 (x1.length : Int))), (24, (.int .i64 (i34 : Int))), (63, (.bool ((z36.fWhat.tmod (3 : Int)) == (1 : Int))))] rfl ⟨rfl, rfl, rfl, rfl, rfl, rfl, rfl, rfl, trivial⟩ ?_
    refine wo_nil ?_
    refine wq_seq ?_
    rcases bif_some h with ⟨hc119, h⟩ | ⟨hc119, h⟩
    · refine wc_known_true rfl hc119 ?_
      refine wc_seq ?_
      refine wc_region (l := [0, 1, 2, 3, 4, 5, 6, 7, 8, 9, 10, 11]) rfl ?_
      refine wo_seg Θ_ok [0, 1] [(5, v32), (7, (.pointer (some ⟨b49, 0, none⟩))), (8, u61), (9, (.int .i64 y59.2)), (22, (.slice A28 x1.length c29)), (23, (.int .i64 (x1.length : Int))), (24, (.int .i64 (i34 : Int))), (66, v32), (67, (.pointer (some ⟨b49, 0, none⟩)))] rfl ⟨rfl, rfl, rfl, rfl, rfl, rfl, rfl, rfl, rfl, trivial⟩ ?_
      refine wo_load Θ_ok rfl rfl rfl rfl rfl rfl rfl hb49 [(.int .u64 z36.fPid)] rfl rfl (.inr rfl) (.int .u64 z36.fPid) rfl ?_
      refine wo_seg Θ_ok [3] [(5, v32), (7, (.pointer (some ⟨b49, 0, none⟩))), (8, u61), (9, (.int .i64 y59.2)), (22, (.slice A28 x1.length c29)), (23, (.int .i64 (x1.length : Int))), (24, (.int .i64 (i34 : Int))), (66, v32), (68, (.int .u64 z36.fPid)), (69, (.pointer (some ⟨b49, 1, none⟩)))] rfl ⟨rfl, rfl, rfl, rfl, rfl, rfl, rfl, rfl, rfl, rfl, trivial⟩ ?_
      refine wo_load Θ_ok rfl rfl rfl rfl rfl rfl rfl hb49 [(.int .i64 z36.fFd)] rfl rfl (.inr rfl) (.int .i64 z36.fFd) rfl ?_
      obtain ⟨y124, hy125, h⟩ := bind_some h
      refine wo_gives rfl rfl rfl rfl rfl ent11 rfl (d_Dup_c hO h33 (int_is.2 rfl) (int_is.2 rfl) hy125) (fun v120 w121 h122 f123 => ?_)
      have h33 := h33.tr f123.tr0
      have h1 := h1.tr f123.tr0
      have h62 := h62.tr f123.tr0
      have hg0 := hg0.tr f123.tr0
      have hb49 := hb49.fr0 f123
      have T21 := T21.trans f123.tr0
      have T30 := T30.trans f123.tr0
      have T65 := T65.trans f123.tr0
      have hO := f123.ob hO
      have hF := hF.trans f123
      obtain ⟨u126, u128, u130, rfl, h127, h129, h131⟩ := h122
      obtain rfl := int_is.1 h129
      obtain rfl := int_is.1 h131
      refine wo_seg Θ_ok [6, 7, 8, 9, 10, 11] [(5, v32), (7, (.pointer (some ⟨b49, 0, none⟩))), (8, u61), (9, (.int .i64 y59.2)), (10, u126), (11, (.int .i64 y124.2.2)), (22, (.slice A28 x1.length c29)), (23, (.int .i64 (x1.length : Int))), (24, (.int .i64 (i34 : Int)))] rfl ⟨rfl, rfl, rfl, rfl, rfl, rfl, rfl, rfl, rfl, trivial⟩ ?_
      refine wo_nil ?_
      refine wq_seq ?_
      refine wc_region (l := [0]) rfl ?_
      refine wo_seg Θ_ok [0] [(5, v32), (7, (.pointer (some ⟨b49, 0, none⟩))), (8, u61), (9, (.int .i64 y59.2)), (10, u126), (11, (.int .i64 y124.2.2)), (12, (.int .i64 1)), (22, (.slice A28 x1.length c29)), (23, (.int .i64 (x1.length : Int))), (24, (.int .i64 (i34 : Int)))] rfl ⟨rfl, rfl, rfl, rfl, rfl, rfl, rfl, rfl, rfl, rfl, trivial⟩ ?_
      refine wo_nil ?_
      exact wq_block (wq_join hK69 [(5, v32), (7, (.pointer (some ⟨b49, 0, none⟩))), (8, u61), (9, (.int .i64 y59.2)), (10, u126), (11, (.int .i64 y124.2.2)), (12, (.int .i64 1)), (22, (.slice A28 x1.length c29)), (23, (.int .i64 (x1.length : Int))), (24, (.int .i64 (i34 : Int)))] ⟨rfl, rfl, rfl, rfl, rfl, rfl, rfl, rfl, rfl, rfl, trivial⟩ ⟨b49 :: O38, y124.1, y124.2.2, (1 : Int), u126, rfl, T65, hO, hS, hF, ib49, hb49, h127, h⟩)
    refine wc_known_false rfl hc119 ?_
    refine wc_seq ?_
    refine wc_region (l := [0, 1, 2, 3, 4, 5, 6, 7, 8, 9, 10, 11]) rfl ?_
    refine wo_seg Θ_ok [0, 1] [(5, v32), (7, (.pointer (some ⟨b49, 0, none⟩))), (8, u61), (9, (.int .i64 y59.2)), (22, (.slice A28 x1.length c29)), (23, (.int .i64 (x1.length : Int))), (24, (.int .i64 (i34 : Int))), (42, v32), (43, (.pointer (some ⟨b49, 0, none⟩)))] rfl ⟨rfl, rfl, rfl, rfl, rfl, rfl, rfl, rfl, rfl, trivial⟩ ?_
    refine wo_load Θ_ok rfl rfl rfl rfl rfl rfl rfl hb49 [(.int .u64 z36.fPid)] rfl rfl (.inr rfl) (.int .u64 z36.fPid) rfl ?_
    refine wo_seg Θ_ok [3] [(5, v32), (7, (.pointer (some ⟨b49, 0, none⟩))), (8, u61), (9, (.int .i64 y59.2)), (22, (.slice A28 x1.length c29)), (23, (.int .i64 (x1.length : Int))), (24, (.int .i64 (i34 : Int))), (42, v32), (44, (.int .u64 z36.fPid)), (45, (.pointer (some ⟨b49, 1, none⟩)))] rfl ⟨rfl, rfl, rfl, rfl, rfl, rfl, rfl, rfl, rfl, rfl, trivial⟩ ?_
    refine wo_load Θ_ok rfl rfl rfl rfl rfl rfl rfl hb49 [(.int .i64 z36.fFd)] rfl rfl (.inr rfl) (.int .i64 z36.fFd) rfl ?_
    refine wo_litd Θ_ok rfl rfl rfl rfl rfl rfl rfl rfl rfl rfl (T := (Ty.int .i64)) (xs := [z36.fFd]) (vs := [(.int .i64 z36.fFd)]) rfl ⟨(int_is.2 rfl), trivial⟩ rfl rfl rfl hO (fun v132 w133 h134 f135 => ?_)
    have h33 := h33.tr f135.tr0
    have h1 := h1.tr f135.tr0
    have h62 := h62.tr f135.tr0
    have hg0 := hg0.tr f135.tr0
    have hb49 := hb49.fr0 f135
    have T21 := T21.trans f135.tr0
    have T30 := T30.trans f135.tr0
    have T65 := T65.trans f135.tr0
    have hO := f135.ob hO
    have hF := hF.trans f135
    obtain ⟨y140, hy141, h⟩ := bind_some h
    refine wo_gives rfl rfl rfl rfl rfl ent12 rfl (d_Close_c hO h33 (int_is.2 rfl) h134 hy141) (fun v136 w137 h138 f139 => ?_)
    have h33 := h33.tr f139.tr0
    have h1 := h1.tr f139.tr0
    have h62 := h62.tr f139.tr0
    have hg0 := hg0.tr f139.tr0
    have hb49 := hb49.fr0 f139
    have T21 := T21.trans f139.tr0
    have T30 := T30.trans f139.tr0
    have T65 := T65.trans f139.tr0
    have hO := f139.ob hO
    have hF := hF.trans f139
    obtain ⟨u142, u144, rfl, h143, h145⟩ := h138
    obtain rfl := int_is.1 h145
    refine wo_seg Θ_ok [7, 8, 9, 10, 11] [(5, v32), (7, (.pointer (some ⟨b49, 0, none⟩))), (8, u61), (9, (.int .i64 y59.2)), (10, u142), (11, (.int .i64 y140.2)), (22, (.slice A28 x1.length c29)), (23, (.int .i64 (x1.length : Int))), (24, (.int .i64 (i34 : Int)))] rfl ⟨rfl, rfl, rfl, rfl, rfl, rfl, rfl, rfl, rfl, trivial⟩ ?_
    refine wo_nil ?_
    refine wq_seq ?_
    refine wc_region (l := [0]) rfl ?_
    refine wo_seg Θ_ok [0] [(5, v32), (7, (.pointer (some ⟨b49, 0, none⟩))), (8, u61), (9, (.int .i64 y59.2)), (10, u142), (11, (.int .i64 y140.2)), (12, (.int .i64 (-1))), (22, (.slice A28 x1.length c29)), (23, (.int .i64 (x1.length : Int))), (24, (.int .i64 (i34 : Int)))] rfl ⟨rfl, rfl, rfl, rfl, rfl, rfl, rfl, rfl, rfl, rfl, trivial⟩ ?_
    refine wo_nil ?_
    exact wq_block (wq_join hK69 [(5, v32), (7, (.pointer (some ⟨b49, 0, none⟩))), (8, u61), (9, (.int .i64 y59.2)), (10, u142), (11, (.int .i64 y140.2)), (12, (.int .i64 (-1))), (22, (.slice A28 x1.length c29)), (23, (.int .i64 (x1.length : Int))), (24, (.int .i64 (i34 : Int)))] ⟨rfl, rfl, rfl, rfl, rfl, rfl, rfl, rfl, rfl, rfl, trivial⟩ ⟨b49 :: O38, y140.1, y140.2, (-1 : Int), u142, rfl, T65, hO, hS, hF, ib49, hb49, h143, h⟩)
  rintro E w76 ⟨O75, p70, p73, p74, v71, rfl, T65, hO, hS, hF, ib49, hb49, h72, h⟩
  have T21 := T21.trans T65
  have T30 := T30.trans T65
  have h33 := h33.tr T65
  have h62 := h62.tr T65
  have h1 := h1.tr T65
  have hg0 := hg0.tr T65
  subst hk67
  (try dsimp only at h)
  refine wc_seq ?_
  refine wc_seq ?_
  refine wc_region (l := [0, 1]) rfl ?_
  refine wo_seg Θ_ok [0, 1] [(5, v32), (7, (.pointer (some ⟨b49, 0, none⟩))), (8, u61), (9, (.int .i64 y59.2)), (10, v71), (12, (.int .i64 p74)), (22, (.slice A28 x1.length c29)), (23, (.int .i64 (x1.length : Int))), (24, (.int .i64 (i34 : Int))), (76, (.bool (p73 != (0 : Int))))] rfl ⟨rfl, rfl, rfl, rfl, rfl, rfl, rfl, rfl, rfl, rfl, trivial⟩ ?_
  refine wo_nil ?_
  refine wq_seq ?_
  rcases bif_some h with ⟨hc77, h⟩ | ⟨hc77, h⟩
  · refine wc_known_true rfl hc77 ?_
    refine wc_seq ?_
    refine wc_seq ?_
    refine wc_region (l := [0, 1, 2]) rfl ?_
    refine wo_seg Θ_ok [0] [(5, v32), (22, (.slice A28 x1.length c29)), (23, (.int .i64 (x1.length : Int))), (24, (.int .i64 (i34 : Int))), (77, v71)] rfl ⟨rfl, rfl, rfl, rfl, rfl, trivial⟩ ?_
    obtain ⟨A78, c79, rfl, hlc79, hmc79⟩ := slice_form h72
    refine wo_seg Θ_ok [1] [(5, v32), (22, (.slice A28 x1.length c29)), (23, (.int .i64 (x1.length : Int))), (24, (.int .i64 (i34 : Int))), (78, (.int .i64 (p70.length : Int)))] rfl ⟨rfl, rfl, rfl, rfl, rfl, trivial⟩ ?_
    refine wo_seg Θ_ok [2] [(5, v32), (22, (.slice A28 x1.length c29)), (23, (.int .i64 (x1.length : Int))), (24, (.int .i64 (i34 : Int))), (79, (.bool (decide ((p70.length : Int) > (0 : Int)))))] rfl ⟨rfl, rfl, rfl, rfl, rfl, trivial⟩ ?_
    refine wo_nil ?_
    refine wq_seq ?_
    rcases bif_some h with ⟨hc80, h⟩ | ⟨hc80, h⟩
    · refine wc_known_true rfl hc80 ?_
      refine wc_seq ?_
      refine wc_region (l := [0]) rfl ?_
      refine wo_seg Θ_ok [0] [(4, (.bool false))] rfl ⟨rfl, trivial⟩ ?_
      refine wo_nil ?_
      refine wq_seq ?_
      refine wc_ret ?_
      cases h
      exact wq_then_ret (wq_then_ret (wq_block_ret (wq_then_ret (wq_then_ret (wq_block_ret (wq_then_ret (wq_ret rfl ⟨_, rfl, (bool_is.2 rfl), hF⟩)))))))
    refine wc_known_false rfl hc80 ?_
    refine wc_skip ?_
    refine wq_seq ?_
    refine wc_exit ?_
    refine wq_then_exit (wq_block_exit (wq_seq ?_))
    refine wc_region (l := [0, 1]) rfl ?_
    refine wo_seg Θ_ok [0, 1] [(5, v32), (22, (.slice A28 x1.length c29)), (23, (.int .i64 (x1.length : Int))), (24, (.int .i64 (IntKind.i64.wrap ((i34 : Int) + (1 : Int)))))] rfl ⟨rfl, rfl, rfl, rfl, trivial⟩ ?_
    refine wo_nil ?_
    exact wq_next rest35.length [(5, v32), (22, (.slice A28 x1.length c29)), (23, (.int .i64 (x1.length : Int))), (24, (.int .i64 ((i34 + 1 : Nat) : Int)))] (Nat.lt_succ_self _) ⟨rfl, rfl, rfl, congrArg (fun z => some (Value.int .i64 z)) (wrap_succ hl44 (Nat.le_trans hlc29 hmc29)), trivial⟩ ⟨rest35, i34 + 1, O75, p31, v32, rfl, hd37, rfl, T30, hO, hS, hF, h33, h⟩
  refine wc_known_false rfl hc77 ?_
  refine wc_skip ?_
  refine wq_seq ?_
  refine wc_seq ?_
  refine wc_region (l := [0, 1, 2, 3, 4, 5, 6, 7, 8]) rfl ?_
  refine wo_seg Θ_ok [0, 1] [(8, u61), (9, (.int .i64 y59.2)), (10, v71), (12, (.int .i64 p74)), (22, (.slice A28 x1.length c29)), (23, (.int .i64 (x1.length : Int))), (24, (.int .i64 (i34 : Int))), (81, v71), (82, (.pointer (some ⟨b49, 0, none⟩)))] rfl ⟨rfl, rfl, rfl, rfl, rfl, rfl, rfl, rfl, rfl, trivial⟩ ?_
  refine wo_load Θ_ok rfl rfl rfl rfl rfl rfl rfl hb49 [(.int .u64 z36.fPid)] rfl rfl (.inr rfl) (.int .u64 z36.fPid) rfl ?_
  obtain ⟨y85, hy86, h⟩ := bind_some h
  refine wo_gives rfl rfl rfl rfl rfl ent9 rfl (d_Drop_c hO h72 (int_is.2 rfl) hy86) (fun v81 w82 h83 f84 => ?_)
  have h62 := h62.tr f84.tr0
  have h72 := h72.tr f84.tr0
  have h1 := h1.tr f84.tr0
  have hg0 := hg0.tr f84.tr0
  have T21 := T21.trans f84.tr0
  have T30 := T30.trans f84.tr0
  have hO := f84.ob hO
  have hF := hF.trans f84
  obtain ⟨u87, u89, rfl, h88, h90⟩ := h83
  obtain rfl := int_is.1 h90
  refine wo_seg Θ_ok [4, 5, 6, 7, 8] [(8, u61), (9, (.int .i64 y59.2)), (10, v71), (12, (.int .i64 p74)), (13, u87), (14, (.int .i64 y85.2)), (22, (.slice A28 x1.length c29)), (23, (.int .i64 (x1.length : Int))), (24, (.int .i64 (i34 : Int)))] rfl ⟨rfl, rfl, rfl, rfl, rfl, rfl, rfl, rfl, rfl, trivial⟩ ?_
  refine wo_nil ?_
  refine wq_seq ?_
  refine wc_seq ?_
  refine wc_seq ?_
  refine wc_region (l := [0, 1, 2, 3, 4, 5, 6, 7, 8, 9, 10, 11, 12, 13, 14, 15]) rfl ?_
  refine wo_seg Θ_ok [0, 1] [(9, (.int .i64 y59.2)), (10, v71), (12, (.int .i64 p74)), (14, (.int .i64 y85.2)), (22, (.slice A28 x1.length c29)), (23, (.int .i64 (x1.length : Int))), (24, (.int .i64 (i34 : Int))), (87, u87), (88, u61)] rfl ⟨rfl, rfl, rfl, rfl, rfl, rfl, rfl, rfl, rfl, trivial⟩ ?_
  obtain ⟨y95, hy96, h⟩ := bind_some h
  refine wo_gives rfl rfl rfl rfl rfl ent13 rfl (s_Equal_c hO h88 h62 hy96) (fun v91 w92 h93 f94 => ?_)
  have h72 := h72.tr f94.tr0
  have h1 := h1.tr f94.tr0
  have hg0 := hg0.tr f94.tr0
  have T21 := T21.trans f94.tr0
  have T30 := T30.trans f94.tr0
  have hO := f94.ob hO
  have hF := hF.trans f94
  obtain rfl := bool_is.1 h93
  refine wo_seg Θ_ok [3, 4] [(9, (.int .i64 y59.2)), (10, v71), (12, (.int .i64 p74)), (14, (.int .i64 y85.2)), (22, (.slice A28 x1.length c29)), (23, (.int .i64 (x1.length : Int))), (24, (.int .i64 (i34 : Int))), (91, (.bool (!y95)))] rfl ⟨rfl, rfl, rfl, rfl, rfl, rfl, rfl, rfl, trivial⟩ ?_
  rcases bif_some h with ⟨hc97, h⟩ | ⟨hc97, h⟩
  · refine wo_know 91 true rfl hc97 ?_
    refine wo_seg Θ_ok [5, 6, 7, 8, 9, 10, 11, 12, 13, 14, 15] [(10, v71), (22, (.slice A28 x1.length c29)), (23, (.int .i64 (x1.length : Int))), (24, (.int .i64 (i34 : Int))), (102, (.bool true))] rfl ⟨rfl, rfl, rfl, rfl, rfl, trivial⟩ ?_
    refine wo_nil ?_
    refine wq_seq ?_
    refine wc_true rfl ?_
    refine wc_seq ?_
    refine wc_region (l := [0]) rfl ?_
    refine wo_seg Θ_ok [0] [(4, (.bool false))] rfl ⟨rfl, trivial⟩ ?_
    refine wo_nil ?_
    refine wq_seq ?_
    refine wc_ret ?_
    cases h
    exact wq_then_ret (wq_block_ret (wq_then_ret (wq_then_ret (wq_block_ret (wq_then_ret (wq_ret rfl ⟨_, rfl, (bool_is.2 rfl), hF⟩))))))
  refine wo_know 91 false rfl hc97 ?_
  refine wo_seg Θ_ok [5, 6, 7, 8, 9, 10, 11] [(10, v71), (22, (.slice A28 x1.length c29)), (23, (.int .i64 (x1.length : Int))), (24, (.int .i64 (i34 : Int))), (98, (.bool (y85.2 != (IntKind.i64.wrap (y59.2 + p74)))))] rfl ⟨rfl, rfl, rfl, rfl, rfl, trivial⟩ ?_
  rcases bif_some h with ⟨hc98, h⟩ | ⟨hc98, h⟩
  · refine wo_know 98 true rfl hc98 ?_
    refine wo_seg Θ_ok [12, 13, 14, 15] [(10, v71), (22, (.slice A28 x1.length c29)), (23, (.int .i64 (x1.length : Int))), (24, (.int .i64 (i34 : Int))), (102, (.bool true))] rfl ⟨rfl, rfl, rfl, rfl, rfl, trivial⟩ ?_
    refine wo_nil ?_
    refine wq_seq ?_
    refine wc_true rfl ?_
    refine wc_seq ?_
    refine wc_region (l := [0]) rfl ?_
    refine wo_seg Θ_ok [0] [(4, (.bool false))] rfl ⟨rfl, trivial⟩ ?_
    refine wo_nil ?_
    refine wq_seq ?_
    refine wc_ret ?_
    cases h
    exact wq_then_ret (wq_block_ret (wq_then_ret (wq_then_ret (wq_block_ret (wq_then_ret (wq_ret rfl ⟨_, rfl, (bool_is.2 rfl), hF⟩))))))
  refine wo_know 98 false rfl hc98 ?_
  refine wo_seg Θ_ok [12] [(10, v71), (22, (.slice A28 x1.length c29)), (23, (.int .i64 (x1.length : Int))), (24, (.int .i64 (i34 : Int))), (98, (.bool false)), (99, v71)] rfl ⟨rfl, rfl, rfl, rfl, rfl, rfl, trivial⟩ ?_
  obtain ⟨y103, hy104, h⟩ := bind_some h
  refine wo_gives rfl rfl rfl rfl rfl ent8 rfl (d_Check_c hO h72 hy104) (fun v99 w100 h101 f102 => ?_)
  have h72 := h72.tr f102.tr0
  have h1 := h1.tr f102.tr0
  have hg0 := hg0.tr f102.tr0
  have T21 := T21.trans f102.tr0
  have T30 := T30.trans f102.tr0
  have hO := f102.ob hO
  have hF := hF.trans f102
  obtain rfl := int_is.1 h101
  refine wo_seg Θ_ok [14, 15] [(10, v71), (22, (.slice A28 x1.length c29)), (23, (.int .i64 (x1.length : Int))), (24, (.int .i64 (i34 : Int))), (102, (.bool (y103 != (0 : Int))))] rfl ⟨rfl, rfl, rfl, rfl, rfl, trivial⟩ ?_
  refine wo_nil ?_
  refine wq_seq ?_
  rcases bif_some h with ⟨hc105, h⟩ | ⟨hc105, h⟩
  · refine wc_known_true rfl hc105 ?_
    refine wc_seq ?_
    refine wc_region (l := [0]) rfl ?_
    refine wo_seg Θ_ok [0] [(4, (.bool false))] rfl ⟨rfl, trivial⟩ ?_
    refine wo_nil ?_
    refine wq_seq ?_
    refine wc_ret ?_
    cases h
    exact wq_then_ret (wq_block_ret (wq_then_ret (wq_then_ret (wq_block_ret (wq_then_ret (wq_ret rfl ⟨_, rfl, (bool_is.2 rfl), hF⟩))))))
  refine wc_known_false rfl hc105 ?_
  refine wc_skip ?_
  refine wq_seq ?_
  refine wc_region (l := [0, 1]) rfl ?_
  refine wo_seg Θ_ok [0, 1] [(5, v71), (22, (.slice A28 x1.length c29)), (23, (.int .i64 (x1.length : Int))), (24, (.int .i64 (i34 : Int)))] rfl ⟨rfl, rfl, rfl, rfl, trivial⟩ ?_
  refine wo_nil ?_
  refine wq_block (wq_seq ?_)
  refine wc_region (l := [0, 1]) rfl ?_
  refine wo_seg Θ_ok [0, 1] [(5, v71), (22, (.slice A28 x1.length c29)), (23, (.int .i64 (x1.length : Int))), (24, (.int .i64 (IntKind.i64.wrap ((i34 : Int) + (1 : Int)))))] rfl ⟨rfl, rfl, rfl, rfl, trivial⟩ ?_
  refine wo_nil ?_
  exact wq_next rest35.length [(5, v71), (22, (.slice A28 x1.length c29)), (23, (.int .i64 (x1.length : Int))), (24, (.int .i64 ((i34 + 1 : Nat) : Int)))] (Nat.lt_succ_self _) ⟨rfl, rfl, rfl, congrArg (fun z => some (Value.int .i64 z)) (wrap_succ hl44 (Nat.le_trans hlc29 hmc29)), trivial⟩ ⟨rest35, i34 + 1, O75, p70, v71, rfl, hd37, rfl, T30, hO, hS, hF, h72, h⟩
end Go.Proofs.YtbaffpifmfddeaaDoor
