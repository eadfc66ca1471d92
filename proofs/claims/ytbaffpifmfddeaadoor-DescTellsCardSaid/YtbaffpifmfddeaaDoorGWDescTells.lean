/-
  The program's functions compute the plain ones (printed by a tool of the prover's).
-/
import Derived.Test.YtbaffpifmfddeaaDoorGWalk4
namespace Go.Proofs.YtbaffpifmfddeaaDoor
open Go.RowKit Go.Dc Go.Shelf
set_option maxRecDepth 100000 in
set_option maxHeartbeats 4000000 in
theorem l_Tells_c {O : List Nat} {w : World} (hO : OB O w) {fuel : Nat} (hg0 : (Ty.ptr (Ty.slice tGField)).is O w (.pointer (some ⟨0, 0, none⟩)) g_parts) {v0 : Value} {x0 : List GDesc} (h0 : (Ty.slice tGDesc).is O w v0 x0) {v1 : Value} {x1 : List GDesc} (h1 : (Ty.slice tGDesc).is O w v1 x1) {v2 : Value} {x2 : List Int} (h2 : (Ty.slice (Ty.int .u64)).is O w v2 x2) {r : Bool} (h : l_Tells fuel x0 x1 x2 = some r) : Calls Tryd.prog 4 #[v0, v1, v2] w (Gives (rt1 Ty.bool) O w r) := by
  have hF := Fr.refl [] w
  have hO0 := hO
  have hS := Sub.refl O
  refine calls_of (args := [v0, v1, v2]) (N := 176) Tryd.func4 rfl rfl rfl ?_
  unfold l_Tells at h
  refine wc_seq ?_
  refine wc_region (l := [0]) rfl ?_
  refine wo_seg Θ_ok [0] [(0, v0), (1, v1), (2, v2)] rfl ⟨rfl, rfl, rfl, trivial⟩ ?_
  refine wo_nil ?_
  refine wq_seq ?_
  refine wc_seq ?_
  refine wc_seq ?_
  refine wc_region (l := [0, 1]) rfl ?_
  obtain ⟨y5, hy6, h⟩ := bind_some h
  refine wo_gives rfl rfl rfl rfl rfl ent6 rfl (wakes_c hO hg0 hy6) (fun v1 w2 h3 f4 => ?_)
  have h0 := h0.tr f4.tr0
  have h1 := h1.tr f4.tr0
  have h2 := h2.tr f4.tr0
  have hg0 := hg0.tr f4.tr0
  have hO := f4.ob hO
  have hF := hF.trans f4
  obtain rfl := bool_is.1 h3
  refine wo_seg Θ_ok [1] [(0, v0), (1, v1), (2, v2), (26, (.bool (!y5)))] rfl ⟨rfl, rfl, rfl, rfl, trivial⟩ ?_
  refine wo_nil ?_
  refine wq_seq ?_
  rcases bif_some h with ⟨hc7, h⟩ | ⟨hc7, h⟩
  · refine wc_known_true rfl hc7 ?_
    refine wc_seq ?_
    refine wc_region (l := [0]) rfl ?_
    refine wo_seg Θ_ok [0] [(6, (.bool false))] rfl ⟨rfl, trivial⟩ ?_
    refine wo_nil ?_
    refine wq_seq ?_
    refine wc_ret ?_
    cases h
    exact wq_then_ret (wq_ret rfl ⟨_, rfl, (bool_is.2 rfl), hF⟩)
  refine wc_known_false rfl hc7 ?_
  refine wc_skip ?_
  refine wq_seq ?_
  refine wc_seq ?_
  refine wc_region (l := [0, 1, 2]) rfl ?_
  refine wo_seg Θ_ok [0] [(0, v0), (1, v1), (2, v2), (27, v0)] rfl ⟨rfl, rfl, rfl, rfl, trivial⟩ ?_
  obtain ⟨y12, hy13, h⟩ := bind_some h
  refine wo_gives rfl rfl rfl rfl rfl ent7 rfl (own_c hO h0 hy13) (fun v8 w9 h10 f11 => ?_)
  have h0 := h0.tr f11.tr0
  have h1 := h1.tr f11.tr0
  have h2 := h2.tr f11.tr0
  have hg0 := hg0.tr f11.tr0
  have hO := f11.ob hO
  have hF := hF.trans f11
  refine wo_seg Θ_ok [2] [(0, v0), (1, v1), (2, v2), (7, v8)] rfl ⟨rfl, rfl, rfl, rfl, trivial⟩ ?_
  refine wo_nil ?_
  refine wq_seq ?_
  refine wc_seq ?_
  refine wc_region (l := [0, 1, 2]) rfl ?_
  refine wo_seg Θ_ok [0] [(0, v0), (1, v1), (2, v2), (7, v8), (29, v8)] rfl ⟨rfl, rfl, rfl, rfl, rfl, trivial⟩ ?_
  obtain ⟨y18, hy19, h⟩ := bind_some h
  refine wo_gives rfl rfl rfl rfl rfl ent14 rfl (r_Right_c hO h10 hy19) (fun v14 w15 h16 f17 => ?_)
  have h0 := h0.tr f17.tr0
  have h1 := h1.tr f17.tr0
  have h2 := h2.tr f17.tr0
  have h10 := h10.tr f17.tr0
  have hg0 := hg0.tr f17.tr0
  have hO := f17.ob hO
  have hF := hF.trans f17
  obtain rfl := bool_is.1 h16
  refine wo_seg Θ_ok [2] [(0, v0), (1, v1), (2, v2), (7, v8), (8, (.bool y18))] rfl ⟨rfl, rfl, rfl, rfl, rfl, trivial⟩ ?_
  refine wo_nil ?_
  refine wq_seq ?_
  refine wc_seq ?_
  refine wc_seq ?_
  refine wc_region (l := [0, 1, 2]) rfl ?_
  refine wo_seg Θ_ok [0] [(0, v0), (1, v1), (2, v2), (7, v8), (8, (.bool y18)), (31, v8)] rfl ⟨rfl, rfl, rfl, rfl, rfl, rfl, trivial⟩ ?_
  obtain ⟨y24, hy25, h⟩ := bind_some h
  refine wo_gives rfl rfl rfl rfl rfl ent8 rfl (d_Check_c hO h10 hy25) (fun v20 w21 h22 f23 => ?_)
  have h0 := h0.tr f23.tr0
  have h1 := h1.tr f23.tr0
  have h2 := h2.tr f23.tr0
  have h10 := h10.tr f23.tr0
  have hg0 := hg0.tr f23.tr0
  have hO := f23.ob hO
  have hF := hF.trans f23
  obtain rfl := int_is.1 h22
  refine wo_seg Θ_ok [2] [(0, v0), (1, v1), (2, v2), (7, v8), (8, (.bool y18)), (9, (.int .i64 y24))] rfl ⟨rfl, rfl, rfl, rfl, rfl, rfl, trivial⟩ ?_
  refine wo_nil ?_
  refine wq_seq ?_
  refine wc_seq ?_
  refine wc_region (l := [0, 1, 2, 3, 4, 5, 6, 7, 8, 9, 10, 11]) rfl ?_
  refine wo_seg Θ_ok [0, 1, 2, 3, 4] [(0, v0), (1, v1), (2, v2), (7, v8), (8, (.bool y18)), (9, (.int .i64 y24)), (37, (.bool (!((y24 == (0 : Int)) == y18))))] rfl ⟨rfl, rfl, rfl, rfl, rfl, rfl, rfl, trivial⟩ ?_
  rcases bif_some h with ⟨hc26, h⟩ | ⟨hc26, h⟩
  · refine wo_know 37 true rfl hc26 ?_
    refine wo_seg Θ_ok [5, 6, 7, 8, 9, 10, 11] [(0, v0), (1, v1), (2, v2), (7, v8), (8, (.bool y18)), (44, (.bool true))] rfl ⟨rfl, rfl, rfl, rfl, rfl, rfl, trivial⟩ ?_
    refine wo_nil ?_
    refine wq_seq ?_
    refine wc_true rfl ?_
    refine wc_seq ?_
    refine wc_region (l := [0]) rfl ?_
    refine wo_seg Θ_ok [0] [(6, (.bool false))] rfl ⟨rfl, trivial⟩ ?_
    refine wo_nil ?_
    refine wq_seq ?_
    refine wc_ret ?_
    cases h
    exact wq_then_ret (wq_ret rfl ⟨_, rfl, (bool_is.2 rfl), hF⟩)
  refine wo_know 37 false rfl hc26 ?_
  refine wo_seg Θ_ok [5, 6, 7] [(0, v0), (1, v1), (2, v2), (7, v8), (8, (.bool y18)), (9, (.int .i64 y24)), (37, (.bool false)), (40, (.bool (y24 != (0 : Int))))] rfl ⟨rfl, rfl, rfl, rfl, rfl, rfl, rfl, rfl, trivial⟩ ?_
  rcases bif_some h with ⟨hc27, h⟩ | ⟨hc27, h⟩
  rotate_left
  · refine wo_know 40 false rfl hc27 ?_
    refine wo_seg Θ_ok [8, 9, 10, 11] [(0, v0), (1, v1), (2, v2), (7, v8), (8, (.bool y18)), (44, (.bool false))] rfl ⟨rfl, rfl, rfl, rfl, rfl, rfl, trivial⟩ ?_
    refine wo_nil ?_
    refine wq_seq ?_
    refine wc_false rfl ?_
    refine wc_skip ?_
    refine wq_seq ?_
    obtain ⟨k312, hk313, h⟩ := letk_some h
    refine wc_join (fun E W => ∃ (O316 : List Nat), E = [(0, v0), (2, v2), (7, v8)] ∧ Tr O w21 O316 W ∧ OB O316 W ∧ Sub O O316 ∧ Fr [] w W ∧ k312 = some r) ?_ (fun K314 hK315 => ?_)
    · rintro E w317 ⟨O316, rfl, T311, hO, hS, hF, h⟩
      have h0 := h0.tr T311
      have h2 := h2.tr T311
      have h10 := h10.tr T311
      have hg0 := hg0.tr T311
      subst hk313
      (try dsimp only at h)
      obtain ⟨k319, hk320, h⟩ := letk_some h
      refine wc_join (fun E W => ∃ (O323 : List Nat), E = [(0, v0), (7, v8)] ∧ Tr O316 w317 O323 W ∧ OB O323 W ∧ Sub O O323 ∧ Fr [] w W ∧ k319 = some r) ?_ (fun K321 hK322 => ?_)
      · rintro E w324 ⟨O323, rfl, T318, hO, hS, hF, h⟩
        have h0 := h0.tr T318
        have h10 := h10.tr T318
        have hg0 := hg0.tr T318
        subst hk320
        (try dsimp only at h)
        refine wc_seq ?_
        refine wc_region (l := [0, 1, 2, 3, 4]) rfl ?_
        refine wo_seg Θ_ok [0, 1] [(172, v8), (173, v0)] rfl ⟨rfl, rfl, trivial⟩ ?_
        obtain ⟨y329, hy330, h⟩ := bind_some h
        refine wo_gives rfl rfl rfl rfl rfl ent7 rfl (own_c hO h0 hy330) (fun v325 w326 h327 f328 => ?_)
        have h10 := h10.tr f328.tr0
        have hg0 := hg0.tr f328.tr0
        have hO := f328.ob hO
        have hF := hF.trans f328
        obtain ⟨y335, hy336, h⟩ := bind_some h
        refine wo_gives rfl rfl rfl rfl rfl ent23 rfl (r_Same_c hO h10 h327 hy336) (fun v331 w332 h333 f334 => ?_)
        have hg0 := hg0.tr f334.tr0
        have hO := f334.ob hO
        have hF := hF.trans f334
        obtain rfl := bool_is.1 h333
        refine wo_seg Θ_ok [4] [(6, (.bool y335))] rfl ⟨rfl, trivial⟩ ?_
        refine wo_nil ?_
        refine wq_seq ?_
        refine wc_ret ?_
        cases h
        exact wq_ret rfl ⟨_, rfl, (bool_is.2 rfl), hF⟩
      clear hk320
      have T318 := Tr.refl O316 w317
      refine wc_seq ?_
      refine wc_region (l := [0, 1, 2]) rfl ?_
      refine wo_seg Θ_ok [0] [(0, v0), (7, v8), (140, v2)] rfl ⟨rfl, rfl, rfl, trivial⟩ ?_
      obtain ⟨A337, c338, rfl, hlc338, hmc338⟩ := slice_form h2
      refine wo_seg Θ_ok [1] [(0, v0), (7, v8), (140, (.slice A337 x2.length c338)), (141, (.int .i64 (x2.length : Int)))] rfl ⟨rfl, rfl, rfl, rfl, trivial⟩ ?_
      refine wo_seg Θ_ok [2] [(0, v0), (7, v8), (140, (.slice A337 x2.length c338)), (141, (.int .i64 (x2.length : Int))), (142, (.int .i64 0))] rfl ⟨rfl, rfl, rfl, rfl, rfl, trivial⟩ ?_
      refine wo_nil ?_
      refine wq_seq ?_
      refine wc_block ?_
      refine wc_loop (fun m E W => ∃ (rest341 : List Int) (i340 : Nat) (O344 : List Nat), rest341.length = m ∧ x2.drop i340 = rest341 ∧ E = [(0, v0), (7, v8), (140, (.slice A337 x2.length c338)), (141, (.int .i64 (x2.length : Int))), (142, (.int .i64 (i340 : Int)))] ∧ Tr O316 w317 O344 W ∧ OB O344 W ∧ Sub O O344 ∧ Fr [] w W ∧ l_Tells_l3 k319 rest341 i340 = some r) _ [(0, v0), (7, v8), (140, (.slice A337 x2.length c338)), (141, (.int .i64 (x2.length : Int))), (142, (.int .i64 ((0 : Nat) : Int)))] ⟨rfl, rfl, rfl, rfl, rfl, trivial⟩ ⟨x2, 0, O316, rfl, rfl, rfl, Tr.refl _ _, hO, hS, hF, h⟩ ?_
      rintro m E w345 ⟨rest341, i340, O344, rfl, hd343, rfl, T339, hO, hS, hF, h⟩
      have T318 := T318.trans T339
      have h0 := h0.tr T339
      have h10 := h10.tr T339
      have h2 := h2.tr T339
      have hg0 := hg0.tr T339
      rcases rest341 with _ | ⟨z342, rest341⟩
      · rw [l_Tells_l3] at h
        have hl349 := drop_nil hd343
        have hc346 : (decide ((i340 : Int) < (x2.length : Int))) = false := decide_eq_false (by omega)
        refine wc_seq ?_
        refine wc_region (l := [0]) rfl ?_
        refine wo_seg Θ_ok [0] [(0, v0), (7, v8), (140, (.slice A337 x2.length c338)), (141, (.int .i64 (x2.length : Int))), (142, (.int .i64 (i340 : Int))), (143, (.bool (decide ((i340 : Int) < (x2.length : Int)))))] rfl ⟨rfl, rfl, rfl, rfl, rfl, rfl, trivial⟩ ?_
        refine wo_nil ?_
        refine wq_seq ?_
        refine wc_seq ?_
        refine wc_known_false rfl hc346 ?_
        refine wc_exit ?_
        exact wq_then_exit (wq_then_exit (wq_block_exit (wq_join hK322 [(0, v0), (7, v8)] ⟨rfl, rfl, trivial⟩ ⟨O344, rfl, T318, hO, hS, hF, h⟩)))
      rw [l_Tells_l3] at h
      obtain ⟨hl350, hg348, hd343⟩ := drop_cons hd343
      have hc347 : (decide ((i340 : Int) < (x2.length : Int))) = true := decide_eq_true (by omega)
      refine wc_seq ?_
      refine wc_region (l := [0]) rfl ?_
      refine wo_seg Θ_ok [0] [(0, v0), (7, v8), (140, (.slice A337 x2.length c338)), (141, (.int .i64 (x2.length : Int))), (142, (.int .i64 (i340 : Int))), (143, (.bool (decide ((i340 : Int) < (x2.length : Int)))))] rfl ⟨rfl, rfl, rfl, rfl, rfl, rfl, trivial⟩ ?_
      refine wo_nil ?_
      refine wq_seq ?_
      refine wc_seq ?_
      refine wc_known_true rfl hc347 ?_
      refine wc_skip ?_
      refine wq_seq ?_
      refine wc_seq ?_
      refine wc_block ?_
      refine wc_seq ?_
      refine wc_region (l := [0, 1, 2, 3, 4]) rfl ?_
      refine wo_seg Θ_ok [0] [(0, v0), (7, v8), (140, (.slice A337 x2.length c338)), (141, (.int .i64 (x2.length : Int))), (142, (.int .i64 (i340 : Int))), (144, (.int .i64 (i340 : Int)))] rfl ⟨rfl, rfl, rfl, rfl, rfl, rfl, trivial⟩ ?_
      refine wo_index Θ_ok rfl rfl rfl rfl rfl rfl rfl rfl rfl rfl h2 rfl (by omega) hg348 (fun p351 h352 => ?_)
      refine wo_loadp Θ_ok rfl rfl rfl rfl rfl rfl rfl h352 rfl rfl (fun v353 h354 => ?_)
      obtain rfl := int_is.1 h354
      refine wo_seg Θ_ok [3, 4] [(0, v0), (7, v8), (19, (.int .i64 (i340 : Int))), (20, (.int .u64 z342)), (140, (.slice A337 x2.length c338)), (141, (.int .i64 (x2.length : Int))), (142, (.int .i64 (i340 : Int)))] rfl ⟨rfl, rfl, rfl, rfl, rfl, rfl, rfl, trivial⟩ ?_
      refine wo_nil ?_
      refine wq_seq ?_
      refine wc_seq ?_
      refine wc_seq ?_
      refine wc_region (l := [0, 1]) rfl ?_
      refine wo_seg Θ_ok [0, 1] [(0, v0), (7, v8), (20, (.int .u64 z342)), (140, (.slice A337 x2.length c338)), (141, (.int .i64 (x2.length : Int))), (142, (.int .i64 (i340 : Int))), (148, (.bool ((i340 : Int) == (8 : Int))))] rfl ⟨rfl, rfl, rfl, rfl, rfl, rfl, rfl, trivial⟩ ?_
      refine wo_nil ?_
      refine wq_seq ?_
      rcases bif_some h with ⟨hc355, h⟩ | ⟨hc355, h⟩
      · refine wc_known_true rfl hc355 ?_
        refine wc_exit ?_
        exact wq_then_exit (wq_block_past rfl (wq_then_exit (wq_then_exit (wq_block_exit (wq_join hK322 [(0, v0), (7, v8)] ⟨rfl, rfl, trivial⟩ ⟨O344, rfl, T318, hO, hS, hF, h⟩)))))
      refine wc_known_false rfl hc355 ?_
      refine wc_skip ?_
      refine wq_seq ?_
      refine wc_seq ?_
      refine wc_region (l := [0, 1, 2, 3, 4, 5, 6, 7]) rfl ?_
      refine wo_seg Θ_ok [0] [(0, v0), (7, v8), (20, (.int .u64 z342)), (140, (.slice A337 x2.length c338)), (141, (.int .i64 (x2.length : Int))), (142, (.int .i64 (i340 : Int))), (150, (.int .u64 z342))] rfl ⟨rfl, rfl, rfl, rfl, rfl, rfl, rfl, trivial⟩ ?_
      obtain ⟨y360, hy361, h⟩ := bind_some h
      refine wo_gives rfl rfl rfl rfl rfl ent22 rfl (d_Back_c hO hg0 (int_is.2 rfl) (int_is.2 rfl) hy361) (fun v356 w357 h358 f359 => ?_)
      have h0 := h0.tr f359.tr0
      have h10 := h10.tr f359.tr0
      have h2 := h2.tr f359.tr0
      have hg0 := hg0.tr f359.tr0
      have T318 := T318.trans f359.tr0
      have T339 := T339.trans f359.tr0
      have hO := f359.ob hO
      have hF := hF.trans f359
      obtain ⟨u362, u364, rfl, h363, h365⟩ := h358
      obtain rfl := tGDesc_is.1 h363
      obtain rfl := int_is.1 h365
      refine wo_seg Θ_ok [2, 3, 4] [(0, v0), (7, v8), (20, (.int .u64 z342)), (140, (.slice A337 x2.length c338)), (141, (.int .i64 (x2.length : Int))), (142, (.int .i64 (i340 : Int))), (152, (.agg #[(.int .u64 y360.1.fPid), (.int .i64 y360.1.fFd), (.int .u64 y360.1.fWhat)])), (153, (.int .i64 y360.2))] rfl ⟨rfl, rfl, rfl, rfl, rfl, rfl, rfl, rfl, trivial⟩ ?_
      refine wo_alloc Θ_ok rfl rfl rfl rfl rfl rfl [(.int .u64 0), (.int .i64 0), (.int .u64 0)] rfl hO (fun b366 w367 n368 => ?_)
      have h0 := h0.tr n368.tr
      have h10 := h10.tr n368.tr
      have h2 := h2.tr n368.tr
      have hg0 := hg0.tr n368.tr
      have T318 := T318.trans n368.tr
      have T339 := T339.trans n368.tr
      have hb366 := n368.blk
      have gb366 := n368.ge0 hF
      have ib366 : b366 ∈ b366 :: O344 := List.mem_cons_self
      have hO := n368.ob
      have hF := hF.trans n368.fr
      have hS := Sub.cons hS b366
      refine wo_store Θ_ok rfl rfl rfl rfl rfl rfl rfl hb366 [(.int .u64 y360.1.fPid), (.int .i64 y360.1.fFd), (.int .u64 y360.1.fWhat)] rfl rfl (by simp [Value.oneCell']) rfl [(.int .u64 y360.1.fPid), (.int .i64 y360.1.fFd), (.int .u64 y360.1.fWhat)] rfl (fun w369 hb366 f370 => ?_)
      have h0 := h0.tr (f370.tr (one_in ib366))
      have h10 := h10.tr (f370.tr (one_in ib366))
      have h2 := h2.tr (f370.tr (one_in ib366))
      have hg0 := hg0.tr (f370.tr (one_in ib366))
      have T318 := T318.trans (f370.tr (one_in ib366))
      have T339 := T339.trans (f370.tr (one_in ib366))
      have hO := f370.ob hO
      have hF := hF.own f370 gb366
      refine wo_seg Θ_ok [7] [(0, v0), (7, v8), (20, (.int .u64 z342)), (21, (.pointer (some ⟨b366, 0, none⟩))), (22, (.int .i64 y360.2)), (140, (.slice A337 x2.length c338)), (141, (.int .i64 (x2.length : Int))), (142, (.int .i64 (i340 : Int)))] rfl ⟨rfl, rfl, rfl, rfl, rfl, rfl, rfl, rfl, trivial⟩ ?_
      refine wo_nil ?_
      refine wq_seq ?_
      refine wc_seq ?_
      refine wc_region (l := [0, 1, 2, 3]) rfl ?_
      refine wo_seg Θ_ok [0] [(0, v0), (7, v8), (20, (.int .u64 z342)), (21, (.pointer (some ⟨b366, 0, none⟩))), (22, (.int .i64 y360.2)), (140, (.slice A337 x2.length c338)), (141, (.int .i64 (x2.length : Int))), (142, (.int .i64 (i340 : Int))), (154, (.agg #[(.int .u64 0), (.int .i64 0), (.int .u64 0)]))] rfl ⟨rfl, rfl, rfl, rfl, rfl, rfl, rfl, rfl, rfl, trivial⟩ ?_
      refine wo_alloc Θ_ok rfl rfl rfl rfl rfl rfl [(.int .u64 0), (.int .i64 0), (.int .u64 0)] rfl hO (fun b371 w372 n373 => ?_)
      have h0 := h0.tr n373.tr
      have h10 := h10.tr n373.tr
      have h2 := h2.tr n373.tr
      have hg0 := hg0.tr n373.tr
      have T318 := T318.trans n373.tr
      have T339 := T339.trans n373.tr
      have nb371b366 : b371 ≠ b366 := by have := hb366.lt; have := n373.ge; omega
      have hb366 := hb366.fr0 n373.fr
      have ib366 := List.mem_cons_of_mem b371 ib366
      have hb371 := n373.blk
      have gb371 := n373.ge0 hF
      have ib371 : b371 ∈ b371 :: (b366 :: O344) := List.mem_cons_self
      have hO := n373.ob
      have hF := hF.trans n373.fr
      have hS := Sub.cons hS b371
      refine wo_store Θ_ok rfl rfl rfl rfl rfl rfl rfl hb371 [(.int .u64 0), (.int .i64 0), (.int .u64 0)] rfl rfl (by simp [Value.oneCell']) rfl [(.int .u64 0), (.int .i64 0), (.int .u64 0)] rfl (fun w374 hb371 f375 => ?_)
      have h0 := h0.tr (f375.tr (one_in ib371))
      have h10 := h10.tr (f375.tr (one_in ib371))
      have h2 := h2.tr (f375.tr (one_in ib371))
      have hg0 := hg0.tr (f375.tr (one_in ib371))
      have T318 := T318.trans (f375.tr (one_in ib371))
      have T339 := T339.trans (f375.tr (one_in ib371))
      have hb366 := hb366.fr f375 (nin nb371b366.symm)
      have hO := f375.ob hO
      have hF := hF.own f375 gb371
      refine wo_seg Θ_ok [3] [(0, v0), (7, v8), (20, (.int .u64 z342)), (21, (.pointer (some ⟨b366, 0, none⟩))), (22, (.int .i64 y360.2)), (23, (.pointer (some ⟨b371, 0, none⟩))), (24, (.int .i64 2)), (140, (.slice A337 x2.length c338)), (141, (.int .i64 (x2.length : Int))), (142, (.int .i64 (i340 : Int)))] rfl ⟨rfl, rfl, rfl, rfl, rfl, rfl, rfl, rfl, rfl, rfl, trivial⟩ ?_
      refine wo_nil ?_
      refine wq_seq ?_
      obtain ⟨k377, hk378, h⟩ := letk_some h
      refine wc_join (fun E W => ∃ (O383 : List Nat) (p381 : Int) (p382 : GDesc), E = [(0, v0), (7, v8), (21, (.pointer (some ⟨b366, 0, none⟩))), (22, (.int .i64 y360.2)), (23, (.pointer (some ⟨b371, 0, none⟩))), (24, (.int .i64 p381)), (140, (.slice A337 x2.length c338)), (141, (.int .i64 (x2.length : Int))), (142, (.int .i64 (i340 : Int)))] ∧ Tr (b371 :: b366 :: O344) w374 O383 W ∧ OB O383 W ∧ Sub O O383 ∧ Fr [] w W ∧ b366 ∈ O383 ∧ Blk W b366 29 [(.int .u64 y360.1.fPid), (.int .i64 y360.1.fFd), (.int .u64 y360.1.fWhat)] ∧ b371 ∈ O383 ∧ Blk W b371 29 [(.int .u64 p382.fPid), (.int .i64 p382.fFd), (.int .u64 p382.fWhat)] ∧ k377 p381 p382 = some r) ?_ (fun K379 hK380 => ?_)
      rotate_left
      · clear hk378
        have T376 := Tr.refl (b371 :: b366 :: O344) w374
        refine wc_seq ?_
        refine wc_region (l := [0, 1]) rfl ?_
        refine wo_seg Θ_ok [0, 1] [(0, v0), (7, v8), (20, (.int .u64 z342)), (21, (.pointer (some ⟨b366, 0, none⟩))), (22, (.int .i64 y360.2)), (23, (.pointer (some ⟨b371, 0, none⟩))), (24, (.int .i64 2)), (140, (.slice A337 x2.length c338)), (141, (.int .i64 (x2.length : Int))), (142, (.int .i64 (i340 : Int))), (156, (.bool (decide (z342 < (34359738368 : Int)))))] rfl ⟨rfl, rfl, rfl, rfl, rfl, rfl, rfl, rfl, rfl, rfl, rfl, trivial⟩ ?_
        refine wo_nil ?_
        refine wq_seq ?_
        rcases bif_some h with ⟨hc387, h⟩ | ⟨hc387, h⟩
        rotate_left
        · refine wc_known_false rfl hc387 ?_
          refine wc_skip ?_
          exact wq_join hK380 [(0, v0), (7, v8), (21, (.pointer (some ⟨b366, 0, none⟩))), (22, (.int .i64 y360.2)), (23, (.pointer (some ⟨b371, 0, none⟩))), (24, (.int .i64 2)), (140, (.slice A337 x2.length c338)), (141, (.int .i64 (x2.length : Int))), (142, (.int .i64 (i340 : Int)))] ⟨rfl, rfl, rfl, rfl, rfl, rfl, rfl, rfl, rfl, trivial⟩ ⟨b371 :: b366 :: O344, (2 : Int), (GDesc.mk (0 : Int) (0 : Int) (0 : Int)), rfl, T376, hO, hS, hF, ib366, hb366, ib371, hb371, h⟩
        refine wc_known_true rfl hc387 ?_
        refine wc_region (l := [0, 1, 2, 3, 4, 5, 6, 7]) rfl ?_
        refine wo_seg Θ_ok [0, 1, 2, 3, 4, 5] [(0, v0), (7, v8), (21, (.pointer (some ⟨b366, 0, none⟩))), (22, (.int .i64 y360.2)), (23, (.pointer (some ⟨b371, 0, none⟩))), (140, (.slice A337 x2.length c338)), (141, (.int .i64 (x2.length : Int))), (142, (.int .i64 (i340 : Int))), (162, (.agg #[(.int .u64 (IntKind.u64.wrap (z342.tdiv (8 : Int)))), (.int .i64 (IntKind.i64.wrap (z342.tmod (8 : Int)))), (.int .u64 7)]))] rfl ⟨rfl, rfl, rfl, rfl, rfl, rfl, rfl, rfl, rfl, trivial⟩ ?_
        refine wo_store Θ_ok rfl rfl rfl rfl rfl rfl rfl hb371 [(.int .u64 (IntKind.u64.wrap (z342.tdiv (8 : Int)))), (.int .i64 (IntKind.i64.wrap (z342.tmod (8 : Int)))), (.int .u64 7)] rfl rfl (by simp [Value.oneCell']) rfl [(.int .u64 (IntKind.u64.wrap (z342.tdiv (8 : Int)))), (.int .i64 (IntKind.i64.wrap (z342.tmod (8 : Int)))), (.int .u64 7)] rfl (fun w388 hb371 f389 => ?_)
        have h0 := h0.tr (f389.tr (one_in ib371))
        have h10 := h10.tr (f389.tr (one_in ib371))
        have h2 := h2.tr (f389.tr (one_in ib371))
        have hg0 := hg0.tr (f389.tr (one_in ib371))
        have T318 := T318.trans (f389.tr (one_in ib371))
        have T339 := T339.trans (f389.tr (one_in ib371))
        have T376 := T376.trans (f389.tr (one_in ib371))
        have hb366 := hb366.fr f389 (nin nb371b366.symm)
        have hO := f389.ob hO
        have hF := hF.own f389 gb371
        refine wo_seg Θ_ok [7] [(0, v0), (7, v8), (21, (.pointer (some ⟨b366, 0, none⟩))), (22, (.int .i64 y360.2)), (23, (.pointer (some ⟨b371, 0, none⟩))), (24, (.int .i64 0)), (140, (.slice A337 x2.length c338)), (141, (.int .i64 (x2.length : Int))), (142, (.int .i64 (i340 : Int)))] rfl ⟨rfl, rfl, rfl, rfl, rfl, rfl, rfl, rfl, rfl, trivial⟩ ?_
        refine wo_nil ?_
        exact wq_join hK380 [(0, v0), (7, v8), (21, (.pointer (some ⟨b366, 0, none⟩))), (22, (.int .i64 y360.2)), (23, (.pointer (some ⟨b371, 0, none⟩))), (24, (.int .i64 0)), (140, (.slice A337 x2.length c338)), (141, (.int .i64 (x2.length : Int))), (142, (.int .i64 (i340 : Int)))] ⟨rfl, rfl, rfl, rfl, rfl, rfl, rfl, rfl, rfl, trivial⟩ ⟨b371 :: b366 :: O344, (0 : Int), (GDesc.mk (IntKind.u64.wrap (z342.tdiv (8 : Int))) (IntKind.i64.wrap (z342.tmod (8 : Int))) (7 : Int)), rfl, T376, hO, hS, hF, ib366, hb366, ib371, hb371, h⟩
      rintro E w384 ⟨O383, p381, p382, rfl, T376, hO, hS, hF, ib366, hb366, ib371, hb371, h⟩
      have T318 := T318.trans T376
      have T339 := T339.trans T376
      have h0 := h0.tr T376
      have h10 := h10.tr T376
      have h2 := h2.tr T376
      have hg0 := hg0.tr T376
      subst hk378
      (try dsimp only at h)
      refine wc_seq ?_
      refine wc_region (l := [0, 1, 2, 3, 4, 5, 6, 7]) rfl ?_
      refine wo_load Θ_ok rfl rfl rfl rfl rfl rfl rfl hb366 [(.int .u64 y360.1.fPid), (.int .i64 y360.1.fFd), (.int .u64 y360.1.fWhat)] rfl rfl (.inl rfl) (.agg #[(.int .u64 y360.1.fPid), (.int .i64 y360.1.fFd), (.int .u64 y360.1.fWhat)]) rfl ?_
      refine wo_load Θ_ok rfl rfl rfl rfl rfl rfl rfl hb371 [(.int .u64 p382.fPid), (.int .i64 p382.fFd), (.int .u64 p382.fWhat)] rfl rfl (.inl rfl) (.agg #[(.int .u64 p382.fPid), (.int .i64 p382.fFd), (.int .u64 p382.fWhat)]) rfl ?_
      refine wo_bin rfl rfl rfl rfl rfl rfl rfl (neq29 _ _) ?_
      refine wo_seg Θ_ok [3] [(0, v0), (7, v8), (22, (.int .i64 y360.2)), (24, (.int .i64 p381)), (140, (.slice A337 x2.length c338)), (141, (.int .i64 (x2.length : Int))), (142, (.int .i64 (i340 : Int))), (166, (.bool (!(eqGDesc y360.1 p382))))] rfl ⟨rfl, rfl, rfl, rfl, rfl, rfl, rfl, rfl, trivial⟩ ?_
      rcases bif_some h with ⟨hc385, h⟩ | ⟨hc385, h⟩
      · refine wo_know 166 true rfl hc385 ?_
        refine wo_seg Θ_ok [4, 5, 6, 7] [(0, v0), (7, v8), (140, (.slice A337 x2.length c338)), (141, (.int .i64 (x2.length : Int))), (142, (.int .i64 (i340 : Int))), (170, (.bool true))] rfl ⟨rfl, rfl, rfl, rfl, rfl, rfl, trivial⟩ ?_
        refine wo_nil ?_
        refine wq_seq ?_
        refine wc_true rfl ?_
        refine wc_seq ?_
        refine wc_region (l := [0]) rfl ?_
        refine wo_seg Θ_ok [0] [(6, (.bool false))] rfl ⟨rfl, trivial⟩ ?_
        refine wo_nil ?_
        refine wq_seq ?_
        refine wc_ret ?_
        cases h
        exact wq_block_ret (wq_then_ret (wq_then_ret (wq_block_ret (wq_then_ret (wq_ret rfl ⟨_, rfl, (bool_is.2 rfl), hF⟩)))))
      refine wo_know 166 false rfl hc385 ?_
      refine wo_seg Θ_ok [4, 5, 6, 7] [(0, v0), (7, v8), (140, (.slice A337 x2.length c338)), (141, (.int .i64 (x2.length : Int))), (142, (.int .i64 (i340 : Int))), (170, (.bool (y360.2 != p381)))] rfl ⟨rfl, rfl, rfl, rfl, rfl, rfl, trivial⟩ ?_
      refine wo_nil ?_
      refine wq_seq ?_
      rcases bif_some h with ⟨hc386, h⟩ | ⟨hc386, h⟩
      rotate_left
      · refine wc_known_false rfl hc386 ?_
        refine wc_skip ?_
        refine wq_block (wq_seq ?_)
        refine wc_region (l := [0, 1]) rfl ?_
        refine wo_seg Θ_ok [0, 1] [(0, v0), (7, v8), (140, (.slice A337 x2.length c338)), (141, (.int .i64 (x2.length : Int))), (142, (.int .i64 (IntKind.i64.wrap ((i340 : Int) + (1 : Int)))))] rfl ⟨rfl, rfl, rfl, rfl, rfl, trivial⟩ ?_
        refine wo_nil ?_
        exact wq_next rest341.length [(0, v0), (7, v8), (140, (.slice A337 x2.length c338)), (141, (.int .i64 (x2.length : Int))), (142, (.int .i64 ((i340 + 1 : Nat) : Int)))] (Nat.lt_succ_self _) ⟨rfl, rfl, rfl, rfl, congrArg (fun z => some (Value.int .i64 z)) (wrap_succ hl350 (Nat.le_trans hlc338 hmc338)), trivial⟩ ⟨rest341, i340 + 1, O383, rfl, hd343, rfl, T339, hO, hS, hF, h⟩
      refine wc_known_true rfl hc386 ?_
      refine wc_seq ?_
      refine wc_region (l := [0]) rfl ?_
      refine wo_seg Θ_ok [0] [(6, (.bool false))] rfl ⟨rfl, trivial⟩ ?_
      refine wo_nil ?_
      refine wq_seq ?_
      refine wc_ret ?_
      cases h
      exact wq_block_ret (wq_then_ret (wq_then_ret (wq_block_ret (wq_then_ret (wq_ret rfl ⟨_, rfl, (bool_is.2 rfl), hF⟩)))))
    clear hk313
    have T311 := Tr.refl O w21
    refine wc_seq ?_
    refine wc_region (l := [0, 1, 2]) rfl ?_
    refine wo_seg Θ_ok [0] [(0, v0), (2, v2), (7, v8), (8, (.bool y18)), (45, v1)] rfl ⟨rfl, rfl, rfl, rfl, rfl, trivial⟩ ?_
    obtain ⟨A390, c391, rfl, hlc391, hmc391⟩ := slice_form h1
    refine wo_seg Θ_ok [1] [(0, v0), (2, v2), (7, v8), (8, (.bool y18)), (45, (.slice A390 x1.length c391)), (46, (.int .i64 (x1.length : Int)))] rfl ⟨rfl, rfl, rfl, rfl, rfl, rfl, trivial⟩ ?_
    refine wo_seg Θ_ok [2] [(0, v0), (2, v2), (7, v8), (8, (.bool y18)), (45, (.slice A390 x1.length c391)), (46, (.int .i64 (x1.length : Int))), (47, (.int .i64 0))] rfl ⟨rfl, rfl, rfl, rfl, rfl, rfl, rfl, trivial⟩ ?_
    refine wo_nil ?_
    refine wq_seq ?_
    refine wc_block ?_
    refine wc_loop (fun m E W => ∃ (rest394 : List GDesc) (i393 : Nat) (O397 : List Nat), rest394.length = m ∧ x1.drop i393 = rest394 ∧ E = [(0, v0), (2, v2), (7, v8), (8, (.bool y18)), (45, (.slice A390 x1.length c391)), (46, (.int .i64 (x1.length : Int))), (47, (.int .i64 (i393 : Int)))] ∧ Tr O w21 O397 W ∧ OB O397 W ∧ Sub O O397 ∧ Fr [] w W ∧ l_Tells_l4 y12 y18 k312 rest394 i393 = some r) _ [(0, v0), (2, v2), (7, v8), (8, (.bool y18)), (45, (.slice A390 x1.length c391)), (46, (.int .i64 (x1.length : Int))), (47, (.int .i64 ((0 : Nat) : Int)))] ⟨rfl, rfl, rfl, rfl, rfl, rfl, rfl, trivial⟩ ⟨x1, 0, O, rfl, rfl, rfl, Tr.refl _ _, hO, hS, hF, h⟩ ?_
    rintro m E w398 ⟨rest394, i393, O397, rfl, hd396, rfl, T392, hO, hS, hF, h⟩
    have T311 := T311.trans T392
    have h0 := h0.tr T392
    have h2 := h2.tr T392
    have h10 := h10.tr T392
    have h1 := h1.tr T392
    have hg0 := hg0.tr T392
    rcases rest394 with _ | ⟨z395, rest394⟩
    · rw [l_Tells_l4] at h
      have hl402 := drop_nil hd396
      have hc399 : (decide ((i393 : Int) < (x1.length : Int))) = false := decide_eq_false (by omega)
      refine wc_seq ?_
      refine wc_region (l := [0]) rfl ?_
      refine wo_seg Θ_ok [0] [(0, v0), (2, v2), (7, v8), (8, (.bool y18)), (45, (.slice A390 x1.length c391)), (46, (.int .i64 (x1.length : Int))), (47, (.int .i64 (i393 : Int))), (48, (.bool (decide ((i393 : Int) < (x1.length : Int)))))] rfl ⟨rfl, rfl, rfl, rfl, rfl, rfl, rfl, rfl, trivial⟩ ?_
      refine wo_nil ?_
      refine wq_seq ?_
      refine wc_seq ?_
      refine wc_known_false rfl hc399 ?_
      refine wc_exit ?_
      exact wq_then_exit (wq_then_exit (wq_block_exit (wq_join hK315 [(0, v0), (2, v2), (7, v8)] ⟨rfl, rfl, rfl, trivial⟩ ⟨O397, rfl, T311, hO, hS, hF, h⟩)))
    rw [l_Tells_l4] at h
    obtain ⟨hl403, hg401, hd396⟩ := drop_cons hd396
    have hc400 : (decide ((i393 : Int) < (x1.length : Int))) = true := decide_eq_true (by omega)
    refine wc_seq ?_
    refine wc_region (l := [0]) rfl ?_
    refine wo_seg Θ_ok [0] [(0, v0), (2, v2), (7, v8), (8, (.bool y18)), (45, (.slice A390 x1.length c391)), (46, (.int .i64 (x1.length : Int))), (47, (.int .i64 (i393 : Int))), (48, (.bool (decide ((i393 : Int) < (x1.length : Int)))))] rfl ⟨rfl, rfl, rfl, rfl, rfl, rfl, rfl, rfl, trivial⟩ ?_
    refine wo_nil ?_
    refine wq_seq ?_
    refine wc_seq ?_
    refine wc_known_true rfl hc400 ?_
    refine wc_skip ?_
    refine wq_seq ?_
    refine wc_seq ?_
    refine wc_block ?_
    refine wc_seq ?_
    refine wc_region (l := [0, 1, 2, 3, 4, 5]) rfl ?_
    refine wo_seg Θ_ok [0] [(0, v0), (2, v2), (7, v8), (8, (.bool y18)), (45, (.slice A390 x1.length c391)), (46, (.int .i64 (x1.length : Int))), (47, (.int .i64 (i393 : Int))), (49, (.int .i64 (i393 : Int)))] rfl ⟨rfl, rfl, rfl, rfl, rfl, rfl, rfl, rfl, trivial⟩ ?_
    refine wo_index Θ_ok rfl rfl rfl rfl rfl rfl rfl rfl rfl rfl h1 rfl (by omega) hg401 (fun p404 h405 => ?_)
    refine wo_loadp Θ_ok rfl rfl rfl rfl rfl rfl rfl h405 rfl rfl (fun v406 h407 => ?_)
    obtain rfl := tGDesc_is.1 h407
    refine wo_alloc Θ_ok rfl rfl rfl rfl rfl rfl [(.int .u64 0), (.int .i64 0), (.int .u64 0)] rfl hO (fun b408 w409 n410 => ?_)
    have h0 := h0.tr n410.tr
    have h2 := h2.tr n410.tr
    have h10 := h10.tr n410.tr
    have h1 := h1.tr n410.tr
    have hg0 := hg0.tr n410.tr
    have T311 := T311.trans n410.tr
    have T392 := T392.trans n410.tr
    have hb408 := n410.blk
    have gb408 := n410.ge0 hF
    have ib408 : b408 ∈ b408 :: O397 := List.mem_cons_self
    have hO := n410.ob
    have hF := hF.trans n410.fr
    have hS := Sub.cons hS b408
    refine wo_seg Θ_ok [4] [(0, v0), (2, v2), (7, v8), (8, (.bool y18)), (10, (.int .i64 (i393 : Int))), (11, (.pointer (some ⟨b408, 0, none⟩))), (45, (.slice A390 x1.length c391)), (46, (.int .i64 (x1.length : Int))), (47, (.int .i64 (i393 : Int))), (51, (.agg #[(.int .u64 z395.fPid), (.int .i64 z395.fFd), (.int .u64 z395.fWhat)]))] rfl ⟨rfl, rfl, rfl, rfl, rfl, rfl, rfl, rfl, rfl, rfl, trivial⟩ ?_
    refine wo_store Θ_ok rfl rfl rfl rfl rfl rfl rfl hb408 [(.int .u64 z395.fPid), (.int .i64 z395.fFd), (.int .u64 z395.fWhat)] rfl rfl (by simp [Value.oneCell']) rfl [(.int .u64 z395.fPid), (.int .i64 z395.fFd), (.int .u64 z395.fWhat)] rfl (fun w411 hb408 f412 => ?_)
    have h0 := h0.tr (f412.tr (one_in ib408))
    have h2 := h2.tr (f412.tr (one_in ib408))
    have h10 := h10.tr (f412.tr (one_in ib408))
    have h1 := h1.tr (f412.tr (one_in ib408))
    have hg0 := hg0.tr (f412.tr (one_in ib408))
    have T311 := T311.trans (f412.tr (one_in ib408))
    have T392 := T392.trans (f412.tr (one_in ib408))
    have hO := f412.ob hO
    have hF := hF.own f412 gb408
    refine wo_nil ?_
    refine wq_seq ?_
    refine wc_seq ?_
    refine wc_seq ?_
    refine wc_region (l := [0, 1]) rfl ?_
    refine wo_seg Θ_ok [0, 1] [(0, v0), (2, v2), (7, v8), (8, (.bool y18)), (11, (.pointer (some ⟨b408, 0, none⟩))), (45, (.slice A390 x1.length c391)), (46, (.int .i64 (x1.length : Int))), (47, (.int .i64 (i393 : Int))), (53, (.bool ((i393 : Int) == (8 : Int))))] rfl ⟨rfl, rfl, rfl, rfl, rfl, rfl, rfl, rfl, rfl, trivial⟩ ?_
    refine wo_nil ?_
    refine wq_seq ?_
    rcases bif_some h with ⟨hc413, h⟩ | ⟨hc413, h⟩
    · refine wc_known_true rfl hc413 ?_
      refine wc_exit ?_
      exact wq_then_exit (wq_block_past rfl (wq_then_exit (wq_then_exit (wq_block_exit (wq_join hK315 [(0, v0), (2, v2), (7, v8)] ⟨rfl, rfl, rfl, trivial⟩ ⟨b408 :: O397, rfl, T311, hO, hS, hF, h⟩)))))
    refine wc_known_false rfl hc413 ?_
    refine wc_skip ?_
    refine wq_seq ?_
    refine wc_seq ?_
    refine wc_region (l := [0, 1, 2, 3, 4, 5, 6, 7, 8, 9, 10]) rfl ?_
    refine wo_seg Θ_ok [0, 1] [(0, v0), (2, v2), (7, v8), (8, (.bool y18)), (11, (.pointer (some ⟨b408, 0, none⟩))), (45, (.slice A390 x1.length c391)), (46, (.int .i64 (x1.length : Int))), (47, (.int .i64 (i393 : Int))), (55, v8), (56, (.pointer (some ⟨b408, 0, none⟩)))] rfl ⟨rfl, rfl, rfl, rfl, rfl, rfl, rfl, rfl, rfl, rfl, trivial⟩ ?_
    refine wo_load Θ_ok rfl rfl rfl rfl rfl rfl rfl hb408 [(.int .u64 z395.fPid)] rfl rfl (.inr rfl) (.int .u64 z395.fPid) rfl ?_
    refine wo_seg Θ_ok [3] [(0, v0), (2, v2), (7, v8), (8, (.bool y18)), (11, (.pointer (some ⟨b408, 0, none⟩))), (45, (.slice A390 x1.length c391)), (46, (.int .i64 (x1.length : Int))), (47, (.int .i64 (i393 : Int))), (55, v8), (57, (.int .u64 z395.fPid)), (58, (.pointer (some ⟨b408, 1, none⟩)))] rfl ⟨rfl, rfl, rfl, rfl, rfl, rfl, rfl, rfl, rfl, rfl, rfl, trivial⟩ ?_
    refine wo_load Θ_ok rfl rfl rfl rfl rfl rfl rfl hb408 [(.int .i64 z395.fFd)] rfl rfl (.inr rfl) (.int .i64 z395.fFd) rfl ?_
    obtain ⟨y418, hy419, h⟩ := bind_some h
    refine wo_gives rfl rfl rfl rfl rfl ent15 rfl (d_Has_c hO h10 (int_is.2 rfl) (int_is.2 rfl) hy419) (fun v414 w415 h416 f417 => ?_)
    have h0 := h0.tr f417.tr0
    have h2 := h2.tr f417.tr0
    have h10 := h10.tr f417.tr0
    have h1 := h1.tr f417.tr0
    have hg0 := hg0.tr f417.tr0
    have hb408 := hb408.fr0 f417
    have T311 := T311.trans f417.tr0
    have T392 := T392.trans f417.tr0
    have hO := f417.ob hO
    have hF := hF.trans f417
    obtain ⟨u420, u422, rfl, h421, h423⟩ := h416
    obtain rfl := int_is.1 h421
    obtain rfl := bool_is.1 h423
    refine wo_seg Θ_ok [6, 7, 8, 9, 10] [(0, v0), (2, v2), (7, v8), (8, (.bool y18)), (11, (.pointer (some ⟨b408, 0, none⟩))), (12, (.int .u64 y418.1)), (13, (.bool y418.2)), (45, (.slice A390 x1.length c391)), (46, (.int .i64 (x1.length : Int))), (47, (.int .i64 (i393 : Int)))] rfl ⟨rfl, rfl, rfl, rfl, rfl, rfl, rfl, rfl, rfl, rfl, trivial⟩ ?_
    refine wo_nil ?_
    refine wq_seq ?_
    refine wc_seq ?_
    refine wc_region (l := [0, 1]) rfl ?_
    refine wo_seg Θ_ok [0, 1] [(0, v0), (2, v2), (7, v8), (8, (.bool y18)), (11, (.pointer (some ⟨b408, 0, none⟩))), (12, (.int .u64 y418.1)), (13, (.bool y418.2)), (14, (.int .i64 (-1))), (15, (.int .i64 0)), (45, (.slice A390 x1.length c391)), (46, (.int .i64 (x1.length : Int))), (47, (.int .i64 (i393 : Int)))] rfl ⟨rfl, rfl, rfl, rfl, rfl, rfl, rfl, rfl, rfl, rfl, rfl, rfl, trivial⟩ ?_
    refine wo_nil ?_
    refine wq_seq ?_
    obtain ⟨k425, hk426, h⟩ := letk_some h
    refine wc_join (fun E W => ∃ (O431 : List Nat) (p429 : Int) (p430 : Int), E = [(0, v0), (2, v2), (7, v8), (8, (.bool y18)), (11, (.pointer (some ⟨b408, 0, none⟩))), (12, (.int .u64 y418.1)), (13, (.bool y418.2)), (14, (.int .i64 p429)), (15, (.int .i64 p430)), (45, (.slice A390 x1.length c391)), (46, (.int .i64 (x1.length : Int))), (47, (.int .i64 (i393 : Int)))] ∧ Tr (b408 :: O397) w415 O431 W ∧ OB O431 W ∧ Sub O O431 ∧ Fr [] w W ∧ b408 ∈ O431 ∧ Blk W b408 29 [(.int .u64 z395.fPid), (.int .i64 z395.fFd), (.int .u64 z395.fWhat)] ∧ k425 p429 p430 = some r) ?_ (fun K427 hK428 => ?_)
    rotate_left
    · clear hk426
      have T424 := Tr.refl (b408 :: O397) w415
      refine wc_seq ?_
      refine wc_region (l := [0]) rfl ?_
      refine wo_seg Θ_ok [0] [(0, v0), (2, v2), (7, v8), (8, (.bool y18)), (11, (.pointer (some ⟨b408, 0, none⟩))), (12, (.int .u64 y418.1)), (13, (.bool y418.2)), (14, (.int .i64 (-1))), (15, (.int .i64 0)), (45, (.slice A390 x1.length c391)), (46, (.int .i64 (x1.length : Int))), (47, (.int .i64 (i393 : Int))), (63, (.bool y18))] rfl ⟨rfl, rfl, rfl, rfl, rfl, rfl, rfl, rfl, rfl, rfl, rfl, rfl, rfl, trivial⟩ ?_
      refine wo_nil ?_
      refine wq_seq ?_
      rcases bif_some h with ⟨hc584, h⟩ | ⟨hc584, h⟩
      rotate_left
      · refine wc_known_false rfl hc584 ?_
        refine wc_skip ?_
        exact wq_join hK428 [(0, v0), (2, v2), (7, v8), (8, (.bool y18)), (11, (.pointer (some ⟨b408, 0, none⟩))), (12, (.int .u64 y418.1)), (13, (.bool y418.2)), (14, (.int .i64 (-1))), (15, (.int .i64 0)), (45, (.slice A390 x1.length c391)), (46, (.int .i64 (x1.length : Int))), (47, (.int .i64 (i393 : Int)))] ⟨rfl, rfl, rfl, rfl, rfl, rfl, rfl, rfl, rfl, rfl, rfl, rfl, trivial⟩ ⟨b408 :: O397, (-1 : Int), (0 : Int), rfl, T424, hO, hS, hF, ib408, hb408, h⟩
      refine wc_known_true rfl hc584 ?_
      refine wc_draw mixed [⟨64, [], [7]⟩, ⟨65, [], [11]⟩, ⟨66, [1], []⟩, ⟨67, [], [11]⟩, ⟨68, [3], []⟩, ⟨69, [0, 2, 4], []⟩, ⟨70, [], [7]⟩, ⟨71, [], [11]⟩, ⟨72, [7], []⟩, ⟨73, [6, 8], []⟩, ⟨14, [5], []⟩, ⟨15, [9], []⟩] [SP.is (Ty.slice tGDesc) (b408 :: O397) y12, SP.eq (.pointer (some ⟨b408, 0, none⟩)), SP.eq (.int .u64 z395.fPid), SP.eq (.pointer (some ⟨b408, 1, none⟩)), SP.eq (.int .i64 z395.fFd), SP.eq (.int .i64 (r_Find y12 z395.fPid z395.fFd)), SP.is (Ty.slice tGDesc) (b408 :: O397) y12, SP.eq (.pointer (some ⟨b408, 2, none⟩)), SP.eq (.int .u64 z395.fWhat), SP.eq (.int .i64 (r_Count y12 z395.fWhat)), SP.eq (.int .i64 (r_Find y12 z395.fPid z395.fFd)), SP.eq (.int .i64 (r_Count y12 z395.fWhat))] rfl rfl rfl ⟨?_, ?_, ?_, ?_, ?_, ?_, ?_, ?_, ?_, ?_, ?_, ?_, trivial⟩ ?_
      · intro a w2 hfr hN hds hb hd
        have h10 := h10.tr hfr.tr0
        exact (op_plain Θ_ok ⟨hN, hds, rows_get (E := [(7, v8)]) ⟨hb 7 rfl _ rfl, trivial⟩⟩ rfl rfl rfl rfl rfl).weaken (fun u w3 ⟨hu, hf⟩ => by subst hu; exact ⟨h10.tr hf.tr0, hf⟩)
      · intro a w2 hfr hN hds hb hd
        exact op_plain Θ_ok ⟨hN, hds, rows_get (E := [(11, (.pointer (some ⟨b408, 0, none⟩)))]) ⟨hb 11 rfl _ rfl, trivial⟩⟩ rfl rfl rfl rfl rfl
      · intro a w2 hfr hN hds hb hd
        have hb408 := hb408.fr0 hfr
        exact op_load Θ_ok ⟨hN, hds, rows_get (E := [(65, (.pointer (some ⟨b408, 0, none⟩)))]) ⟨(hd 1 rfl _ _ rfl rfl), trivial⟩⟩ rfl rfl rfl rfl rfl rfl hb408 [(.int .u64 z395.fPid)] rfl rfl (.inr rfl) (.int .u64 z395.fPid) rfl
      · intro a w2 hfr hN hds hb hd
        exact op_plain Θ_ok ⟨hN, hds, rows_get (E := [(11, (.pointer (some ⟨b408, 0, none⟩)))]) ⟨hb 11 rfl _ rfl, trivial⟩⟩ rfl rfl rfl rfl rfl
      · intro a w2 hfr hN hds hb hd
        have hb408 := hb408.fr0 hfr
        exact op_load Θ_ok ⟨hN, hds, rows_get (E := [(67, (.pointer (some ⟨b408, 1, none⟩)))]) ⟨(hd 3 rfl _ _ rfl rfl), trivial⟩⟩ rfl rfl rfl rfl rfl rfl hb408 [(.int .i64 z395.fFd)] rfl rfl (.inr rfl) (.int .i64 z395.fFd) rfl
      · intro a w2 hfr hN hds hb hd
        have d587 : (Ty.slice tGDesc).is (b408 :: O397) w2 (a.tmps.getD 64 undef) y12 := hd 0 rfl _ _ rfl rfl
        obtain ⟨u585, e586⟩ : ∃ v, a.tmps.getD 64 undef = v := ⟨_, rfl⟩
        rw [e586] at d587
        exact (op_call ⟨hN, hds, rows_get (E := [(64, u585), (66, (.int .u64 z395.fPid)), (68, (.int .i64 z395.fFd))]) ⟨e586, (hd 2 rfl _ _ rfl rfl), (hd 4 rfl _ _ rfl rfl), trivial⟩⟩ rfl rfl rfl rfl ent16 rfl (r_Find_c (hfr.ob hO) d587 (int_is.2 rfl) (int_is.2 rfl))).weaken (fun u w3 ⟨hu, hf⟩ => ⟨int_is.1 hu, hf⟩)
      · intro a w2 hfr hN hds hb hd
        have h10 := h10.tr hfr.tr0
        exact (op_plain Θ_ok ⟨hN, hds, rows_get (E := [(7, v8)]) ⟨hb 7 rfl _ rfl, trivial⟩⟩ rfl rfl rfl rfl rfl).weaken (fun u w3 ⟨hu, hf⟩ => by subst hu; exact ⟨h10.tr hf.tr0, hf⟩)
      · intro a w2 hfr hN hds hb hd
        exact op_plain Θ_ok ⟨hN, hds, rows_get (E := [(11, (.pointer (some ⟨b408, 0, none⟩)))]) ⟨hb 11 rfl _ rfl, trivial⟩⟩ rfl rfl rfl rfl rfl
      · intro a w2 hfr hN hds hb hd
        have hb408 := hb408.fr0 hfr
        exact op_load Θ_ok ⟨hN, hds, rows_get (E := [(71, (.pointer (some ⟨b408, 2, none⟩)))]) ⟨(hd 7 rfl _ _ rfl rfl), trivial⟩⟩ rfl rfl rfl rfl rfl rfl hb408 [(.int .u64 z395.fWhat)] rfl rfl (.inr rfl) (.int .u64 z395.fWhat) rfl
      · intro a w2 hfr hN hds hb hd
        have d590 : (Ty.slice tGDesc).is (b408 :: O397) w2 (a.tmps.getD 70 undef) y12 := hd 6 rfl _ _ rfl rfl
        obtain ⟨u588, e589⟩ : ∃ v, a.tmps.getD 70 undef = v := ⟨_, rfl⟩
        rw [e589] at d590
        exact (op_call ⟨hN, hds, rows_get (E := [(70, u588), (72, (.int .u64 z395.fWhat))]) ⟨e589, (hd 8 rfl _ _ rfl rfl), trivial⟩⟩ rfl rfl rfl rfl ent17 rfl (r_Count_c (hfr.ob hO) d590 (int_is.2 rfl))).weaken (fun u w3 ⟨hu, hf⟩ => ⟨int_is.1 hu, hf⟩)
      · intro a w2 hfr hN hds hb hd
        exact op_plain Θ_ok ⟨hN, hds, rows_get (E := [(69, (.int .i64 (r_Find y12 z395.fPid z395.fFd)))]) ⟨(hd 5 rfl _ _ rfl rfl), trivial⟩⟩ rfl rfl rfl rfl rfl
      · intro a w2 hfr hN hds hb hd
        exact op_plain Θ_ok ⟨hN, hds, rows_get (E := [(73, (.int .i64 (r_Count y12 z395.fWhat)))]) ⟨(hd 9 rfl _ _ rfl rfl), trivial⟩⟩ rfl rfl rfl rfl rfl
      intro a w592 f591 hN hds hb hr
      have h0 := h0.tr f591.tr0
      have h2 := h2.tr f591.tr0
      have h10 := h10.tr f591.tr0
      have h1 := h1.tr f591.tr0
      have hg0 := hg0.tr f591.tr0
      have hb408 := hb408.fr0 f591
      have T311 := T311.trans f591.tr0
      have T392 := T392.trans f591.tr0
      have T424 := T424.trans f591.tr0
      have hO := f591.ob hO
      have hF := hF.trans f591
      refine wq_go (E := [(0, v0), (2, v2), (7, v8), (8, (.bool y18)), (11, (.pointer (some ⟨b408, 0, none⟩))), (12, (.int .u64 y418.1)), (13, (.bool y418.2)), (45, (.slice A390 x1.length c391)), (46, (.int .i64 (x1.length : Int))), (47, (.int .i64 (i393 : Int))), (14, (.int .i64 (r_Find y12 z395.fPid z395.fFd))), (15, (.int .i64 (r_Count y12 z395.fWhat)))]) hN hds ⟨hb 0 _ rfl rfl, hb 2 _ rfl rfl, hb 7 _ rfl rfl, hb 8 _ rfl rfl, hb 11 _ rfl rfl, hb 12 _ rfl rfl, hb 13 _ rfl rfl, hb 45 _ rfl rfl, hb 46 _ rfl rfl, hb 47 _ rfl rfl, (hr 10 _ _ rfl rfl), (hr 11 _ _ rfl rfl), trivial⟩ ?_
      exact wq_join hK428 [(0, v0), (2, v2), (7, v8), (8, (.bool y18)), (11, (.pointer (some ⟨b408, 0, none⟩))), (12, (.int .u64 y418.1)), (13, (.bool y418.2)), (14, (.int .i64 (r_Find y12 z395.fPid z395.fFd))), (15, (.int .i64 (r_Count y12 z395.fWhat))), (45, (.slice A390 x1.length c391)), (46, (.int .i64 (x1.length : Int))), (47, (.int .i64 (i393 : Int)))] ⟨rfl, rfl, rfl, rfl, rfl, rfl, rfl, rfl, rfl, rfl, rfl, rfl, trivial⟩ ⟨b408 :: O397, (r_Find y12 z395.fPid z395.fFd), (r_Count y12 z395.fWhat), rfl, T424, hO, hS, hF, ib408, hb408, h⟩
    rintro E w432 ⟨O431, p429, p430, rfl, T424, hO, hS, hF, ib408, hb408, h⟩
    have T311 := T311.trans T424
    have T392 := T392.trans T424
    have h0 := h0.tr T424
    have h2 := h2.tr T424
    have h10 := h10.tr T424
    have h1 := h1.tr T424
    have hg0 := hg0.tr T424
    subst hk426
    (try dsimp only at h)
    refine wc_seq ?_
    refine wc_seq ?_
    refine wc_region (l := [0, 1, 2, 3, 4, 5, 6, 7, 8, 9, 10, 11, 12, 13, 14, 15, 16, 17, 18, 19, 20, 21, 22, 23, 24, 25, 26, 27, 28, 29, 30, 31, 32]) rfl ?_
    refine wo_seg Θ_ok [0, 1, 2, 3, 4] [(0, v0), (2, v2), (7, v8), (8, (.bool y18)), (11, (.pointer (some ⟨b408, 0, none⟩))), (12, (.int .u64 y418.1)), (14, (.int .i64 p429)), (15, (.int .i64 p430)), (45, (.slice A390 x1.length c391)), (46, (.int .i64 (x1.length : Int))), (47, (.int .i64 (i393 : Int))), (78, (.bool (!(y418.2 == (decide (p429 ≥ (0 : Int)))))))] rfl ⟨rfl, rfl, rfl, rfl, rfl, rfl, rfl, rfl, rfl, rfl, rfl, rfl, trivial⟩ ?_
    rcases bif_some h with ⟨hc433, h⟩ | ⟨hc433, h⟩
    · refine wo_know 78 true rfl hc433 ?_
      refine wo_seg Θ_ok [5, 6, 7, 8, 9, 10, 11, 12, 13, 14, 15, 16, 17, 18, 19, 20, 21, 22, 23, 24, 25, 26, 27, 28, 29, 30, 31, 32] [(0, v0), (2, v2), (7, v8), (8, (.bool y18)), (11, (.pointer (some ⟨b408, 0, none⟩))), (45, (.slice A390 x1.length c391)), (46, (.int .i64 (x1.length : Int))), (47, (.int .i64 (i393 : Int))), (106, (.bool true))] rfl ⟨rfl, rfl, rfl, rfl, rfl, rfl, rfl, rfl, rfl, trivial⟩ ?_
      refine wo_nil ?_
      refine wq_seq ?_
      refine wc_true rfl ?_
      refine wc_seq ?_
      refine wc_region (l := [0]) rfl ?_
      refine wo_seg Θ_ok [0] [(6, (.bool false))] rfl ⟨rfl, trivial⟩ ?_
      refine wo_nil ?_
      refine wq_seq ?_
      refine wc_ret ?_
      cases h
      exact wq_then_ret (wq_block_ret (wq_then_ret (wq_then_ret (wq_block_ret (wq_then_ret (wq_ret rfl ⟨_, rfl, (bool_is.2 rfl), hF⟩))))))
    refine wo_know 78 false rfl hc433 ?_
    refine wo_seg Θ_ok [5, 6, 7] [(0, v0), (2, v2), (7, v8), (8, (.bool y18)), (11, (.pointer (some ⟨b408, 0, none⟩))), (12, (.int .u64 y418.1)), (14, (.int .i64 p429)), (15, (.int .i64 p430)), (45, (.slice A390 x1.length c391)), (46, (.int .i64 (x1.length : Int))), (47, (.int .i64 (i393 : Int))), (78, (.bool false)), (81, (.bool (decide (p429 ≥ (0 : Int)))))] rfl ⟨rfl, rfl, rfl, rfl, rfl, rfl, rfl, rfl, rfl, rfl, rfl, rfl, rfl, trivial⟩ ?_
    rcases bif_some h with ⟨hc434, h⟩ | ⟨hc434, h⟩
    rotate_left
    · refine wo_know 81 false rfl hc434 ?_
      refine wo_seg Θ_ok [8, 9, 10, 11, 12, 13, 14, 15, 16, 17, 18, 19, 20] [(0, v0), (2, v2), (7, v8), (8, (.bool y18)), (11, (.pointer (some ⟨b408, 0, none⟩))), (12, (.int .u64 y418.1)), (15, (.int .i64 p430)), (45, (.slice A390 x1.length c391)), (46, (.int .i64 (x1.length : Int))), (47, (.int .i64 (i393 : Int))), (91, (.bool false)), (94, (.bool (decide (p429 < (0 : Int)))))] rfl ⟨rfl, rfl, rfl, rfl, rfl, rfl, rfl, rfl, rfl, rfl, rfl, rfl, trivial⟩ ?_
      rcases bif_some h with ⟨hc514, h⟩ | ⟨hc514, h⟩
      rotate_left
      · refine wo_know 94 false rfl hc514 ?_
        refine wo_seg Θ_ok [21, 22, 23, 24, 25, 26, 27] [(0, v0), (2, v2), (7, v8), (8, (.bool y18)), (11, (.pointer (some ⟨b408, 0, none⟩))), (15, (.int .i64 p430)), (45, (.slice A390 x1.length c391)), (46, (.int .i64 (x1.length : Int))), (47, (.int .i64 (i393 : Int))), (99, (.bool false)), (100, v8), (101, (.pointer (some ⟨b408, 2, none⟩)))] rfl ⟨rfl, rfl, rfl, rfl, rfl, rfl, rfl, rfl, rfl, rfl, rfl, rfl, trivial⟩ ?_
        refine wo_load Θ_ok rfl rfl rfl rfl rfl rfl rfl hb408 [(.int .u64 z395.fWhat)] rfl rfl (.inr rfl) (.int .u64 z395.fWhat) rfl ?_
        obtain ⟨y554, hy555, h⟩ := bind_some h
        refine wo_gives rfl rfl rfl rfl rfl ent18 rfl (d_Count_c hO h10 (int_is.2 rfl) hy555) (fun v550 w551 h552 f553 => ?_)
        have h0 := h0.tr f553.tr0
        have h2 := h2.tr f553.tr0
        have h10 := h10.tr f553.tr0
        have h1 := h1.tr f553.tr0
        have hg0 := hg0.tr f553.tr0
        have hb408 := hb408.fr0 f553
        have T311 := T311.trans f553.tr0
        have T392 := T392.trans f553.tr0
        have hO := f553.ob hO
        have hF := hF.trans f553
        obtain rfl := int_is.1 h552
        refine wo_seg Θ_ok [30, 31, 32] [(0, v0), (2, v2), (7, v8), (8, (.bool y18)), (11, (.pointer (some ⟨b408, 0, none⟩))), (45, (.slice A390 x1.length c391)), (46, (.int .i64 (x1.length : Int))), (47, (.int .i64 (i393 : Int))), (106, (.bool (y554 != p430)))] rfl ⟨rfl, rfl, rfl, rfl, rfl, rfl, rfl, rfl, rfl, trivial⟩ ?_
        refine wo_nil ?_
        refine wq_seq ?_
        rcases bif_some h with ⟨hc556, h⟩ | ⟨hc556, h⟩
        · refine wc_known_true rfl hc556 ?_
          refine wc_seq ?_
          refine wc_region (l := [0]) rfl ?_
          refine wo_seg Θ_ok [0] [(6, (.bool false))] rfl ⟨rfl, trivial⟩ ?_
          refine wo_nil ?_
          refine wq_seq ?_
          refine wc_ret ?_
          cases h
          exact wq_then_ret (wq_block_ret (wq_then_ret (wq_then_ret (wq_block_ret (wq_then_ret (wq_ret rfl ⟨_, rfl, (bool_is.2 rfl), hF⟩))))))
        refine wc_known_false rfl hc556 ?_
        refine wc_skip ?_
        refine wq_seq ?_
        refine wc_seq ?_
        refine wc_region (l := [0, 1, 2, 3, 4, 5, 6]) rfl ?_
        refine wo_load Θ_ok rfl rfl rfl rfl rfl rfl rfl hb408 [(.int .u64 z395.fPid), (.int .i64 z395.fFd), (.int .u64 z395.fWhat)] rfl rfl (.inl rfl) (.agg #[(.int .u64 z395.fPid), (.int .i64 z395.fFd), (.int .u64 z395.fWhat)]) rfl ?_
        obtain ⟨y561, hy562, h⟩ := bind_some h
        refine wo_gives rfl rfl rfl rfl rfl ent19 rfl (d_Key_c hO hg0 ((tGDesc_is (x := z395)).2 rfl) hy562) (fun v557 w558 h559 f560 => ?_)
        have h0 := h0.tr f560.tr0
        have h2 := h2.tr f560.tr0
        have h10 := h10.tr f560.tr0
        have h1 := h1.tr f560.tr0
        have hg0 := hg0.tr f560.tr0
        have hb408 := hb408.fr0 f560
        have T311 := T311.trans f560.tr0
        have T392 := T392.trans f560.tr0
        have hO := f560.ob hO
        have hF := hF.trans f560
        obtain ⟨u563, u565, rfl, h564, h566⟩ := h559
        obtain rfl := int_is.1 h564
        obtain rfl := int_is.1 h566
        refine wo_seg Θ_ok [2, 3, 4, 5, 6] [(0, v0), (2, v2), (7, v8), (8, (.bool y18)), (11, (.pointer (some ⟨b408, 0, none⟩))), (16, (.int .u64 y561.1)), (17, (.int .i64 y561.2)), (45, (.slice A390 x1.length c391)), (46, (.int .i64 (x1.length : Int))), (47, (.int .i64 (i393 : Int)))] rfl ⟨rfl, rfl, rfl, rfl, rfl, rfl, rfl, rfl, rfl, rfl, trivial⟩ ?_
        refine wo_nil ?_
        refine wq_seq ?_
        refine wc_seq ?_
        refine wc_region (l := [0, 1, 2]) rfl ?_
        refine wo_load Θ_ok rfl rfl rfl rfl rfl rfl rfl hb408 [(.int .u64 z395.fPid), (.int .i64 z395.fFd), (.int .u64 z395.fWhat)] rfl rfl (.inl rfl) (.agg #[(.int .u64 z395.fPid), (.int .i64 z395.fFd), (.int .u64 z395.fWhat)]) rfl ?_
        refine wo_gives rfl rfl rfl rfl rfl ent20 rfl (r_Is_c hO ((tGDesc_is (x := z395)).2 rfl)) (fun v567 w568 h569 f570 => ?_)
        have h0 := h0.tr f570.tr0
        have h2 := h2.tr f570.tr0
        have h10 := h10.tr f570.tr0
        have h1 := h1.tr f570.tr0
        have hg0 := hg0.tr f570.tr0
        have hb408 := hb408.fr0 f570
        have T311 := T311.trans f570.tr0
        have T392 := T392.trans f570.tr0
        have hO := f570.ob hO
        have hF := hF.trans f570
        obtain rfl := bool_is.1 h569
        refine wo_seg Θ_ok [2] [(0, v0), (2, v2), (7, v8), (8, (.bool y18)), (11, (.pointer (some ⟨b408, 0, none⟩))), (16, (.int .u64 y561.1)), (17, (.int .i64 y561.2)), (18, (.bool ((r_Is z395)))), (45, (.slice A390 x1.length c391)), (46, (.int .i64 (x1.length : Int))), (47, (.int .i64 (i393 : Int)))] rfl ⟨rfl, rfl, rfl, rfl, rfl, rfl, rfl, rfl, rfl, rfl, rfl, trivial⟩ ?_
        refine wo_nil ?_
        refine wq_seq ?_
        refine wc_seq ?_
        refine wc_region (l := [0, 1, 2, 3, 4, 5, 6, 7, 8, 9, 10, 11, 12, 13, 14, 15, 16, 17, 18, 19, 20, 21, 22, 23, 24]) rfl ?_
        refine wo_seg Θ_ok [0, 1, 2, 3, 4] [(0, v0), (2, v2), (7, v8), (8, (.bool y18)), (11, (.pointer (some ⟨b408, 0, none⟩))), (16, (.int .u64 y561.1)), (17, (.int .i64 y561.2)), (18, (.bool ((r_Is z395)))), (45, (.slice A390 x1.length c391)), (46, (.int .i64 (x1.length : Int))), (47, (.int .i64 (i393 : Int))), (118, (.bool (!((y561.2 == (0 : Int)) == (r_Is z395)))))] rfl ⟨rfl, rfl, rfl, rfl, rfl, rfl, rfl, rfl, rfl, rfl, rfl, rfl, trivial⟩ ?_
        rcases bif_some h with ⟨hc571, h⟩ | ⟨hc571, h⟩
        · refine wo_know 118 true rfl hc571 ?_
          refine wo_seg Θ_ok [5, 6, 7, 8, 9, 10, 11, 12, 13, 14, 15, 16, 17, 18, 19, 20, 21, 22, 23, 24] [(0, v0), (2, v2), (7, v8), (8, (.bool y18)), (45, (.slice A390 x1.length c391)), (46, (.int .i64 (x1.length : Int))), (47, (.int .i64 (i393 : Int))), (138, (.bool true))] rfl ⟨rfl, rfl, rfl, rfl, rfl, rfl, rfl, rfl, trivial⟩ ?_
          refine wo_nil ?_
          refine wq_seq ?_
          refine wc_true rfl ?_
          refine wc_seq ?_
          refine wc_region (l := [0]) rfl ?_
          refine wo_seg Θ_ok [0] [(6, (.bool false))] rfl ⟨rfl, trivial⟩ ?_
          refine wo_nil ?_
          refine wq_seq ?_
          refine wc_ret ?_
          cases h
          exact wq_block_ret (wq_then_ret (wq_then_ret (wq_block_ret (wq_then_ret (wq_ret rfl ⟨_, rfl, (bool_is.2 rfl), hF⟩)))))
        refine wo_know 118 false rfl hc571 ?_
        refine wo_seg Θ_ok [5, 6] [(0, v0), (2, v2), (7, v8), (8, (.bool y18)), (11, (.pointer (some ⟨b408, 0, none⟩))), (16, (.int .u64 y561.1)), (17, (.int .i64 y561.2)), (18, (.bool ((r_Is z395)))), (45, (.slice A390 x1.length c391)), (46, (.int .i64 (x1.length : Int))), (47, (.int .i64 (i393 : Int))), (118, (.bool false)), (120, (.bool ((r_Is z395))))] rfl ⟨rfl, rfl, rfl, rfl, rfl, rfl, rfl, rfl, rfl, rfl, rfl, rfl, rfl, trivial⟩ ?_
        rcases bif_some h with ⟨hc572, h⟩ | ⟨hc572, h⟩
        rotate_left
        · refine wo_know 120 false rfl hc572 ?_
          refine wo_seg Θ_ok [7, 8, 9, 10, 11, 12, 13, 14, 15, 16] [(0, v0), (2, v2), (7, v8), (8, (.bool y18)), (16, (.int .u64 y561.1)), (17, (.int .i64 y561.2)), (45, (.slice A390 x1.length c391)), (46, (.int .i64 (x1.length : Int))), (47, (.int .i64 (i393 : Int))), (127, (.bool false)), (130, (.bool (!(r_Is z395))))] rfl ⟨rfl, rfl, rfl, rfl, rfl, rfl, rfl, rfl, rfl, rfl, rfl, trivial⟩ ?_
          rcases bif_some h with ⟨hc581, h⟩ | ⟨hc581, h⟩
          rotate_left
          · refine wo_know 130 false rfl hc581 ?_
            refine wo_seg Θ_ok [17, 18, 19, 20, 21, 22, 23, 24] [(0, v0), (2, v2), (7, v8), (8, (.bool y18)), (45, (.slice A390 x1.length c391)), (46, (.int .i64 (x1.length : Int))), (47, (.int .i64 (i393 : Int))), (138, (.bool false))] rfl ⟨rfl, rfl, rfl, rfl, rfl, rfl, rfl, rfl, trivial⟩ ?_
            refine wo_nil ?_
            refine wq_seq ?_
            refine wc_false rfl ?_
            refine wc_skip ?_
            refine wq_block (wq_seq ?_)
            refine wc_region (l := [0, 1]) rfl ?_
            refine wo_seg Θ_ok [0, 1] [(0, v0), (2, v2), (7, v8), (8, (.bool y18)), (45, (.slice A390 x1.length c391)), (46, (.int .i64 (x1.length : Int))), (47, (.int .i64 (IntKind.i64.wrap ((i393 : Int) + (1 : Int)))))] rfl ⟨rfl, rfl, rfl, rfl, rfl, rfl, rfl, trivial⟩ ?_
            refine wo_nil ?_
            exact wq_next rest394.length [(0, v0), (2, v2), (7, v8), (8, (.bool y18)), (45, (.slice A390 x1.length c391)), (46, (.int .i64 (x1.length : Int))), (47, (.int .i64 ((i393 + 1 : Nat) : Int)))] (Nat.lt_succ_self _) ⟨rfl, rfl, rfl, rfl, rfl, rfl, congrArg (fun z => some (Value.int .i64 z)) (wrap_succ hl403 (Nat.le_trans hlc391 hmc391)), trivial⟩ ⟨rest394, i393 + 1, O431, rfl, hd396, rfl, T392, hO, hS, hF, h⟩
          refine wo_know 130 true rfl hc581 ?_
          refine wo_seg Θ_ok [17, 18, 19] [(0, v0), (2, v2), (7, v8), (8, (.bool y18)), (17, (.int .i64 y561.2)), (45, (.slice A390 x1.length c391)), (46, (.int .i64 (x1.length : Int))), (47, (.int .i64 (i393 : Int))), (127, (.bool false)), (130, (.bool true)), (133, (.bool (y561.1 != (0 : Int))))] rfl ⟨rfl, rfl, rfl, rfl, rfl, rfl, rfl, rfl, rfl, rfl, rfl, trivial⟩ ?_
          rcases bif_some h with ⟨hc582, h⟩ | ⟨hc582, h⟩
          · refine wo_know 133 true rfl hc582 ?_
            refine wo_seg Θ_ok [20, 21, 22, 23, 24] [(0, v0), (2, v2), (7, v8), (8, (.bool y18)), (45, (.slice A390 x1.length c391)), (46, (.int .i64 (x1.length : Int))), (47, (.int .i64 (i393 : Int))), (138, (.bool true))] rfl ⟨rfl, rfl, rfl, rfl, rfl, rfl, rfl, rfl, trivial⟩ ?_
            refine wo_nil ?_
            refine wq_seq ?_
            refine wc_true rfl ?_
            refine wc_seq ?_
            refine wc_region (l := [0]) rfl ?_
            refine wo_seg Θ_ok [0] [(6, (.bool false))] rfl ⟨rfl, trivial⟩ ?_
            refine wo_nil ?_
            refine wq_seq ?_
            refine wc_ret ?_
            cases h
            exact wq_block_ret (wq_then_ret (wq_then_ret (wq_block_ret (wq_then_ret (wq_ret rfl ⟨_, rfl, (bool_is.2 rfl), hF⟩)))))
          refine wo_know 133 false rfl hc582 ?_
          refine wo_seg Θ_ok [20, 21, 22, 23, 24] [(0, v0), (2, v2), (7, v8), (8, (.bool y18)), (45, (.slice A390 x1.length c391)), (46, (.int .i64 (x1.length : Int))), (47, (.int .i64 (i393 : Int))), (138, (.bool (y561.2 != (2 : Int))))] rfl ⟨rfl, rfl, rfl, rfl, rfl, rfl, rfl, rfl, trivial⟩ ?_
          refine wo_nil ?_
          refine wq_seq ?_
          rcases bif_some h with ⟨hc583, h⟩ | ⟨hc583, h⟩
          rotate_left
          · refine wc_known_false rfl hc583 ?_
            refine wc_skip ?_
            refine wq_block (wq_seq ?_)
            refine wc_region (l := [0, 1]) rfl ?_
            refine wo_seg Θ_ok [0, 1] [(0, v0), (2, v2), (7, v8), (8, (.bool y18)), (45, (.slice A390 x1.length c391)), (46, (.int .i64 (x1.length : Int))), (47, (.int .i64 (IntKind.i64.wrap ((i393 : Int) + (1 : Int)))))] rfl ⟨rfl, rfl, rfl, rfl, rfl, rfl, rfl, trivial⟩ ?_
            refine wo_nil ?_
            exact wq_next rest394.length [(0, v0), (2, v2), (7, v8), (8, (.bool y18)), (45, (.slice A390 x1.length c391)), (46, (.int .i64 (x1.length : Int))), (47, (.int .i64 ((i393 + 1 : Nat) : Int)))] (Nat.lt_succ_self _) ⟨rfl, rfl, rfl, rfl, rfl, rfl, congrArg (fun z => some (Value.int .i64 z)) (wrap_succ hl403 (Nat.le_trans hlc391 hmc391)), trivial⟩ ⟨rest394, i393 + 1, O431, rfl, hd396, rfl, T392, hO, hS, hF, h⟩
          refine wc_known_true rfl hc583 ?_
          refine wc_seq ?_
          refine wc_region (l := [0]) rfl ?_
          refine wo_seg Θ_ok [0] [(6, (.bool false))] rfl ⟨rfl, trivial⟩ ?_
          refine wo_nil ?_
          refine wq_seq ?_
          refine wc_ret ?_
          cases h
          exact wq_block_ret (wq_then_ret (wq_then_ret (wq_block_ret (wq_then_ret (wq_ret rfl ⟨_, rfl, (bool_is.2 rfl), hF⟩)))))
        refine wo_know 120 true rfl hc572 ?_
        refine wo_seg Θ_ok [7] [(0, v0), (2, v2), (7, v8), (8, (.bool y18)), (11, (.pointer (some ⟨b408, 0, none⟩))), (16, (.int .u64 y561.1)), (17, (.int .i64 y561.2)), (18, (.bool ((r_Is z395)))), (45, (.slice A390 x1.length c391)), (46, (.int .i64 (x1.length : Int))), (47, (.int .i64 (i393 : Int))), (118, (.bool false)), (120, (.bool true)), (121, (.int .u64 y561.1))] rfl ⟨rfl, rfl, rfl, rfl, rfl, rfl, rfl, rfl, rfl, rfl, rfl, rfl, rfl, rfl, trivial⟩ ?_
        refine wo_load Θ_ok rfl rfl rfl rfl rfl rfl rfl hb408 [(.int .u64 z395.fPid), (.int .i64 z395.fFd), (.int .u64 z395.fWhat)] rfl rfl (.inl rfl) (.agg #[(.int .u64 z395.fPid), (.int .i64 z395.fFd), (.int .u64 z395.fWhat)]) rfl ?_
        refine wo_gives rfl rfl rfl rfl rfl ent21 rfl (r_Key_c hO ((tGDesc_is (x := z395)).2 rfl)) (fun v573 w574 h575 f576 => ?_)
        have h0 := h0.tr f576.tr0
        have h2 := h2.tr f576.tr0
        have h10 := h10.tr f576.tr0
        have h1 := h1.tr f576.tr0
        have hg0 := hg0.tr f576.tr0
        have T311 := T311.trans f576.tr0
        have T392 := T392.trans f576.tr0
        have hO := f576.ob hO
        have hF := hF.trans f576
        obtain rfl := int_is.1 h575
        refine wo_seg Θ_ok [10, 11, 12, 13] [(0, v0), (2, v2), (7, v8), (8, (.bool y18)), (16, (.int .u64 y561.1)), (17, (.int .i64 y561.2)), (18, (.bool ((r_Is z395)))), (45, (.slice A390 x1.length c391)), (46, (.int .i64 (x1.length : Int))), (47, (.int .i64 (i393 : Int))), (127, (.bool (y561.1 != (r_Key z395))))] rfl ⟨rfl, rfl, rfl, rfl, rfl, rfl, rfl, rfl, rfl, rfl, rfl, trivial⟩ ?_
        rcases bif_some h with ⟨hc577, h⟩ | ⟨hc577, h⟩
        · refine wo_know 127 true rfl hc577 ?_
          refine wo_seg Θ_ok [14, 15, 16, 17, 18, 19, 20, 21, 22, 23, 24] [(0, v0), (2, v2), (7, v8), (8, (.bool y18)), (45, (.slice A390 x1.length c391)), (46, (.int .i64 (x1.length : Int))), (47, (.int .i64 (i393 : Int))), (138, (.bool true))] rfl ⟨rfl, rfl, rfl, rfl, rfl, rfl, rfl, rfl, trivial⟩ ?_
          refine wo_nil ?_
          refine wq_seq ?_
          refine wc_true rfl ?_
          refine wc_seq ?_
          refine wc_region (l := [0]) rfl ?_
          refine wo_seg Θ_ok [0] [(6, (.bool false))] rfl ⟨rfl, trivial⟩ ?_
          refine wo_nil ?_
          refine wq_seq ?_
          refine wc_ret ?_
          cases h
          exact wq_block_ret (wq_then_ret (wq_then_ret (wq_block_ret (wq_then_ret (wq_ret rfl ⟨_, rfl, (bool_is.2 rfl), hF⟩)))))
        refine wo_know 127 false rfl hc577 ?_
        refine wo_seg Θ_ok [14, 15, 16] [(0, v0), (2, v2), (7, v8), (8, (.bool y18)), (16, (.int .u64 y561.1)), (17, (.int .i64 y561.2)), (45, (.slice A390 x1.length c391)), (46, (.int .i64 (x1.length : Int))), (47, (.int .i64 (i393 : Int))), (127, (.bool false)), (130, (.bool (!(r_Is z395))))] rfl ⟨rfl, rfl, rfl, rfl, rfl, rfl, rfl, rfl, rfl, rfl, rfl, trivial⟩ ?_
        rcases bif_some h with ⟨hc578, h⟩ | ⟨hc578, h⟩
        rotate_left
        · refine wo_know 130 false rfl hc578 ?_
          refine wo_seg Θ_ok [17, 18, 19, 20, 21, 22, 23, 24] [(0, v0), (2, v2), (7, v8), (8, (.bool y18)), (45, (.slice A390 x1.length c391)), (46, (.int .i64 (x1.length : Int))), (47, (.int .i64 (i393 : Int))), (138, (.bool false))] rfl ⟨rfl, rfl, rfl, rfl, rfl, rfl, rfl, rfl, trivial⟩ ?_
          refine wo_nil ?_
          refine wq_seq ?_
          refine wc_false rfl ?_
          refine wc_skip ?_
          refine wq_block (wq_seq ?_)
          refine wc_region (l := [0, 1]) rfl ?_
          refine wo_seg Θ_ok [0, 1] [(0, v0), (2, v2), (7, v8), (8, (.bool y18)), (45, (.slice A390 x1.length c391)), (46, (.int .i64 (x1.length : Int))), (47, (.int .i64 (IntKind.i64.wrap ((i393 : Int) + (1 : Int)))))] rfl ⟨rfl, rfl, rfl, rfl, rfl, rfl, rfl, trivial⟩ ?_
          refine wo_nil ?_
          exact wq_next rest394.length [(0, v0), (2, v2), (7, v8), (8, (.bool y18)), (45, (.slice A390 x1.length c391)), (46, (.int .i64 (x1.length : Int))), (47, (.int .i64 ((i393 + 1 : Nat) : Int)))] (Nat.lt_succ_self _) ⟨rfl, rfl, rfl, rfl, rfl, rfl, congrArg (fun z => some (Value.int .i64 z)) (wrap_succ hl403 (Nat.le_trans hlc391 hmc391)), trivial⟩ ⟨rest394, i393 + 1, O431, rfl, hd396, rfl, T392, hO, hS, hF, h⟩
        refine wo_know 130 true rfl hc578 ?_
        refine wo_seg Θ_ok [17, 18, 19] [(0, v0), (2, v2), (7, v8), (8, (.bool y18)), (17, (.int .i64 y561.2)), (45, (.slice A390 x1.length c391)), (46, (.int .i64 (x1.length : Int))), (47, (.int .i64 (i393 : Int))), (127, (.bool false)), (130, (.bool true)), (133, (.bool (y561.1 != (0 : Int))))] rfl ⟨rfl, rfl, rfl, rfl, rfl, rfl, rfl, rfl, rfl, rfl, rfl, trivial⟩ ?_
        rcases bif_some h with ⟨hc579, h⟩ | ⟨hc579, h⟩
        · refine wo_know 133 true rfl hc579 ?_
          refine wo_seg Θ_ok [20, 21, 22, 23, 24] [(0, v0), (2, v2), (7, v8), (8, (.bool y18)), (45, (.slice A390 x1.length c391)), (46, (.int .i64 (x1.length : Int))), (47, (.int .i64 (i393 : Int))), (138, (.bool true))] rfl ⟨rfl, rfl, rfl, rfl, rfl, rfl, rfl, rfl, trivial⟩ ?_
          refine wo_nil ?_
          refine wq_seq ?_
          refine wc_true rfl ?_
          refine wc_seq ?_
          refine wc_region (l := [0]) rfl ?_
          refine wo_seg Θ_ok [0] [(6, (.bool false))] rfl ⟨rfl, trivial⟩ ?_
          refine wo_nil ?_
          refine wq_seq ?_
          refine wc_ret ?_
          cases h
          exact wq_block_ret (wq_then_ret (wq_then_ret (wq_block_ret (wq_then_ret (wq_ret rfl ⟨_, rfl, (bool_is.2 rfl), hF⟩)))))
        refine wo_know 133 false rfl hc579 ?_
        refine wo_seg Θ_ok [20, 21, 22, 23, 24] [(0, v0), (2, v2), (7, v8), (8, (.bool y18)), (45, (.slice A390 x1.length c391)), (46, (.int .i64 (x1.length : Int))), (47, (.int .i64 (i393 : Int))), (138, (.bool (y561.2 != (2 : Int))))] rfl ⟨rfl, rfl, rfl, rfl, rfl, rfl, rfl, rfl, trivial⟩ ?_
        refine wo_nil ?_
        refine wq_seq ?_
        rcases bif_some h with ⟨hc580, h⟩ | ⟨hc580, h⟩
        rotate_left
        · refine wc_known_false rfl hc580 ?_
          refine wc_skip ?_
          refine wq_block (wq_seq ?_)
          refine wc_region (l := [0, 1]) rfl ?_
          refine wo_seg Θ_ok [0, 1] [(0, v0), (2, v2), (7, v8), (8, (.bool y18)), (45, (.slice A390 x1.length c391)), (46, (.int .i64 (x1.length : Int))), (47, (.int .i64 (IntKind.i64.wrap ((i393 : Int) + (1 : Int)))))] rfl ⟨rfl, rfl, rfl, rfl, rfl, rfl, rfl, trivial⟩ ?_
          refine wo_nil ?_
          exact wq_next rest394.length [(0, v0), (2, v2), (7, v8), (8, (.bool y18)), (45, (.slice A390 x1.length c391)), (46, (.int .i64 (x1.length : Int))), (47, (.int .i64 ((i393 + 1 : Nat) : Int)))] (Nat.lt_succ_self _) ⟨rfl, rfl, rfl, rfl, rfl, rfl, congrArg (fun z => some (Value.int .i64 z)) (wrap_succ hl403 (Nat.le_trans hlc391 hmc391)), trivial⟩ ⟨rest394, i393 + 1, O431, rfl, hd396, rfl, T392, hO, hS, hF, h⟩
        refine wc_known_true rfl hc580 ?_
        refine wc_seq ?_
        refine wc_region (l := [0]) rfl ?_
        refine wo_seg Θ_ok [0] [(6, (.bool false))] rfl ⟨rfl, trivial⟩ ?_
        refine wo_nil ?_
        refine wq_seq ?_
        refine wc_ret ?_
        cases h
        exact wq_block_ret (wq_then_ret (wq_then_ret (wq_block_ret (wq_then_ret (wq_ret rfl ⟨_, rfl, (bool_is.2 rfl), hF⟩)))))
      refine wo_know 94 true rfl hc514 ?_
      refine wo_seg Θ_ok [21, 22, 23, 24, 25] [(0, v0), (2, v2), (7, v8), (8, (.bool y18)), (11, (.pointer (some ⟨b408, 0, none⟩))), (15, (.int .i64 p430)), (45, (.slice A390 x1.length c391)), (46, (.int .i64 (x1.length : Int))), (47, (.int .i64 (i393 : Int))), (99, (.bool (y418.1 != (0 : Int))))] rfl ⟨rfl, rfl, rfl, rfl, rfl, rfl, rfl, rfl, rfl, rfl, trivial⟩ ?_
      rcases bif_some h with ⟨hc515, h⟩ | ⟨hc515, h⟩
      · refine wo_know 99 true rfl hc515 ?_
        refine wo_seg Θ_ok [26, 27, 28, 29, 30, 31, 32] [(0, v0), (2, v2), (7, v8), (8, (.bool y18)), (11, (.pointer (some ⟨b408, 0, none⟩))), (45, (.slice A390 x1.length c391)), (46, (.int .i64 (x1.length : Int))), (47, (.int .i64 (i393 : Int))), (106, (.bool true))] rfl ⟨rfl, rfl, rfl, rfl, rfl, rfl, rfl, rfl, rfl, trivial⟩ ?_
        refine wo_nil ?_
        refine wq_seq ?_
        refine wc_true rfl ?_
        refine wc_seq ?_
        refine wc_region (l := [0]) rfl ?_
        refine wo_seg Θ_ok [0] [(6, (.bool false))] rfl ⟨rfl, trivial⟩ ?_
        refine wo_nil ?_
        refine wq_seq ?_
        refine wc_ret ?_
        cases h
        exact wq_then_ret (wq_block_ret (wq_then_ret (wq_then_ret (wq_block_ret (wq_then_ret (wq_ret rfl ⟨_, rfl, (bool_is.2 rfl), hF⟩))))))
      refine wo_know 99 false rfl hc515 ?_
      refine wo_seg Θ_ok [26, 27] [(0, v0), (2, v2), (7, v8), (8, (.bool y18)), (11, (.pointer (some ⟨b408, 0, none⟩))), (15, (.int .i64 p430)), (45, (.slice A390 x1.length c391)), (46, (.int .i64 (x1.length : Int))), (47, (.int .i64 (i393 : Int))), (99, (.bool false)), (100, v8), (101, (.pointer (some ⟨b408, 2, none⟩)))] rfl ⟨rfl, rfl, rfl, rfl, rfl, rfl, rfl, rfl, rfl, rfl, rfl, rfl, trivial⟩ ?_
      refine wo_load Θ_ok rfl rfl rfl rfl rfl rfl rfl hb408 [(.int .u64 z395.fWhat)] rfl rfl (.inr rfl) (.int .u64 z395.fWhat) rfl ?_
      obtain ⟨y520, hy521, h⟩ := bind_some h
      refine wo_gives rfl rfl rfl rfl rfl ent18 rfl (d_Count_c hO h10 (int_is.2 rfl) hy521) (fun v516 w517 h518 f519 => ?_)
      have h0 := h0.tr f519.tr0
      have h2 := h2.tr f519.tr0
      have h10 := h10.tr f519.tr0
      have h1 := h1.tr f519.tr0
      have hg0 := hg0.tr f519.tr0
      have hb408 := hb408.fr0 f519
      have T311 := T311.trans f519.tr0
      have T392 := T392.trans f519.tr0
      have hO := f519.ob hO
      have hF := hF.trans f519
      obtain rfl := int_is.1 h518
      refine wo_seg Θ_ok [30, 31, 32] [(0, v0), (2, v2), (7, v8), (8, (.bool y18)), (11, (.pointer (some ⟨b408, 0, none⟩))), (45, (.slice A390 x1.length c391)), (46, (.int .i64 (x1.length : Int))), (47, (.int .i64 (i393 : Int))), (106, (.bool (y520 != p430)))] rfl ⟨rfl, rfl, rfl, rfl, rfl, rfl, rfl, rfl, rfl, trivial⟩ ?_
      refine wo_nil ?_
      refine wq_seq ?_
      rcases bif_some h with ⟨hc522, h⟩ | ⟨hc522, h⟩
      · refine wc_known_true rfl hc522 ?_
        refine wc_seq ?_
        refine wc_region (l := [0]) rfl ?_
        refine wo_seg Θ_ok [0] [(6, (.bool false))] rfl ⟨rfl, trivial⟩ ?_
        refine wo_nil ?_
        refine wq_seq ?_
        refine wc_ret ?_
        cases h
        exact wq_then_ret (wq_block_ret (wq_then_ret (wq_then_ret (wq_block_ret (wq_then_ret (wq_ret rfl ⟨_, rfl, (bool_is.2 rfl), hF⟩))))))
      refine wc_known_false rfl hc522 ?_
      refine wc_skip ?_
      refine wq_seq ?_
      refine wc_seq ?_
      refine wc_region (l := [0, 1, 2, 3, 4, 5, 6]) rfl ?_
      refine wo_load Θ_ok rfl rfl rfl rfl rfl rfl rfl hb408 [(.int .u64 z395.fPid), (.int .i64 z395.fFd), (.int .u64 z395.fWhat)] rfl rfl (.inl rfl) (.agg #[(.int .u64 z395.fPid), (.int .i64 z395.fFd), (.int .u64 z395.fWhat)]) rfl ?_
      obtain ⟨y527, hy528, h⟩ := bind_some h
      refine wo_gives rfl rfl rfl rfl rfl ent19 rfl (d_Key_c hO hg0 ((tGDesc_is (x := z395)).2 rfl) hy528) (fun v523 w524 h525 f526 => ?_)
      have h0 := h0.tr f526.tr0
      have h2 := h2.tr f526.tr0
      have h10 := h10.tr f526.tr0
      have h1 := h1.tr f526.tr0
      have hg0 := hg0.tr f526.tr0
      have hb408 := hb408.fr0 f526
      have T311 := T311.trans f526.tr0
      have T392 := T392.trans f526.tr0
      have hO := f526.ob hO
      have hF := hF.trans f526
      obtain ⟨u529, u531, rfl, h530, h532⟩ := h525
      obtain rfl := int_is.1 h530
      obtain rfl := int_is.1 h532
      refine wo_seg Θ_ok [2, 3, 4, 5, 6] [(0, v0), (2, v2), (7, v8), (8, (.bool y18)), (11, (.pointer (some ⟨b408, 0, none⟩))), (16, (.int .u64 y527.1)), (17, (.int .i64 y527.2)), (45, (.slice A390 x1.length c391)), (46, (.int .i64 (x1.length : Int))), (47, (.int .i64 (i393 : Int)))] rfl ⟨rfl, rfl, rfl, rfl, rfl, rfl, rfl, rfl, rfl, rfl, trivial⟩ ?_
      refine wo_nil ?_
      refine wq_seq ?_
      refine wc_seq ?_
      refine wc_region (l := [0, 1, 2]) rfl ?_
      refine wo_load Θ_ok rfl rfl rfl rfl rfl rfl rfl hb408 [(.int .u64 z395.fPid), (.int .i64 z395.fFd), (.int .u64 z395.fWhat)] rfl rfl (.inl rfl) (.agg #[(.int .u64 z395.fPid), (.int .i64 z395.fFd), (.int .u64 z395.fWhat)]) rfl ?_
      refine wo_gives rfl rfl rfl rfl rfl ent20 rfl (r_Is_c hO ((tGDesc_is (x := z395)).2 rfl)) (fun v533 w534 h535 f536 => ?_)
      have h0 := h0.tr f536.tr0
      have h2 := h2.tr f536.tr0
      have h10 := h10.tr f536.tr0
      have h1 := h1.tr f536.tr0
      have hg0 := hg0.tr f536.tr0
      have hb408 := hb408.fr0 f536
      have T311 := T311.trans f536.tr0
      have T392 := T392.trans f536.tr0
      have hO := f536.ob hO
      have hF := hF.trans f536
      obtain rfl := bool_is.1 h535
      refine wo_seg Θ_ok [2] [(0, v0), (2, v2), (7, v8), (8, (.bool y18)), (11, (.pointer (some ⟨b408, 0, none⟩))), (16, (.int .u64 y527.1)), (17, (.int .i64 y527.2)), (18, (.bool ((r_Is z395)))), (45, (.slice A390 x1.length c391)), (46, (.int .i64 (x1.length : Int))), (47, (.int .i64 (i393 : Int)))] rfl ⟨rfl, rfl, rfl, rfl, rfl, rfl, rfl, rfl, rfl, rfl, rfl, trivial⟩ ?_
      refine wo_nil ?_
      refine wq_seq ?_
      refine wc_seq ?_
      refine wc_region (l := [0, 1, 2, 3, 4, 5, 6, 7, 8, 9, 10, 11, 12, 13, 14, 15, 16, 17, 18, 19, 20, 21, 22, 23, 24]) rfl ?_
      refine wo_seg Θ_ok [0, 1, 2, 3, 4] [(0, v0), (2, v2), (7, v8), (8, (.bool y18)), (11, (.pointer (some ⟨b408, 0, none⟩))), (16, (.int .u64 y527.1)), (17, (.int .i64 y527.2)), (18, (.bool ((r_Is z395)))), (45, (.slice A390 x1.length c391)), (46, (.int .i64 (x1.length : Int))), (47, (.int .i64 (i393 : Int))), (118, (.bool (!((y527.2 == (0 : Int)) == (r_Is z395)))))] rfl ⟨rfl, rfl, rfl, rfl, rfl, rfl, rfl, rfl, rfl, rfl, rfl, rfl, trivial⟩ ?_
      rcases bif_some h with ⟨hc537, h⟩ | ⟨hc537, h⟩
      · refine wo_know 118 true rfl hc537 ?_
        refine wo_seg Θ_ok [5, 6, 7, 8, 9, 10, 11, 12, 13, 14, 15, 16, 17, 18, 19, 20, 21, 22, 23, 24] [(0, v0), (2, v2), (7, v8), (8, (.bool y18)), (45, (.slice A390 x1.length c391)), (46, (.int .i64 (x1.length : Int))), (47, (.int .i64 (i393 : Int))), (138, (.bool true))] rfl ⟨rfl, rfl, rfl, rfl, rfl, rfl, rfl, rfl, trivial⟩ ?_
        refine wo_nil ?_
        refine wq_seq ?_
        refine wc_true rfl ?_
        refine wc_seq ?_
        refine wc_region (l := [0]) rfl ?_
        refine wo_seg Θ_ok [0] [(6, (.bool false))] rfl ⟨rfl, trivial⟩ ?_
        refine wo_nil ?_
        refine wq_seq ?_
        refine wc_ret ?_
        cases h
        exact wq_block_ret (wq_then_ret (wq_then_ret (wq_block_ret (wq_then_ret (wq_ret rfl ⟨_, rfl, (bool_is.2 rfl), hF⟩)))))
      refine wo_know 118 false rfl hc537 ?_
      refine wo_seg Θ_ok [5, 6] [(0, v0), (2, v2), (7, v8), (8, (.bool y18)), (11, (.pointer (some ⟨b408, 0, none⟩))), (16, (.int .u64 y527.1)), (17, (.int .i64 y527.2)), (18, (.bool ((r_Is z395)))), (45, (.slice A390 x1.length c391)), (46, (.int .i64 (x1.length : Int))), (47, (.int .i64 (i393 : Int))), (118, (.bool false)), (120, (.bool ((r_Is z395))))] rfl ⟨rfl, rfl, rfl, rfl, rfl, rfl, rfl, rfl, rfl, rfl, rfl, rfl, rfl, trivial⟩ ?_
      rcases bif_some h with ⟨hc538, h⟩ | ⟨hc538, h⟩
      rotate_left
      · refine wo_know 120 false rfl hc538 ?_
        refine wo_seg Θ_ok [7, 8, 9, 10, 11, 12, 13, 14, 15, 16] [(0, v0), (2, v2), (7, v8), (8, (.bool y18)), (16, (.int .u64 y527.1)), (17, (.int .i64 y527.2)), (45, (.slice A390 x1.length c391)), (46, (.int .i64 (x1.length : Int))), (47, (.int .i64 (i393 : Int))), (127, (.bool false)), (130, (.bool (!(r_Is z395))))] rfl ⟨rfl, rfl, rfl, rfl, rfl, rfl, rfl, rfl, rfl, rfl, rfl, trivial⟩ ?_
        rcases bif_some h with ⟨hc547, h⟩ | ⟨hc547, h⟩
        rotate_left
        · refine wo_know 130 false rfl hc547 ?_
          refine wo_seg Θ_ok [17, 18, 19, 20, 21, 22, 23, 24] [(0, v0), (2, v2), (7, v8), (8, (.bool y18)), (45, (.slice A390 x1.length c391)), (46, (.int .i64 (x1.length : Int))), (47, (.int .i64 (i393 : Int))), (138, (.bool false))] rfl ⟨rfl, rfl, rfl, rfl, rfl, rfl, rfl, rfl, trivial⟩ ?_
          refine wo_nil ?_
          refine wq_seq ?_
          refine wc_false rfl ?_
          refine wc_skip ?_
          refine wq_block (wq_seq ?_)
          refine wc_region (l := [0, 1]) rfl ?_
          refine wo_seg Θ_ok [0, 1] [(0, v0), (2, v2), (7, v8), (8, (.bool y18)), (45, (.slice A390 x1.length c391)), (46, (.int .i64 (x1.length : Int))), (47, (.int .i64 (IntKind.i64.wrap ((i393 : Int) + (1 : Int)))))] rfl ⟨rfl, rfl, rfl, rfl, rfl, rfl, rfl, trivial⟩ ?_
          refine wo_nil ?_
          exact wq_next rest394.length [(0, v0), (2, v2), (7, v8), (8, (.bool y18)), (45, (.slice A390 x1.length c391)), (46, (.int .i64 (x1.length : Int))), (47, (.int .i64 ((i393 + 1 : Nat) : Int)))] (Nat.lt_succ_self _) ⟨rfl, rfl, rfl, rfl, rfl, rfl, congrArg (fun z => some (Value.int .i64 z)) (wrap_succ hl403 (Nat.le_trans hlc391 hmc391)), trivial⟩ ⟨rest394, i393 + 1, O431, rfl, hd396, rfl, T392, hO, hS, hF, h⟩
        refine wo_know 130 true rfl hc547 ?_
        refine wo_seg Θ_ok [17, 18, 19] [(0, v0), (2, v2), (7, v8), (8, (.bool y18)), (17, (.int .i64 y527.2)), (45, (.slice A390 x1.length c391)), (46, (.int .i64 (x1.length : Int))), (47, (.int .i64 (i393 : Int))), (127, (.bool false)), (130, (.bool true)), (133, (.bool (y527.1 != (0 : Int))))] rfl ⟨rfl, rfl, rfl, rfl, rfl, rfl, rfl, rfl, rfl, rfl, rfl, trivial⟩ ?_
        rcases bif_some h with ⟨hc548, h⟩ | ⟨hc548, h⟩
        · refine wo_know 133 true rfl hc548 ?_
          refine wo_seg Θ_ok [20, 21, 22, 23, 24] [(0, v0), (2, v2), (7, v8), (8, (.bool y18)), (45, (.slice A390 x1.length c391)), (46, (.int .i64 (x1.length : Int))), (47, (.int .i64 (i393 : Int))), (138, (.bool true))] rfl ⟨rfl, rfl, rfl, rfl, rfl, rfl, rfl, rfl, trivial⟩ ?_
          refine wo_nil ?_
          refine wq_seq ?_
          refine wc_true rfl ?_
          refine wc_seq ?_
          refine wc_region (l := [0]) rfl ?_
          refine wo_seg Θ_ok [0] [(6, (.bool false))] rfl ⟨rfl, trivial⟩ ?_
          refine wo_nil ?_
          refine wq_seq ?_
          refine wc_ret ?_
          cases h
          exact wq_block_ret (wq_then_ret (wq_then_ret (wq_block_ret (wq_then_ret (wq_ret rfl ⟨_, rfl, (bool_is.2 rfl), hF⟩)))))
        refine wo_know 133 false rfl hc548 ?_
        refine wo_seg Θ_ok [20, 21, 22, 23, 24] [(0, v0), (2, v2), (7, v8), (8, (.bool y18)), (45, (.slice A390 x1.length c391)), (46, (.int .i64 (x1.length : Int))), (47, (.int .i64 (i393 : Int))), (138, (.bool (y527.2 != (2 : Int))))] rfl ⟨rfl, rfl, rfl, rfl, rfl, rfl, rfl, rfl, trivial⟩ ?_
        refine wo_nil ?_
        refine wq_seq ?_
        rcases bif_some h with ⟨hc549, h⟩ | ⟨hc549, h⟩
        rotate_left
        · refine wc_known_false rfl hc549 ?_
          refine wc_skip ?_
          refine wq_block (wq_seq ?_)
          refine wc_region (l := [0, 1]) rfl ?_
          refine wo_seg Θ_ok [0, 1] [(0, v0), (2, v2), (7, v8), (8, (.bool y18)), (45, (.slice A390 x1.length c391)), (46, (.int .i64 (x1.length : Int))), (47, (.int .i64 (IntKind.i64.wrap ((i393 : Int) + (1 : Int)))))] rfl ⟨rfl, rfl, rfl, rfl, rfl, rfl, rfl, trivial⟩ ?_
          refine wo_nil ?_
          exact wq_next rest394.length [(0, v0), (2, v2), (7, v8), (8, (.bool y18)), (45, (.slice A390 x1.length c391)), (46, (.int .i64 (x1.length : Int))), (47, (.int .i64 ((i393 + 1 : Nat) : Int)))] (Nat.lt_succ_self _) ⟨rfl, rfl, rfl, rfl, rfl, rfl, congrArg (fun z => some (Value.int .i64 z)) (wrap_succ hl403 (Nat.le_trans hlc391 hmc391)), trivial⟩ ⟨rest394, i393 + 1, O431, rfl, hd396, rfl, T392, hO, hS, hF, h⟩
        refine wc_known_true rfl hc549 ?_
        refine wc_seq ?_
        refine wc_region (l := [0]) rfl ?_
        refine wo_seg Θ_ok [0] [(6, (.bool false))] rfl ⟨rfl, trivial⟩ ?_
        refine wo_nil ?_
        refine wq_seq ?_
        refine wc_ret ?_
        cases h
        exact wq_block_ret (wq_then_ret (wq_then_ret (wq_block_ret (wq_then_ret (wq_ret rfl ⟨_, rfl, (bool_is.2 rfl), hF⟩)))))
      refine wo_know 120 true rfl hc538 ?_
      refine wo_seg Θ_ok [7] [(0, v0), (2, v2), (7, v8), (8, (.bool y18)), (11, (.pointer (some ⟨b408, 0, none⟩))), (16, (.int .u64 y527.1)), (17, (.int .i64 y527.2)), (18, (.bool ((r_Is z395)))), (45, (.slice A390 x1.length c391)), (46, (.int .i64 (x1.length : Int))), (47, (.int .i64 (i393 : Int))), (118, (.bool false)), (120, (.bool true)), (121, (.int .u64 y527.1))] rfl ⟨rfl, rfl, rfl, rfl, rfl, rfl, rfl, rfl, rfl, rfl, rfl, rfl, rfl, rfl, trivial⟩ ?_
      refine wo_load Θ_ok rfl rfl rfl rfl rfl rfl rfl hb408 [(.int .u64 z395.fPid), (.int .i64 z395.fFd), (.int .u64 z395.fWhat)] rfl rfl (.inl rfl) (.agg #[(.int .u64 z395.fPid), (.int .i64 z395.fFd), (.int .u64 z395.fWhat)]) rfl ?_
      refine wo_gives rfl rfl rfl rfl rfl ent21 rfl (r_Key_c hO ((tGDesc_is (x := z395)).2 rfl)) (fun v539 w540 h541 f542 => ?_)
      have h0 := h0.tr f542.tr0
      have h2 := h2.tr f542.tr0
      have h10 := h10.tr f542.tr0
      have h1 := h1.tr f542.tr0
      have hg0 := hg0.tr f542.tr0
      have T311 := T311.trans f542.tr0
      have T392 := T392.trans f542.tr0
      have hO := f542.ob hO
      have hF := hF.trans f542
      obtain rfl := int_is.1 h541
      refine wo_seg Θ_ok [10, 11, 12, 13] [(0, v0), (2, v2), (7, v8), (8, (.bool y18)), (16, (.int .u64 y527.1)), (17, (.int .i64 y527.2)), (18, (.bool ((r_Is z395)))), (45, (.slice A390 x1.length c391)), (46, (.int .i64 (x1.length : Int))), (47, (.int .i64 (i393 : Int))), (127, (.bool (y527.1 != (r_Key z395))))] rfl ⟨rfl, rfl, rfl, rfl, rfl, rfl, rfl, rfl, rfl, rfl, rfl, trivial⟩ ?_
      rcases bif_some h with ⟨hc543, h⟩ | ⟨hc543, h⟩
      · refine wo_know 127 true rfl hc543 ?_
        refine wo_seg Θ_ok [14, 15, 16, 17, 18, 19, 20, 21, 22, 23, 24] [(0, v0), (2, v2), (7, v8), (8, (.bool y18)), (45, (.slice A390 x1.length c391)), (46, (.int .i64 (x1.length : Int))), (47, (.int .i64 (i393 : Int))), (138, (.bool true))] rfl ⟨rfl, rfl, rfl, rfl, rfl, rfl, rfl, rfl, trivial⟩ ?_
        refine wo_nil ?_
        refine wq_seq ?_
        refine wc_true rfl ?_
        refine wc_seq ?_
        refine wc_region (l := [0]) rfl ?_
        refine wo_seg Θ_ok [0] [(6, (.bool false))] rfl ⟨rfl, trivial⟩ ?_
        refine wo_nil ?_
        refine wq_seq ?_
        refine wc_ret ?_
        cases h
        exact wq_block_ret (wq_then_ret (wq_then_ret (wq_block_ret (wq_then_ret (wq_ret rfl ⟨_, rfl, (bool_is.2 rfl), hF⟩)))))
      refine wo_know 127 false rfl hc543 ?_
      refine wo_seg Θ_ok [14, 15, 16] [(0, v0), (2, v2), (7, v8), (8, (.bool y18)), (16, (.int .u64 y527.1)), (17, (.int .i64 y527.2)), (45, (.slice A390 x1.length c391)), (46, (.int .i64 (x1.length : Int))), (47, (.int .i64 (i393 : Int))), (127, (.bool false)), (130, (.bool (!(r_Is z395))))] rfl ⟨rfl, rfl, rfl, rfl, rfl, rfl, rfl, rfl, rfl, rfl, rfl, trivial⟩ ?_
      rcases bif_some h with ⟨hc544, h⟩ | ⟨hc544, h⟩
      rotate_left
      · refine wo_know 130 false rfl hc544 ?_
        refine wo_seg Θ_ok [17, 18, 19, 20, 21, 22, 23, 24] [(0, v0), (2, v2), (7, v8), (8, (.bool y18)), (45, (.slice A390 x1.length c391)), (46, (.int .i64 (x1.length : Int))), (47, (.int .i64 (i393 : Int))), (138, (.bool false))] rfl ⟨rfl, rfl, rfl, rfl, rfl, rfl, rfl, rfl, trivial⟩ ?_
        refine wo_nil ?_
        refine wq_seq ?_
        refine wc_false rfl ?_
        refine wc_skip ?_
        refine wq_block (wq_seq ?_)
        refine wc_region (l := [0, 1]) rfl ?_
        refine wo_seg Θ_ok [0, 1] [(0, v0), (2, v2), (7, v8), (8, (.bool y18)), (45, (.slice A390 x1.length c391)), (46, (.int .i64 (x1.length : Int))), (47, (.int .i64 (IntKind.i64.wrap ((i393 : Int) + (1 : Int)))))] rfl ⟨rfl, rfl, rfl, rfl, rfl, rfl, rfl, trivial⟩ ?_
        refine wo_nil ?_
        exact wq_next rest394.length [(0, v0), (2, v2), (7, v8), (8, (.bool y18)), (45, (.slice A390 x1.length c391)), (46, (.int .i64 (x1.length : Int))), (47, (.int .i64 ((i393 + 1 : Nat) : Int)))] (Nat.lt_succ_self _) ⟨rfl, rfl, rfl, rfl, rfl, rfl, congrArg (fun z => some (Value.int .i64 z)) (wrap_succ hl403 (Nat.le_trans hlc391 hmc391)), trivial⟩ ⟨rest394, i393 + 1, O431, rfl, hd396, rfl, T392, hO, hS, hF, h⟩
      refine wo_know 130 true rfl hc544 ?_
      refine wo_seg Θ_ok [17, 18, 19] [(0, v0), (2, v2), (7, v8), (8, (.bool y18)), (17, (.int .i64 y527.2)), (45, (.slice A390 x1.length c391)), (46, (.int .i64 (x1.length : Int))), (47, (.int .i64 (i393 : Int))), (127, (.bool false)), (130, (.bool true)), (133, (.bool (y527.1 != (0 : Int))))] rfl ⟨rfl, rfl, rfl, rfl, rfl, rfl, rfl, rfl, rfl, rfl, rfl, trivial⟩ ?_
      rcases bif_some h with ⟨hc545, h⟩ | ⟨hc545, h⟩
      · refine wo_know 133 true rfl hc545 ?_
        refine wo_seg Θ_ok [20, 21, 22, 23, 24] [(0, v0), (2, v2), (7, v8), (8, (.bool y18)), (45, (.slice A390 x1.length c391)), (46, (.int .i64 (x1.length : Int))), (47, (.int .i64 (i393 : Int))), (138, (.bool true))] rfl ⟨rfl, rfl, rfl, rfl, rfl, rfl, rfl, rfl, trivial⟩ ?_
        refine wo_nil ?_
        refine wq_seq ?_
        refine wc_true rfl ?_
        refine wc_seq ?_
        refine wc_region (l := [0]) rfl ?_
        refine wo_seg Θ_ok [0] [(6, (.bool false))] rfl ⟨rfl, trivial⟩ ?_
        refine wo_nil ?_
        refine wq_seq ?_
        refine wc_ret ?_
        cases h
        exact wq_block_ret (wq_then_ret (wq_then_ret (wq_block_ret (wq_then_ret (wq_ret rfl ⟨_, rfl, (bool_is.2 rfl), hF⟩)))))
      refine wo_know 133 false rfl hc545 ?_
      refine wo_seg Θ_ok [20, 21, 22, 23, 24] [(0, v0), (2, v2), (7, v8), (8, (.bool y18)), (45, (.slice A390 x1.length c391)), (46, (.int .i64 (x1.length : Int))), (47, (.int .i64 (i393 : Int))), (138, (.bool (y527.2 != (2 : Int))))] rfl ⟨rfl, rfl, rfl, rfl, rfl, rfl, rfl, rfl, trivial⟩ ?_
      refine wo_nil ?_
      refine wq_seq ?_
      rcases bif_some h with ⟨hc546, h⟩ | ⟨hc546, h⟩
      rotate_left
      · refine wc_known_false rfl hc546 ?_
        refine wc_skip ?_
        refine wq_block (wq_seq ?_)
        refine wc_region (l := [0, 1]) rfl ?_
        refine wo_seg Θ_ok [0, 1] [(0, v0), (2, v2), (7, v8), (8, (.bool y18)), (45, (.slice A390 x1.length c391)), (46, (.int .i64 (x1.length : Int))), (47, (.int .i64 (IntKind.i64.wrap ((i393 : Int) + (1 : Int)))))] rfl ⟨rfl, rfl, rfl, rfl, rfl, rfl, rfl, trivial⟩ ?_
        refine wo_nil ?_
        exact wq_next rest394.length [(0, v0), (2, v2), (7, v8), (8, (.bool y18)), (45, (.slice A390 x1.length c391)), (46, (.int .i64 (x1.length : Int))), (47, (.int .i64 ((i393 + 1 : Nat) : Int)))] (Nat.lt_succ_self _) ⟨rfl, rfl, rfl, rfl, rfl, rfl, congrArg (fun z => some (Value.int .i64 z)) (wrap_succ hl403 (Nat.le_trans hlc391 hmc391)), trivial⟩ ⟨rest394, i393 + 1, O431, rfl, hd396, rfl, T392, hO, hS, hF, h⟩
      refine wc_known_true rfl hc546 ?_
      refine wc_seq ?_
      refine wc_region (l := [0]) rfl ?_
      refine wo_seg Θ_ok [0] [(6, (.bool false))] rfl ⟨rfl, trivial⟩ ?_
      refine wo_nil ?_
      refine wq_seq ?_
      refine wc_ret ?_
      cases h
      exact wq_block_ret (wq_then_ret (wq_then_ret (wq_block_ret (wq_then_ret (wq_ret rfl ⟨_, rfl, (bool_is.2 rfl), hF⟩)))))
    refine wo_know 81 true rfl hc434 ?_
    refine wo_seg Θ_ok [8, 9, 10] [(0, v0), (2, v2), (7, v8), (8, (.bool y18)), (11, (.pointer (some ⟨b408, 0, none⟩))), (12, (.int .u64 y418.1)), (14, (.int .i64 p429)), (15, (.int .i64 p430)), (45, (.slice A390 x1.length c391)), (46, (.int .i64 (x1.length : Int))), (47, (.int .i64 (i393 : Int))), (78, (.bool false)), (81, (.bool true)), (82, (.int .u64 y418.1)), (83, v8), (84, (.int .i64 p429))] rfl ⟨rfl, rfl, rfl, rfl, rfl, rfl, rfl, rfl, rfl, rfl, rfl, rfl, rfl, rfl, rfl, rfl, trivial⟩ ?_
    obtain ⟨y437, hz438, h⟩ := bind_some h
    refine wo_index Θ_ok rfl rfl rfl rfl rfl rfl rfl rfl rfl rfl h10 rfl (idx_some hz438).1 (idx_some hz438).2 (fun p435 h436 => ?_)
    obtain ⟨ad439, rfl⟩ := ptr_form h436
    have h440 := ptr_sub (S := (Ty.int .u64)) (off := 2) (y := y437.fWhat) h436 (fun cs hr => by obtain rfl := tGDesc_rep hr; exact rfl)
    refine wo_seg Θ_ok [12] [(0, v0), (2, v2), (7, v8), (8, (.bool y18)), (11, (.pointer (some ⟨b408, 0, none⟩))), (12, (.int .u64 y418.1)), (14, (.int .i64 p429)), (15, (.int .i64 p430)), (45, (.slice A390 x1.length c391)), (46, (.int .i64 (x1.length : Int))), (47, (.int .i64 (i393 : Int))), (78, (.bool false)), (81, (.bool true)), (82, (.int .u64 y418.1)), (86, (.pointer (some (ad439.add 2))))] rfl ⟨rfl, rfl, rfl, rfl, rfl, rfl, rfl, rfl, rfl, rfl, rfl, rfl, rfl, rfl, rfl, trivial⟩ ?_
    refine wo_loadp Θ_ok rfl rfl rfl rfl rfl rfl rfl h440 rfl rfl (fun v441 h442 => ?_)
    obtain rfl := int_is.1 h442
    refine wo_seg Θ_ok [14, 15, 16, 17] [(0, v0), (2, v2), (7, v8), (8, (.bool y18)), (11, (.pointer (some ⟨b408, 0, none⟩))), (12, (.int .u64 y418.1)), (14, (.int .i64 p429)), (15, (.int .i64 p430)), (45, (.slice A390 x1.length c391)), (46, (.int .i64 (x1.length : Int))), (47, (.int .i64 (i393 : Int))), (91, (.bool (y418.1 != y437.fWhat)))] rfl ⟨rfl, rfl, rfl, rfl, rfl, rfl, rfl, rfl, rfl, rfl, rfl, rfl, trivial⟩ ?_
    rcases bif_some h with ⟨hc443, h⟩ | ⟨hc443, h⟩
    · refine wo_know 91 true rfl hc443 ?_
      refine wo_seg Θ_ok [18, 19, 20, 21, 22, 23, 24, 25, 26, 27, 28, 29, 30, 31, 32] [(0, v0), (2, v2), (7, v8), (8, (.bool y18)), (11, (.pointer (some ⟨b408, 0, none⟩))), (45, (.slice A390 x1.length c391)), (46, (.int .i64 (x1.length : Int))), (47, (.int .i64 (i393 : Int))), (106, (.bool true))] rfl ⟨rfl, rfl, rfl, rfl, rfl, rfl, rfl, rfl, rfl, trivial⟩ ?_
      refine wo_nil ?_
      refine wq_seq ?_
      refine wc_true rfl ?_
      refine wc_seq ?_
      refine wc_region (l := [0]) rfl ?_
      refine wo_seg Θ_ok [0] [(6, (.bool false))] rfl ⟨rfl, trivial⟩ ?_
      refine wo_nil ?_
      refine wq_seq ?_
      refine wc_ret ?_
      cases h
      exact wq_then_ret (wq_block_ret (wq_then_ret (wq_then_ret (wq_block_ret (wq_then_ret (wq_ret rfl ⟨_, rfl, (bool_is.2 rfl), hF⟩))))))
    refine wo_know 91 false rfl hc443 ?_
    refine wo_seg Θ_ok [18, 19, 20] [(0, v0), (2, v2), (7, v8), (8, (.bool y18)), (11, (.pointer (some ⟨b408, 0, none⟩))), (12, (.int .u64 y418.1)), (15, (.int .i64 p430)), (45, (.slice A390 x1.length c391)), (46, (.int .i64 (x1.length : Int))), (47, (.int .i64 (i393 : Int))), (91, (.bool false)), (94, (.bool (decide (p429 < (0 : Int)))))] rfl ⟨rfl, rfl, rfl, rfl, rfl, rfl, rfl, rfl, rfl, rfl, rfl, rfl, trivial⟩ ?_
    rcases bif_some h with ⟨hc444, h⟩ | ⟨hc444, h⟩
    rotate_left
    · refine wo_know 94 false rfl hc444 ?_
      refine wo_seg Θ_ok [21, 22, 23, 24, 25, 26, 27] [(0, v0), (2, v2), (7, v8), (8, (.bool y18)), (11, (.pointer (some ⟨b408, 0, none⟩))), (15, (.int .i64 p430)), (45, (.slice A390 x1.length c391)), (46, (.int .i64 (x1.length : Int))), (47, (.int .i64 (i393 : Int))), (99, (.bool false)), (100, v8), (101, (.pointer (some ⟨b408, 2, none⟩)))] rfl ⟨rfl, rfl, rfl, rfl, rfl, rfl, rfl, rfl, rfl, rfl, rfl, rfl, trivial⟩ ?_
      refine wo_load Θ_ok rfl rfl rfl rfl rfl rfl rfl hb408 [(.int .u64 z395.fWhat)] rfl rfl (.inr rfl) (.int .u64 z395.fWhat) rfl ?_
      obtain ⟨y484, hy485, h⟩ := bind_some h
      refine wo_gives rfl rfl rfl rfl rfl ent18 rfl (d_Count_c hO h10 (int_is.2 rfl) hy485) (fun v480 w481 h482 f483 => ?_)
      have h0 := h0.tr f483.tr0
      have h2 := h2.tr f483.tr0
      have h10 := h10.tr f483.tr0
      have h1 := h1.tr f483.tr0
      have hg0 := hg0.tr f483.tr0
      have hb408 := hb408.fr0 f483
      have T311 := T311.trans f483.tr0
      have T392 := T392.trans f483.tr0
      have hO := f483.ob hO
      have hF := hF.trans f483
      obtain rfl := int_is.1 h482
      refine wo_seg Θ_ok [30, 31, 32] [(0, v0), (2, v2), (7, v8), (8, (.bool y18)), (11, (.pointer (some ⟨b408, 0, none⟩))), (45, (.slice A390 x1.length c391)), (46, (.int .i64 (x1.length : Int))), (47, (.int .i64 (i393 : Int))), (106, (.bool (y484 != p430)))] rfl ⟨rfl, rfl, rfl, rfl, rfl, rfl, rfl, rfl, rfl, trivial⟩ ?_
      refine wo_nil ?_
      refine wq_seq ?_
      rcases bif_some h with ⟨hc486, h⟩ | ⟨hc486, h⟩
      · refine wc_known_true rfl hc486 ?_
        refine wc_seq ?_
        refine wc_region (l := [0]) rfl ?_
        refine wo_seg Θ_ok [0] [(6, (.bool false))] rfl ⟨rfl, trivial⟩ ?_
        refine wo_nil ?_
        refine wq_seq ?_
        refine wc_ret ?_
        cases h
        exact wq_then_ret (wq_block_ret (wq_then_ret (wq_then_ret (wq_block_ret (wq_then_ret (wq_ret rfl ⟨_, rfl, (bool_is.2 rfl), hF⟩))))))
      refine wc_known_false rfl hc486 ?_
      refine wc_skip ?_
      refine wq_seq ?_
      refine wc_seq ?_
      refine wc_region (l := [0, 1, 2, 3, 4, 5, 6]) rfl ?_
      refine wo_load Θ_ok rfl rfl rfl rfl rfl rfl rfl hb408 [(.int .u64 z395.fPid), (.int .i64 z395.fFd), (.int .u64 z395.fWhat)] rfl rfl (.inl rfl) (.agg #[(.int .u64 z395.fPid), (.int .i64 z395.fFd), (.int .u64 z395.fWhat)]) rfl ?_
      obtain ⟨y491, hy492, h⟩ := bind_some h
      refine wo_gives rfl rfl rfl rfl rfl ent19 rfl (d_Key_c hO hg0 ((tGDesc_is (x := z395)).2 rfl) hy492) (fun v487 w488 h489 f490 => ?_)
      have h0 := h0.tr f490.tr0
      have h2 := h2.tr f490.tr0
      have h10 := h10.tr f490.tr0
      have h1 := h1.tr f490.tr0
      have hg0 := hg0.tr f490.tr0
      have hb408 := hb408.fr0 f490
      have T311 := T311.trans f490.tr0
      have T392 := T392.trans f490.tr0
      have hO := f490.ob hO
      have hF := hF.trans f490
      obtain ⟨u493, u495, rfl, h494, h496⟩ := h489
      obtain rfl := int_is.1 h494
      obtain rfl := int_is.1 h496
      refine wo_seg Θ_ok [2, 3, 4, 5, 6] [(0, v0), (2, v2), (7, v8), (8, (.bool y18)), (11, (.pointer (some ⟨b408, 0, none⟩))), (16, (.int .u64 y491.1)), (17, (.int .i64 y491.2)), (45, (.slice A390 x1.length c391)), (46, (.int .i64 (x1.length : Int))), (47, (.int .i64 (i393 : Int)))] rfl ⟨rfl, rfl, rfl, rfl, rfl, rfl, rfl, rfl, rfl, rfl, trivial⟩ ?_
      refine wo_nil ?_
      refine wq_seq ?_
      refine wc_seq ?_
      refine wc_region (l := [0, 1, 2]) rfl ?_
      refine wo_load Θ_ok rfl rfl rfl rfl rfl rfl rfl hb408 [(.int .u64 z395.fPid), (.int .i64 z395.fFd), (.int .u64 z395.fWhat)] rfl rfl (.inl rfl) (.agg #[(.int .u64 z395.fPid), (.int .i64 z395.fFd), (.int .u64 z395.fWhat)]) rfl ?_
      refine wo_gives rfl rfl rfl rfl rfl ent20 rfl (r_Is_c hO ((tGDesc_is (x := z395)).2 rfl)) (fun v497 w498 h499 f500 => ?_)
      have h0 := h0.tr f500.tr0
      have h2 := h2.tr f500.tr0
      have h10 := h10.tr f500.tr0
      have h1 := h1.tr f500.tr0
      have hg0 := hg0.tr f500.tr0
      have hb408 := hb408.fr0 f500
      have T311 := T311.trans f500.tr0
      have T392 := T392.trans f500.tr0
      have hO := f500.ob hO
      have hF := hF.trans f500
      obtain rfl := bool_is.1 h499
      refine wo_seg Θ_ok [2] [(0, v0), (2, v2), (7, v8), (8, (.bool y18)), (11, (.pointer (some ⟨b408, 0, none⟩))), (16, (.int .u64 y491.1)), (17, (.int .i64 y491.2)), (18, (.bool ((r_Is z395)))), (45, (.slice A390 x1.length c391)), (46, (.int .i64 (x1.length : Int))), (47, (.int .i64 (i393 : Int)))] rfl ⟨rfl, rfl, rfl, rfl, rfl, rfl, rfl, rfl, rfl, rfl, rfl, trivial⟩ ?_
      refine wo_nil ?_
      refine wq_seq ?_
      refine wc_seq ?_
      refine wc_region (l := [0, 1, 2, 3, 4, 5, 6, 7, 8, 9, 10, 11, 12, 13, 14, 15, 16, 17, 18, 19, 20, 21, 22, 23, 24]) rfl ?_
      refine wo_seg Θ_ok [0, 1, 2, 3, 4] [(0, v0), (2, v2), (7, v8), (8, (.bool y18)), (11, (.pointer (some ⟨b408, 0, none⟩))), (16, (.int .u64 y491.1)), (17, (.int .i64 y491.2)), (18, (.bool ((r_Is z395)))), (45, (.slice A390 x1.length c391)), (46, (.int .i64 (x1.length : Int))), (47, (.int .i64 (i393 : Int))), (118, (.bool (!((y491.2 == (0 : Int)) == (r_Is z395)))))] rfl ⟨rfl, rfl, rfl, rfl, rfl, rfl, rfl, rfl, rfl, rfl, rfl, rfl, trivial⟩ ?_
      rcases bif_some h with ⟨hc501, h⟩ | ⟨hc501, h⟩
      · refine wo_know 118 true rfl hc501 ?_
        refine wo_seg Θ_ok [5, 6, 7, 8, 9, 10, 11, 12, 13, 14, 15, 16, 17, 18, 19, 20, 21, 22, 23, 24] [(0, v0), (2, v2), (7, v8), (8, (.bool y18)), (45, (.slice A390 x1.length c391)), (46, (.int .i64 (x1.length : Int))), (47, (.int .i64 (i393 : Int))), (138, (.bool true))] rfl ⟨rfl, rfl, rfl, rfl, rfl, rfl, rfl, rfl, trivial⟩ ?_
        refine wo_nil ?_
        refine wq_seq ?_
        refine wc_true rfl ?_
        refine wc_seq ?_
        refine wc_region (l := [0]) rfl ?_
        refine wo_seg Θ_ok [0] [(6, (.bool false))] rfl ⟨rfl, trivial⟩ ?_
        refine wo_nil ?_
        refine wq_seq ?_
        refine wc_ret ?_
        cases h
        exact wq_block_ret (wq_then_ret (wq_then_ret (wq_block_ret (wq_then_ret (wq_ret rfl ⟨_, rfl, (bool_is.2 rfl), hF⟩)))))
      refine wo_know 118 false rfl hc501 ?_
      refine wo_seg Θ_ok [5, 6] [(0, v0), (2, v2), (7, v8), (8, (.bool y18)), (11, (.pointer (some ⟨b408, 0, none⟩))), (16, (.int .u64 y491.1)), (17, (.int .i64 y491.2)), (18, (.bool ((r_Is z395)))), (45, (.slice A390 x1.length c391)), (46, (.int .i64 (x1.length : Int))), (47, (.int .i64 (i393 : Int))), (118, (.bool false)), (120, (.bool ((r_Is z395))))] rfl ⟨rfl, rfl, rfl, rfl, rfl, rfl, rfl, rfl, rfl, rfl, rfl, rfl, rfl, trivial⟩ ?_
      rcases bif_some h with ⟨hc502, h⟩ | ⟨hc502, h⟩
      rotate_left
      · refine wo_know 120 false rfl hc502 ?_
        refine wo_seg Θ_ok [7, 8, 9, 10, 11, 12, 13, 14, 15, 16] [(0, v0), (2, v2), (7, v8), (8, (.bool y18)), (16, (.int .u64 y491.1)), (17, (.int .i64 y491.2)), (45, (.slice A390 x1.length c391)), (46, (.int .i64 (x1.length : Int))), (47, (.int .i64 (i393 : Int))), (127, (.bool false)), (130, (.bool (!(r_Is z395))))] rfl ⟨rfl, rfl, rfl, rfl, rfl, rfl, rfl, rfl, rfl, rfl, rfl, trivial⟩ ?_
        rcases bif_some h with ⟨hc511, h⟩ | ⟨hc511, h⟩
        rotate_left
        · refine wo_know 130 false rfl hc511 ?_
          refine wo_seg Θ_ok [17, 18, 19, 20, 21, 22, 23, 24] [(0, v0), (2, v2), (7, v8), (8, (.bool y18)), (45, (.slice A390 x1.length c391)), (46, (.int .i64 (x1.length : Int))), (47, (.int .i64 (i393 : Int))), (138, (.bool false))] rfl ⟨rfl, rfl, rfl, rfl, rfl, rfl, rfl, rfl, trivial⟩ ?_
          refine wo_nil ?_
          refine wq_seq ?_
          refine wc_false rfl ?_
          refine wc_skip ?_
          refine wq_block (wq_seq ?_)
          refine wc_region (l := [0, 1]) rfl ?_
          refine wo_seg Θ_ok [0, 1] [(0, v0), (2, v2), (7, v8), (8, (.bool y18)), (45, (.slice A390 x1.length c391)), (46, (.int .i64 (x1.length : Int))), (47, (.int .i64 (IntKind.i64.wrap ((i393 : Int) + (1 : Int)))))] rfl ⟨rfl, rfl, rfl, rfl, rfl, rfl, rfl, trivial⟩ ?_
          refine wo_nil ?_
          exact wq_next rest394.length [(0, v0), (2, v2), (7, v8), (8, (.bool y18)), (45, (.slice A390 x1.length c391)), (46, (.int .i64 (x1.length : Int))), (47, (.int .i64 ((i393 + 1 : Nat) : Int)))] (Nat.lt_succ_self _) ⟨rfl, rfl, rfl, rfl, rfl, rfl, congrArg (fun z => some (Value.int .i64 z)) (wrap_succ hl403 (Nat.le_trans hlc391 hmc391)), trivial⟩ ⟨rest394, i393 + 1, O431, rfl, hd396, rfl, T392, hO, hS, hF, h⟩
        refine wo_know 130 true rfl hc511 ?_
        refine wo_seg Θ_ok [17, 18, 19] [(0, v0), (2, v2), (7, v8), (8, (.bool y18)), (17, (.int .i64 y491.2)), (45, (.slice A390 x1.length c391)), (46, (.int .i64 (x1.length : Int))), (47, (.int .i64 (i393 : Int))), (127, (.bool false)), (130, (.bool true)), (133, (.bool (y491.1 != (0 : Int))))] rfl ⟨rfl, rfl, rfl, rfl, rfl, rfl, rfl, rfl, rfl, rfl, rfl, trivial⟩ ?_
        rcases bif_some h with ⟨hc512, h⟩ | ⟨hc512, h⟩
        · refine wo_know 133 true rfl hc512 ?_
          refine wo_seg Θ_ok [20, 21, 22, 23, 24] [(0, v0), (2, v2), (7, v8), (8, (.bool y18)), (45, (.slice A390 x1.length c391)), (46, (.int .i64 (x1.length : Int))), (47, (.int .i64 (i393 : Int))), (138, (.bool true))] rfl ⟨rfl, rfl, rfl, rfl, rfl, rfl, rfl, rfl, trivial⟩ ?_
          refine wo_nil ?_
          refine wq_seq ?_
          refine wc_true rfl ?_
          refine wc_seq ?_
          refine wc_region (l := [0]) rfl ?_
          refine wo_seg Θ_ok [0] [(6, (.bool false))] rfl ⟨rfl, trivial⟩ ?_
          refine wo_nil ?_
          refine wq_seq ?_
          refine wc_ret ?_
          cases h
          exact wq_block_ret (wq_then_ret (wq_then_ret (wq_block_ret (wq_then_ret (wq_ret rfl ⟨_, rfl, (bool_is.2 rfl), hF⟩)))))
        refine wo_know 133 false rfl hc512 ?_
        refine wo_seg Θ_ok [20, 21, 22, 23, 24] [(0, v0), (2, v2), (7, v8), (8, (.bool y18)), (45, (.slice A390 x1.length c391)), (46, (.int .i64 (x1.length : Int))), (47, (.int .i64 (i393 : Int))), (138, (.bool (y491.2 != (2 : Int))))] rfl ⟨rfl, rfl, rfl, rfl, rfl, rfl, rfl, rfl, trivial⟩ ?_
        refine wo_nil ?_
        refine wq_seq ?_
        rcases bif_some h with ⟨hc513, h⟩ | ⟨hc513, h⟩
        rotate_left
        · refine wc_known_false rfl hc513 ?_
          refine wc_skip ?_
          refine wq_block (wq_seq ?_)
          refine wc_region (l := [0, 1]) rfl ?_
          refine wo_seg Θ_ok [0, 1] [(0, v0), (2, v2), (7, v8), (8, (.bool y18)), (45, (.slice A390 x1.length c391)), (46, (.int .i64 (x1.length : Int))), (47, (.int .i64 (IntKind.i64.wrap ((i393 : Int) + (1 : Int)))))] rfl ⟨rfl, rfl, rfl, rfl, rfl, rfl, rfl, trivial⟩ ?_
          refine wo_nil ?_
          exact wq_next rest394.length [(0, v0), (2, v2), (7, v8), (8, (.bool y18)), (45, (.slice A390 x1.length c391)), (46, (.int .i64 (x1.length : Int))), (47, (.int .i64 ((i393 + 1 : Nat) : Int)))] (Nat.lt_succ_self _) ⟨rfl, rfl, rfl, rfl, rfl, rfl, congrArg (fun z => some (Value.int .i64 z)) (wrap_succ hl403 (Nat.le_trans hlc391 hmc391)), trivial⟩ ⟨rest394, i393 + 1, O431, rfl, hd396, rfl, T392, hO, hS, hF, h⟩
        refine wc_known_true rfl hc513 ?_
        refine wc_seq ?_
        refine wc_region (l := [0]) rfl ?_
        refine wo_seg Θ_ok [0] [(6, (.bool false))] rfl ⟨rfl, trivial⟩ ?_
        refine wo_nil ?_
        refine wq_seq ?_
        refine wc_ret ?_
        cases h
        exact wq_block_ret (wq_then_ret (wq_then_ret (wq_block_ret (wq_then_ret (wq_ret rfl ⟨_, rfl, (bool_is.2 rfl), hF⟩)))))
      refine wo_know 120 true rfl hc502 ?_
      refine wo_seg Θ_ok [7] [(0, v0), (2, v2), (7, v8), (8, (.bool y18)), (11, (.pointer (some ⟨b408, 0, none⟩))), (16, (.int .u64 y491.1)), (17, (.int .i64 y491.2)), (18, (.bool ((r_Is z395)))), (45, (.slice A390 x1.length c391)), (46, (.int .i64 (x1.length : Int))), (47, (.int .i64 (i393 : Int))), (118, (.bool false)), (120, (.bool true)), (121, (.int .u64 y491.1))] rfl ⟨rfl, rfl, rfl, rfl, rfl, rfl, rfl, rfl, rfl, rfl, rfl, rfl, rfl, rfl, trivial⟩ ?_
      refine wo_load Θ_ok rfl rfl rfl rfl rfl rfl rfl hb408 [(.int .u64 z395.fPid), (.int .i64 z395.fFd), (.int .u64 z395.fWhat)] rfl rfl (.inl rfl) (.agg #[(.int .u64 z395.fPid), (.int .i64 z395.fFd), (.int .u64 z395.fWhat)]) rfl ?_
      refine wo_gives rfl rfl rfl rfl rfl ent21 rfl (r_Key_c hO ((tGDesc_is (x := z395)).2 rfl)) (fun v503 w504 h505 f506 => ?_)
      have h0 := h0.tr f506.tr0
      have h2 := h2.tr f506.tr0
      have h10 := h10.tr f506.tr0
      have h1 := h1.tr f506.tr0
      have hg0 := hg0.tr f506.tr0
      have T311 := T311.trans f506.tr0
      have T392 := T392.trans f506.tr0
      have hO := f506.ob hO
      have hF := hF.trans f506
      obtain rfl := int_is.1 h505
      refine wo_seg Θ_ok [10, 11, 12, 13] [(0, v0), (2, v2), (7, v8), (8, (.bool y18)), (16, (.int .u64 y491.1)), (17, (.int .i64 y491.2)), (18, (.bool ((r_Is z395)))), (45, (.slice A390 x1.length c391)), (46, (.int .i64 (x1.length : Int))), (47, (.int .i64 (i393 : Int))), (127, (.bool (y491.1 != (r_Key z395))))] rfl ⟨rfl, rfl, rfl, rfl, rfl, rfl, rfl, rfl, rfl, rfl, rfl, trivial⟩ ?_
      rcases bif_some h with ⟨hc507, h⟩ | ⟨hc507, h⟩
      · refine wo_know 127 true rfl hc507 ?_
        refine wo_seg Θ_ok [14, 15, 16, 17, 18, 19, 20, 21, 22, 23, 24] [(0, v0), (2, v2), (7, v8), (8, (.bool y18)), (45, (.slice A390 x1.length c391)), (46, (.int .i64 (x1.length : Int))), (47, (.int .i64 (i393 : Int))), (138, (.bool true))] rfl ⟨rfl, rfl, rfl, rfl, rfl, rfl, rfl, rfl, trivial⟩ ?_
        refine wo_nil ?_
        refine wq_seq ?_
        refine wc_true rfl ?_
        refine wc_seq ?_
        refine wc_region (l := [0]) rfl ?_
        refine wo_seg Θ_ok [0] [(6, (.bool false))] rfl ⟨rfl, trivial⟩ ?_
        refine wo_nil ?_
        refine wq_seq ?_
        refine wc_ret ?_
        cases h
        exact wq_block_ret (wq_then_ret (wq_then_ret (wq_block_ret (wq_then_ret (wq_ret rfl ⟨_, rfl, (bool_is.2 rfl), hF⟩)))))
      refine wo_know 127 false rfl hc507 ?_
      refine wo_seg Θ_ok [14, 15, 16] [(0, v0), (2, v2), (7, v8), (8, (.bool y18)), (16, (.int .u64 y491.1)), (17, (.int .i64 y491.2)), (45, (.slice A390 x1.length c391)), (46, (.int .i64 (x1.length : Int))), (47, (.int .i64 (i393 : Int))), (127, (.bool false)), (130, (.bool (!(r_Is z395))))] rfl ⟨rfl, rfl, rfl, rfl, rfl, rfl, rfl, rfl, rfl, rfl, rfl, trivial⟩ ?_
      rcases bif_some h with ⟨hc508, h⟩ | ⟨hc508, h⟩
      rotate_left
      · refine wo_know 130 false rfl hc508 ?_
        refine wo_seg Θ_ok [17, 18, 19, 20, 21, 22, 23, 24] [(0, v0), (2, v2), (7, v8), (8, (.bool y18)), (45, (.slice A390 x1.length c391)), (46, (.int .i64 (x1.length : Int))), (47, (.int .i64 (i393 : Int))), (138, (.bool false))] rfl ⟨rfl, rfl, rfl, rfl, rfl, rfl, rfl, rfl, trivial⟩ ?_
        refine wo_nil ?_
        refine wq_seq ?_
        refine wc_false rfl ?_
        refine wc_skip ?_
        refine wq_block (wq_seq ?_)
        refine wc_region (l := [0, 1]) rfl ?_
        refine wo_seg Θ_ok [0, 1] [(0, v0), (2, v2), (7, v8), (8, (.bool y18)), (45, (.slice A390 x1.length c391)), (46, (.int .i64 (x1.length : Int))), (47, (.int .i64 (IntKind.i64.wrap ((i393 : Int) + (1 : Int)))))] rfl ⟨rfl, rfl, rfl, rfl, rfl, rfl, rfl, trivial⟩ ?_
        refine wo_nil ?_
        exact wq_next rest394.length [(0, v0), (2, v2), (7, v8), (8, (.bool y18)), (45, (.slice A390 x1.length c391)), (46, (.int .i64 (x1.length : Int))), (47, (.int .i64 ((i393 + 1 : Nat) : Int)))] (Nat.lt_succ_self _) ⟨rfl, rfl, rfl, rfl, rfl, rfl, congrArg (fun z => some (Value.int .i64 z)) (wrap_succ hl403 (Nat.le_trans hlc391 hmc391)), trivial⟩ ⟨rest394, i393 + 1, O431, rfl, hd396, rfl, T392, hO, hS, hF, h⟩
      refine wo_know 130 true rfl hc508 ?_
      refine wo_seg Θ_ok [17, 18, 19] [(0, v0), (2, v2), (7, v8), (8, (.bool y18)), (17, (.int .i64 y491.2)), (45, (.slice A390 x1.length c391)), (46, (.int .i64 (x1.length : Int))), (47, (.int .i64 (i393 : Int))), (127, (.bool false)), (130, (.bool true)), (133, (.bool (y491.1 != (0 : Int))))] rfl ⟨rfl, rfl, rfl, rfl, rfl, rfl, rfl, rfl, rfl, rfl, rfl, trivial⟩ ?_
      rcases bif_some h with ⟨hc509, h⟩ | ⟨hc509, h⟩
      · refine wo_know 133 true rfl hc509 ?_
        refine wo_seg Θ_ok [20, 21, 22, 23, 24] [(0, v0), (2, v2), (7, v8), (8, (.bool y18)), (45, (.slice A390 x1.length c391)), (46, (.int .i64 (x1.length : Int))), (47, (.int .i64 (i393 : Int))), (138, (.bool true))] rfl ⟨rfl, rfl, rfl, rfl, rfl, rfl, rfl, rfl, trivial⟩ ?_
        refine wo_nil ?_
        refine wq_seq ?_
        refine wc_true rfl ?_
        refine wc_seq ?_
        refine wc_region (l := [0]) rfl ?_
        refine wo_seg Θ_ok [0] [(6, (.bool false))] rfl ⟨rfl, trivial⟩ ?_
        refine wo_nil ?_
        refine wq_seq ?_
        refine wc_ret ?_
        cases h
        exact wq_block_ret (wq_then_ret (wq_then_ret (wq_block_ret (wq_then_ret (wq_ret rfl ⟨_, rfl, (bool_is.2 rfl), hF⟩)))))
      refine wo_know 133 false rfl hc509 ?_
      refine wo_seg Θ_ok [20, 21, 22, 23, 24] [(0, v0), (2, v2), (7, v8), (8, (.bool y18)), (45, (.slice A390 x1.length c391)), (46, (.int .i64 (x1.length : Int))), (47, (.int .i64 (i393 : Int))), (138, (.bool (y491.2 != (2 : Int))))] rfl ⟨rfl, rfl, rfl, rfl, rfl, rfl, rfl, rfl, trivial⟩ ?_
      refine wo_nil ?_
      refine wq_seq ?_
      rcases bif_some h with ⟨hc510, h⟩ | ⟨hc510, h⟩
      rotate_left
      · refine wc_known_false rfl hc510 ?_
        refine wc_skip ?_
        refine wq_block (wq_seq ?_)
        refine wc_region (l := [0, 1]) rfl ?_
        refine wo_seg Θ_ok [0, 1] [(0, v0), (2, v2), (7, v8), (8, (.bool y18)), (45, (.slice A390 x1.length c391)), (46, (.int .i64 (x1.length : Int))), (47, (.int .i64 (IntKind.i64.wrap ((i393 : Int) + (1 : Int)))))] rfl ⟨rfl, rfl, rfl, rfl, rfl, rfl, rfl, trivial⟩ ?_
        refine wo_nil ?_
        exact wq_next rest394.length [(0, v0), (2, v2), (7, v8), (8, (.bool y18)), (45, (.slice A390 x1.length c391)), (46, (.int .i64 (x1.length : Int))), (47, (.int .i64 ((i393 + 1 : Nat) : Int)))] (Nat.lt_succ_self _) ⟨rfl, rfl, rfl, rfl, rfl, rfl, congrArg (fun z => some (Value.int .i64 z)) (wrap_succ hl403 (Nat.le_trans hlc391 hmc391)), trivial⟩ ⟨rest394, i393 + 1, O431, rfl, hd396, rfl, T392, hO, hS, hF, h⟩
      refine wc_known_true rfl hc510 ?_
      refine wc_seq ?_
      refine wc_region (l := [0]) rfl ?_
      refine wo_seg Θ_ok [0] [(6, (.bool false))] rfl ⟨rfl, trivial⟩ ?_
      refine wo_nil ?_
      refine wq_seq ?_
      refine wc_ret ?_
      cases h
      exact wq_block_ret (wq_then_ret (wq_then_ret (wq_block_ret (wq_then_ret (wq_ret rfl ⟨_, rfl, (bool_is.2 rfl), hF⟩)))))
    refine wo_know 94 true rfl hc444 ?_
    refine wo_seg Θ_ok [21, 22, 23, 24, 25] [(0, v0), (2, v2), (7, v8), (8, (.bool y18)), (11, (.pointer (some ⟨b408, 0, none⟩))), (15, (.int .i64 p430)), (45, (.slice A390 x1.length c391)), (46, (.int .i64 (x1.length : Int))), (47, (.int .i64 (i393 : Int))), (99, (.bool (y418.1 != (0 : Int))))] rfl ⟨rfl, rfl, rfl, rfl, rfl, rfl, rfl, rfl, rfl, rfl, trivial⟩ ?_
    rcases bif_some h with ⟨hc445, h⟩ | ⟨hc445, h⟩
    · refine wo_know 99 true rfl hc445 ?_
      refine wo_seg Θ_ok [26, 27, 28, 29, 30, 31, 32] [(0, v0), (2, v2), (7, v8), (8, (.bool y18)), (11, (.pointer (some ⟨b408, 0, none⟩))), (45, (.slice A390 x1.length c391)), (46, (.int .i64 (x1.length : Int))), (47, (.int .i64 (i393 : Int))), (106, (.bool true))] rfl ⟨rfl, rfl, rfl, rfl, rfl, rfl, rfl, rfl, rfl, trivial⟩ ?_
      refine wo_nil ?_
      refine wq_seq ?_
      refine wc_true rfl ?_
      refine wc_seq ?_
      refine wc_region (l := [0]) rfl ?_
      refine wo_seg Θ_ok [0] [(6, (.bool false))] rfl ⟨rfl, trivial⟩ ?_
      refine wo_nil ?_
      refine wq_seq ?_
      refine wc_ret ?_
      cases h
      exact wq_then_ret (wq_block_ret (wq_then_ret (wq_then_ret (wq_block_ret (wq_then_ret (wq_ret rfl ⟨_, rfl, (bool_is.2 rfl), hF⟩))))))
    refine wo_know 99 false rfl hc445 ?_
    refine wo_seg Θ_ok [26, 27] [(0, v0), (2, v2), (7, v8), (8, (.bool y18)), (11, (.pointer (some ⟨b408, 0, none⟩))), (15, (.int .i64 p430)), (45, (.slice A390 x1.length c391)), (46, (.int .i64 (x1.length : Int))), (47, (.int .i64 (i393 : Int))), (99, (.bool false)), (100, v8), (101, (.pointer (some ⟨b408, 2, none⟩)))] rfl ⟨rfl, rfl, rfl, rfl, rfl, rfl, rfl, rfl, rfl, rfl, rfl, rfl, trivial⟩ ?_
    refine wo_load Θ_ok rfl rfl rfl rfl rfl rfl rfl hb408 [(.int .u64 z395.fWhat)] rfl rfl (.inr rfl) (.int .u64 z395.fWhat) rfl ?_
    obtain ⟨y450, hy451, h⟩ := bind_some h
    refine wo_gives rfl rfl rfl rfl rfl ent18 rfl (d_Count_c hO h10 (int_is.2 rfl) hy451) (fun v446 w447 h448 f449 => ?_)
    have h0 := h0.tr f449.tr0
    have h2 := h2.tr f449.tr0
    have h10 := h10.tr f449.tr0
    have h1 := h1.tr f449.tr0
    have hg0 := hg0.tr f449.tr0
    have hb408 := hb408.fr0 f449
    have T311 := T311.trans f449.tr0
    have T392 := T392.trans f449.tr0
    have hO := f449.ob hO
    have hF := hF.trans f449
    obtain rfl := int_is.1 h448
    refine wo_seg Θ_ok [30, 31, 32] [(0, v0), (2, v2), (7, v8), (8, (.bool y18)), (11, (.pointer (some ⟨b408, 0, none⟩))), (45, (.slice A390 x1.length c391)), (46, (.int .i64 (x1.length : Int))), (47, (.int .i64 (i393 : Int))), (106, (.bool (y450 != p430)))] rfl ⟨rfl, rfl, rfl, rfl, rfl, rfl, rfl, rfl, rfl, trivial⟩ ?_
    refine wo_nil ?_
    refine wq_seq ?_
    rcases bif_some h with ⟨hc452, h⟩ | ⟨hc452, h⟩
    · refine wc_known_true rfl hc452 ?_
      refine wc_seq ?_
      refine wc_region (l := [0]) rfl ?_
      refine wo_seg Θ_ok [0] [(6, (.bool false))] rfl ⟨rfl, trivial⟩ ?_
      refine wo_nil ?_
      refine wq_seq ?_
      refine wc_ret ?_
      cases h
      exact wq_then_ret (wq_block_ret (wq_then_ret (wq_then_ret (wq_block_ret (wq_then_ret (wq_ret rfl ⟨_, rfl, (bool_is.2 rfl), hF⟩))))))
    refine wc_known_false rfl hc452 ?_
    refine wc_skip ?_
    refine wq_seq ?_
    refine wc_seq ?_
    refine wc_region (l := [0, 1, 2, 3, 4, 5, 6]) rfl ?_
    refine wo_load Θ_ok rfl rfl rfl rfl rfl rfl rfl hb408 [(.int .u64 z395.fPid), (.int .i64 z395.fFd), (.int .u64 z395.fWhat)] rfl rfl (.inl rfl) (.agg #[(.int .u64 z395.fPid), (.int .i64 z395.fFd), (.int .u64 z395.fWhat)]) rfl ?_
    obtain ⟨y457, hy458, h⟩ := bind_some h
    refine wo_gives rfl rfl rfl rfl rfl ent19 rfl (d_Key_c hO hg0 ((tGDesc_is (x := z395)).2 rfl) hy458) (fun v453 w454 h455 f456 => ?_)
    have h0 := h0.tr f456.tr0
    have h2 := h2.tr f456.tr0
    have h10 := h10.tr f456.tr0
    have h1 := h1.tr f456.tr0
    have hg0 := hg0.tr f456.tr0
    have hb408 := hb408.fr0 f456
    have T311 := T311.trans f456.tr0
    have T392 := T392.trans f456.tr0
    have hO := f456.ob hO
    have hF := hF.trans f456
    obtain ⟨u459, u461, rfl, h460, h462⟩ := h455
    obtain rfl := int_is.1 h460
    obtain rfl := int_is.1 h462
    refine wo_seg Θ_ok [2, 3, 4, 5, 6] [(0, v0), (2, v2), (7, v8), (8, (.bool y18)), (11, (.pointer (some ⟨b408, 0, none⟩))), (16, (.int .u64 y457.1)), (17, (.int .i64 y457.2)), (45, (.slice A390 x1.length c391)), (46, (.int .i64 (x1.length : Int))), (47, (.int .i64 (i393 : Int)))] rfl ⟨rfl, rfl, rfl, rfl, rfl, rfl, rfl, rfl, rfl, rfl, trivial⟩ ?_
    refine wo_nil ?_
    refine wq_seq ?_
    refine wc_seq ?_
    refine wc_region (l := [0, 1, 2]) rfl ?_
    refine wo_load Θ_ok rfl rfl rfl rfl rfl rfl rfl hb408 [(.int .u64 z395.fPid), (.int .i64 z395.fFd), (.int .u64 z395.fWhat)] rfl rfl (.inl rfl) (.agg #[(.int .u64 z395.fPid), (.int .i64 z395.fFd), (.int .u64 z395.fWhat)]) rfl ?_
    refine wo_gives rfl rfl rfl rfl rfl ent20 rfl (r_Is_c hO ((tGDesc_is (x := z395)).2 rfl)) (fun v463 w464 h465 f466 => ?_)
    have h0 := h0.tr f466.tr0
    have h2 := h2.tr f466.tr0
    have h10 := h10.tr f466.tr0
    have h1 := h1.tr f466.tr0
    have hg0 := hg0.tr f466.tr0
    have hb408 := hb408.fr0 f466
    have T311 := T311.trans f466.tr0
    have T392 := T392.trans f466.tr0
    have hO := f466.ob hO
    have hF := hF.trans f466
    obtain rfl := bool_is.1 h465
    refine wo_seg Θ_ok [2] [(0, v0), (2, v2), (7, v8), (8, (.bool y18)), (11, (.pointer (some ⟨b408, 0, none⟩))), (16, (.int .u64 y457.1)), (17, (.int .i64 y457.2)), (18, (.bool ((r_Is z395)))), (45, (.slice A390 x1.length c391)), (46, (.int .i64 (x1.length : Int))), (47, (.int .i64 (i393 : Int)))] rfl ⟨rfl, rfl, rfl, rfl, rfl, rfl, rfl, rfl, rfl, rfl, rfl, trivial⟩ ?_
    refine wo_nil ?_
    refine wq_seq ?_
    refine wc_seq ?_
    refine wc_region (l := [0, 1, 2, 3, 4, 5, 6, 7, 8, 9, 10, 11, 12, 13, 14, 15, 16, 17, 18, 19, 20, 21, 22, 23, 24]) rfl ?_
    refine wo_seg Θ_ok [0, 1, 2, 3, 4] [(0, v0), (2, v2), (7, v8), (8, (.bool y18)), (11, (.pointer (some ⟨b408, 0, none⟩))), (16, (.int .u64 y457.1)), (17, (.int .i64 y457.2)), (18, (.bool ((r_Is z395)))), (45, (.slice A390 x1.length c391)), (46, (.int .i64 (x1.length : Int))), (47, (.int .i64 (i393 : Int))), (118, (.bool (!((y457.2 == (0 : Int)) == (r_Is z395)))))] rfl ⟨rfl, rfl, rfl, rfl, rfl, rfl, rfl, rfl, rfl, rfl, rfl, rfl, trivial⟩ ?_
    rcases bif_some h with ⟨hc467, h⟩ | ⟨hc467, h⟩
    · refine wo_know 118 true rfl hc467 ?_
      refine wo_seg Θ_ok [5, 6, 7, 8, 9, 10, 11, 12, 13, 14, 15, 16, 17, 18, 19, 20, 21, 22, 23, 24] [(0, v0), (2, v2), (7, v8), (8, (.bool y18)), (45, (.slice A390 x1.length c391)), (46, (.int .i64 (x1.length : Int))), (47, (.int .i64 (i393 : Int))), (138, (.bool true))] rfl ⟨rfl, rfl, rfl, rfl, rfl, rfl, rfl, rfl, trivial⟩ ?_
      refine wo_nil ?_
      refine wq_seq ?_
      refine wc_true rfl ?_
      refine wc_seq ?_
      refine wc_region (l := [0]) rfl ?_
      refine wo_seg Θ_ok [0] [(6, (.bool false))] rfl ⟨rfl, trivial⟩ ?_
      refine wo_nil ?_
      refine wq_seq ?_
      refine wc_ret ?_
      cases h
      exact wq_block_ret (wq_then_ret (wq_then_ret (wq_block_ret (wq_then_ret (wq_ret rfl ⟨_, rfl, (bool_is.2 rfl), hF⟩)))))
    refine wo_know 118 false rfl hc467 ?_
    refine wo_seg Θ_ok [5, 6] [(0, v0), (2, v2), (7, v8), (8, (.bool y18)), (11, (.pointer (some ⟨b408, 0, none⟩))), (16, (.int .u64 y457.1)), (17, (.int .i64 y457.2)), (18, (.bool ((r_Is z395)))), (45, (.slice A390 x1.length c391)), (46, (.int .i64 (x1.length : Int))), (47, (.int .i64 (i393 : Int))), (118, (.bool false)), (120, (.bool ((r_Is z395))))] rfl ⟨rfl, rfl, rfl, rfl, rfl, rfl, rfl, rfl, rfl, rfl, rfl, rfl, rfl, trivial⟩ ?_
    rcases bif_some h with ⟨hc468, h⟩ | ⟨hc468, h⟩
    rotate_left
    · refine wo_know 120 false rfl hc468 ?_
      refine wo_seg Θ_ok [7, 8, 9, 10, 11, 12, 13, 14, 15, 16] [(0, v0), (2, v2), (7, v8), (8, (.bool y18)), (16, (.int .u64 y457.1)), (17, (.int .i64 y457.2)), (45, (.slice A390 x1.length c391)), (46, (.int .i64 (x1.length : Int))), (47, (.int .i64 (i393 : Int))), (127, (.bool false)), (130, (.bool (!(r_Is z395))))] rfl ⟨rfl, rfl, rfl, rfl, rfl, rfl, rfl, rfl, rfl, rfl, rfl, trivial⟩ ?_
      rcases bif_some h with ⟨hc477, h⟩ | ⟨hc477, h⟩
      rotate_left
      · refine wo_know 130 false rfl hc477 ?_
        refine wo_seg Θ_ok [17, 18, 19, 20, 21, 22, 23, 24] [(0, v0), (2, v2), (7, v8), (8, (.bool y18)), (45, (.slice A390 x1.length c391)), (46, (.int .i64 (x1.length : Int))), (47, (.int .i64 (i393 : Int))), (138, (.bool false))] rfl ⟨rfl, rfl, rfl, rfl, rfl, rfl, rfl, rfl, trivial⟩ ?_
        refine wo_nil ?_
        refine wq_seq ?_
        refine wc_false rfl ?_
        refine wc_skip ?_
        refine wq_block (wq_seq ?_)
        refine wc_region (l := [0, 1]) rfl ?_
        refine wo_seg Θ_ok [0, 1] [(0, v0), (2, v2), (7, v8), (8, (.bool y18)), (45, (.slice A390 x1.length c391)), (46, (.int .i64 (x1.length : Int))), (47, (.int .i64 (IntKind.i64.wrap ((i393 : Int) + (1 : Int)))))] rfl ⟨rfl, rfl, rfl, rfl, rfl, rfl, rfl, trivial⟩ ?_
        refine wo_nil ?_
        exact wq_next rest394.length [(0, v0), (2, v2), (7, v8), (8, (.bool y18)), (45, (.slice A390 x1.length c391)), (46, (.int .i64 (x1.length : Int))), (47, (.int .i64 ((i393 + 1 : Nat) : Int)))] (Nat.lt_succ_self _) ⟨rfl, rfl, rfl, rfl, rfl, rfl, congrArg (fun z => some (Value.int .i64 z)) (wrap_succ hl403 (Nat.le_trans hlc391 hmc391)), trivial⟩ ⟨rest394, i393 + 1, O431, rfl, hd396, rfl, T392, hO, hS, hF, h⟩
      refine wo_know 130 true rfl hc477 ?_
      refine wo_seg Θ_ok [17, 18, 19] [(0, v0), (2, v2), (7, v8), (8, (.bool y18)), (17, (.int .i64 y457.2)), (45, (.slice A390 x1.length c391)), (46, (.int .i64 (x1.length : Int))), (47, (.int .i64 (i393 : Int))), (127, (.bool false)), (130, (.bool true)), (133, (.bool (y457.1 != (0 : Int))))] rfl ⟨rfl, rfl, rfl, rfl, rfl, rfl, rfl, rfl, rfl, rfl, rfl, trivial⟩ ?_
      rcases bif_some h with ⟨hc478, h⟩ | ⟨hc478, h⟩
      · refine wo_know 133 true rfl hc478 ?_
        refine wo_seg Θ_ok [20, 21, 22, 23, 24] [(0, v0), (2, v2), (7, v8), (8, (.bool y18)), (45, (.slice A390 x1.length c391)), (46, (.int .i64 (x1.length : Int))), (47, (.int .i64 (i393 : Int))), (138, (.bool true))] rfl ⟨rfl, rfl, rfl, rfl, rfl, rfl, rfl, rfl, trivial⟩ ?_
        refine wo_nil ?_
        refine wq_seq ?_
        refine wc_true rfl ?_
        refine wc_seq ?_
        refine wc_region (l := [0]) rfl ?_
        refine wo_seg Θ_ok [0] [(6, (.bool false))] rfl ⟨rfl, trivial⟩ ?_
        refine wo_nil ?_
        refine wq_seq ?_
        refine wc_ret ?_
        cases h
        exact wq_block_ret (wq_then_ret (wq_then_ret (wq_block_ret (wq_then_ret (wq_ret rfl ⟨_, rfl, (bool_is.2 rfl), hF⟩)))))
      refine wo_know 133 false rfl hc478 ?_
      refine wo_seg Θ_ok [20, 21, 22, 23, 24] [(0, v0), (2, v2), (7, v8), (8, (.bool y18)), (45, (.slice A390 x1.length c391)), (46, (.int .i64 (x1.length : Int))), (47, (.int .i64 (i393 : Int))), (138, (.bool (y457.2 != (2 : Int))))] rfl ⟨rfl, rfl, rfl, rfl, rfl, rfl, rfl, rfl, trivial⟩ ?_
      refine wo_nil ?_
      refine wq_seq ?_
      rcases bif_some h with ⟨hc479, h⟩ | ⟨hc479, h⟩
      rotate_left
      · refine wc_known_false rfl hc479 ?_
        refine wc_skip ?_
        refine wq_block (wq_seq ?_)
        refine wc_region (l := [0, 1]) rfl ?_
        refine wo_seg Θ_ok [0, 1] [(0, v0), (2, v2), (7, v8), (8, (.bool y18)), (45, (.slice A390 x1.length c391)), (46, (.int .i64 (x1.length : Int))), (47, (.int .i64 (IntKind.i64.wrap ((i393 : Int) + (1 : Int)))))] rfl ⟨rfl, rfl, rfl, rfl, rfl, rfl, rfl, trivial⟩ ?_
        refine wo_nil ?_
        exact wq_next rest394.length [(0, v0), (2, v2), (7, v8), (8, (.bool y18)), (45, (.slice A390 x1.length c391)), (46, (.int .i64 (x1.length : Int))), (47, (.int .i64 ((i393 + 1 : Nat) : Int)))] (Nat.lt_succ_self _) ⟨rfl, rfl, rfl, rfl, rfl, rfl, congrArg (fun z => some (Value.int .i64 z)) (wrap_succ hl403 (Nat.le_trans hlc391 hmc391)), trivial⟩ ⟨rest394, i393 + 1, O431, rfl, hd396, rfl, T392, hO, hS, hF, h⟩
      refine wc_known_true rfl hc479 ?_
      refine wc_seq ?_
      refine wc_region (l := [0]) rfl ?_
      refine wo_seg Θ_ok [0] [(6, (.bool false))] rfl ⟨rfl, trivial⟩ ?_
      refine wo_nil ?_
      refine wq_seq ?_
      refine wc_ret ?_
      cases h
      exact wq_block_ret (wq_then_ret (wq_then_ret (wq_block_ret (wq_then_ret (wq_ret rfl ⟨_, rfl, (bool_is.2 rfl), hF⟩)))))
    refine wo_know 120 true rfl hc468 ?_
    refine wo_seg Θ_ok [7] [(0, v0), (2, v2), (7, v8), (8, (.bool y18)), (11, (.pointer (some ⟨b408, 0, none⟩))), (16, (.int .u64 y457.1)), (17, (.int .i64 y457.2)), (18, (.bool ((r_Is z395)))), (45, (.slice A390 x1.length c391)), (46, (.int .i64 (x1.length : Int))), (47, (.int .i64 (i393 : Int))), (118, (.bool false)), (120, (.bool true)), (121, (.int .u64 y457.1))] rfl ⟨rfl, rfl, rfl, rfl, rfl, rfl, rfl, rfl, rfl, rfl, rfl, rfl, rfl, rfl, trivial⟩ ?_
    refine wo_load Θ_ok rfl rfl rfl rfl rfl rfl rfl hb408 [(.int .u64 z395.fPid), (.int .i64 z395.fFd), (.int .u64 z395.fWhat)] rfl rfl (.inl rfl) (.agg #[(.int .u64 z395.fPid), (.int .i64 z395.fFd), (.int .u64 z395.fWhat)]) rfl ?_
    refine wo_gives rfl rfl rfl rfl rfl ent21 rfl (r_Key_c hO ((tGDesc_is (x := z395)).2 rfl)) (fun v469 w470 h471 f472 => ?_)
    have h0 := h0.tr f472.tr0
    have h2 := h2.tr f472.tr0
    have h10 := h10.tr f472.tr0
    have h1 := h1.tr f472.tr0
    have hg0 := hg0.tr f472.tr0
    have T311 := T311.trans f472.tr0
    have T392 := T392.trans f472.tr0
    have hO := f472.ob hO
    have hF := hF.trans f472
    obtain rfl := int_is.1 h471
    refine wo_seg Θ_ok [10, 11, 12, 13] [(0, v0), (2, v2), (7, v8), (8, (.bool y18)), (16, (.int .u64 y457.1)), (17, (.int .i64 y457.2)), (18, (.bool ((r_Is z395)))), (45, (.slice A390 x1.length c391)), (46, (.int .i64 (x1.length : Int))), (47, (.int .i64 (i393 : Int))), (127, (.bool (y457.1 != (r_Key z395))))] rfl ⟨rfl, rfl, rfl, rfl, rfl, rfl, rfl, rfl, rfl, rfl, rfl, trivial⟩ ?_
    rcases bif_some h with ⟨hc473, h⟩ | ⟨hc473, h⟩
    · refine wo_know 127 true rfl hc473 ?_
      refine wo_seg Θ_ok [14, 15, 16, 17, 18, 19, 20, 21, 22, 23, 24] [(0, v0), (2, v2), (7, v8), (8, (.bool y18)), (45, (.slice A390 x1.length c391)), (46, (.int .i64 (x1.length : Int))), (47, (.int .i64 (i393 : Int))), (138, (.bool true))] rfl ⟨rfl, rfl, rfl, rfl, rfl, rfl, rfl, rfl, trivial⟩ ?_
      refine wo_nil ?_
      refine wq_seq ?_
      refine wc_true rfl ?_
      refine wc_seq ?_
      refine wc_region (l := [0]) rfl ?_
      refine wo_seg Θ_ok [0] [(6, (.bool false))] rfl ⟨rfl, trivial⟩ ?_
      refine wo_nil ?_
      refine wq_seq ?_
      refine wc_ret ?_
      cases h
      exact wq_block_ret (wq_then_ret (wq_then_ret (wq_block_ret (wq_then_ret (wq_ret rfl ⟨_, rfl, (bool_is.2 rfl), hF⟩)))))
    refine wo_know 127 false rfl hc473 ?_
    refine wo_seg Θ_ok [14, 15, 16] [(0, v0), (2, v2), (7, v8), (8, (.bool y18)), (16, (.int .u64 y457.1)), (17, (.int .i64 y457.2)), (45, (.slice A390 x1.length c391)), (46, (.int .i64 (x1.length : Int))), (47, (.int .i64 (i393 : Int))), (127, (.bool false)), (130, (.bool (!(r_Is z395))))] rfl ⟨rfl, rfl, rfl, rfl, rfl, rfl, rfl, rfl, rfl, rfl, rfl, trivial⟩ ?_
    rcases bif_some h with ⟨hc474, h⟩ | ⟨hc474, h⟩
    rotate_left
    · refine wo_know 130 false rfl hc474 ?_
      refine wo_seg Θ_ok [17, 18, 19, 20, 21, 22, 23, 24] [(0, v0), (2, v2), (7, v8), (8, (.bool y18)), (45, (.slice A390 x1.length c391)), (46, (.int .i64 (x1.length : Int))), (47, (.int .i64 (i393 : Int))), (138, (.bool false))] rfl ⟨rfl, rfl, rfl, rfl, rfl, rfl, rfl, rfl, trivial⟩ ?_
      refine wo_nil ?_
      refine wq_seq ?_
      refine wc_false rfl ?_
      refine wc_skip ?_
      refine wq_block (wq_seq ?_)
      refine wc_region (l := [0, 1]) rfl ?_
      refine wo_seg Θ_ok [0, 1] [(0, v0), (2, v2), (7, v8), (8, (.bool y18)), (45, (.slice A390 x1.length c391)), (46, (.int .i64 (x1.length : Int))), (47, (.int .i64 (IntKind.i64.wrap ((i393 : Int) + (1 : Int)))))] rfl ⟨rfl, rfl, rfl, rfl, rfl, rfl, rfl, trivial⟩ ?_
      refine wo_nil ?_
      exact wq_next rest394.length [(0, v0), (2, v2), (7, v8), (8, (.bool y18)), (45, (.slice A390 x1.length c391)), (46, (.int .i64 (x1.length : Int))), (47, (.int .i64 ((i393 + 1 : Nat) : Int)))] (Nat.lt_succ_self _) ⟨rfl, rfl, rfl, rfl, rfl, rfl, congrArg (fun z => some (Value.int .i64 z)) (wrap_succ hl403 (Nat.le_trans hlc391 hmc391)), trivial⟩ ⟨rest394, i393 + 1, O431, rfl, hd396, rfl, T392, hO, hS, hF, h⟩
    refine wo_know 130 true rfl hc474 ?_
    refine wo_seg Θ_ok [17, 18, 19] [(0, v0), (2, v2), (7, v8), (8, (.bool y18)), (17, (.int .i64 y457.2)), (45, (.slice A390 x1.length c391)), (46, (.int .i64 (x1.length : Int))), (47, (.int .i64 (i393 : Int))), (127, (.bool false)), (130, (.bool true)), (133, (.bool (y457.1 != (0 : Int))))] rfl ⟨rfl, rfl, rfl, rfl, rfl, rfl, rfl, rfl, rfl, rfl, rfl, trivial⟩ ?_
    rcases bif_some h with ⟨hc475, h⟩ | ⟨hc475, h⟩
    · refine wo_know 133 true rfl hc475 ?_
      refine wo_seg Θ_ok [20, 21, 22, 23, 24] [(0, v0), (2, v2), (7, v8), (8, (.bool y18)), (45, (.slice A390 x1.length c391)), (46, (.int .i64 (x1.length : Int))), (47, (.int .i64 (i393 : Int))), (138, (.bool true))] rfl ⟨rfl, rfl, rfl, rfl, rfl, rfl, rfl, rfl, trivial⟩ ?_
      refine wo_nil ?_
      refine wq_seq ?_
      refine wc_true rfl ?_
      refine wc_seq ?_
      refine wc_region (l := [0]) rfl ?_
      refine wo_seg Θ_ok [0] [(6, (.bool false))] rfl ⟨rfl, trivial⟩ ?_
      refine wo_nil ?_
      refine wq_seq ?_
      refine wc_ret ?_
      cases h
      exact wq_block_ret (wq_then_ret (wq_then_ret (wq_block_ret (wq_then_ret (wq_ret rfl ⟨_, rfl, (bool_is.2 rfl), hF⟩)))))
    refine wo_know 133 false rfl hc475 ?_
    refine wo_seg Θ_ok [20, 21, 22, 23, 24] [(0, v0), (2, v2), (7, v8), (8, (.bool y18)), (45, (.slice A390 x1.length c391)), (46, (.int .i64 (x1.length : Int))), (47, (.int .i64 (i393 : Int))), (138, (.bool (y457.2 != (2 : Int))))] rfl ⟨rfl, rfl, rfl, rfl, rfl, rfl, rfl, rfl, trivial⟩ ?_
    refine wo_nil ?_
    refine wq_seq ?_
    rcases bif_some h with ⟨hc476, h⟩ | ⟨hc476, h⟩
    rotate_left
    · refine wc_known_false rfl hc476 ?_
      refine wc_skip ?_
      refine wq_block (wq_seq ?_)
      refine wc_region (l := [0, 1]) rfl ?_
      refine wo_seg Θ_ok [0, 1] [(0, v0), (2, v2), (7, v8), (8, (.bool y18)), (45, (.slice A390 x1.length c391)), (46, (.int .i64 (x1.length : Int))), (47, (.int .i64 (IntKind.i64.wrap ((i393 : Int) + (1 : Int)))))] rfl ⟨rfl, rfl, rfl, rfl, rfl, rfl, rfl, trivial⟩ ?_
      refine wo_nil ?_
      exact wq_next rest394.length [(0, v0), (2, v2), (7, v8), (8, (.bool y18)), (45, (.slice A390 x1.length c391)), (46, (.int .i64 (x1.length : Int))), (47, (.int .i64 ((i393 + 1 : Nat) : Int)))] (Nat.lt_succ_self _) ⟨rfl, rfl, rfl, rfl, rfl, rfl, congrArg (fun z => some (Value.int .i64 z)) (wrap_succ hl403 (Nat.le_trans hlc391 hmc391)), trivial⟩ ⟨rest394, i393 + 1, O431, rfl, hd396, rfl, T392, hO, hS, hF, h⟩
    refine wc_known_true rfl hc476 ?_
    refine wc_seq ?_
    refine wc_region (l := [0]) rfl ?_
    refine wo_seg Θ_ok [0] [(6, (.bool false))] rfl ⟨rfl, trivial⟩ ?_
    refine wo_nil ?_
    refine wq_seq ?_
    refine wc_ret ?_
    cases h
    exact wq_block_ret (wq_then_ret (wq_then_ret (wq_block_ret (wq_then_ret (wq_ret rfl ⟨_, rfl, (bool_is.2 rfl), hF⟩)))))
  refine wo_know 40 true rfl hc27 ?_
  refine wo_seg Θ_ok [8, 9, 10, 11] [(0, v0), (1, v1), (2, v2), (7, v8), (8, (.bool y18)), (44, (.bool (y24 != (330 : Int))))] rfl ⟨rfl, rfl, rfl, rfl, rfl, rfl, trivial⟩ ?_
  refine wo_nil ?_
  refine wq_seq ?_
  rcases bif_some h with ⟨hc28, h⟩ | ⟨hc28, h⟩
  · refine wc_known_true rfl hc28 ?_
    refine wc_seq ?_
    refine wc_region (l := [0]) rfl ?_
    refine wo_seg Θ_ok [0] [(6, (.bool false))] rfl ⟨rfl, trivial⟩ ?_
    refine wo_nil ?_
    refine wq_seq ?_
    refine wc_ret ?_
    cases h
    exact wq_then_ret (wq_ret rfl ⟨_, rfl, (bool_is.2 rfl), hF⟩)
  refine wc_known_false rfl hc28 ?_
  refine wc_skip ?_
  refine wq_seq ?_
  obtain ⟨k30, hk31, h⟩ := letk_some h
  refine wc_join (fun E W => ∃ (O34 : List Nat), E = [(0, v0), (2, v2), (7, v8)] ∧ Tr O w21 O34 W ∧ OB O34 W ∧ Sub O O34 ∧ Fr [] w W ∧ k30 = some r) ?_ (fun K32 hK33 => ?_)
  · rintro E w35 ⟨O34, rfl, T29, hO, hS, hF, h⟩
    have h0 := h0.tr T29
    have h2 := h2.tr T29
    have h10 := h10.tr T29
    have hg0 := hg0.tr T29
    subst hk31
    (try dsimp only at h)
    obtain ⟨k37, hk38, h⟩ := letk_some h
    refine wc_join (fun E W => ∃ (O41 : List Nat), E = [(0, v0), (7, v8)] ∧ Tr O34 w35 O41 W ∧ OB O41 W ∧ Sub O O41 ∧ Fr [] w W ∧ k37 = some r) ?_ (fun K39 hK40 => ?_)
    · rintro E w42 ⟨O41, rfl, T36, hO, hS, hF, h⟩
      have h0 := h0.tr T36
      have h10 := h10.tr T36
      have hg0 := hg0.tr T36
      subst hk38
      (try dsimp only at h)
      refine wc_seq ?_
      refine wc_region (l := [0, 1, 2, 3, 4]) rfl ?_
      refine wo_seg Θ_ok [0, 1] [(172, v8), (173, v0)] rfl ⟨rfl, rfl, trivial⟩ ?_
      obtain ⟨y47, hy48, h⟩ := bind_some h
      refine wo_gives rfl rfl rfl rfl rfl ent7 rfl (own_c hO h0 hy48) (fun v43 w44 h45 f46 => ?_)
      have h10 := h10.tr f46.tr0
      have hg0 := hg0.tr f46.tr0
      have hO := f46.ob hO
      have hF := hF.trans f46
      obtain ⟨y53, hy54, h⟩ := bind_some h
      refine wo_gives rfl rfl rfl rfl rfl ent23 rfl (r_Same_c hO h10 h45 hy54) (fun v49 w50 h51 f52 => ?_)
      have hg0 := hg0.tr f52.tr0
      have hO := f52.ob hO
      have hF := hF.trans f52
      obtain rfl := bool_is.1 h51
      refine wo_seg Θ_ok [4] [(6, (.bool y53))] rfl ⟨rfl, trivial⟩ ?_
      refine wo_nil ?_
      refine wq_seq ?_
      refine wc_ret ?_
      cases h
      exact wq_ret rfl ⟨_, rfl, (bool_is.2 rfl), hF⟩
    clear hk38
    have T36 := Tr.refl O34 w35
    refine wc_seq ?_
    refine wc_region (l := [0, 1, 2]) rfl ?_
    refine wo_seg Θ_ok [0] [(0, v0), (7, v8), (140, v2)] rfl ⟨rfl, rfl, rfl, trivial⟩ ?_
    obtain ⟨A55, c56, rfl, hlc56, hmc56⟩ := slice_form h2
    refine wo_seg Θ_ok [1] [(0, v0), (7, v8), (140, (.slice A55 x2.length c56)), (141, (.int .i64 (x2.length : Int)))] rfl ⟨rfl, rfl, rfl, rfl, trivial⟩ ?_
    refine wo_seg Θ_ok [2] [(0, v0), (7, v8), (140, (.slice A55 x2.length c56)), (141, (.int .i64 (x2.length : Int))), (142, (.int .i64 0))] rfl ⟨rfl, rfl, rfl, rfl, rfl, trivial⟩ ?_
    refine wo_nil ?_
    refine wq_seq ?_
    refine wc_block ?_
    refine wc_loop (fun m E W => ∃ (rest59 : List Int) (i58 : Nat) (O62 : List Nat), rest59.length = m ∧ x2.drop i58 = rest59 ∧ E = [(0, v0), (7, v8), (140, (.slice A55 x2.length c56)), (141, (.int .i64 (x2.length : Int))), (142, (.int .i64 (i58 : Int)))] ∧ Tr O34 w35 O62 W ∧ OB O62 W ∧ Sub O O62 ∧ Fr [] w W ∧ l_Tells_l1 k37 rest59 i58 = some r) _ [(0, v0), (7, v8), (140, (.slice A55 x2.length c56)), (141, (.int .i64 (x2.length : Int))), (142, (.int .i64 ((0 : Nat) : Int)))] ⟨rfl, rfl, rfl, rfl, rfl, trivial⟩ ⟨x2, 0, O34, rfl, rfl, rfl, Tr.refl _ _, hO, hS, hF, h⟩ ?_
    rintro m E w63 ⟨rest59, i58, O62, rfl, hd61, rfl, T57, hO, hS, hF, h⟩
    have T36 := T36.trans T57
    have h0 := h0.tr T57
    have h10 := h10.tr T57
    have h2 := h2.tr T57
    have hg0 := hg0.tr T57
    rcases rest59 with _ | ⟨z60, rest59⟩
    · rw [l_Tells_l1] at h
      have hl67 := drop_nil hd61
      have hc64 : (decide ((i58 : Int) < (x2.length : Int))) = false := decide_eq_false (by omega)
      refine wc_seq ?_
      refine wc_region (l := [0]) rfl ?_
      refine wo_seg Θ_ok [0] [(0, v0), (7, v8), (140, (.slice A55 x2.length c56)), (141, (.int .i64 (x2.length : Int))), (142, (.int .i64 (i58 : Int))), (143, (.bool (decide ((i58 : Int) < (x2.length : Int)))))] rfl ⟨rfl, rfl, rfl, rfl, rfl, rfl, trivial⟩ ?_
      refine wo_nil ?_
      refine wq_seq ?_
      refine wc_seq ?_
      refine wc_known_false rfl hc64 ?_
      refine wc_exit ?_
      exact wq_then_exit (wq_then_exit (wq_block_exit (wq_join hK40 [(0, v0), (7, v8)] ⟨rfl, rfl, trivial⟩ ⟨O62, rfl, T36, hO, hS, hF, h⟩)))
    rw [l_Tells_l1] at h
    obtain ⟨hl68, hg66, hd61⟩ := drop_cons hd61
    have hc65 : (decide ((i58 : Int) < (x2.length : Int))) = true := decide_eq_true (by omega)
    refine wc_seq ?_
    refine wc_region (l := [0]) rfl ?_
    refine wo_seg Θ_ok [0] [(0, v0), (7, v8), (140, (.slice A55 x2.length c56)), (141, (.int .i64 (x2.length : Int))), (142, (.int .i64 (i58 : Int))), (143, (.bool (decide ((i58 : Int) < (x2.length : Int)))))] rfl ⟨rfl, rfl, rfl, rfl, rfl, rfl, trivial⟩ ?_
    refine wo_nil ?_
    refine wq_seq ?_
    refine wc_seq ?_
    refine wc_known_true rfl hc65 ?_
    refine wc_skip ?_
    refine wq_seq ?_
    refine wc_seq ?_
    refine wc_block ?_
    refine wc_seq ?_
    refine wc_region (l := [0, 1, 2, 3, 4]) rfl ?_
    refine wo_seg Θ_ok [0] [(0, v0), (7, v8), (140, (.slice A55 x2.length c56)), (141, (.int .i64 (x2.length : Int))), (142, (.int .i64 (i58 : Int))), (144, (.int .i64 (i58 : Int)))] rfl ⟨rfl, rfl, rfl, rfl, rfl, rfl, trivial⟩ ?_
    refine wo_index Θ_ok rfl rfl rfl rfl rfl rfl rfl rfl rfl rfl h2 rfl (by omega) hg66 (fun p69 h70 => ?_)
    refine wo_loadp Θ_ok rfl rfl rfl rfl rfl rfl rfl h70 rfl rfl (fun v71 h72 => ?_)
    obtain rfl := int_is.1 h72
    refine wo_seg Θ_ok [3, 4] [(0, v0), (7, v8), (19, (.int .i64 (i58 : Int))), (20, (.int .u64 z60)), (140, (.slice A55 x2.length c56)), (141, (.int .i64 (x2.length : Int))), (142, (.int .i64 (i58 : Int)))] rfl ⟨rfl, rfl, rfl, rfl, rfl, rfl, rfl, trivial⟩ ?_
    refine wo_nil ?_
    refine wq_seq ?_
    refine wc_seq ?_
    refine wc_seq ?_
    refine wc_region (l := [0, 1]) rfl ?_
    refine wo_seg Θ_ok [0, 1] [(0, v0), (7, v8), (20, (.int .u64 z60)), (140, (.slice A55 x2.length c56)), (141, (.int .i64 (x2.length : Int))), (142, (.int .i64 (i58 : Int))), (148, (.bool ((i58 : Int) == (8 : Int))))] rfl ⟨rfl, rfl, rfl, rfl, rfl, rfl, rfl, trivial⟩ ?_
    refine wo_nil ?_
    refine wq_seq ?_
    rcases bif_some h with ⟨hc73, h⟩ | ⟨hc73, h⟩
    · refine wc_known_true rfl hc73 ?_
      refine wc_exit ?_
      exact wq_then_exit (wq_block_past rfl (wq_then_exit (wq_then_exit (wq_block_exit (wq_join hK40 [(0, v0), (7, v8)] ⟨rfl, rfl, trivial⟩ ⟨O62, rfl, T36, hO, hS, hF, h⟩)))))
    refine wc_known_false rfl hc73 ?_
    refine wc_skip ?_
    refine wq_seq ?_
    refine wc_seq ?_
    refine wc_region (l := [0, 1, 2, 3, 4, 5, 6, 7]) rfl ?_
    refine wo_seg Θ_ok [0] [(0, v0), (7, v8), (20, (.int .u64 z60)), (140, (.slice A55 x2.length c56)), (141, (.int .i64 (x2.length : Int))), (142, (.int .i64 (i58 : Int))), (150, (.int .u64 z60))] rfl ⟨rfl, rfl, rfl, rfl, rfl, rfl, rfl, trivial⟩ ?_
    obtain ⟨y78, hy79, h⟩ := bind_some h
    refine wo_gives rfl rfl rfl rfl rfl ent22 rfl (d_Back_c hO hg0 (int_is.2 rfl) (int_is.2 rfl) hy79) (fun v74 w75 h76 f77 => ?_)
    have h0 := h0.tr f77.tr0
    have h10 := h10.tr f77.tr0
    have h2 := h2.tr f77.tr0
    have hg0 := hg0.tr f77.tr0
    have T36 := T36.trans f77.tr0
    have T57 := T57.trans f77.tr0
    have hO := f77.ob hO
    have hF := hF.trans f77
    obtain ⟨u80, u82, rfl, h81, h83⟩ := h76
    obtain rfl := tGDesc_is.1 h81
    obtain rfl := int_is.1 h83
    refine wo_seg Θ_ok [2, 3, 4] [(0, v0), (7, v8), (20, (.int .u64 z60)), (140, (.slice A55 x2.length c56)), (141, (.int .i64 (x2.length : Int))), (142, (.int .i64 (i58 : Int))), (152, (.agg #[(.int .u64 y78.1.fPid), (.int .i64 y78.1.fFd), (.int .u64 y78.1.fWhat)])), (153, (.int .i64 y78.2))] rfl ⟨rfl, rfl, rfl, rfl, rfl, rfl, rfl, rfl, trivial⟩ ?_
    refine wo_alloc Θ_ok rfl rfl rfl rfl rfl rfl [(.int .u64 0), (.int .i64 0), (.int .u64 0)] rfl hO (fun b84 w85 n86 => ?_)
    have h0 := h0.tr n86.tr
    have h10 := h10.tr n86.tr
    have h2 := h2.tr n86.tr
    have hg0 := hg0.tr n86.tr
    have T36 := T36.trans n86.tr
    have T57 := T57.trans n86.tr
    have hb84 := n86.blk
    have gb84 := n86.ge0 hF
    have ib84 : b84 ∈ b84 :: O62 := List.mem_cons_self
    have hO := n86.ob
    have hF := hF.trans n86.fr
    have hS := Sub.cons hS b84
    refine wo_store Θ_ok rfl rfl rfl rfl rfl rfl rfl hb84 [(.int .u64 y78.1.fPid), (.int .i64 y78.1.fFd), (.int .u64 y78.1.fWhat)] rfl rfl (by simp [Value.oneCell']) rfl [(.int .u64 y78.1.fPid), (.int .i64 y78.1.fFd), (.int .u64 y78.1.fWhat)] rfl (fun w87 hb84 f88 => ?_)
    have h0 := h0.tr (f88.tr (one_in ib84))
    have h10 := h10.tr (f88.tr (one_in ib84))
    have h2 := h2.tr (f88.tr (one_in ib84))
    have hg0 := hg0.tr (f88.tr (one_in ib84))
    have T36 := T36.trans (f88.tr (one_in ib84))
    have T57 := T57.trans (f88.tr (one_in ib84))
    have hO := f88.ob hO
    have hF := hF.own f88 gb84
    refine wo_seg Θ_ok [7] [(0, v0), (7, v8), (20, (.int .u64 z60)), (21, (.pointer (some ⟨b84, 0, none⟩))), (22, (.int .i64 y78.2)), (140, (.slice A55 x2.length c56)), (141, (.int .i64 (x2.length : Int))), (142, (.int .i64 (i58 : Int)))] rfl ⟨rfl, rfl, rfl, rfl, rfl, rfl, rfl, rfl, trivial⟩ ?_
    refine wo_nil ?_
    refine wq_seq ?_
    refine wc_seq ?_
    refine wc_region (l := [0, 1, 2, 3]) rfl ?_
    refine wo_seg Θ_ok [0] [(0, v0), (7, v8), (20, (.int .u64 z60)), (21, (.pointer (some ⟨b84, 0, none⟩))), (22, (.int .i64 y78.2)), (140, (.slice A55 x2.length c56)), (141, (.int .i64 (x2.length : Int))), (142, (.int .i64 (i58 : Int))), (154, (.agg #[(.int .u64 0), (.int .i64 0), (.int .u64 0)]))] rfl ⟨rfl, rfl, rfl, rfl, rfl, rfl, rfl, rfl, rfl, trivial⟩ ?_
    refine wo_alloc Θ_ok rfl rfl rfl rfl rfl rfl [(.int .u64 0), (.int .i64 0), (.int .u64 0)] rfl hO (fun b89 w90 n91 => ?_)
    have h0 := h0.tr n91.tr
    have h10 := h10.tr n91.tr
    have h2 := h2.tr n91.tr
    have hg0 := hg0.tr n91.tr
    have T36 := T36.trans n91.tr
    have T57 := T57.trans n91.tr
    have nb89b84 : b89 ≠ b84 := by have := hb84.lt; have := n91.ge; omega
    have hb84 := hb84.fr0 n91.fr
    have ib84 := List.mem_cons_of_mem b89 ib84
    have hb89 := n91.blk
    have gb89 := n91.ge0 hF
    have ib89 : b89 ∈ b89 :: (b84 :: O62) := List.mem_cons_self
    have hO := n91.ob
    have hF := hF.trans n91.fr
    have hS := Sub.cons hS b89
    refine wo_store Θ_ok rfl rfl rfl rfl rfl rfl rfl hb89 [(.int .u64 0), (.int .i64 0), (.int .u64 0)] rfl rfl (by simp [Value.oneCell']) rfl [(.int .u64 0), (.int .i64 0), (.int .u64 0)] rfl (fun w92 hb89 f93 => ?_)
    have h0 := h0.tr (f93.tr (one_in ib89))
    have h10 := h10.tr (f93.tr (one_in ib89))
    have h2 := h2.tr (f93.tr (one_in ib89))
    have hg0 := hg0.tr (f93.tr (one_in ib89))
    have T36 := T36.trans (f93.tr (one_in ib89))
    have T57 := T57.trans (f93.tr (one_in ib89))
    have hb84 := hb84.fr f93 (nin nb89b84.symm)
    have hO := f93.ob hO
    have hF := hF.own f93 gb89
    refine wo_seg Θ_ok [3] [(0, v0), (7, v8), (20, (.int .u64 z60)), (21, (.pointer (some ⟨b84, 0, none⟩))), (22, (.int .i64 y78.2)), (23, (.pointer (some ⟨b89, 0, none⟩))), (24, (.int .i64 2)), (140, (.slice A55 x2.length c56)), (141, (.int .i64 (x2.length : Int))), (142, (.int .i64 (i58 : Int)))] rfl ⟨rfl, rfl, rfl, rfl, rfl, rfl, rfl, rfl, rfl, rfl, trivial⟩ ?_
    refine wo_nil ?_
    refine wq_seq ?_
    obtain ⟨k95, hk96, h⟩ := letk_some h
    refine wc_join (fun E W => ∃ (O101 : List Nat) (p99 : Int) (p100 : GDesc), E = [(0, v0), (7, v8), (21, (.pointer (some ⟨b84, 0, none⟩))), (22, (.int .i64 y78.2)), (23, (.pointer (some ⟨b89, 0, none⟩))), (24, (.int .i64 p99)), (140, (.slice A55 x2.length c56)), (141, (.int .i64 (x2.length : Int))), (142, (.int .i64 (i58 : Int)))] ∧ Tr (b89 :: b84 :: O62) w92 O101 W ∧ OB O101 W ∧ Sub O O101 ∧ Fr [] w W ∧ b84 ∈ O101 ∧ Blk W b84 29 [(.int .u64 y78.1.fPid), (.int .i64 y78.1.fFd), (.int .u64 y78.1.fWhat)] ∧ b89 ∈ O101 ∧ Blk W b89 29 [(.int .u64 p100.fPid), (.int .i64 p100.fFd), (.int .u64 p100.fWhat)] ∧ k95 p99 p100 = some r) ?_ (fun K97 hK98 => ?_)
    rotate_left
    · clear hk96
      have T94 := Tr.refl (b89 :: b84 :: O62) w92
      refine wc_seq ?_
      refine wc_region (l := [0, 1]) rfl ?_
      refine wo_seg Θ_ok [0, 1] [(0, v0), (7, v8), (20, (.int .u64 z60)), (21, (.pointer (some ⟨b84, 0, none⟩))), (22, (.int .i64 y78.2)), (23, (.pointer (some ⟨b89, 0, none⟩))), (24, (.int .i64 2)), (140, (.slice A55 x2.length c56)), (141, (.int .i64 (x2.length : Int))), (142, (.int .i64 (i58 : Int))), (156, (.bool (decide (z60 < (34359738368 : Int)))))] rfl ⟨rfl, rfl, rfl, rfl, rfl, rfl, rfl, rfl, rfl, rfl, rfl, trivial⟩ ?_
      refine wo_nil ?_
      refine wq_seq ?_
      rcases bif_some h with ⟨hc105, h⟩ | ⟨hc105, h⟩
      rotate_left
      · refine wc_known_false rfl hc105 ?_
        refine wc_skip ?_
        exact wq_join hK98 [(0, v0), (7, v8), (21, (.pointer (some ⟨b84, 0, none⟩))), (22, (.int .i64 y78.2)), (23, (.pointer (some ⟨b89, 0, none⟩))), (24, (.int .i64 2)), (140, (.slice A55 x2.length c56)), (141, (.int .i64 (x2.length : Int))), (142, (.int .i64 (i58 : Int)))] ⟨rfl, rfl, rfl, rfl, rfl, rfl, rfl, rfl, rfl, trivial⟩ ⟨b89 :: b84 :: O62, (2 : Int), (GDesc.mk (0 : Int) (0 : Int) (0 : Int)), rfl, T94, hO, hS, hF, ib84, hb84, ib89, hb89, h⟩
      refine wc_known_true rfl hc105 ?_
      refine wc_region (l := [0, 1, 2, 3, 4, 5, 6, 7]) rfl ?_
      refine wo_seg Θ_ok [0, 1, 2, 3, 4, 5] [(0, v0), (7, v8), (21, (.pointer (some ⟨b84, 0, none⟩))), (22, (.int .i64 y78.2)), (23, (.pointer (some ⟨b89, 0, none⟩))), (140, (.slice A55 x2.length c56)), (141, (.int .i64 (x2.length : Int))), (142, (.int .i64 (i58 : Int))), (162, (.agg #[(.int .u64 (IntKind.u64.wrap (z60.tdiv (8 : Int)))), (.int .i64 (IntKind.i64.wrap (z60.tmod (8 : Int)))), (.int .u64 7)]))] rfl ⟨rfl, rfl, rfl, rfl, rfl, rfl, rfl, rfl, rfl, trivial⟩ ?_
      refine wo_store Θ_ok rfl rfl rfl rfl rfl rfl rfl hb89 [(.int .u64 (IntKind.u64.wrap (z60.tdiv (8 : Int)))), (.int .i64 (IntKind.i64.wrap (z60.tmod (8 : Int)))), (.int .u64 7)] rfl rfl (by simp [Value.oneCell']) rfl [(.int .u64 (IntKind.u64.wrap (z60.tdiv (8 : Int)))), (.int .i64 (IntKind.i64.wrap (z60.tmod (8 : Int)))), (.int .u64 7)] rfl (fun w106 hb89 f107 => ?_)
      have h0 := h0.tr (f107.tr (one_in ib89))
      have h10 := h10.tr (f107.tr (one_in ib89))
      have h2 := h2.tr (f107.tr (one_in ib89))
      have hg0 := hg0.tr (f107.tr (one_in ib89))
      have T36 := T36.trans (f107.tr (one_in ib89))
      have T57 := T57.trans (f107.tr (one_in ib89))
      have T94 := T94.trans (f107.tr (one_in ib89))
      have hb84 := hb84.fr f107 (nin nb89b84.symm)
      have hO := f107.ob hO
      have hF := hF.own f107 gb89
      refine wo_seg Θ_ok [7] [(0, v0), (7, v8), (21, (.pointer (some ⟨b84, 0, none⟩))), (22, (.int .i64 y78.2)), (23, (.pointer (some ⟨b89, 0, none⟩))), (24, (.int .i64 0)), (140, (.slice A55 x2.length c56)), (141, (.int .i64 (x2.length : Int))), (142, (.int .i64 (i58 : Int)))] rfl ⟨rfl, rfl, rfl, rfl, rfl, rfl, rfl, rfl, rfl, trivial⟩ ?_
      refine wo_nil ?_
      exact wq_join hK98 [(0, v0), (7, v8), (21, (.pointer (some ⟨b84, 0, none⟩))), (22, (.int .i64 y78.2)), (23, (.pointer (some ⟨b89, 0, none⟩))), (24, (.int .i64 0)), (140, (.slice A55 x2.length c56)), (141, (.int .i64 (x2.length : Int))), (142, (.int .i64 (i58 : Int)))] ⟨rfl, rfl, rfl, rfl, rfl, rfl, rfl, rfl, rfl, trivial⟩ ⟨b89 :: b84 :: O62, (0 : Int), (GDesc.mk (IntKind.u64.wrap (z60.tdiv (8 : Int))) (IntKind.i64.wrap (z60.tmod (8 : Int))) (7 : Int)), rfl, T94, hO, hS, hF, ib84, hb84, ib89, hb89, h⟩
    rintro E w102 ⟨O101, p99, p100, rfl, T94, hO, hS, hF, ib84, hb84, ib89, hb89, h⟩
    have T36 := T36.trans T94
    have T57 := T57.trans T94
    have h0 := h0.tr T94
    have h10 := h10.tr T94
    have h2 := h2.tr T94
    have hg0 := hg0.tr T94
    subst hk96
    (try dsimp only at h)
    refine wc_seq ?_
    refine wc_region (l := [0, 1, 2, 3, 4, 5, 6, 7]) rfl ?_
    refine wo_load Θ_ok rfl rfl rfl rfl rfl rfl rfl hb84 [(.int .u64 y78.1.fPid), (.int .i64 y78.1.fFd), (.int .u64 y78.1.fWhat)] rfl rfl (.inl rfl) (.agg #[(.int .u64 y78.1.fPid), (.int .i64 y78.1.fFd), (.int .u64 y78.1.fWhat)]) rfl ?_
    refine wo_load Θ_ok rfl rfl rfl rfl rfl rfl rfl hb89 [(.int .u64 p100.fPid), (.int .i64 p100.fFd), (.int .u64 p100.fWhat)] rfl rfl (.inl rfl) (.agg #[(.int .u64 p100.fPid), (.int .i64 p100.fFd), (.int .u64 p100.fWhat)]) rfl ?_
    refine wo_bin rfl rfl rfl rfl rfl rfl rfl (neq29 _ _) ?_
    refine wo_seg Θ_ok [3] [(0, v0), (7, v8), (22, (.int .i64 y78.2)), (24, (.int .i64 p99)), (140, (.slice A55 x2.length c56)), (141, (.int .i64 (x2.length : Int))), (142, (.int .i64 (i58 : Int))), (166, (.bool (!(eqGDesc y78.1 p100))))] rfl ⟨rfl, rfl, rfl, rfl, rfl, rfl, rfl, rfl, trivial⟩ ?_
    rcases bif_some h with ⟨hc103, h⟩ | ⟨hc103, h⟩
    · refine wo_know 166 true rfl hc103 ?_
      refine wo_seg Θ_ok [4, 5, 6, 7] [(0, v0), (7, v8), (140, (.slice A55 x2.length c56)), (141, (.int .i64 (x2.length : Int))), (142, (.int .i64 (i58 : Int))), (170, (.bool true))] rfl ⟨rfl, rfl, rfl, rfl, rfl, rfl, trivial⟩ ?_
      refine wo_nil ?_
      refine wq_seq ?_
      refine wc_true rfl ?_
      refine wc_seq ?_
      refine wc_region (l := [0]) rfl ?_
      refine wo_seg Θ_ok [0] [(6, (.bool false))] rfl ⟨rfl, trivial⟩ ?_
      refine wo_nil ?_
      refine wq_seq ?_
      refine wc_ret ?_
      cases h
      exact wq_block_ret (wq_then_ret (wq_then_ret (wq_block_ret (wq_then_ret (wq_ret rfl ⟨_, rfl, (bool_is.2 rfl), hF⟩)))))
    refine wo_know 166 false rfl hc103 ?_
    refine wo_seg Θ_ok [4, 5, 6, 7] [(0, v0), (7, v8), (140, (.slice A55 x2.length c56)), (141, (.int .i64 (x2.length : Int))), (142, (.int .i64 (i58 : Int))), (170, (.bool (y78.2 != p99)))] rfl ⟨rfl, rfl, rfl, rfl, rfl, rfl, trivial⟩ ?_
    refine wo_nil ?_
    refine wq_seq ?_
    rcases bif_some h with ⟨hc104, h⟩ | ⟨hc104, h⟩
    rotate_left
    · refine wc_known_false rfl hc104 ?_
      refine wc_skip ?_
      refine wq_block (wq_seq ?_)
      refine wc_region (l := [0, 1]) rfl ?_
      refine wo_seg Θ_ok [0, 1] [(0, v0), (7, v8), (140, (.slice A55 x2.length c56)), (141, (.int .i64 (x2.length : Int))), (142, (.int .i64 (IntKind.i64.wrap ((i58 : Int) + (1 : Int)))))] rfl ⟨rfl, rfl, rfl, rfl, rfl, trivial⟩ ?_
      refine wo_nil ?_
      exact wq_next rest59.length [(0, v0), (7, v8), (140, (.slice A55 x2.length c56)), (141, (.int .i64 (x2.length : Int))), (142, (.int .i64 ((i58 + 1 : Nat) : Int)))] (Nat.lt_succ_self _) ⟨rfl, rfl, rfl, rfl, congrArg (fun z => some (Value.int .i64 z)) (wrap_succ hl68 (Nat.le_trans hlc56 hmc56)), trivial⟩ ⟨rest59, i58 + 1, O101, rfl, hd61, rfl, T57, hO, hS, hF, h⟩
    refine wc_known_true rfl hc104 ?_
    refine wc_seq ?_
    refine wc_region (l := [0]) rfl ?_
    refine wo_seg Θ_ok [0] [(6, (.bool false))] rfl ⟨rfl, trivial⟩ ?_
    refine wo_nil ?_
    refine wq_seq ?_
    refine wc_ret ?_
    cases h
    exact wq_block_ret (wq_then_ret (wq_then_ret (wq_block_ret (wq_then_ret (wq_ret rfl ⟨_, rfl, (bool_is.2 rfl), hF⟩)))))
  clear hk31
  have T29 := Tr.refl O w21
  refine wc_seq ?_
  refine wc_region (l := [0, 1, 2]) rfl ?_
  refine wo_seg Θ_ok [0] [(0, v0), (2, v2), (7, v8), (8, (.bool y18)), (45, v1)] rfl ⟨rfl, rfl, rfl, rfl, rfl, trivial⟩ ?_
  obtain ⟨A108, c109, rfl, hlc109, hmc109⟩ := slice_form h1
  refine wo_seg Θ_ok [1] [(0, v0), (2, v2), (7, v8), (8, (.bool y18)), (45, (.slice A108 x1.length c109)), (46, (.int .i64 (x1.length : Int)))] rfl ⟨rfl, rfl, rfl, rfl, rfl, rfl, trivial⟩ ?_
  refine wo_seg Θ_ok [2] [(0, v0), (2, v2), (7, v8), (8, (.bool y18)), (45, (.slice A108 x1.length c109)), (46, (.int .i64 (x1.length : Int))), (47, (.int .i64 0))] rfl ⟨rfl, rfl, rfl, rfl, rfl, rfl, rfl, trivial⟩ ?_
  refine wo_nil ?_
  refine wq_seq ?_
  refine wc_block ?_
  refine wc_loop (fun m E W => ∃ (rest112 : List GDesc) (i111 : Nat) (O115 : List Nat), rest112.length = m ∧ x1.drop i111 = rest112 ∧ E = [(0, v0), (2, v2), (7, v8), (8, (.bool y18)), (45, (.slice A108 x1.length c109)), (46, (.int .i64 (x1.length : Int))), (47, (.int .i64 (i111 : Int)))] ∧ Tr O w21 O115 W ∧ OB O115 W ∧ Sub O O115 ∧ Fr [] w W ∧ l_Tells_l2 y12 y18 k30 rest112 i111 = some r) _ [(0, v0), (2, v2), (7, v8), (8, (.bool y18)), (45, (.slice A108 x1.length c109)), (46, (.int .i64 (x1.length : Int))), (47, (.int .i64 ((0 : Nat) : Int)))] ⟨rfl, rfl, rfl, rfl, rfl, rfl, rfl, trivial⟩ ⟨x1, 0, O, rfl, rfl, rfl, Tr.refl _ _, hO, hS, hF, h⟩ ?_
  rintro m E w116 ⟨rest112, i111, O115, rfl, hd114, rfl, T110, hO, hS, hF, h⟩
  have T29 := T29.trans T110
  have h0 := h0.tr T110
  have h2 := h2.tr T110
  have h10 := h10.tr T110
  have h1 := h1.tr T110
  have hg0 := hg0.tr T110
  rcases rest112 with _ | ⟨z113, rest112⟩
  · rw [l_Tells_l2] at h
    have hl120 := drop_nil hd114
    have hc117 : (decide ((i111 : Int) < (x1.length : Int))) = false := decide_eq_false (by omega)
    refine wc_seq ?_
    refine wc_region (l := [0]) rfl ?_
    refine wo_seg Θ_ok [0] [(0, v0), (2, v2), (7, v8), (8, (.bool y18)), (45, (.slice A108 x1.length c109)), (46, (.int .i64 (x1.length : Int))), (47, (.int .i64 (i111 : Int))), (48, (.bool (decide ((i111 : Int) < (x1.length : Int)))))] rfl ⟨rfl, rfl, rfl, rfl, rfl, rfl, rfl, rfl, trivial⟩ ?_
    refine wo_nil ?_
    refine wq_seq ?_
    refine wc_seq ?_
    refine wc_known_false rfl hc117 ?_
    refine wc_exit ?_
    exact wq_then_exit (wq_then_exit (wq_block_exit (wq_join hK33 [(0, v0), (2, v2), (7, v8)] ⟨rfl, rfl, rfl, trivial⟩ ⟨O115, rfl, T29, hO, hS, hF, h⟩)))
  rw [l_Tells_l2] at h
  obtain ⟨hl121, hg119, hd114⟩ := drop_cons hd114
  have hc118 : (decide ((i111 : Int) < (x1.length : Int))) = true := decide_eq_true (by omega)
  refine wc_seq ?_
  refine wc_region (l := [0]) rfl ?_
  refine wo_seg Θ_ok [0] [(0, v0), (2, v2), (7, v8), (8, (.bool y18)), (45, (.slice A108 x1.length c109)), (46, (.int .i64 (x1.length : Int))), (47, (.int .i64 (i111 : Int))), (48, (.bool (decide ((i111 : Int) < (x1.length : Int)))))] rfl ⟨rfl, rfl, rfl, rfl, rfl, rfl, rfl, rfl, trivial⟩ ?_
  refine wo_nil ?_
  refine wq_seq ?_
  refine wc_seq ?_
  refine wc_known_true rfl hc118 ?_
  refine wc_skip ?_
  refine wq_seq ?_
  refine wc_seq ?_
  refine wc_block ?_
  refine wc_seq ?_
  refine wc_region (l := [0, 1, 2, 3, 4, 5]) rfl ?_
  refine wo_seg Θ_ok [0] [(0, v0), (2, v2), (7, v8), (8, (.bool y18)), (45, (.slice A108 x1.length c109)), (46, (.int .i64 (x1.length : Int))), (47, (.int .i64 (i111 : Int))), (49, (.int .i64 (i111 : Int)))] rfl ⟨rfl, rfl, rfl, rfl, rfl, rfl, rfl, rfl, trivial⟩ ?_
  refine wo_index Θ_ok rfl rfl rfl rfl rfl rfl rfl rfl rfl rfl h1 rfl (by omega) hg119 (fun p122 h123 => ?_)
  refine wo_loadp Θ_ok rfl rfl rfl rfl rfl rfl rfl h123 rfl rfl (fun v124 h125 => ?_)
  obtain rfl := tGDesc_is.1 h125
  refine wo_alloc Θ_ok rfl rfl rfl rfl rfl rfl [(.int .u64 0), (.int .i64 0), (.int .u64 0)] rfl hO (fun b126 w127 n128 => ?_)
  have h0 := h0.tr n128.tr
  have h2 := h2.tr n128.tr
  have h10 := h10.tr n128.tr
  have h1 := h1.tr n128.tr
  have hg0 := hg0.tr n128.tr
  have T29 := T29.trans n128.tr
  have T110 := T110.trans n128.tr
  have hb126 := n128.blk
  have gb126 := n128.ge0 hF
  have ib126 : b126 ∈ b126 :: O115 := List.mem_cons_self
  have hO := n128.ob
  have hF := hF.trans n128.fr
  have hS := Sub.cons hS b126
  refine wo_seg Θ_ok [4] [(0, v0), (2, v2), (7, v8), (8, (.bool y18)), (10, (.int .i64 (i111 : Int))), (11, (.pointer (some ⟨b126, 0, none⟩))), (45, (.slice A108 x1.length c109)), (46, (.int .i64 (x1.length : Int))), (47, (.int .i64 (i111 : Int))), (51, (.agg #[(.int .u64 z113.fPid), (.int .i64 z113.fFd), (.int .u64 z113.fWhat)]))] rfl ⟨rfl, rfl, rfl, rfl, rfl, rfl, rfl, rfl, rfl, rfl, trivial⟩ ?_
  refine wo_store Θ_ok rfl rfl rfl rfl rfl rfl rfl hb126 [(.int .u64 z113.fPid), (.int .i64 z113.fFd), (.int .u64 z113.fWhat)] rfl rfl (by simp [Value.oneCell']) rfl [(.int .u64 z113.fPid), (.int .i64 z113.fFd), (.int .u64 z113.fWhat)] rfl (fun w129 hb126 f130 => ?_)
  have h0 := h0.tr (f130.tr (one_in ib126))
  have h2 := h2.tr (f130.tr (one_in ib126))
  have h10 := h10.tr (f130.tr (one_in ib126))
  have h1 := h1.tr (f130.tr (one_in ib126))
  have hg0 := hg0.tr (f130.tr (one_in ib126))
  have T29 := T29.trans (f130.tr (one_in ib126))
  have T110 := T110.trans (f130.tr (one_in ib126))
  have hO := f130.ob hO
  have hF := hF.own f130 gb126
  refine wo_nil ?_
  refine wq_seq ?_
  refine wc_seq ?_
  refine wc_seq ?_
  refine wc_region (l := [0, 1]) rfl ?_
  refine wo_seg Θ_ok [0, 1] [(0, v0), (2, v2), (7, v8), (8, (.bool y18)), (11, (.pointer (some ⟨b126, 0, none⟩))), (45, (.slice A108 x1.length c109)), (46, (.int .i64 (x1.length : Int))), (47, (.int .i64 (i111 : Int))), (53, (.bool ((i111 : Int) == (8 : Int))))] rfl ⟨rfl, rfl, rfl, rfl, rfl, rfl, rfl, rfl, rfl, trivial⟩ ?_
  refine wo_nil ?_
  refine wq_seq ?_
  rcases bif_some h with ⟨hc131, h⟩ | ⟨hc131, h⟩
  · refine wc_known_true rfl hc131 ?_
    refine wc_exit ?_
    exact wq_then_exit (wq_block_past rfl (wq_then_exit (wq_then_exit (wq_block_exit (wq_join hK33 [(0, v0), (2, v2), (7, v8)] ⟨rfl, rfl, rfl, trivial⟩ ⟨b126 :: O115, rfl, T29, hO, hS, hF, h⟩)))))
  refine wc_known_false rfl hc131 ?_
  refine wc_skip ?_
  refine wq_seq ?_
  refine wc_seq ?_
  refine wc_region (l := [0, 1, 2, 3, 4, 5, 6, 7, 8, 9, 10]) rfl ?_
  refine wo_seg Θ_ok [0, 1] [(0, v0), (2, v2), (7, v8), (8, (.bool y18)), (11, (.pointer (some ⟨b126, 0, none⟩))), (45, (.slice A108 x1.length c109)), (46, (.int .i64 (x1.length : Int))), (47, (.int .i64 (i111 : Int))), (55, v8), (56, (.pointer (some ⟨b126, 0, none⟩)))] rfl ⟨rfl, rfl, rfl, rfl, rfl, rfl, rfl, rfl, rfl, rfl, trivial⟩ ?_
  refine wo_load Θ_ok rfl rfl rfl rfl rfl rfl rfl hb126 [(.int .u64 z113.fPid)] rfl rfl (.inr rfl) (.int .u64 z113.fPid) rfl ?_
  refine wo_seg Θ_ok [3] [(0, v0), (2, v2), (7, v8), (8, (.bool y18)), (11, (.pointer (some ⟨b126, 0, none⟩))), (45, (.slice A108 x1.length c109)), (46, (.int .i64 (x1.length : Int))), (47, (.int .i64 (i111 : Int))), (55, v8), (57, (.int .u64 z113.fPid)), (58, (.pointer (some ⟨b126, 1, none⟩)))] rfl ⟨rfl, rfl, rfl, rfl, rfl, rfl, rfl, rfl, rfl, rfl, rfl, trivial⟩ ?_
  refine wo_load Θ_ok rfl rfl rfl rfl rfl rfl rfl hb126 [(.int .i64 z113.fFd)] rfl rfl (.inr rfl) (.int .i64 z113.fFd) rfl ?_
  obtain ⟨y136, hy137, h⟩ := bind_some h
  refine wo_gives rfl rfl rfl rfl rfl ent15 rfl (d_Has_c hO h10 (int_is.2 rfl) (int_is.2 rfl) hy137) (fun v132 w133 h134 f135 => ?_)
  have h0 := h0.tr f135.tr0
  have h2 := h2.tr f135.tr0
  have h10 := h10.tr f135.tr0
  have h1 := h1.tr f135.tr0
  have hg0 := hg0.tr f135.tr0
  have hb126 := hb126.fr0 f135
  have T29 := T29.trans f135.tr0
  have T110 := T110.trans f135.tr0
  have hO := f135.ob hO
  have hF := hF.trans f135
  obtain ⟨u138, u140, rfl, h139, h141⟩ := h134
  obtain rfl := int_is.1 h139
  obtain rfl := bool_is.1 h141
  refine wo_seg Θ_ok [6, 7, 8, 9, 10] [(0, v0), (2, v2), (7, v8), (8, (.bool y18)), (11, (.pointer (some ⟨b126, 0, none⟩))), (12, (.int .u64 y136.1)), (13, (.bool y136.2)), (45, (.slice A108 x1.length c109)), (46, (.int .i64 (x1.length : Int))), (47, (.int .i64 (i111 : Int)))] rfl ⟨rfl, rfl, rfl, rfl, rfl, rfl, rfl, rfl, rfl, rfl, trivial⟩ ?_
  refine wo_nil ?_
  refine wq_seq ?_
  refine wc_seq ?_
  refine wc_region (l := [0, 1]) rfl ?_
  refine wo_seg Θ_ok [0, 1] [(0, v0), (2, v2), (7, v8), (8, (.bool y18)), (11, (.pointer (some ⟨b126, 0, none⟩))), (12, (.int .u64 y136.1)), (13, (.bool y136.2)), (14, (.int .i64 (-1))), (15, (.int .i64 0)), (45, (.slice A108 x1.length c109)), (46, (.int .i64 (x1.length : Int))), (47, (.int .i64 (i111 : Int)))] rfl ⟨rfl, rfl, rfl, rfl, rfl, rfl, rfl, rfl, rfl, rfl, rfl, rfl, trivial⟩ ?_
  refine wo_nil ?_
  refine wq_seq ?_
  obtain ⟨k143, hk144, h⟩ := letk_some h
  refine wc_join (fun E W => ∃ (O149 : List Nat) (p147 : Int) (p148 : Int), E = [(0, v0), (2, v2), (7, v8), (8, (.bool y18)), (11, (.pointer (some ⟨b126, 0, none⟩))), (12, (.int .u64 y136.1)), (13, (.bool y136.2)), (14, (.int .i64 p147)), (15, (.int .i64 p148)), (45, (.slice A108 x1.length c109)), (46, (.int .i64 (x1.length : Int))), (47, (.int .i64 (i111 : Int)))] ∧ Tr (b126 :: O115) w133 O149 W ∧ OB O149 W ∧ Sub O O149 ∧ Fr [] w W ∧ b126 ∈ O149 ∧ Blk W b126 29 [(.int .u64 z113.fPid), (.int .i64 z113.fFd), (.int .u64 z113.fWhat)] ∧ k143 p147 p148 = some r) ?_ (fun K145 hK146 => ?_)
  rotate_left
  · clear hk144
    have T142 := Tr.refl (b126 :: O115) w133
    refine wc_seq ?_
    refine wc_region (l := [0]) rfl ?_
    refine wo_seg Θ_ok [0] [(0, v0), (2, v2), (7, v8), (8, (.bool y18)), (11, (.pointer (some ⟨b126, 0, none⟩))), (12, (.int .u64 y136.1)), (13, (.bool y136.2)), (14, (.int .i64 (-1))), (15, (.int .i64 0)), (45, (.slice A108 x1.length c109)), (46, (.int .i64 (x1.length : Int))), (47, (.int .i64 (i111 : Int))), (63, (.bool y18))] rfl ⟨rfl, rfl, rfl, rfl, rfl, rfl, rfl, rfl, rfl, rfl, rfl, rfl, rfl, trivial⟩ ?_
    refine wo_nil ?_
    refine wq_seq ?_
    rcases bif_some h with ⟨hc302, h⟩ | ⟨hc302, h⟩
    rotate_left
    · refine wc_known_false rfl hc302 ?_
      refine wc_skip ?_
      exact wq_join hK146 [(0, v0), (2, v2), (7, v8), (8, (.bool y18)), (11, (.pointer (some ⟨b126, 0, none⟩))), (12, (.int .u64 y136.1)), (13, (.bool y136.2)), (14, (.int .i64 (-1))), (15, (.int .i64 0)), (45, (.slice A108 x1.length c109)), (46, (.int .i64 (x1.length : Int))), (47, (.int .i64 (i111 : Int)))] ⟨rfl, rfl, rfl, rfl, rfl, rfl, rfl, rfl, rfl, rfl, rfl, rfl, trivial⟩ ⟨b126 :: O115, (-1 : Int), (0 : Int), rfl, T142, hO, hS, hF, ib126, hb126, h⟩
    refine wc_known_true rfl hc302 ?_
    refine wc_draw mixed [⟨64, [], [7]⟩, ⟨65, [], [11]⟩, ⟨66, [1], []⟩, ⟨67, [], [11]⟩, ⟨68, [3], []⟩, ⟨69, [0, 2, 4], []⟩, ⟨70, [], [7]⟩, ⟨71, [], [11]⟩, ⟨72, [7], []⟩, ⟨73, [6, 8], []⟩, ⟨14, [5], []⟩, ⟨15, [9], []⟩] [SP.is (Ty.slice tGDesc) (b126 :: O115) y12, SP.eq (.pointer (some ⟨b126, 0, none⟩)), SP.eq (.int .u64 z113.fPid), SP.eq (.pointer (some ⟨b126, 1, none⟩)), SP.eq (.int .i64 z113.fFd), SP.eq (.int .i64 (r_Find y12 z113.fPid z113.fFd)), SP.is (Ty.slice tGDesc) (b126 :: O115) y12, SP.eq (.pointer (some ⟨b126, 2, none⟩)), SP.eq (.int .u64 z113.fWhat), SP.eq (.int .i64 (r_Count y12 z113.fWhat)), SP.eq (.int .i64 (r_Find y12 z113.fPid z113.fFd)), SP.eq (.int .i64 (r_Count y12 z113.fWhat))] rfl rfl rfl ⟨?_, ?_, ?_, ?_, ?_, ?_, ?_, ?_, ?_, ?_, ?_, ?_, trivial⟩ ?_
    · intro a w2 hfr hN hds hb hd
      have h10 := h10.tr hfr.tr0
      exact (op_plain Θ_ok ⟨hN, hds, rows_get (E := [(7, v8)]) ⟨hb 7 rfl _ rfl, trivial⟩⟩ rfl rfl rfl rfl rfl).weaken (fun u w3 ⟨hu, hf⟩ => by subst hu; exact ⟨h10.tr hf.tr0, hf⟩)
    · intro a w2 hfr hN hds hb hd
      exact op_plain Θ_ok ⟨hN, hds, rows_get (E := [(11, (.pointer (some ⟨b126, 0, none⟩)))]) ⟨hb 11 rfl _ rfl, trivial⟩⟩ rfl rfl rfl rfl rfl
    · intro a w2 hfr hN hds hb hd
      have hb126 := hb126.fr0 hfr
      exact op_load Θ_ok ⟨hN, hds, rows_get (E := [(65, (.pointer (some ⟨b126, 0, none⟩)))]) ⟨(hd 1 rfl _ _ rfl rfl), trivial⟩⟩ rfl rfl rfl rfl rfl rfl hb126 [(.int .u64 z113.fPid)] rfl rfl (.inr rfl) (.int .u64 z113.fPid) rfl
    · intro a w2 hfr hN hds hb hd
      exact op_plain Θ_ok ⟨hN, hds, rows_get (E := [(11, (.pointer (some ⟨b126, 0, none⟩)))]) ⟨hb 11 rfl _ rfl, trivial⟩⟩ rfl rfl rfl rfl rfl
    · intro a w2 hfr hN hds hb hd
      have hb126 := hb126.fr0 hfr
      exact op_load Θ_ok ⟨hN, hds, rows_get (E := [(67, (.pointer (some ⟨b126, 1, none⟩)))]) ⟨(hd 3 rfl _ _ rfl rfl), trivial⟩⟩ rfl rfl rfl rfl rfl rfl hb126 [(.int .i64 z113.fFd)] rfl rfl (.inr rfl) (.int .i64 z113.fFd) rfl
    · intro a w2 hfr hN hds hb hd
      have d305 : (Ty.slice tGDesc).is (b126 :: O115) w2 (a.tmps.getD 64 undef) y12 := hd 0 rfl _ _ rfl rfl
      obtain ⟨u303, e304⟩ : ∃ v, a.tmps.getD 64 undef = v := ⟨_, rfl⟩
      rw [e304] at d305
      exact (op_call ⟨hN, hds, rows_get (E := [(64, u303), (66, (.int .u64 z113.fPid)), (68, (.int .i64 z113.fFd))]) ⟨e304, (hd 2 rfl _ _ rfl rfl), (hd 4 rfl _ _ rfl rfl), trivial⟩⟩ rfl rfl rfl rfl ent16 rfl (r_Find_c (hfr.ob hO) d305 (int_is.2 rfl) (int_is.2 rfl))).weaken (fun u w3 ⟨hu, hf⟩ => ⟨int_is.1 hu, hf⟩)
    · intro a w2 hfr hN hds hb hd
      have h10 := h10.tr hfr.tr0
      exact (op_plain Θ_ok ⟨hN, hds, rows_get (E := [(7, v8)]) ⟨hb 7 rfl _ rfl, trivial⟩⟩ rfl rfl rfl rfl rfl).weaken (fun u w3 ⟨hu, hf⟩ => by subst hu; exact ⟨h10.tr hf.tr0, hf⟩)
    · intro a w2 hfr hN hds hb hd
      exact op_plain Θ_ok ⟨hN, hds, rows_get (E := [(11, (.pointer (some ⟨b126, 0, none⟩)))]) ⟨hb 11 rfl _ rfl, trivial⟩⟩ rfl rfl rfl rfl rfl
    · intro a w2 hfr hN hds hb hd
      have hb126 := hb126.fr0 hfr
      exact op_load Θ_ok ⟨hN, hds, rows_get (E := [(71, (.pointer (some ⟨b126, 2, none⟩)))]) ⟨(hd 7 rfl _ _ rfl rfl), trivial⟩⟩ rfl rfl rfl rfl rfl rfl hb126 [(.int .u64 z113.fWhat)] rfl rfl (.inr rfl) (.int .u64 z113.fWhat) rfl
    · intro a w2 hfr hN hds hb hd
      have d308 : (Ty.slice tGDesc).is (b126 :: O115) w2 (a.tmps.getD 70 undef) y12 := hd 6 rfl _ _ rfl rfl
      obtain ⟨u306, e307⟩ : ∃ v, a.tmps.getD 70 undef = v := ⟨_, rfl⟩
      rw [e307] at d308
      exact (op_call ⟨hN, hds, rows_get (E := [(70, u306), (72, (.int .u64 z113.fWhat))]) ⟨e307, (hd 8 rfl _ _ rfl rfl), trivial⟩⟩ rfl rfl rfl rfl ent17 rfl (r_Count_c (hfr.ob hO) d308 (int_is.2 rfl))).weaken (fun u w3 ⟨hu, hf⟩ => ⟨int_is.1 hu, hf⟩)
    · intro a w2 hfr hN hds hb hd
      exact op_plain Θ_ok ⟨hN, hds, rows_get (E := [(69, (.int .i64 (r_Find y12 z113.fPid z113.fFd)))]) ⟨(hd 5 rfl _ _ rfl rfl), trivial⟩⟩ rfl rfl rfl rfl rfl
    · intro a w2 hfr hN hds hb hd
      exact op_plain Θ_ok ⟨hN, hds, rows_get (E := [(73, (.int .i64 (r_Count y12 z113.fWhat)))]) ⟨(hd 9 rfl _ _ rfl rfl), trivial⟩⟩ rfl rfl rfl rfl rfl
    intro a w310 f309 hN hds hb hr
    have h0 := h0.tr f309.tr0
    have h2 := h2.tr f309.tr0
    have h10 := h10.tr f309.tr0
    have h1 := h1.tr f309.tr0
    have hg0 := hg0.tr f309.tr0
    have hb126 := hb126.fr0 f309
    have T29 := T29.trans f309.tr0
    have T110 := T110.trans f309.tr0
    have T142 := T142.trans f309.tr0
    have hO := f309.ob hO
    have hF := hF.trans f309
    refine wq_go (E := [(0, v0), (2, v2), (7, v8), (8, (.bool y18)), (11, (.pointer (some ⟨b126, 0, none⟩))), (12, (.int .u64 y136.1)), (13, (.bool y136.2)), (45, (.slice A108 x1.length c109)), (46, (.int .i64 (x1.length : Int))), (47, (.int .i64 (i111 : Int))), (14, (.int .i64 (r_Find y12 z113.fPid z113.fFd))), (15, (.int .i64 (r_Count y12 z113.fWhat)))]) hN hds ⟨hb 0 _ rfl rfl, hb 2 _ rfl rfl, hb 7 _ rfl rfl, hb 8 _ rfl rfl, hb 11 _ rfl rfl, hb 12 _ rfl rfl, hb 13 _ rfl rfl, hb 45 _ rfl rfl, hb 46 _ rfl rfl, hb 47 _ rfl rfl, (hr 10 _ _ rfl rfl), (hr 11 _ _ rfl rfl), trivial⟩ ?_
    exact wq_join hK146 [(0, v0), (2, v2), (7, v8), (8, (.bool y18)), (11, (.pointer (some ⟨b126, 0, none⟩))), (12, (.int .u64 y136.1)), (13, (.bool y136.2)), (14, (.int .i64 (r_Find y12 z113.fPid z113.fFd))), (15, (.int .i64 (r_Count y12 z113.fWhat))), (45, (.slice A108 x1.length c109)), (46, (.int .i64 (x1.length : Int))), (47, (.int .i64 (i111 : Int)))] ⟨rfl, rfl, rfl, rfl, rfl, rfl, rfl, rfl, rfl, rfl, rfl, rfl, trivial⟩ ⟨b126 :: O115, (r_Find y12 z113.fPid z113.fFd), (r_Count y12 z113.fWhat), rfl, T142, hO, hS, hF, ib126, hb126, h⟩
  rintro E w150 ⟨O149, p147, p148, rfl, T142, hO, hS, hF, ib126, hb126, h⟩
  have T29 := T29.trans T142
  have T110 := T110.trans T142
  have h0 := h0.tr T142
  have h2 := h2.tr T142
  have h10 := h10.tr T142
  have h1 := h1.tr T142
  have hg0 := hg0.tr T142
  subst hk144
  (try dsimp only at h)
  refine wc_seq ?_
  refine wc_seq ?_
  refine wc_region (l := [0, 1, 2, 3, 4, 5, 6, 7, 8, 9, 10, 11, 12, 13, 14, 15, 16, 17, 18, 19, 20, 21, 22, 23, 24, 25, 26, 27, 28, 29, 30, 31, 32]) rfl ?_
  refine wo_seg Θ_ok [0, 1, 2, 3, 4] [(0, v0), (2, v2), (7, v8), (8, (.bool y18)), (11, (.pointer (some ⟨b126, 0, none⟩))), (12, (.int .u64 y136.1)), (14, (.int .i64 p147)), (15, (.int .i64 p148)), (45, (.slice A108 x1.length c109)), (46, (.int .i64 (x1.length : Int))), (47, (.int .i64 (i111 : Int))), (78, (.bool (!(y136.2 == (decide (p147 ≥ (0 : Int)))))))] rfl ⟨rfl, rfl, rfl, rfl, rfl, rfl, rfl, rfl, rfl, rfl, rfl, rfl, trivial⟩ ?_
  rcases bif_some h with ⟨hc151, h⟩ | ⟨hc151, h⟩
  · refine wo_know 78 true rfl hc151 ?_
    refine wo_seg Θ_ok [5, 6, 7, 8, 9, 10, 11, 12, 13, 14, 15, 16, 17, 18, 19, 20, 21, 22, 23, 24, 25, 26, 27, 28, 29, 30, 31, 32] [(0, v0), (2, v2), (7, v8), (8, (.bool y18)), (11, (.pointer (some ⟨b126, 0, none⟩))), (45, (.slice A108 x1.length c109)), (46, (.int .i64 (x1.length : Int))), (47, (.int .i64 (i111 : Int))), (106, (.bool true))] rfl ⟨rfl, rfl, rfl, rfl, rfl, rfl, rfl, rfl, rfl, trivial⟩ ?_
    refine wo_nil ?_
    refine wq_seq ?_
    refine wc_true rfl ?_
    refine wc_seq ?_
    refine wc_region (l := [0]) rfl ?_
    refine wo_seg Θ_ok [0] [(6, (.bool false))] rfl ⟨rfl, trivial⟩ ?_
    refine wo_nil ?_
    refine wq_seq ?_
    refine wc_ret ?_
    cases h
    exact wq_then_ret (wq_block_ret (wq_then_ret (wq_then_ret (wq_block_ret (wq_then_ret (wq_ret rfl ⟨_, rfl, (bool_is.2 rfl), hF⟩))))))
  refine wo_know 78 false rfl hc151 ?_
  refine wo_seg Θ_ok [5, 6, 7] [(0, v0), (2, v2), (7, v8), (8, (.bool y18)), (11, (.pointer (some ⟨b126, 0, none⟩))), (12, (.int .u64 y136.1)), (14, (.int .i64 p147)), (15, (.int .i64 p148)), (45, (.slice A108 x1.length c109)), (46, (.int .i64 (x1.length : Int))), (47, (.int .i64 (i111 : Int))), (78, (.bool false)), (81, (.bool (decide (p147 ≥ (0 : Int)))))] rfl ⟨rfl, rfl, rfl, rfl, rfl, rfl, rfl, rfl, rfl, rfl, rfl, rfl, rfl, trivial⟩ ?_
  rcases bif_some h with ⟨hc152, h⟩ | ⟨hc152, h⟩
  rotate_left
  · refine wo_know 81 false rfl hc152 ?_
    refine wo_seg Θ_ok [8, 9, 10, 11, 12, 13, 14, 15, 16, 17, 18, 19, 20] [(0, v0), (2, v2), (7, v8), (8, (.bool y18)), (11, (.pointer (some ⟨b126, 0, none⟩))), (12, (.int .u64 y136.1)), (15, (.int .i64 p148)), (45, (.slice A108 x1.length c109)), (46, (.int .i64 (x1.length : Int))), (47, (.int .i64 (i111 : Int))), (91, (.bool false)), (94, (.bool (decide (p147 < (0 : Int)))))] rfl ⟨rfl, rfl, rfl, rfl, rfl, rfl, rfl, rfl, rfl, rfl, rfl, rfl, trivial⟩ ?_
    rcases bif_some h with ⟨hc232, h⟩ | ⟨hc232, h⟩
    rotate_left
    · refine wo_know 94 false rfl hc232 ?_
      refine wo_seg Θ_ok [21, 22, 23, 24, 25, 26, 27] [(0, v0), (2, v2), (7, v8), (8, (.bool y18)), (11, (.pointer (some ⟨b126, 0, none⟩))), (15, (.int .i64 p148)), (45, (.slice A108 x1.length c109)), (46, (.int .i64 (x1.length : Int))), (47, (.int .i64 (i111 : Int))), (99, (.bool false)), (100, v8), (101, (.pointer (some ⟨b126, 2, none⟩)))] rfl ⟨rfl, rfl, rfl, rfl, rfl, rfl, rfl, rfl, rfl, rfl, rfl, rfl, trivial⟩ ?_
      refine wo_load Θ_ok rfl rfl rfl rfl rfl rfl rfl hb126 [(.int .u64 z113.fWhat)] rfl rfl (.inr rfl) (.int .u64 z113.fWhat) rfl ?_
      obtain ⟨y272, hy273, h⟩ := bind_some h
      refine wo_gives rfl rfl rfl rfl rfl ent18 rfl (d_Count_c hO h10 (int_is.2 rfl) hy273) (fun v268 w269 h270 f271 => ?_)
      have h0 := h0.tr f271.tr0
      have h2 := h2.tr f271.tr0
      have h10 := h10.tr f271.tr0
      have h1 := h1.tr f271.tr0
      have hg0 := hg0.tr f271.tr0
      have hb126 := hb126.fr0 f271
      have T29 := T29.trans f271.tr0
      have T110 := T110.trans f271.tr0
      have hO := f271.ob hO
      have hF := hF.trans f271
      obtain rfl := int_is.1 h270
      refine wo_seg Θ_ok [30, 31, 32] [(0, v0), (2, v2), (7, v8), (8, (.bool y18)), (11, (.pointer (some ⟨b126, 0, none⟩))), (45, (.slice A108 x1.length c109)), (46, (.int .i64 (x1.length : Int))), (47, (.int .i64 (i111 : Int))), (106, (.bool (y272 != p148)))] rfl ⟨rfl, rfl, rfl, rfl, rfl, rfl, rfl, rfl, rfl, trivial⟩ ?_
      refine wo_nil ?_
      refine wq_seq ?_
      rcases bif_some h with ⟨hc274, h⟩ | ⟨hc274, h⟩
      · refine wc_known_true rfl hc274 ?_
        refine wc_seq ?_
        refine wc_region (l := [0]) rfl ?_
        refine wo_seg Θ_ok [0] [(6, (.bool false))] rfl ⟨rfl, trivial⟩ ?_
        refine wo_nil ?_
        refine wq_seq ?_
        refine wc_ret ?_
        cases h
        exact wq_then_ret (wq_block_ret (wq_then_ret (wq_then_ret (wq_block_ret (wq_then_ret (wq_ret rfl ⟨_, rfl, (bool_is.2 rfl), hF⟩))))))
      refine wc_known_false rfl hc274 ?_
      refine wc_skip ?_
      refine wq_seq ?_
      refine wc_seq ?_
      refine wc_region (l := [0, 1, 2, 3, 4, 5, 6]) rfl ?_
      refine wo_load Θ_ok rfl rfl rfl rfl rfl rfl rfl hb126 [(.int .u64 z113.fPid), (.int .i64 z113.fFd), (.int .u64 z113.fWhat)] rfl rfl (.inl rfl) (.agg #[(.int .u64 z113.fPid), (.int .i64 z113.fFd), (.int .u64 z113.fWhat)]) rfl ?_
      obtain ⟨y279, hy280, h⟩ := bind_some h
      refine wo_gives rfl rfl rfl rfl rfl ent19 rfl (d_Key_c hO hg0 ((tGDesc_is (x := z113)).2 rfl) hy280) (fun v275 w276 h277 f278 => ?_)
      have h0 := h0.tr f278.tr0
      have h2 := h2.tr f278.tr0
      have h10 := h10.tr f278.tr0
      have h1 := h1.tr f278.tr0
      have hg0 := hg0.tr f278.tr0
      have hb126 := hb126.fr0 f278
      have T29 := T29.trans f278.tr0
      have T110 := T110.trans f278.tr0
      have hO := f278.ob hO
      have hF := hF.trans f278
      obtain ⟨u281, u283, rfl, h282, h284⟩ := h277
      obtain rfl := int_is.1 h282
      obtain rfl := int_is.1 h284
      refine wo_seg Θ_ok [2, 3, 4, 5, 6] [(0, v0), (2, v2), (7, v8), (8, (.bool y18)), (11, (.pointer (some ⟨b126, 0, none⟩))), (16, (.int .u64 y279.1)), (17, (.int .i64 y279.2)), (45, (.slice A108 x1.length c109)), (46, (.int .i64 (x1.length : Int))), (47, (.int .i64 (i111 : Int)))] rfl ⟨rfl, rfl, rfl, rfl, rfl, rfl, rfl, rfl, rfl, rfl, trivial⟩ ?_
      refine wo_nil ?_
      refine wq_seq ?_
      refine wc_seq ?_
      refine wc_region (l := [0, 1, 2]) rfl ?_
      refine wo_load Θ_ok rfl rfl rfl rfl rfl rfl rfl hb126 [(.int .u64 z113.fPid), (.int .i64 z113.fFd), (.int .u64 z113.fWhat)] rfl rfl (.inl rfl) (.agg #[(.int .u64 z113.fPid), (.int .i64 z113.fFd), (.int .u64 z113.fWhat)]) rfl ?_
      refine wo_gives rfl rfl rfl rfl rfl ent20 rfl (r_Is_c hO ((tGDesc_is (x := z113)).2 rfl)) (fun v285 w286 h287 f288 => ?_)
      have h0 := h0.tr f288.tr0
      have h2 := h2.tr f288.tr0
      have h10 := h10.tr f288.tr0
      have h1 := h1.tr f288.tr0
      have hg0 := hg0.tr f288.tr0
      have hb126 := hb126.fr0 f288
      have T29 := T29.trans f288.tr0
      have T110 := T110.trans f288.tr0
      have hO := f288.ob hO
      have hF := hF.trans f288
      obtain rfl := bool_is.1 h287
      refine wo_seg Θ_ok [2] [(0, v0), (2, v2), (7, v8), (8, (.bool y18)), (11, (.pointer (some ⟨b126, 0, none⟩))), (16, (.int .u64 y279.1)), (17, (.int .i64 y279.2)), (18, (.bool ((r_Is z113)))), (45, (.slice A108 x1.length c109)), (46, (.int .i64 (x1.length : Int))), (47, (.int .i64 (i111 : Int)))] rfl ⟨rfl, rfl, rfl, rfl, rfl, rfl, rfl, rfl, rfl, rfl, rfl, trivial⟩ ?_
      refine wo_nil ?_
      refine wq_seq ?_
      refine wc_seq ?_
      refine wc_region (l := [0, 1, 2, 3, 4, 5, 6, 7, 8, 9, 10, 11, 12, 13, 14, 15, 16, 17, 18, 19, 20, 21, 22, 23, 24]) rfl ?_
      refine wo_seg Θ_ok [0, 1, 2, 3, 4] [(0, v0), (2, v2), (7, v8), (8, (.bool y18)), (11, (.pointer (some ⟨b126, 0, none⟩))), (16, (.int .u64 y279.1)), (17, (.int .i64 y279.2)), (18, (.bool ((r_Is z113)))), (45, (.slice A108 x1.length c109)), (46, (.int .i64 (x1.length : Int))), (47, (.int .i64 (i111 : Int))), (118, (.bool (!((y279.2 == (0 : Int)) == (r_Is z113)))))] rfl ⟨rfl, rfl, rfl, rfl, rfl, rfl, rfl, rfl, rfl, rfl, rfl, rfl, trivial⟩ ?_
      rcases bif_some h with ⟨hc289, h⟩ | ⟨hc289, h⟩
      · refine wo_know 118 true rfl hc289 ?_
        refine wo_seg Θ_ok [5, 6, 7, 8, 9, 10, 11, 12, 13, 14, 15, 16, 17, 18, 19, 20, 21, 22, 23, 24] [(0, v0), (2, v2), (7, v8), (8, (.bool y18)), (45, (.slice A108 x1.length c109)), (46, (.int .i64 (x1.length : Int))), (47, (.int .i64 (i111 : Int))), (138, (.bool true))] rfl ⟨rfl, rfl, rfl, rfl, rfl, rfl, rfl, rfl, trivial⟩ ?_
        refine wo_nil ?_
        refine wq_seq ?_
        refine wc_true rfl ?_
        refine wc_seq ?_
        refine wc_region (l := [0]) rfl ?_
        refine wo_seg Θ_ok [0] [(6, (.bool false))] rfl ⟨rfl, trivial⟩ ?_
        refine wo_nil ?_
        refine wq_seq ?_
        refine wc_ret ?_
        cases h
        exact wq_block_ret (wq_then_ret (wq_then_ret (wq_block_ret (wq_then_ret (wq_ret rfl ⟨_, rfl, (bool_is.2 rfl), hF⟩)))))
      refine wo_know 118 false rfl hc289 ?_
      refine wo_seg Θ_ok [5, 6] [(0, v0), (2, v2), (7, v8), (8, (.bool y18)), (11, (.pointer (some ⟨b126, 0, none⟩))), (16, (.int .u64 y279.1)), (17, (.int .i64 y279.2)), (18, (.bool ((r_Is z113)))), (45, (.slice A108 x1.length c109)), (46, (.int .i64 (x1.length : Int))), (47, (.int .i64 (i111 : Int))), (118, (.bool false)), (120, (.bool ((r_Is z113))))] rfl ⟨rfl, rfl, rfl, rfl, rfl, rfl, rfl, rfl, rfl, rfl, rfl, rfl, rfl, trivial⟩ ?_
      rcases bif_some h with ⟨hc290, h⟩ | ⟨hc290, h⟩
      rotate_left
      · refine wo_know 120 false rfl hc290 ?_
        refine wo_seg Θ_ok [7, 8, 9, 10, 11, 12, 13, 14, 15, 16] [(0, v0), (2, v2), (7, v8), (8, (.bool y18)), (16, (.int .u64 y279.1)), (17, (.int .i64 y279.2)), (45, (.slice A108 x1.length c109)), (46, (.int .i64 (x1.length : Int))), (47, (.int .i64 (i111 : Int))), (127, (.bool false)), (130, (.bool (!(r_Is z113))))] rfl ⟨rfl, rfl, rfl, rfl, rfl, rfl, rfl, rfl, rfl, rfl, rfl, trivial⟩ ?_
        rcases bif_some h with ⟨hc299, h⟩ | ⟨hc299, h⟩
        rotate_left
        · refine wo_know 130 false rfl hc299 ?_
          refine wo_seg Θ_ok [17, 18, 19, 20, 21, 22, 23, 24] [(0, v0), (2, v2), (7, v8), (8, (.bool y18)), (45, (.slice A108 x1.length c109)), (46, (.int .i64 (x1.length : Int))), (47, (.int .i64 (i111 : Int))), (138, (.bool false))] rfl ⟨rfl, rfl, rfl, rfl, rfl, rfl, rfl, rfl, trivial⟩ ?_
          refine wo_nil ?_
          refine wq_seq ?_
          refine wc_false rfl ?_
          refine wc_skip ?_
          refine wq_block (wq_seq ?_)
          refine wc_region (l := [0, 1]) rfl ?_
          refine wo_seg Θ_ok [0, 1] [(0, v0), (2, v2), (7, v8), (8, (.bool y18)), (45, (.slice A108 x1.length c109)), (46, (.int .i64 (x1.length : Int))), (47, (.int .i64 (IntKind.i64.wrap ((i111 : Int) + (1 : Int)))))] rfl ⟨rfl, rfl, rfl, rfl, rfl, rfl, rfl, trivial⟩ ?_
          refine wo_nil ?_
          exact wq_next rest112.length [(0, v0), (2, v2), (7, v8), (8, (.bool y18)), (45, (.slice A108 x1.length c109)), (46, (.int .i64 (x1.length : Int))), (47, (.int .i64 ((i111 + 1 : Nat) : Int)))] (Nat.lt_succ_self _) ⟨rfl, rfl, rfl, rfl, rfl, rfl, congrArg (fun z => some (Value.int .i64 z)) (wrap_succ hl121 (Nat.le_trans hlc109 hmc109)), trivial⟩ ⟨rest112, i111 + 1, O149, rfl, hd114, rfl, T110, hO, hS, hF, h⟩
        refine wo_know 130 true rfl hc299 ?_
        refine wo_seg Θ_ok [17, 18, 19] [(0, v0), (2, v2), (7, v8), (8, (.bool y18)), (17, (.int .i64 y279.2)), (45, (.slice A108 x1.length c109)), (46, (.int .i64 (x1.length : Int))), (47, (.int .i64 (i111 : Int))), (127, (.bool false)), (130, (.bool true)), (133, (.bool (y279.1 != (0 : Int))))] rfl ⟨rfl, rfl, rfl, rfl, rfl, rfl, rfl, rfl, rfl, rfl, rfl, trivial⟩ ?_
        rcases bif_some h with ⟨hc300, h⟩ | ⟨hc300, h⟩
        · refine wo_know 133 true rfl hc300 ?_
          refine wo_seg Θ_ok [20, 21, 22, 23, 24] [(0, v0), (2, v2), (7, v8), (8, (.bool y18)), (45, (.slice A108 x1.length c109)), (46, (.int .i64 (x1.length : Int))), (47, (.int .i64 (i111 : Int))), (138, (.bool true))] rfl ⟨rfl, rfl, rfl, rfl, rfl, rfl, rfl, rfl, trivial⟩ ?_
          refine wo_nil ?_
          refine wq_seq ?_
          refine wc_true rfl ?_
          refine wc_seq ?_
          refine wc_region (l := [0]) rfl ?_
          refine wo_seg Θ_ok [0] [(6, (.bool false))] rfl ⟨rfl, trivial⟩ ?_
          refine wo_nil ?_
          refine wq_seq ?_
          refine wc_ret ?_
          cases h
          exact wq_block_ret (wq_then_ret (wq_then_ret (wq_block_ret (wq_then_ret (wq_ret rfl ⟨_, rfl, (bool_is.2 rfl), hF⟩)))))
        refine wo_know 133 false rfl hc300 ?_
        refine wo_seg Θ_ok [20, 21, 22, 23, 24] [(0, v0), (2, v2), (7, v8), (8, (.bool y18)), (45, (.slice A108 x1.length c109)), (46, (.int .i64 (x1.length : Int))), (47, (.int .i64 (i111 : Int))), (138, (.bool (y279.2 != (2 : Int))))] rfl ⟨rfl, rfl, rfl, rfl, rfl, rfl, rfl, rfl, trivial⟩ ?_
        refine wo_nil ?_
        refine wq_seq ?_
        rcases bif_some h with ⟨hc301, h⟩ | ⟨hc301, h⟩
        rotate_left
        · refine wc_known_false rfl hc301 ?_
          refine wc_skip ?_
          refine wq_block (wq_seq ?_)
          refine wc_region (l := [0, 1]) rfl ?_
          refine wo_seg Θ_ok [0, 1] [(0, v0), (2, v2), (7, v8), (8, (.bool y18)), (45, (.slice A108 x1.length c109)), (46, (.int .i64 (x1.length : Int))), (47, (.int .i64 (IntKind.i64.wrap ((i111 : Int) + (1 : Int)))))] rfl ⟨rfl, rfl, rfl, rfl, rfl, rfl, rfl, trivial⟩ ?_
          refine wo_nil ?_
          exact wq_next rest112.length [(0, v0), (2, v2), (7, v8), (8, (.bool y18)), (45, (.slice A108 x1.length c109)), (46, (.int .i64 (x1.length : Int))), (47, (.int .i64 ((i111 + 1 : Nat) : Int)))] (Nat.lt_succ_self _) ⟨rfl, rfl, rfl, rfl, rfl, rfl, congrArg (fun z => some (Value.int .i64 z)) (wrap_succ hl121 (Nat.le_trans hlc109 hmc109)), trivial⟩ ⟨rest112, i111 + 1, O149, rfl, hd114, rfl, T110, hO, hS, hF, h⟩
        refine wc_known_true rfl hc301 ?_
        refine wc_seq ?_
        refine wc_region (l := [0]) rfl ?_
        refine wo_seg Θ_ok [0] [(6, (.bool false))] rfl ⟨rfl, trivial⟩ ?_
        refine wo_nil ?_
        refine wq_seq ?_
        refine wc_ret ?_
        cases h
        exact wq_block_ret (wq_then_ret (wq_then_ret (wq_block_ret (wq_then_ret (wq_ret rfl ⟨_, rfl, (bool_is.2 rfl), hF⟩)))))
      refine wo_know 120 true rfl hc290 ?_
      refine wo_seg Θ_ok [7] [(0, v0), (2, v2), (7, v8), (8, (.bool y18)), (11, (.pointer (some ⟨b126, 0, none⟩))), (16, (.int .u64 y279.1)), (17, (.int .i64 y279.2)), (18, (.bool ((r_Is z113)))), (45, (.slice A108 x1.length c109)), (46, (.int .i64 (x1.length : Int))), (47, (.int .i64 (i111 : Int))), (118, (.bool false)), (120, (.bool true)), (121, (.int .u64 y279.1))] rfl ⟨rfl, rfl, rfl, rfl, rfl, rfl, rfl, rfl, rfl, rfl, rfl, rfl, rfl, rfl, trivial⟩ ?_
      refine wo_load Θ_ok rfl rfl rfl rfl rfl rfl rfl hb126 [(.int .u64 z113.fPid), (.int .i64 z113.fFd), (.int .u64 z113.fWhat)] rfl rfl (.inl rfl) (.agg #[(.int .u64 z113.fPid), (.int .i64 z113.fFd), (.int .u64 z113.fWhat)]) rfl ?_
      refine wo_gives rfl rfl rfl rfl rfl ent21 rfl (r_Key_c hO ((tGDesc_is (x := z113)).2 rfl)) (fun v291 w292 h293 f294 => ?_)
      have h0 := h0.tr f294.tr0
      have h2 := h2.tr f294.tr0
      have h10 := h10.tr f294.tr0
      have h1 := h1.tr f294.tr0
      have hg0 := hg0.tr f294.tr0
      have T29 := T29.trans f294.tr0
      have T110 := T110.trans f294.tr0
      have hO := f294.ob hO
      have hF := hF.trans f294
      obtain rfl := int_is.1 h293
      refine wo_seg Θ_ok [10, 11, 12, 13] [(0, v0), (2, v2), (7, v8), (8, (.bool y18)), (16, (.int .u64 y279.1)), (17, (.int .i64 y279.2)), (18, (.bool ((r_Is z113)))), (45, (.slice A108 x1.length c109)), (46, (.int .i64 (x1.length : Int))), (47, (.int .i64 (i111 : Int))), (127, (.bool (y279.1 != (r_Key z113))))] rfl ⟨rfl, rfl, rfl, rfl, rfl, rfl, rfl, rfl, rfl, rfl, rfl, trivial⟩ ?_
      rcases bif_some h with ⟨hc295, h⟩ | ⟨hc295, h⟩
      · refine wo_know 127 true rfl hc295 ?_
        refine wo_seg Θ_ok [14, 15, 16, 17, 18, 19, 20, 21, 22, 23, 24] [(0, v0), (2, v2), (7, v8), (8, (.bool y18)), (45, (.slice A108 x1.length c109)), (46, (.int .i64 (x1.length : Int))), (47, (.int .i64 (i111 : Int))), (138, (.bool true))] rfl ⟨rfl, rfl, rfl, rfl, rfl, rfl, rfl, rfl, trivial⟩ ?_
        refine wo_nil ?_
        refine wq_seq ?_
        refine wc_true rfl ?_
        refine wc_seq ?_
        refine wc_region (l := [0]) rfl ?_
        refine wo_seg Θ_ok [0] [(6, (.bool false))] rfl ⟨rfl, trivial⟩ ?_
        refine wo_nil ?_
        refine wq_seq ?_
        refine wc_ret ?_
        cases h
        exact wq_block_ret (wq_then_ret (wq_then_ret (wq_block_ret (wq_then_ret (wq_ret rfl ⟨_, rfl, (bool_is.2 rfl), hF⟩)))))
      refine wo_know 127 false rfl hc295 ?_
      refine wo_seg Θ_ok [14, 15, 16] [(0, v0), (2, v2), (7, v8), (8, (.bool y18)), (16, (.int .u64 y279.1)), (17, (.int .i64 y279.2)), (45, (.slice A108 x1.length c109)), (46, (.int .i64 (x1.length : Int))), (47, (.int .i64 (i111 : Int))), (127, (.bool false)), (130, (.bool (!(r_Is z113))))] rfl ⟨rfl, rfl, rfl, rfl, rfl, rfl, rfl, rfl, rfl, rfl, rfl, trivial⟩ ?_
      rcases bif_some h with ⟨hc296, h⟩ | ⟨hc296, h⟩
      rotate_left
      · refine wo_know 130 false rfl hc296 ?_
        refine wo_seg Θ_ok [17, 18, 19, 20, 21, 22, 23, 24] [(0, v0), (2, v2), (7, v8), (8, (.bool y18)), (45, (.slice A108 x1.length c109)), (46, (.int .i64 (x1.length : Int))), (47, (.int .i64 (i111 : Int))), (138, (.bool false))] rfl ⟨rfl, rfl, rfl, rfl, rfl, rfl, rfl, rfl, trivial⟩ ?_
        refine wo_nil ?_
        refine wq_seq ?_
        refine wc_false rfl ?_
        refine wc_skip ?_
        refine wq_block (wq_seq ?_)
        refine wc_region (l := [0, 1]) rfl ?_
        refine wo_seg Θ_ok [0, 1] [(0, v0), (2, v2), (7, v8), (8, (.bool y18)), (45, (.slice A108 x1.length c109)), (46, (.int .i64 (x1.length : Int))), (47, (.int .i64 (IntKind.i64.wrap ((i111 : Int) + (1 : Int)))))] rfl ⟨rfl, rfl, rfl, rfl, rfl, rfl, rfl, trivial⟩ ?_
        refine wo_nil ?_
        exact wq_next rest112.length [(0, v0), (2, v2), (7, v8), (8, (.bool y18)), (45, (.slice A108 x1.length c109)), (46, (.int .i64 (x1.length : Int))), (47, (.int .i64 ((i111 + 1 : Nat) : Int)))] (Nat.lt_succ_self _) ⟨rfl, rfl, rfl, rfl, rfl, rfl, congrArg (fun z => some (Value.int .i64 z)) (wrap_succ hl121 (Nat.le_trans hlc109 hmc109)), trivial⟩ ⟨rest112, i111 + 1, O149, rfl, hd114, rfl, T110, hO, hS, hF, h⟩
      refine wo_know 130 true rfl hc296 ?_
      refine wo_seg Θ_ok [17, 18, 19] [(0, v0), (2, v2), (7, v8), (8, (.bool y18)), (17, (.int .i64 y279.2)), (45, (.slice A108 x1.length c109)), (46, (.int .i64 (x1.length : Int))), (47, (.int .i64 (i111 : Int))), (127, (.bool false)), (130, (.bool true)), (133, (.bool (y279.1 != (0 : Int))))] rfl ⟨rfl, rfl, rfl, rfl, rfl, rfl, rfl, rfl, rfl, rfl, rfl, trivial⟩ ?_
      rcases bif_some h with ⟨hc297, h⟩ | ⟨hc297, h⟩
      · refine wo_know 133 true rfl hc297 ?_
        refine wo_seg Θ_ok [20, 21, 22, 23, 24] [(0, v0), (2, v2), (7, v8), (8, (.bool y18)), (45, (.slice A108 x1.length c109)), (46, (.int .i64 (x1.length : Int))), (47, (.int .i64 (i111 : Int))), (138, (.bool true))] rfl ⟨rfl, rfl, rfl, rfl, rfl, rfl, rfl, rfl, trivial⟩ ?_
        refine wo_nil ?_
        refine wq_seq ?_
        refine wc_true rfl ?_
        refine wc_seq ?_
        refine wc_region (l := [0]) rfl ?_
        refine wo_seg Θ_ok [0] [(6, (.bool false))] rfl ⟨rfl, trivial⟩ ?_
        refine wo_nil ?_
        refine wq_seq ?_
        refine wc_ret ?_
        cases h
        exact wq_block_ret (wq_then_ret (wq_then_ret (wq_block_ret (wq_then_ret (wq_ret rfl ⟨_, rfl, (bool_is.2 rfl), hF⟩)))))
      refine wo_know 133 false rfl hc297 ?_
      refine wo_seg Θ_ok [20, 21, 22, 23, 24] [(0, v0), (2, v2), (7, v8), (8, (.bool y18)), (45, (.slice A108 x1.length c109)), (46, (.int .i64 (x1.length : Int))), (47, (.int .i64 (i111 : Int))), (138, (.bool (y279.2 != (2 : Int))))] rfl ⟨rfl, rfl, rfl, rfl, rfl, rfl, rfl, rfl, trivial⟩ ?_
      refine wo_nil ?_
      refine wq_seq ?_
      rcases bif_some h with ⟨hc298, h⟩ | ⟨hc298, h⟩
      rotate_left
      · refine wc_known_false rfl hc298 ?_
        refine wc_skip ?_
        refine wq_block (wq_seq ?_)
        refine wc_region (l := [0, 1]) rfl ?_
        refine wo_seg Θ_ok [0, 1] [(0, v0), (2, v2), (7, v8), (8, (.bool y18)), (45, (.slice A108 x1.length c109)), (46, (.int .i64 (x1.length : Int))), (47, (.int .i64 (IntKind.i64.wrap ((i111 : Int) + (1 : Int)))))] rfl ⟨rfl, rfl, rfl, rfl, rfl, rfl, rfl, trivial⟩ ?_
        refine wo_nil ?_
        exact wq_next rest112.length [(0, v0), (2, v2), (7, v8), (8, (.bool y18)), (45, (.slice A108 x1.length c109)), (46, (.int .i64 (x1.length : Int))), (47, (.int .i64 ((i111 + 1 : Nat) : Int)))] (Nat.lt_succ_self _) ⟨rfl, rfl, rfl, rfl, rfl, rfl, congrArg (fun z => some (Value.int .i64 z)) (wrap_succ hl121 (Nat.le_trans hlc109 hmc109)), trivial⟩ ⟨rest112, i111 + 1, O149, rfl, hd114, rfl, T110, hO, hS, hF, h⟩
      refine wc_known_true rfl hc298 ?_
      refine wc_seq ?_
      refine wc_region (l := [0]) rfl ?_
      refine wo_seg Θ_ok [0] [(6, (.bool false))] rfl ⟨rfl, trivial⟩ ?_
      refine wo_nil ?_
      refine wq_seq ?_
      refine wc_ret ?_
      cases h
      exact wq_block_ret (wq_then_ret (wq_then_ret (wq_block_ret (wq_then_ret (wq_ret rfl ⟨_, rfl, (bool_is.2 rfl), hF⟩)))))
    refine wo_know 94 true rfl hc232 ?_
    refine wo_seg Θ_ok [21, 22, 23, 24, 25] [(0, v0), (2, v2), (7, v8), (8, (.bool y18)), (11, (.pointer (some ⟨b126, 0, none⟩))), (15, (.int .i64 p148)), (45, (.slice A108 x1.length c109)), (46, (.int .i64 (x1.length : Int))), (47, (.int .i64 (i111 : Int))), (99, (.bool (y136.1 != (0 : Int))))] rfl ⟨rfl, rfl, rfl, rfl, rfl, rfl, rfl, rfl, rfl, rfl, trivial⟩ ?_
    rcases bif_some h with ⟨hc233, h⟩ | ⟨hc233, h⟩
    · refine wo_know 99 true rfl hc233 ?_
      refine wo_seg Θ_ok [26, 27, 28, 29, 30, 31, 32] [(0, v0), (2, v2), (7, v8), (8, (.bool y18)), (11, (.pointer (some ⟨b126, 0, none⟩))), (45, (.slice A108 x1.length c109)), (46, (.int .i64 (x1.length : Int))), (47, (.int .i64 (i111 : Int))), (106, (.bool true))] rfl ⟨rfl, rfl, rfl, rfl, rfl, rfl, rfl, rfl, rfl, trivial⟩ ?_
      refine wo_nil ?_
      refine wq_seq ?_
      refine wc_true rfl ?_
      refine wc_seq ?_
      refine wc_region (l := [0]) rfl ?_
      refine wo_seg Θ_ok [0] [(6, (.bool false))] rfl ⟨rfl, trivial⟩ ?_
      refine wo_nil ?_
      refine wq_seq ?_
      refine wc_ret ?_
      cases h
      exact wq_then_ret (wq_block_ret (wq_then_ret (wq_then_ret (wq_block_ret (wq_then_ret (wq_ret rfl ⟨_, rfl, (bool_is.2 rfl), hF⟩))))))
    refine wo_know 99 false rfl hc233 ?_
    refine wo_seg Θ_ok [26, 27] [(0, v0), (2, v2), (7, v8), (8, (.bool y18)), (11, (.pointer (some ⟨b126, 0, none⟩))), (15, (.int .i64 p148)), (45, (.slice A108 x1.length c109)), (46, (.int .i64 (x1.length : Int))), (47, (.int .i64 (i111 : Int))), (99, (.bool false)), (100, v8), (101, (.pointer (some ⟨b126, 2, none⟩)))] rfl ⟨rfl, rfl, rfl, rfl, rfl, rfl, rfl, rfl, rfl, rfl, rfl, rfl, trivial⟩ ?_
    refine wo_load Θ_ok rfl rfl rfl rfl rfl rfl rfl hb126 [(.int .u64 z113.fWhat)] rfl rfl (.inr rfl) (.int .u64 z113.fWhat) rfl ?_
    obtain ⟨y238, hy239, h⟩ := bind_some h
    refine wo_gives rfl rfl rfl rfl rfl ent18 rfl (d_Count_c hO h10 (int_is.2 rfl) hy239) (fun v234 w235 h236 f237 => ?_)
    have h0 := h0.tr f237.tr0
    have h2 := h2.tr f237.tr0
    have h10 := h10.tr f237.tr0
    have h1 := h1.tr f237.tr0
    have hg0 := hg0.tr f237.tr0
    have hb126 := hb126.fr0 f237
    have T29 := T29.trans f237.tr0
    have T110 := T110.trans f237.tr0
    have hO := f237.ob hO
    have hF := hF.trans f237
    obtain rfl := int_is.1 h236
    refine wo_seg Θ_ok [30, 31, 32] [(0, v0), (2, v2), (7, v8), (8, (.bool y18)), (11, (.pointer (some ⟨b126, 0, none⟩))), (45, (.slice A108 x1.length c109)), (46, (.int .i64 (x1.length : Int))), (47, (.int .i64 (i111 : Int))), (106, (.bool (y238 != p148)))] rfl ⟨rfl, rfl, rfl, rfl, rfl, rfl, rfl, rfl, rfl, trivial⟩ ?_
    refine wo_nil ?_
    refine wq_seq ?_
    rcases bif_some h with ⟨hc240, h⟩ | ⟨hc240, h⟩
    · refine wc_known_true rfl hc240 ?_
      refine wc_seq ?_
      refine wc_region (l := [0]) rfl ?_
      refine wo_seg Θ_ok [0] [(6, (.bool false))] rfl ⟨rfl, trivial⟩ ?_
      refine wo_nil ?_
      refine wq_seq ?_
      refine wc_ret ?_
      cases h
      exact wq_then_ret (wq_block_ret (wq_then_ret (wq_then_ret (wq_block_ret (wq_then_ret (wq_ret rfl ⟨_, rfl, (bool_is.2 rfl), hF⟩))))))
    refine wc_known_false rfl hc240 ?_
    refine wc_skip ?_
    refine wq_seq ?_
    refine wc_seq ?_
    refine wc_region (l := [0, 1, 2, 3, 4, 5, 6]) rfl ?_
    refine wo_load Θ_ok rfl rfl rfl rfl rfl rfl rfl hb126 [(.int .u64 z113.fPid), (.int .i64 z113.fFd), (.int .u64 z113.fWhat)] rfl rfl (.inl rfl) (.agg #[(.int .u64 z113.fPid), (.int .i64 z113.fFd), (.int .u64 z113.fWhat)]) rfl ?_
    obtain ⟨y245, hy246, h⟩ := bind_some h
    refine wo_gives rfl rfl rfl rfl rfl ent19 rfl (d_Key_c hO hg0 ((tGDesc_is (x := z113)).2 rfl) hy246) (fun v241 w242 h243 f244 => ?_)
    have h0 := h0.tr f244.tr0
    have h2 := h2.tr f244.tr0
    have h10 := h10.tr f244.tr0
    have h1 := h1.tr f244.tr0
    have hg0 := hg0.tr f244.tr0
    have hb126 := hb126.fr0 f244
    have T29 := T29.trans f244.tr0
    have T110 := T110.trans f244.tr0
    have hO := f244.ob hO
    have hF := hF.trans f244
    obtain ⟨u247, u249, rfl, h248, h250⟩ := h243
    obtain rfl := int_is.1 h248
    obtain rfl := int_is.1 h250
    refine wo_seg Θ_ok [2, 3, 4, 5, 6] [(0, v0), (2, v2), (7, v8), (8, (.bool y18)), (11, (.pointer (some ⟨b126, 0, none⟩))), (16, (.int .u64 y245.1)), (17, (.int .i64 y245.2)), (45, (.slice A108 x1.length c109)), (46, (.int .i64 (x1.length : Int))), (47, (.int .i64 (i111 : Int)))] rfl ⟨rfl, rfl, rfl, rfl, rfl, rfl, rfl, rfl, rfl, rfl, trivial⟩ ?_
    refine wo_nil ?_
    refine wq_seq ?_
    refine wc_seq ?_
    refine wc_region (l := [0, 1, 2]) rfl ?_
    refine wo_load Θ_ok rfl rfl rfl rfl rfl rfl rfl hb126 [(.int .u64 z113.fPid), (.int .i64 z113.fFd), (.int .u64 z113.fWhat)] rfl rfl (.inl rfl) (.agg #[(.int .u64 z113.fPid), (.int .i64 z113.fFd), (.int .u64 z113.fWhat)]) rfl ?_
    refine wo_gives rfl rfl rfl rfl rfl ent20 rfl (r_Is_c hO ((tGDesc_is (x := z113)).2 rfl)) (fun v251 w252 h253 f254 => ?_)
    have h0 := h0.tr f254.tr0
    have h2 := h2.tr f254.tr0
    have h10 := h10.tr f254.tr0
    have h1 := h1.tr f254.tr0
    have hg0 := hg0.tr f254.tr0
    have hb126 := hb126.fr0 f254
    have T29 := T29.trans f254.tr0
    have T110 := T110.trans f254.tr0
    have hO := f254.ob hO
    have hF := hF.trans f254
    obtain rfl := bool_is.1 h253
    refine wo_seg Θ_ok [2] [(0, v0), (2, v2), (7, v8), (8, (.bool y18)), (11, (.pointer (some ⟨b126, 0, none⟩))), (16, (.int .u64 y245.1)), (17, (.int .i64 y245.2)), (18, (.bool ((r_Is z113)))), (45, (.slice A108 x1.length c109)), (46, (.int .i64 (x1.length : Int))), (47, (.int .i64 (i111 : Int)))] rfl ⟨rfl, rfl, rfl, rfl, rfl, rfl, rfl, rfl, rfl, rfl, rfl, trivial⟩ ?_
    refine wo_nil ?_
    refine wq_seq ?_
    refine wc_seq ?_
    refine wc_region (l := [0, 1, 2, 3, 4, 5, 6, 7, 8, 9, 10, 11, 12, 13, 14, 15, 16, 17, 18, 19, 20, 21, 22, 23, 24]) rfl ?_
    refine wo_seg Θ_ok [0, 1, 2, 3, 4] [(0, v0), (2, v2), (7, v8), (8, (.bool y18)), (11, (.pointer (some ⟨b126, 0, none⟩))), (16, (.int .u64 y245.1)), (17, (.int .i64 y245.2)), (18, (.bool ((r_Is z113)))), (45, (.slice A108 x1.length c109)), (46, (.int .i64 (x1.length : Int))), (47, (.int .i64 (i111 : Int))), (118, (.bool (!((y245.2 == (0 : Int)) == (r_Is z113)))))] rfl ⟨rfl, rfl, rfl, rfl, rfl, rfl, rfl, rfl, rfl, rfl, rfl, rfl, trivial⟩ ?_
    rcases bif_some h with ⟨hc255, h⟩ | ⟨hc255, h⟩
    · refine wo_know 118 true rfl hc255 ?_
      refine wo_seg Θ_ok [5, 6, 7, 8, 9, 10, 11, 12, 13, 14, 15, 16, 17, 18, 19, 20, 21, 22, 23, 24] [(0, v0), (2, v2), (7, v8), (8, (.bool y18)), (45, (.slice A108 x1.length c109)), (46, (.int .i64 (x1.length : Int))), (47, (.int .i64 (i111 : Int))), (138, (.bool true))] rfl ⟨rfl, rfl, rfl, rfl, rfl, rfl, rfl, rfl, trivial⟩ ?_
      refine wo_nil ?_
      refine wq_seq ?_
      refine wc_true rfl ?_
      refine wc_seq ?_
      refine wc_region (l := [0]) rfl ?_
      refine wo_seg Θ_ok [0] [(6, (.bool false))] rfl ⟨rfl, trivial⟩ ?_
      refine wo_nil ?_
      refine wq_seq ?_
      refine wc_ret ?_
      cases h
      exact wq_block_ret (wq_then_ret (wq_then_ret (wq_block_ret (wq_then_ret (wq_ret rfl ⟨_, rfl, (bool_is.2 rfl), hF⟩)))))
    refine wo_know 118 false rfl hc255 ?_
    refine wo_seg Θ_ok [5, 6] [(0, v0), (2, v2), (7, v8), (8, (.bool y18)), (11, (.pointer (some ⟨b126, 0, none⟩))), (16, (.int .u64 y245.1)), (17, (.int .i64 y245.2)), (18, (.bool ((r_Is z113)))), (45, (.slice A108 x1.length c109)), (46, (.int .i64 (x1.length : Int))), (47, (.int .i64 (i111 : Int))), (118, (.bool false)), (120, (.bool ((r_Is z113))))] rfl ⟨rfl, rfl, rfl, rfl, rfl, rfl, rfl, rfl, rfl, rfl, rfl, rfl, rfl, trivial⟩ ?_
    rcases bif_some h with ⟨hc256, h⟩ | ⟨hc256, h⟩
    rotate_left
    · refine wo_know 120 false rfl hc256 ?_
      refine wo_seg Θ_ok [7, 8, 9, 10, 11, 12, 13, 14, 15, 16] [(0, v0), (2, v2), (7, v8), (8, (.bool y18)), (16, (.int .u64 y245.1)), (17, (.int .i64 y245.2)), (45, (.slice A108 x1.length c109)), (46, (.int .i64 (x1.length : Int))), (47, (.int .i64 (i111 : Int))), (127, (.bool false)), (130, (.bool (!(r_Is z113))))] rfl ⟨rfl, rfl, rfl, rfl, rfl, rfl, rfl, rfl, rfl, rfl, rfl, trivial⟩ ?_
      rcases bif_some h with ⟨hc265, h⟩ | ⟨hc265, h⟩
      rotate_left
      · refine wo_know 130 false rfl hc265 ?_
        refine wo_seg Θ_ok [17, 18, 19, 20, 21, 22, 23, 24] [(0, v0), (2, v2), (7, v8), (8, (.bool y18)), (45, (.slice A108 x1.length c109)), (46, (.int .i64 (x1.length : Int))), (47, (.int .i64 (i111 : Int))), (138, (.bool false))] rfl ⟨rfl, rfl, rfl, rfl, rfl, rfl, rfl, rfl, trivial⟩ ?_
        refine wo_nil ?_
        refine wq_seq ?_
        refine wc_false rfl ?_
        refine wc_skip ?_
        refine wq_block (wq_seq ?_)
        refine wc_region (l := [0, 1]) rfl ?_
        refine wo_seg Θ_ok [0, 1] [(0, v0), (2, v2), (7, v8), (8, (.bool y18)), (45, (.slice A108 x1.length c109)), (46, (.int .i64 (x1.length : Int))), (47, (.int .i64 (IntKind.i64.wrap ((i111 : Int) + (1 : Int)))))] rfl ⟨rfl, rfl, rfl, rfl, rfl, rfl, rfl, trivial⟩ ?_
        refine wo_nil ?_
        exact wq_next rest112.length [(0, v0), (2, v2), (7, v8), (8, (.bool y18)), (45, (.slice A108 x1.length c109)), (46, (.int .i64 (x1.length : Int))), (47, (.int .i64 ((i111 + 1 : Nat) : Int)))] (Nat.lt_succ_self _) ⟨rfl, rfl, rfl, rfl, rfl, rfl, congrArg (fun z => some (Value.int .i64 z)) (wrap_succ hl121 (Nat.le_trans hlc109 hmc109)), trivial⟩ ⟨rest112, i111 + 1, O149, rfl, hd114, rfl, T110, hO, hS, hF, h⟩
      refine wo_know 130 true rfl hc265 ?_
      refine wo_seg Θ_ok [17, 18, 19] [(0, v0), (2, v2), (7, v8), (8, (.bool y18)), (17, (.int .i64 y245.2)), (45, (.slice A108 x1.length c109)), (46, (.int .i64 (x1.length : Int))), (47, (.int .i64 (i111 : Int))), (127, (.bool false)), (130, (.bool true)), (133, (.bool (y245.1 != (0 : Int))))] rfl ⟨rfl, rfl, rfl, rfl, rfl, rfl, rfl, rfl, rfl, rfl, rfl, trivial⟩ ?_
      rcases bif_some h with ⟨hc266, h⟩ | ⟨hc266, h⟩
      · refine wo_know 133 true rfl hc266 ?_
        refine wo_seg Θ_ok [20, 21, 22, 23, 24] [(0, v0), (2, v2), (7, v8), (8, (.bool y18)), (45, (.slice A108 x1.length c109)), (46, (.int .i64 (x1.length : Int))), (47, (.int .i64 (i111 : Int))), (138, (.bool true))] rfl ⟨rfl, rfl, rfl, rfl, rfl, rfl, rfl, rfl, trivial⟩ ?_
        refine wo_nil ?_
        refine wq_seq ?_
        refine wc_true rfl ?_
        refine wc_seq ?_
        refine wc_region (l := [0]) rfl ?_
        refine wo_seg Θ_ok [0] [(6, (.bool false))] rfl ⟨rfl, trivial⟩ ?_
        refine wo_nil ?_
        refine wq_seq ?_
        refine wc_ret ?_
        cases h
        exact wq_block_ret (wq_then_ret (wq_then_ret (wq_block_ret (wq_then_ret (wq_ret rfl ⟨_, rfl, (bool_is.2 rfl), hF⟩)))))
      refine wo_know 133 false rfl hc266 ?_
      refine wo_seg Θ_ok [20, 21, 22, 23, 24] [(0, v0), (2, v2), (7, v8), (8, (.bool y18)), (45, (.slice A108 x1.length c109)), (46, (.int .i64 (x1.length : Int))), (47, (.int .i64 (i111 : Int))), (138, (.bool (y245.2 != (2 : Int))))] rfl ⟨rfl, rfl, rfl, rfl, rfl, rfl, rfl, rfl, trivial⟩ ?_
      refine wo_nil ?_
      refine wq_seq ?_
      rcases bif_some h with ⟨hc267, h⟩ | ⟨hc267, h⟩
      rotate_left
      · refine wc_known_false rfl hc267 ?_
        refine wc_skip ?_
        refine wq_block (wq_seq ?_)
        refine wc_region (l := [0, 1]) rfl ?_
        refine wo_seg Θ_ok [0, 1] [(0, v0), (2, v2), (7, v8), (8, (.bool y18)), (45, (.slice A108 x1.length c109)), (46, (.int .i64 (x1.length : Int))), (47, (.int .i64 (IntKind.i64.wrap ((i111 : Int) + (1 : Int)))))] rfl ⟨rfl, rfl, rfl, rfl, rfl, rfl, rfl, trivial⟩ ?_
        refine wo_nil ?_
        exact wq_next rest112.length [(0, v0), (2, v2), (7, v8), (8, (.bool y18)), (45, (.slice A108 x1.length c109)), (46, (.int .i64 (x1.length : Int))), (47, (.int .i64 ((i111 + 1 : Nat) : Int)))] (Nat.lt_succ_self _) ⟨rfl, rfl, rfl, rfl, rfl, rfl, congrArg (fun z => some (Value.int .i64 z)) (wrap_succ hl121 (Nat.le_trans hlc109 hmc109)), trivial⟩ ⟨rest112, i111 + 1, O149, rfl, hd114, rfl, T110, hO, hS, hF, h⟩
      refine wc_known_true rfl hc267 ?_
      refine wc_seq ?_
      refine wc_region (l := [0]) rfl ?_
      refine wo_seg Θ_ok [0] [(6, (.bool false))] rfl ⟨rfl, trivial⟩ ?_
      refine wo_nil ?_
      refine wq_seq ?_
      refine wc_ret ?_
      cases h
      exact wq_block_ret (wq_then_ret (wq_then_ret (wq_block_ret (wq_then_ret (wq_ret rfl ⟨_, rfl, (bool_is.2 rfl), hF⟩)))))
    refine wo_know 120 true rfl hc256 ?_
    refine wo_seg Θ_ok [7] [(0, v0), (2, v2), (7, v8), (8, (.bool y18)), (11, (.pointer (some ⟨b126, 0, none⟩))), (16, (.int .u64 y245.1)), (17, (.int .i64 y245.2)), (18, (.bool ((r_Is z113)))), (45, (.slice A108 x1.length c109)), (46, (.int .i64 (x1.length : Int))), (47, (.int .i64 (i111 : Int))), (118, (.bool false)), (120, (.bool true)), (121, (.int .u64 y245.1))] rfl ⟨rfl, rfl, rfl, rfl, rfl, rfl, rfl, rfl, rfl, rfl, rfl, rfl, rfl, rfl, trivial⟩ ?_
    refine wo_load Θ_ok rfl rfl rfl rfl rfl rfl rfl hb126 [(.int .u64 z113.fPid), (.int .i64 z113.fFd), (.int .u64 z113.fWhat)] rfl rfl (.inl rfl) (.agg #[(.int .u64 z113.fPid), (.int .i64 z113.fFd), (.int .u64 z113.fWhat)]) rfl ?_
    refine wo_gives rfl rfl rfl rfl rfl ent21 rfl (r_Key_c hO ((tGDesc_is (x := z113)).2 rfl)) (fun v257 w258 h259 f260 => ?_)
    have h0 := h0.tr f260.tr0
    have h2 := h2.tr f260.tr0
    have h10 := h10.tr f260.tr0
    have h1 := h1.tr f260.tr0
    have hg0 := hg0.tr f260.tr0
    have T29 := T29.trans f260.tr0
    have T110 := T110.trans f260.tr0
    have hO := f260.ob hO
    have hF := hF.trans f260
    obtain rfl := int_is.1 h259
    refine wo_seg Θ_ok [10, 11, 12, 13] [(0, v0), (2, v2), (7, v8), (8, (.bool y18)), (16, (.int .u64 y245.1)), (17, (.int .i64 y245.2)), (18, (.bool ((r_Is z113)))), (45, (.slice A108 x1.length c109)), (46, (.int .i64 (x1.length : Int))), (47, (.int .i64 (i111 : Int))), (127, (.bool (y245.1 != (r_Key z113))))] rfl ⟨rfl, rfl, rfl, rfl, rfl, rfl, rfl, rfl, rfl, rfl, rfl, trivial⟩ ?_
    rcases bif_some h with ⟨hc261, h⟩ | ⟨hc261, h⟩
    · refine wo_know 127 true rfl hc261 ?_
      refine wo_seg Θ_ok [14, 15, 16, 17, 18, 19, 20, 21, 22, 23, 24] [(0, v0), (2, v2), (7, v8), (8, (.bool y18)), (45, (.slice A108 x1.length c109)), (46, (.int .i64 (x1.length : Int))), (47, (.int .i64 (i111 : Int))), (138, (.bool true))] rfl ⟨rfl, rfl, rfl, rfl, rfl, rfl, rfl, rfl, trivial⟩ ?_
      refine wo_nil ?_
      refine wq_seq ?_
      refine wc_true rfl ?_
      refine wc_seq ?_
      refine wc_region (l := [0]) rfl ?_
      refine wo_seg Θ_ok [0] [(6, (.bool false))] rfl ⟨rfl, trivial⟩ ?_
      refine wo_nil ?_
      refine wq_seq ?_
      refine wc_ret ?_
      cases h
      exact wq_block_ret (wq_then_ret (wq_then_ret (wq_block_ret (wq_then_ret (wq_ret rfl ⟨_, rfl, (bool_is.2 rfl), hF⟩)))))
    refine wo_know 127 false rfl hc261 ?_
    refine wo_seg Θ_ok [14, 15, 16] [(0, v0), (2, v2), (7, v8), (8, (.bool y18)), (16, (.int .u64 y245.1)), (17, (.int .i64 y245.2)), (45, (.slice A108 x1.length c109)), (46, (.int .i64 (x1.length : Int))), (47, (.int .i64 (i111 : Int))), (127, (.bool false)), (130, (.bool (!(r_Is z113))))] rfl ⟨rfl, rfl, rfl, rfl, rfl, rfl, rfl, rfl, rfl, rfl, rfl, trivial⟩ ?_
    rcases bif_some h with ⟨hc262, h⟩ | ⟨hc262, h⟩
    rotate_left
    · refine wo_know 130 false rfl hc262 ?_
      refine wo_seg Θ_ok [17, 18, 19, 20, 21, 22, 23, 24] [(0, v0), (2, v2), (7, v8), (8, (.bool y18)), (45, (.slice A108 x1.length c109)), (46, (.int .i64 (x1.length : Int))), (47, (.int .i64 (i111 : Int))), (138, (.bool false))] rfl ⟨rfl, rfl, rfl, rfl, rfl, rfl, rfl, rfl, trivial⟩ ?_
      refine wo_nil ?_
      refine wq_seq ?_
      refine wc_false rfl ?_
      refine wc_skip ?_
      refine wq_block (wq_seq ?_)
      refine wc_region (l := [0, 1]) rfl ?_
      refine wo_seg Θ_ok [0, 1] [(0, v0), (2, v2), (7, v8), (8, (.bool y18)), (45, (.slice A108 x1.length c109)), (46, (.int .i64 (x1.length : Int))), (47, (.int .i64 (IntKind.i64.wrap ((i111 : Int) + (1 : Int)))))] rfl ⟨rfl, rfl, rfl, rfl, rfl, rfl, rfl, trivial⟩ ?_
      refine wo_nil ?_
      exact wq_next rest112.length [(0, v0), (2, v2), (7, v8), (8, (.bool y18)), (45, (.slice A108 x1.length c109)), (46, (.int .i64 (x1.length : Int))), (47, (.int .i64 ((i111 + 1 : Nat) : Int)))] (Nat.lt_succ_self _) ⟨rfl, rfl, rfl, rfl, rfl, rfl, congrArg (fun z => some (Value.int .i64 z)) (wrap_succ hl121 (Nat.le_trans hlc109 hmc109)), trivial⟩ ⟨rest112, i111 + 1, O149, rfl, hd114, rfl, T110, hO, hS, hF, h⟩
    refine wo_know 130 true rfl hc262 ?_
    refine wo_seg Θ_ok [17, 18, 19] [(0, v0), (2, v2), (7, v8), (8, (.bool y18)), (17, (.int .i64 y245.2)), (45, (.slice A108 x1.length c109)), (46, (.int .i64 (x1.length : Int))), (47, (.int .i64 (i111 : Int))), (127, (.bool false)), (130, (.bool true)), (133, (.bool (y245.1 != (0 : Int))))] rfl ⟨rfl, rfl, rfl, rfl, rfl, rfl, rfl, rfl, rfl, rfl, rfl, trivial⟩ ?_
    rcases bif_some h with ⟨hc263, h⟩ | ⟨hc263, h⟩
    · refine wo_know 133 true rfl hc263 ?_
      refine wo_seg Θ_ok [20, 21, 22, 23, 24] [(0, v0), (2, v2), (7, v8), (8, (.bool y18)), (45, (.slice A108 x1.length c109)), (46, (.int .i64 (x1.length : Int))), (47, (.int .i64 (i111 : Int))), (138, (.bool true))] rfl ⟨rfl, rfl, rfl, rfl, rfl, rfl, rfl, rfl, trivial⟩ ?_
      refine wo_nil ?_
      refine wq_seq ?_
      refine wc_true rfl ?_
      refine wc_seq ?_
      refine wc_region (l := [0]) rfl ?_
      refine wo_seg Θ_ok [0] [(6, (.bool false))] rfl ⟨rfl, trivial⟩ ?_
      refine wo_nil ?_
      refine wq_seq ?_
      refine wc_ret ?_
      cases h
      exact wq_block_ret (wq_then_ret (wq_then_ret (wq_block_ret (wq_then_ret (wq_ret rfl ⟨_, rfl, (bool_is.2 rfl), hF⟩)))))
    refine wo_know 133 false rfl hc263 ?_
    refine wo_seg Θ_ok [20, 21, 22, 23, 24] [(0, v0), (2, v2), (7, v8), (8, (.bool y18)), (45, (.slice A108 x1.length c109)), (46, (.int .i64 (x1.length : Int))), (47, (.int .i64 (i111 : Int))), (138, (.bool (y245.2 != (2 : Int))))] rfl ⟨rfl, rfl, rfl, rfl, rfl, rfl, rfl, rfl, trivial⟩ ?_
    refine wo_nil ?_
    refine wq_seq ?_
    rcases bif_some h with ⟨hc264, h⟩ | ⟨hc264, h⟩
    rotate_left
    · refine wc_known_false rfl hc264 ?_
      refine wc_skip ?_
      refine wq_block (wq_seq ?_)
      refine wc_region (l := [0, 1]) rfl ?_
      refine wo_seg Θ_ok [0, 1] [(0, v0), (2, v2), (7, v8), (8, (.bool y18)), (45, (.slice A108 x1.length c109)), (46, (.int .i64 (x1.length : Int))), (47, (.int .i64 (IntKind.i64.wrap ((i111 : Int) + (1 : Int)))))] rfl ⟨rfl, rfl, rfl, rfl, rfl, rfl, rfl, trivial⟩ ?_
      refine wo_nil ?_
      exact wq_next rest112.length [(0, v0), (2, v2), (7, v8), (8, (.bool y18)), (45, (.slice A108 x1.length c109)), (46, (.int .i64 (x1.length : Int))), (47, (.int .i64 ((i111 + 1 : Nat) : Int)))] (Nat.lt_succ_self _) ⟨rfl, rfl, rfl, rfl, rfl, rfl, congrArg (fun z => some (Value.int .i64 z)) (wrap_succ hl121 (Nat.le_trans hlc109 hmc109)), trivial⟩ ⟨rest112, i111 + 1, O149, rfl, hd114, rfl, T110, hO, hS, hF, h⟩
    refine wc_known_true rfl hc264 ?_
    refine wc_seq ?_
    refine wc_region (l := [0]) rfl ?_
    refine wo_seg Θ_ok [0] [(6, (.bool false))] rfl ⟨rfl, trivial⟩ ?_
    refine wo_nil ?_
    refine wq_seq ?_
    refine wc_ret ?_
    cases h
    exact wq_block_ret (wq_then_ret (wq_then_ret (wq_block_ret (wq_then_ret (wq_ret rfl ⟨_, rfl, (bool_is.2 rfl), hF⟩)))))
  refine wo_know 81 true rfl hc152 ?_
  refine wo_seg Θ_ok [8, 9, 10] [(0, v0), (2, v2), (7, v8), (8, (.bool y18)), (11, (.pointer (some ⟨b126, 0, none⟩))), (12, (.int .u64 y136.1)), (14, (.int .i64 p147)), (15, (.int .i64 p148)), (45, (.slice A108 x1.length c109)), (46, (.int .i64 (x1.length : Int))), (47, (.int .i64 (i111 : Int))), (78, (.bool false)), (81, (.bool true)), (82, (.int .u64 y136.1)), (83, v8), (84, (.int .i64 p147))] rfl ⟨rfl, rfl, rfl, rfl, rfl, rfl, rfl, rfl, rfl, rfl, rfl, rfl, rfl, rfl, rfl, rfl, trivial⟩ ?_
  obtain ⟨y155, hz156, h⟩ := bind_some h
  refine wo_index Θ_ok rfl rfl rfl rfl rfl rfl rfl rfl rfl rfl h10 rfl (idx_some hz156).1 (idx_some hz156).2 (fun p153 h154 => ?_)
  obtain ⟨ad157, rfl⟩ := ptr_form h154
  have h158 := ptr_sub (S := (Ty.int .u64)) (off := 2) (y := y155.fWhat) h154 (fun cs hr => by obtain rfl := tGDesc_rep hr; exact rfl)
  refine wo_seg Θ_ok [12] [(0, v0), (2, v2), (7, v8), (8, (.bool y18)), (11, (.pointer (some ⟨b126, 0, none⟩))), (12, (.int .u64 y136.1)), (14, (.int .i64 p147)), (15, (.int .i64 p148)), (45, (.slice A108 x1.length c109)), (46, (.int .i64 (x1.length : Int))), (47, (.int .i64 (i111 : Int))), (78, (.bool false)), (81, (.bool true)), (82, (.int .u64 y136.1)), (86, (.pointer (some (ad157.add 2))))] rfl ⟨rfl, rfl, rfl, rfl, rfl, rfl, rfl, rfl, rfl, rfl, rfl, rfl, rfl, rfl, rfl, trivial⟩ ?_
  refine wo_loadp Θ_ok rfl rfl rfl rfl rfl rfl rfl h158 rfl rfl (fun v159 h160 => ?_)
  obtain rfl := int_is.1 h160
  refine wo_seg Θ_ok [14, 15, 16, 17] [(0, v0), (2, v2), (7, v8), (8, (.bool y18)), (11, (.pointer (some ⟨b126, 0, none⟩))), (12, (.int .u64 y136.1)), (14, (.int .i64 p147)), (15, (.int .i64 p148)), (45, (.slice A108 x1.length c109)), (46, (.int .i64 (x1.length : Int))), (47, (.int .i64 (i111 : Int))), (91, (.bool (y136.1 != y155.fWhat)))] rfl ⟨rfl, rfl, rfl, rfl, rfl, rfl, rfl, rfl, rfl, rfl, rfl, rfl, trivial⟩ ?_
  rcases bif_some h with ⟨hc161, h⟩ | ⟨hc161, h⟩
  · refine wo_know 91 true rfl hc161 ?_
    refine wo_seg Θ_ok [18, 19, 20, 21, 22, 23, 24, 25, 26, 27, 28, 29, 30, 31, 32] [(0, v0), (2, v2), (7, v8), (8, (.bool y18)), (11, (.pointer (some ⟨b126, 0, none⟩))), (45, (.slice A108 x1.length c109)), (46, (.int .i64 (x1.length : Int))), (47, (.int .i64 (i111 : Int))), (106, (.bool true))] rfl ⟨rfl, rfl, rfl, rfl, rfl, rfl, rfl, rfl, rfl, trivial⟩ ?_
    refine wo_nil ?_
    refine wq_seq ?_
    refine wc_true rfl ?_
    refine wc_seq ?_
    refine wc_region (l := [0]) rfl ?_
    refine wo_seg Θ_ok [0] [(6, (.bool false))] rfl ⟨rfl, trivial⟩ ?_
    refine wo_nil ?_
    refine wq_seq ?_
    refine wc_ret ?_
    cases h
    exact wq_then_ret (wq_block_ret (wq_then_ret (wq_then_ret (wq_block_ret (wq_then_ret (wq_ret rfl ⟨_, rfl, (bool_is.2 rfl), hF⟩))))))
  refine wo_know 91 false rfl hc161 ?_
  refine wo_seg Θ_ok [18, 19, 20] [(0, v0), (2, v2), (7, v8), (8, (.bool y18)), (11, (.pointer (some ⟨b126, 0, none⟩))), (12, (.int .u64 y136.1)), (15, (.int .i64 p148)), (45, (.slice A108 x1.length c109)), (46, (.int .i64 (x1.length : Int))), (47, (.int .i64 (i111 : Int))), (91, (.bool false)), (94, (.bool (decide (p147 < (0 : Int)))))] rfl ⟨rfl, rfl, rfl, rfl, rfl, rfl, rfl, rfl, rfl, rfl, rfl, rfl, trivial⟩ ?_
  rcases bif_some h with ⟨hc162, h⟩ | ⟨hc162, h⟩
  rotate_left
  · refine wo_know 94 false rfl hc162 ?_
    refine wo_seg Θ_ok [21, 22, 23, 24, 25, 26, 27] [(0, v0), (2, v2), (7, v8), (8, (.bool y18)), (11, (.pointer (some ⟨b126, 0, none⟩))), (15, (.int .i64 p148)), (45, (.slice A108 x1.length c109)), (46, (.int .i64 (x1.length : Int))), (47, (.int .i64 (i111 : Int))), (99, (.bool false)), (100, v8), (101, (.pointer (some ⟨b126, 2, none⟩)))] rfl ⟨rfl, rfl, rfl, rfl, rfl, rfl, rfl, rfl, rfl, rfl, rfl, rfl, trivial⟩ ?_
    refine wo_load Θ_ok rfl rfl rfl rfl rfl rfl rfl hb126 [(.int .u64 z113.fWhat)] rfl rfl (.inr rfl) (.int .u64 z113.fWhat) rfl ?_
    obtain ⟨y202, hy203, h⟩ := bind_some h
    refine wo_gives rfl rfl rfl rfl rfl ent18 rfl (d_Count_c hO h10 (int_is.2 rfl) hy203) (fun v198 w199 h200 f201 => ?_)
    have h0 := h0.tr f201.tr0
    have h2 := h2.tr f201.tr0
    have h10 := h10.tr f201.tr0
    have h1 := h1.tr f201.tr0
    have hg0 := hg0.tr f201.tr0
    have hb126 := hb126.fr0 f201
    have T29 := T29.trans f201.tr0
    have T110 := T110.trans f201.tr0
    have hO := f201.ob hO
    have hF := hF.trans f201
    obtain rfl := int_is.1 h200
    refine wo_seg Θ_ok [30, 31, 32] [(0, v0), (2, v2), (7, v8), (8, (.bool y18)), (11, (.pointer (some ⟨b126, 0, none⟩))), (45, (.slice A108 x1.length c109)), (46, (.int .i64 (x1.length : Int))), (47, (.int .i64 (i111 : Int))), (106, (.bool (y202 != p148)))] rfl ⟨rfl, rfl, rfl, rfl, rfl, rfl, rfl, rfl, rfl, trivial⟩ ?_
    refine wo_nil ?_
    refine wq_seq ?_
    rcases bif_some h with ⟨hc204, h⟩ | ⟨hc204, h⟩
    · refine wc_known_true rfl hc204 ?_
      refine wc_seq ?_
      refine wc_region (l := [0]) rfl ?_
      refine wo_seg Θ_ok [0] [(6, (.bool false))] rfl ⟨rfl, trivial⟩ ?_
      refine wo_nil ?_
      refine wq_seq ?_
      refine wc_ret ?_
      cases h
      exact wq_then_ret (wq_block_ret (wq_then_ret (wq_then_ret (wq_block_ret (wq_then_ret (wq_ret rfl ⟨_, rfl, (bool_is.2 rfl), hF⟩))))))
    refine wc_known_false rfl hc204 ?_
    refine wc_skip ?_
    refine wq_seq ?_
    refine wc_seq ?_
    refine wc_region (l := [0, 1, 2, 3, 4, 5, 6]) rfl ?_
    refine wo_load Θ_ok rfl rfl rfl rfl rfl rfl rfl hb126 [(.int .u64 z113.fPid), (.int .i64 z113.fFd), (.int .u64 z113.fWhat)] rfl rfl (.inl rfl) (.agg #[(.int .u64 z113.fPid), (.int .i64 z113.fFd), (.int .u64 z113.fWhat)]) rfl ?_
    obtain ⟨y209, hy210, h⟩ := bind_some h
    refine wo_gives rfl rfl rfl rfl rfl ent19 rfl (d_Key_c hO hg0 ((tGDesc_is (x := z113)).2 rfl) hy210) (fun v205 w206 h207 f208 => ?_)
    have h0 := h0.tr f208.tr0
    have h2 := h2.tr f208.tr0
    have h10 := h10.tr f208.tr0
    have h1 := h1.tr f208.tr0
    have hg0 := hg0.tr f208.tr0
    have hb126 := hb126.fr0 f208
    have T29 := T29.trans f208.tr0
    have T110 := T110.trans f208.tr0
    have hO := f208.ob hO
    have hF := hF.trans f208
    obtain ⟨u211, u213, rfl, h212, h214⟩ := h207
    obtain rfl := int_is.1 h212
    obtain rfl := int_is.1 h214
    refine wo_seg Θ_ok [2, 3, 4, 5, 6] [(0, v0), (2, v2), (7, v8), (8, (.bool y18)), (11, (.pointer (some ⟨b126, 0, none⟩))), (16, (.int .u64 y209.1)), (17, (.int .i64 y209.2)), (45, (.slice A108 x1.length c109)), (46, (.int .i64 (x1.length : Int))), (47, (.int .i64 (i111 : Int)))] rfl ⟨rfl, rfl, rfl, rfl, rfl, rfl, rfl, rfl, rfl, rfl, trivial⟩ ?_
    refine wo_nil ?_
    refine wq_seq ?_
    refine wc_seq ?_
    refine wc_region (l := [0, 1, 2]) rfl ?_
    refine wo_load Θ_ok rfl rfl rfl rfl rfl rfl rfl hb126 [(.int .u64 z113.fPid), (.int .i64 z113.fFd), (.int .u64 z113.fWhat)] rfl rfl (.inl rfl) (.agg #[(.int .u64 z113.fPid), (.int .i64 z113.fFd), (.int .u64 z113.fWhat)]) rfl ?_
    refine wo_gives rfl rfl rfl rfl rfl ent20 rfl (r_Is_c hO ((tGDesc_is (x := z113)).2 rfl)) (fun v215 w216 h217 f218 => ?_)
    have h0 := h0.tr f218.tr0
    have h2 := h2.tr f218.tr0
    have h10 := h10.tr f218.tr0
    have h1 := h1.tr f218.tr0
    have hg0 := hg0.tr f218.tr0
    have hb126 := hb126.fr0 f218
    have T29 := T29.trans f218.tr0
    have T110 := T110.trans f218.tr0
    have hO := f218.ob hO
    have hF := hF.trans f218
    obtain rfl := bool_is.1 h217
    refine wo_seg Θ_ok [2] [(0, v0), (2, v2), (7, v8), (8, (.bool y18)), (11, (.pointer (some ⟨b126, 0, none⟩))), (16, (.int .u64 y209.1)), (17, (.int .i64 y209.2)), (18, (.bool ((r_Is z113)))), (45, (.slice A108 x1.length c109)), (46, (.int .i64 (x1.length : Int))), (47, (.int .i64 (i111 : Int)))] rfl ⟨rfl, rfl, rfl, rfl, rfl, rfl, rfl, rfl, rfl, rfl, rfl, trivial⟩ ?_
    refine wo_nil ?_
    refine wq_seq ?_
    refine wc_seq ?_
    refine wc_region (l := [0, 1, 2, 3, 4, 5, 6, 7, 8, 9, 10, 11, 12, 13, 14, 15, 16, 17, 18, 19, 20, 21, 22, 23, 24]) rfl ?_
    refine wo_seg Θ_ok [0, 1, 2, 3, 4] [(0, v0), (2, v2), (7, v8), (8, (.bool y18)), (11, (.pointer (some ⟨b126, 0, none⟩))), (16, (.int .u64 y209.1)), (17, (.int .i64 y209.2)), (18, (.bool ((r_Is z113)))), (45, (.slice A108 x1.length c109)), (46, (.int .i64 (x1.length : Int))), (47, (.int .i64 (i111 : Int))), (118, (.bool (!((y209.2 == (0 : Int)) == (r_Is z113)))))] rfl ⟨rfl, rfl, rfl, rfl, rfl, rfl, rfl, rfl, rfl, rfl, rfl, rfl, trivial⟩ ?_
    rcases bif_some h with ⟨hc219, h⟩ | ⟨hc219, h⟩
    · refine wo_know 118 true rfl hc219 ?_
      refine wo_seg Θ_ok [5, 6, 7, 8, 9, 10, 11, 12, 13, 14, 15, 16, 17, 18, 19, 20, 21, 22, 23, 24] [(0, v0), (2, v2), (7, v8), (8, (.bool y18)), (45, (.slice A108 x1.length c109)), (46, (.int .i64 (x1.length : Int))), (47, (.int .i64 (i111 : Int))), (138, (.bool true))] rfl ⟨rfl, rfl, rfl, rfl, rfl, rfl, rfl, rfl, trivial⟩ ?_
      refine wo_nil ?_
      refine wq_seq ?_
      refine wc_true rfl ?_
      refine wc_seq ?_
      refine wc_region (l := [0]) rfl ?_
      refine wo_seg Θ_ok [0] [(6, (.bool false))] rfl ⟨rfl, trivial⟩ ?_
      refine wo_nil ?_
      refine wq_seq ?_
      refine wc_ret ?_
      cases h
      exact wq_block_ret (wq_then_ret (wq_then_ret (wq_block_ret (wq_then_ret (wq_ret rfl ⟨_, rfl, (bool_is.2 rfl), hF⟩)))))
    refine wo_know 118 false rfl hc219 ?_
    refine wo_seg Θ_ok [5, 6] [(0, v0), (2, v2), (7, v8), (8, (.bool y18)), (11, (.pointer (some ⟨b126, 0, none⟩))), (16, (.int .u64 y209.1)), (17, (.int .i64 y209.2)), (18, (.bool ((r_Is z113)))), (45, (.slice A108 x1.length c109)), (46, (.int .i64 (x1.length : Int))), (47, (.int .i64 (i111 : Int))), (118, (.bool false)), (120, (.bool ((r_Is z113))))] rfl ⟨rfl, rfl, rfl, rfl, rfl, rfl, rfl, rfl, rfl, rfl, rfl, rfl, rfl, trivial⟩ ?_
    rcases bif_some h with ⟨hc220, h⟩ | ⟨hc220, h⟩
    rotate_left
    · refine wo_know 120 false rfl hc220 ?_
      refine wo_seg Θ_ok [7, 8, 9, 10, 11, 12, 13, 14, 15, 16] [(0, v0), (2, v2), (7, v8), (8, (.bool y18)), (16, (.int .u64 y209.1)), (17, (.int .i64 y209.2)), (45, (.slice A108 x1.length c109)), (46, (.int .i64 (x1.length : Int))), (47, (.int .i64 (i111 : Int))), (127, (.bool false)), (130, (.bool (!(r_Is z113))))] rfl ⟨rfl, rfl, rfl, rfl, rfl, rfl, rfl, rfl, rfl, rfl, rfl, trivial⟩ ?_
      rcases bif_some h with ⟨hc229, h⟩ | ⟨hc229, h⟩
      rotate_left
      · refine wo_know 130 false rfl hc229 ?_
        refine wo_seg Θ_ok [17, 18, 19, 20, 21, 22, 23, 24] [(0, v0), (2, v2), (7, v8), (8, (.bool y18)), (45, (.slice A108 x1.length c109)), (46, (.int .i64 (x1.length : Int))), (47, (.int .i64 (i111 : Int))), (138, (.bool false))] rfl ⟨rfl, rfl, rfl, rfl, rfl, rfl, rfl, rfl, trivial⟩ ?_
        refine wo_nil ?_
        refine wq_seq ?_
        refine wc_false rfl ?_
        refine wc_skip ?_
        refine wq_block (wq_seq ?_)
        refine wc_region (l := [0, 1]) rfl ?_
        refine wo_seg Θ_ok [0, 1] [(0, v0), (2, v2), (7, v8), (8, (.bool y18)), (45, (.slice A108 x1.length c109)), (46, (.int .i64 (x1.length : Int))), (47, (.int .i64 (IntKind.i64.wrap ((i111 : Int) + (1 : Int)))))] rfl ⟨rfl, rfl, rfl, rfl, rfl, rfl, rfl, trivial⟩ ?_
        refine wo_nil ?_
        exact wq_next rest112.length [(0, v0), (2, v2), (7, v8), (8, (.bool y18)), (45, (.slice A108 x1.length c109)), (46, (.int .i64 (x1.length : Int))), (47, (.int .i64 ((i111 + 1 : Nat) : Int)))] (Nat.lt_succ_self _) ⟨rfl, rfl, rfl, rfl, rfl, rfl, congrArg (fun z => some (Value.int .i64 z)) (wrap_succ hl121 (Nat.le_trans hlc109 hmc109)), trivial⟩ ⟨rest112, i111 + 1, O149, rfl, hd114, rfl, T110, hO, hS, hF, h⟩
      refine wo_know 130 true rfl hc229 ?_
      refine wo_seg Θ_ok [17, 18, 19] [(0, v0), (2, v2), (7, v8), (8, (.bool y18)), (17, (.int .i64 y209.2)), (45, (.slice A108 x1.length c109)), (46, (.int .i64 (x1.length : Int))), (47, (.int .i64 (i111 : Int))), (127, (.bool false)), (130, (.bool true)), (133, (.bool (y209.1 != (0 : Int))))] rfl ⟨rfl, rfl, rfl, rfl, rfl, rfl, rfl, rfl, rfl, rfl, rfl, trivial⟩ ?_
      rcases bif_some h with ⟨hc230, h⟩ | ⟨hc230, h⟩
      · refine wo_know 133 true rfl hc230 ?_
        refine wo_seg Θ_ok [20, 21, 22, 23, 24] [(0, v0), (2, v2), (7, v8), (8, (.bool y18)), (45, (.slice A108 x1.length c109)), (46, (.int .i64 (x1.length : Int))), (47, (.int .i64 (i111 : Int))), (138, (.bool true))] rfl ⟨rfl, rfl, rfl, rfl, rfl, rfl, rfl, rfl, trivial⟩ ?_
        refine wo_nil ?_
        refine wq_seq ?_
        refine wc_true rfl ?_
        refine wc_seq ?_
        refine wc_region (l := [0]) rfl ?_
        refine wo_seg Θ_ok [0] [(6, (.bool false))] rfl ⟨rfl, trivial⟩ ?_
        refine wo_nil ?_
        refine wq_seq ?_
        refine wc_ret ?_
        cases h
        exact wq_block_ret (wq_then_ret (wq_then_ret (wq_block_ret (wq_then_ret (wq_ret rfl ⟨_, rfl, (bool_is.2 rfl), hF⟩)))))
      refine wo_know 133 false rfl hc230 ?_
      refine wo_seg Θ_ok [20, 21, 22, 23, 24] [(0, v0), (2, v2), (7, v8), (8, (.bool y18)), (45, (.slice A108 x1.length c109)), (46, (.int .i64 (x1.length : Int))), (47, (.int .i64 (i111 : Int))), (138, (.bool (y209.2 != (2 : Int))))] rfl ⟨rfl, rfl, rfl, rfl, rfl, rfl, rfl, rfl, trivial⟩ ?_
      refine wo_nil ?_
      refine wq_seq ?_
      rcases bif_some h with ⟨hc231, h⟩ | ⟨hc231, h⟩
      rotate_left
      · refine wc_known_false rfl hc231 ?_
        refine wc_skip ?_
        refine wq_block (wq_seq ?_)
        refine wc_region (l := [0, 1]) rfl ?_
        refine wo_seg Θ_ok [0, 1] [(0, v0), (2, v2), (7, v8), (8, (.bool y18)), (45, (.slice A108 x1.length c109)), (46, (.int .i64 (x1.length : Int))), (47, (.int .i64 (IntKind.i64.wrap ((i111 : Int) + (1 : Int)))))] rfl ⟨rfl, rfl, rfl, rfl, rfl, rfl, rfl, trivial⟩ ?_
        refine wo_nil ?_
        exact wq_next rest112.length [(0, v0), (2, v2), (7, v8), (8, (.bool y18)), (45, (.slice A108 x1.length c109)), (46, (.int .i64 (x1.length : Int))), (47, (.int .i64 ((i111 + 1 : Nat) : Int)))] (Nat.lt_succ_self _) ⟨rfl, rfl, rfl, rfl, rfl, rfl, congrArg (fun z => some (Value.int .i64 z)) (wrap_succ hl121 (Nat.le_trans hlc109 hmc109)), trivial⟩ ⟨rest112, i111 + 1, O149, rfl, hd114, rfl, T110, hO, hS, hF, h⟩
      refine wc_known_true rfl hc231 ?_
      refine wc_seq ?_
      refine wc_region (l := [0]) rfl ?_
      refine wo_seg Θ_ok [0] [(6, (.bool false))] rfl ⟨rfl, trivial⟩ ?_
      refine wo_nil ?_
      refine wq_seq ?_
      refine wc_ret ?_
      cases h
      exact wq_block_ret (wq_then_ret (wq_then_ret (wq_block_ret (wq_then_ret (wq_ret rfl ⟨_, rfl, (bool_is.2 rfl), hF⟩)))))
    refine wo_know 120 true rfl hc220 ?_
    refine wo_seg Θ_ok [7] [(0, v0), (2, v2), (7, v8), (8, (.bool y18)), (11, (.pointer (some ⟨b126, 0, none⟩))), (16, (.int .u64 y209.1)), (17, (.int .i64 y209.2)), (18, (.bool ((r_Is z113)))), (45, (.slice A108 x1.length c109)), (46, (.int .i64 (x1.length : Int))), (47, (.int .i64 (i111 : Int))), (118, (.bool false)), (120, (.bool true)), (121, (.int .u64 y209.1))] rfl ⟨rfl, rfl, rfl, rfl, rfl, rfl, rfl, rfl, rfl, rfl, rfl, rfl, rfl, rfl, trivial⟩ ?_
    refine wo_load Θ_ok rfl rfl rfl rfl rfl rfl rfl hb126 [(.int .u64 z113.fPid), (.int .i64 z113.fFd), (.int .u64 z113.fWhat)] rfl rfl (.inl rfl) (.agg #[(.int .u64 z113.fPid), (.int .i64 z113.fFd), (.int .u64 z113.fWhat)]) rfl ?_
    refine wo_gives rfl rfl rfl rfl rfl ent21 rfl (r_Key_c hO ((tGDesc_is (x := z113)).2 rfl)) (fun v221 w222 h223 f224 => ?_)
    have h0 := h0.tr f224.tr0
    have h2 := h2.tr f224.tr0
    have h10 := h10.tr f224.tr0
    have h1 := h1.tr f224.tr0
    have hg0 := hg0.tr f224.tr0
    have T29 := T29.trans f224.tr0
    have T110 := T110.trans f224.tr0
    have hO := f224.ob hO
    have hF := hF.trans f224
    obtain rfl := int_is.1 h223
    refine wo_seg Θ_ok [10, 11, 12, 13] [(0, v0), (2, v2), (7, v8), (8, (.bool y18)), (16, (.int .u64 y209.1)), (17, (.int .i64 y209.2)), (18, (.bool ((r_Is z113)))), (45, (.slice A108 x1.length c109)), (46, (.int .i64 (x1.length : Int))), (47, (.int .i64 (i111 : Int))), (127, (.bool (y209.1 != (r_Key z113))))] rfl ⟨rfl, rfl, rfl, rfl, rfl, rfl, rfl, rfl, rfl, rfl, rfl, trivial⟩ ?_
    rcases bif_some h with ⟨hc225, h⟩ | ⟨hc225, h⟩
    · refine wo_know 127 true rfl hc225 ?_
      refine wo_seg Θ_ok [14, 15, 16, 17, 18, 19, 20, 21, 22, 23, 24] [(0, v0), (2, v2), (7, v8), (8, (.bool y18)), (45, (.slice A108 x1.length c109)), (46, (.int .i64 (x1.length : Int))), (47, (.int .i64 (i111 : Int))), (138, (.bool true))] rfl ⟨rfl, rfl, rfl, rfl, rfl, rfl, rfl, rfl, trivial⟩ ?_
      refine wo_nil ?_
      refine wq_seq ?_
      refine wc_true rfl ?_
      refine wc_seq ?_
      refine wc_region (l := [0]) rfl ?_
      refine wo_seg Θ_ok [0] [(6, (.bool false))] rfl ⟨rfl, trivial⟩ ?_
      refine wo_nil ?_
      refine wq_seq ?_
      refine wc_ret ?_
      cases h
      exact wq_block_ret (wq_then_ret (wq_then_ret (wq_block_ret (wq_then_ret (wq_ret rfl ⟨_, rfl, (bool_is.2 rfl), hF⟩)))))
    refine wo_know 127 false rfl hc225 ?_
    refine wo_seg Θ_ok [14, 15, 16] [(0, v0), (2, v2), (7, v8), (8, (.bool y18)), (16, (.int .u64 y209.1)), (17, (.int .i64 y209.2)), (45, (.slice A108 x1.length c109)), (46, (.int .i64 (x1.length : Int))), (47, (.int .i64 (i111 : Int))), (127, (.bool false)), (130, (.bool (!(r_Is z113))))] rfl ⟨rfl, rfl, rfl, rfl, rfl, rfl, rfl, rfl, rfl, rfl, rfl, trivial⟩ ?_
    rcases bif_some h with ⟨hc226, h⟩ | ⟨hc226, h⟩
    rotate_left
    · refine wo_know 130 false rfl hc226 ?_
      refine wo_seg Θ_ok [17, 18, 19, 20, 21, 22, 23, 24] [(0, v0), (2, v2), (7, v8), (8, (.bool y18)), (45, (.slice A108 x1.length c109)), (46, (.int .i64 (x1.length : Int))), (47, (.int .i64 (i111 : Int))), (138, (.bool false))] rfl ⟨rfl, rfl, rfl, rfl, rfl, rfl, rfl, rfl, trivial⟩ ?_
      refine wo_nil ?_
      refine wq_seq ?_
      refine wc_false rfl ?_
      refine wc_skip ?_
      refine wq_block (wq_seq ?_)
      refine wc_region (l := [0, 1]) rfl ?_
      refine wo_seg Θ_ok [0, 1] [(0, v0), (2, v2), (7, v8), (8, (.bool y18)), (45, (.slice A108 x1.length c109)), (46, (.int .i64 (x1.length : Int))), (47, (.int .i64 (IntKind.i64.wrap ((i111 : Int) + (1 : Int)))))] rfl ⟨rfl, rfl, rfl, rfl, rfl, rfl, rfl, trivial⟩ ?_
      refine wo_nil ?_
      exact wq_next rest112.length [(0, v0), (2, v2), (7, v8), (8, (.bool y18)), (45, (.slice A108 x1.length c109)), (46, (.int .i64 (x1.length : Int))), (47, (.int .i64 ((i111 + 1 : Nat) : Int)))] (Nat.lt_succ_self _) ⟨rfl, rfl, rfl, rfl, rfl, rfl, congrArg (fun z => some (Value.int .i64 z)) (wrap_succ hl121 (Nat.le_trans hlc109 hmc109)), trivial⟩ ⟨rest112, i111 + 1, O149, rfl, hd114, rfl, T110, hO, hS, hF, h⟩
    refine wo_know 130 true rfl hc226 ?_
    refine wo_seg Θ_ok [17, 18, 19] [(0, v0), (2, v2), (7, v8), (8, (.bool y18)), (17, (.int .i64 y209.2)), (45, (.slice A108 x1.length c109)), (46, (.int .i64 (x1.length : Int))), (47, (.int .i64 (i111 : Int))), (127, (.bool false)), (130, (.bool true)), (133, (.bool (y209.1 != (0 : Int))))] rfl ⟨rfl, rfl, rfl, rfl, rfl, rfl, rfl, rfl, rfl, rfl, rfl, trivial⟩ ?_
    rcases bif_some h with ⟨hc227, h⟩ | ⟨hc227, h⟩
    · refine wo_know 133 true rfl hc227 ?_
      refine wo_seg Θ_ok [20, 21, 22, 23, 24] [(0, v0), (2, v2), (7, v8), (8, (.bool y18)), (45, (.slice A108 x1.length c109)), (46, (.int .i64 (x1.length : Int))), (47, (.int .i64 (i111 : Int))), (138, (.bool true))] rfl ⟨rfl, rfl, rfl, rfl, rfl, rfl, rfl, rfl, trivial⟩ ?_
      refine wo_nil ?_
      refine wq_seq ?_
      refine wc_true rfl ?_
      refine wc_seq ?_
      refine wc_region (l := [0]) rfl ?_
      refine wo_seg Θ_ok [0] [(6, (.bool false))] rfl ⟨rfl, trivial⟩ ?_
      refine wo_nil ?_
      refine wq_seq ?_
      refine wc_ret ?_
      cases h
      exact wq_block_ret (wq_then_ret (wq_then_ret (wq_block_ret (wq_then_ret (wq_ret rfl ⟨_, rfl, (bool_is.2 rfl), hF⟩)))))
    refine wo_know 133 false rfl hc227 ?_
    refine wo_seg Θ_ok [20, 21, 22, 23, 24] [(0, v0), (2, v2), (7, v8), (8, (.bool y18)), (45, (.slice A108 x1.length c109)), (46, (.int .i64 (x1.length : Int))), (47, (.int .i64 (i111 : Int))), (138, (.bool (y209.2 != (2 : Int))))] rfl ⟨rfl, rfl, rfl, rfl, rfl, rfl, rfl, rfl, trivial⟩ ?_
    refine wo_nil ?_
    refine wq_seq ?_
    rcases bif_some h with ⟨hc228, h⟩ | ⟨hc228, h⟩
    rotate_left
    · refine wc_known_false rfl hc228 ?_
      refine wc_skip ?_
      refine wq_block (wq_seq ?_)
      refine wc_region (l := [0, 1]) rfl ?_
      refine wo_seg Θ_ok [0, 1] [(0, v0), (2, v2), (7, v8), (8, (.bool y18)), (45, (.slice A108 x1.length c109)), (46, (.int .i64 (x1.length : Int))), (47, (.int .i64 (IntKind.i64.wrap ((i111 : Int) + (1 : Int)))))] rfl ⟨rfl, rfl, rfl, rfl, rfl, rfl, rfl, trivial⟩ ?_
      refine wo_nil ?_
      exact wq_next rest112.length [(0, v0), (2, v2), (7, v8), (8, (.bool y18)), (45, (.slice A108 x1.length c109)), (46, (.int .i64 (x1.length : Int))), (47, (.int .i64 ((i111 + 1 : Nat) : Int)))] (Nat.lt_succ_self _) ⟨rfl, rfl, rfl, rfl, rfl, rfl, congrArg (fun z => some (Value.int .i64 z)) (wrap_succ hl121 (Nat.le_trans hlc109 hmc109)), trivial⟩ ⟨rest112, i111 + 1, O149, rfl, hd114, rfl, T110, hO, hS, hF, h⟩
    refine wc_known_true rfl hc228 ?_
    refine wc_seq ?_
    refine wc_region (l := [0]) rfl ?_
    refine wo_seg Θ_ok [0] [(6, (.bool false))] rfl ⟨rfl, trivial⟩ ?_
    refine wo_nil ?_
    refine wq_seq ?_
    refine wc_ret ?_
    cases h
    exact wq_block_ret (wq_then_ret (wq_then_ret (wq_block_ret (wq_then_ret (wq_ret rfl ⟨_, rfl, (bool_is.2 rfl), hF⟩)))))
  refine wo_know 94 true rfl hc162 ?_
  refine wo_seg Θ_ok [21, 22, 23, 24, 25] [(0, v0), (2, v2), (7, v8), (8, (.bool y18)), (11, (.pointer (some ⟨b126, 0, none⟩))), (15, (.int .i64 p148)), (45, (.slice A108 x1.length c109)), (46, (.int .i64 (x1.length : Int))), (47, (.int .i64 (i111 : Int))), (99, (.bool (y136.1 != (0 : Int))))] rfl ⟨rfl, rfl, rfl, rfl, rfl, rfl, rfl, rfl, rfl, rfl, trivial⟩ ?_
  rcases bif_some h with ⟨hc163, h⟩ | ⟨hc163, h⟩
  · refine wo_know 99 true rfl hc163 ?_
    refine wo_seg Θ_ok [26, 27, 28, 29, 30, 31, 32] [(0, v0), (2, v2), (7, v8), (8, (.bool y18)), (11, (.pointer (some ⟨b126, 0, none⟩))), (45, (.slice A108 x1.length c109)), (46, (.int .i64 (x1.length : Int))), (47, (.int .i64 (i111 : Int))), (106, (.bool true))] rfl ⟨rfl, rfl, rfl, rfl, rfl, rfl, rfl, rfl, rfl, trivial⟩ ?_
    refine wo_nil ?_
    refine wq_seq ?_
    refine wc_true rfl ?_
    refine wc_seq ?_
    refine wc_region (l := [0]) rfl ?_
    refine wo_seg Θ_ok [0] [(6, (.bool false))] rfl ⟨rfl, trivial⟩ ?_
    refine wo_nil ?_
    refine wq_seq ?_
    refine wc_ret ?_
    cases h
    exact wq_then_ret (wq_block_ret (wq_then_ret (wq_then_ret (wq_block_ret (wq_then_ret (wq_ret rfl ⟨_, rfl, (bool_is.2 rfl), hF⟩))))))
  refine wo_know 99 false rfl hc163 ?_
  refine wo_seg Θ_ok [26, 27] [(0, v0), (2, v2), (7, v8), (8, (.bool y18)), (11, (.pointer (some ⟨b126, 0, none⟩))), (15, (.int .i64 p148)), (45, (.slice A108 x1.length c109)), (46, (.int .i64 (x1.length : Int))), (47, (.int .i64 (i111 : Int))), (99, (.bool false)), (100, v8), (101, (.pointer (some ⟨b126, 2, none⟩)))] rfl ⟨rfl, rfl, rfl, rfl, rfl, rfl, rfl, rfl, rfl, rfl, rfl, rfl, trivial⟩ ?_
  refine wo_load Θ_ok rfl rfl rfl rfl rfl rfl rfl hb126 [(.int .u64 z113.fWhat)] rfl rfl (.inr rfl) (.int .u64 z113.fWhat) rfl ?_
  obtain ⟨y168, hy169, h⟩ := bind_some h
  refine wo_gives rfl rfl rfl rfl rfl ent18 rfl (d_Count_c hO h10 (int_is.2 rfl) hy169) (fun v164 w165 h166 f167 => ?_)
  have h0 := h0.tr f167.tr0
  have h2 := h2.tr f167.tr0
  have h10 := h10.tr f167.tr0
  have h1 := h1.tr f167.tr0
  have hg0 := hg0.tr f167.tr0
  have hb126 := hb126.fr0 f167
  have T29 := T29.trans f167.tr0
  have T110 := T110.trans f167.tr0
  have hO := f167.ob hO
  have hF := hF.trans f167
  obtain rfl := int_is.1 h166
  refine wo_seg Θ_ok [30, 31, 32] [(0, v0), (2, v2), (7, v8), (8, (.bool y18)), (11, (.pointer (some ⟨b126, 0, none⟩))), (45, (.slice A108 x1.length c109)), (46, (.int .i64 (x1.length : Int))), (47, (.int .i64 (i111 : Int))), (106, (.bool (y168 != p148)))] rfl ⟨rfl, rfl, rfl, rfl, rfl, rfl, rfl, rfl, rfl, trivial⟩ ?_
  refine wo_nil ?_
  refine wq_seq ?_
  rcases bif_some h with ⟨hc170, h⟩ | ⟨hc170, h⟩
  · refine wc_known_true rfl hc170 ?_
    refine wc_seq ?_
    refine wc_region (l := [0]) rfl ?_
    refine wo_seg Θ_ok [0] [(6, (.bool false))] rfl ⟨rfl, trivial⟩ ?_
    refine wo_nil ?_
    refine wq_seq ?_
    refine wc_ret ?_
    cases h
    exact wq_then_ret (wq_block_ret (wq_then_ret (wq_then_ret (wq_block_ret (wq_then_ret (wq_ret rfl ⟨_, rfl, (bool_is.2 rfl), hF⟩))))))
  refine wc_known_false rfl hc170 ?_
  refine wc_skip ?_
  refine wq_seq ?_
  refine wc_seq ?_
  refine wc_region (l := [0, 1, 2, 3, 4, 5, 6]) rfl ?_
  refine wo_load Θ_ok rfl rfl rfl rfl rfl rfl rfl hb126 [(.int .u64 z113.fPid), (.int .i64 z113.fFd), (.int .u64 z113.fWhat)] rfl rfl (.inl rfl) (.agg #[(.int .u64 z113.fPid), (.int .i64 z113.fFd), (.int .u64 z113.fWhat)]) rfl ?_
  obtain ⟨y175, hy176, h⟩ := bind_some h
  refine wo_gives rfl rfl rfl rfl rfl ent19 rfl (d_Key_c hO hg0 ((tGDesc_is (x := z113)).2 rfl) hy176) (fun v171 w172 h173 f174 => ?_)
  have h0 := h0.tr f174.tr0
  have h2 := h2.tr f174.tr0
  have h10 := h10.tr f174.tr0
  have h1 := h1.tr f174.tr0
  have hg0 := hg0.tr f174.tr0
  have hb126 := hb126.fr0 f174
  have T29 := T29.trans f174.tr0
  have T110 := T110.trans f174.tr0
  have hO := f174.ob hO
  have hF := hF.trans f174
  obtain ⟨u177, u179, rfl, h178, h180⟩ := h173
  obtain rfl := int_is.1 h178
  obtain rfl := int_is.1 h180
  refine wo_seg Θ_ok [2, 3, 4, 5, 6] [(0, v0), (2, v2), (7, v8), (8, (.bool y18)), (11, (.pointer (some ⟨b126, 0, none⟩))), (16, (.int .u64 y175.1)), (17, (.int .i64 y175.2)), (45, (.slice A108 x1.length c109)), (46, (.int .i64 (x1.length : Int))), (47, (.int .i64 (i111 : Int)))] rfl ⟨rfl, rfl, rfl, rfl, rfl, rfl, rfl, rfl, rfl, rfl, trivial⟩ ?_
  refine wo_nil ?_
  refine wq_seq ?_
  refine wc_seq ?_
  refine wc_region (l := [0, 1, 2]) rfl ?_
  refine wo_load Θ_ok rfl rfl rfl rfl rfl rfl rfl hb126 [(.int .u64 z113.fPid), (.int .i64 z113.fFd), (.int .u64 z113.fWhat)] rfl rfl (.inl rfl) (.agg #[(.int .u64 z113.fPid), (.int .i64 z113.fFd), (.int .u64 z113.fWhat)]) rfl ?_
  refine wo_gives rfl rfl rfl rfl rfl ent20 rfl (r_Is_c hO ((tGDesc_is (x := z113)).2 rfl)) (fun v181 w182 h183 f184 => ?_)
  have h0 := h0.tr f184.tr0
  have h2 := h2.tr f184.tr0
  have h10 := h10.tr f184.tr0
  have h1 := h1.tr f184.tr0
  have hg0 := hg0.tr f184.tr0
  have hb126 := hb126.fr0 f184
  have T29 := T29.trans f184.tr0
  have T110 := T110.trans f184.tr0
  have hO := f184.ob hO
  have hF := hF.trans f184
  obtain rfl := bool_is.1 h183
  refine wo_seg Θ_ok [2] [(0, v0), (2, v2), (7, v8), (8, (.bool y18)), (11, (.pointer (some ⟨b126, 0, none⟩))), (16, (.int .u64 y175.1)), (17, (.int .i64 y175.2)), (18, (.bool ((r_Is z113)))), (45, (.slice A108 x1.length c109)), (46, (.int .i64 (x1.length : Int))), (47, (.int .i64 (i111 : Int)))] rfl ⟨rfl, rfl, rfl, rfl, rfl, rfl, rfl, rfl, rfl, rfl, rfl, trivial⟩ ?_
  refine wo_nil ?_
  refine wq_seq ?_
  refine wc_seq ?_
  refine wc_region (l := [0, 1, 2, 3, 4, 5, 6, 7, 8, 9, 10, 11, 12, 13, 14, 15, 16, 17, 18, 19, 20, 21, 22, 23, 24]) rfl ?_
  refine wo_seg Θ_ok [0, 1, 2, 3, 4] [(0, v0), (2, v2), (7, v8), (8, (.bool y18)), (11, (.pointer (some ⟨b126, 0, none⟩))), (16, (.int .u64 y175.1)), (17, (.int .i64 y175.2)), (18, (.bool ((r_Is z113)))), (45, (.slice A108 x1.length c109)), (46, (.int .i64 (x1.length : Int))), (47, (.int .i64 (i111 : Int))), (118, (.bool (!((y175.2 == (0 : Int)) == (r_Is z113)))))] rfl ⟨rfl, rfl, rfl, rfl, rfl, rfl, rfl, rfl, rfl, rfl, rfl, rfl, trivial⟩ ?_
  rcases bif_some h with ⟨hc185, h⟩ | ⟨hc185, h⟩
  · refine wo_know 118 true rfl hc185 ?_
    refine wo_seg Θ_ok [5, 6, 7, 8, 9, 10, 11, 12, 13, 14, 15, 16, 17, 18, 19, 20, 21, 22, 23, 24] [(0, v0), (2, v2), (7, v8), (8, (.bool y18)), (45, (.slice A108 x1.length c109)), (46, (.int .i64 (x1.length : Int))), (47, (.int .i64 (i111 : Int))), (138, (.bool true))] rfl ⟨rfl, rfl, rfl, rfl, rfl, rfl, rfl, rfl, trivial⟩ ?_
    refine wo_nil ?_
    refine wq_seq ?_
    refine wc_true rfl ?_
    refine wc_seq ?_
    refine wc_region (l := [0]) rfl ?_
    refine wo_seg Θ_ok [0] [(6, (.bool false))] rfl ⟨rfl, trivial⟩ ?_
    refine wo_nil ?_
    refine wq_seq ?_
    refine wc_ret ?_
    cases h
    exact wq_block_ret (wq_then_ret (wq_then_ret (wq_block_ret (wq_then_ret (wq_ret rfl ⟨_, rfl, (bool_is.2 rfl), hF⟩)))))
  refine wo_know 118 false rfl hc185 ?_
  refine wo_seg Θ_ok [5, 6] [(0, v0), (2, v2), (7, v8), (8, (.bool y18)), (11, (.pointer (some ⟨b126, 0, none⟩))), (16, (.int .u64 y175.1)), (17, (.int .i64 y175.2)), (18, (.bool ((r_Is z113)))), (45, (.slice A108 x1.length c109)), (46, (.int .i64 (x1.length : Int))), (47, (.int .i64 (i111 : Int))), (118, (.bool false)), (120, (.bool ((r_Is z113))))] rfl ⟨rfl, rfl, rfl, rfl, rfl, rfl, rfl, rfl, rfl, rfl, rfl, rfl, rfl, trivial⟩ ?_
  rcases bif_some h with ⟨hc186, h⟩ | ⟨hc186, h⟩
  rotate_left
  · refine wo_know 120 false rfl hc186 ?_
    refine wo_seg Θ_ok [7, 8, 9, 10, 11, 12, 13, 14, 15, 16] [(0, v0), (2, v2), (7, v8), (8, (.bool y18)), (16, (.int .u64 y175.1)), (17, (.int .i64 y175.2)), (45, (.slice A108 x1.length c109)), (46, (.int .i64 (x1.length : Int))), (47, (.int .i64 (i111 : Int))), (127, (.bool false)), (130, (.bool (!(r_Is z113))))] rfl ⟨rfl, rfl, rfl, rfl, rfl, rfl, rfl, rfl, rfl, rfl, rfl, trivial⟩ ?_
    rcases bif_some h with ⟨hc195, h⟩ | ⟨hc195, h⟩
    rotate_left
    · refine wo_know 130 false rfl hc195 ?_
      refine wo_seg Θ_ok [17, 18, 19, 20, 21, 22, 23, 24] [(0, v0), (2, v2), (7, v8), (8, (.bool y18)), (45, (.slice A108 x1.length c109)), (46, (.int .i64 (x1.length : Int))), (47, (.int .i64 (i111 : Int))), (138, (.bool false))] rfl ⟨rfl, rfl, rfl, rfl, rfl, rfl, rfl, rfl, trivial⟩ ?_
      refine wo_nil ?_
      refine wq_seq ?_
      refine wc_false rfl ?_
      refine wc_skip ?_
      refine wq_block (wq_seq ?_)
      refine wc_region (l := [0, 1]) rfl ?_
      refine wo_seg Θ_ok [0, 1] [(0, v0), (2, v2), (7, v8), (8, (.bool y18)), (45, (.slice A108 x1.length c109)), (46, (.int .i64 (x1.length : Int))), (47, (.int .i64 (IntKind.i64.wrap ((i111 : Int) + (1 : Int)))))] rfl ⟨rfl, rfl, rfl, rfl, rfl, rfl, rfl, trivial⟩ ?_
      refine wo_nil ?_
      exact wq_next rest112.length [(0, v0), (2, v2), (7, v8), (8, (.bool y18)), (45, (.slice A108 x1.length c109)), (46, (.int .i64 (x1.length : Int))), (47, (.int .i64 ((i111 + 1 : Nat) : Int)))] (Nat.lt_succ_self _) ⟨rfl, rfl, rfl, rfl, rfl, rfl, congrArg (fun z => some (Value.int .i64 z)) (wrap_succ hl121 (Nat.le_trans hlc109 hmc109)), trivial⟩ ⟨rest112, i111 + 1, O149, rfl, hd114, rfl, T110, hO, hS, hF, h⟩
    refine wo_know 130 true rfl hc195 ?_
    refine wo_seg Θ_ok [17, 18, 19] [(0, v0), (2, v2), (7, v8), (8, (.bool y18)), (17, (.int .i64 y175.2)), (45, (.slice A108 x1.length c109)), (46, (.int .i64 (x1.length : Int))), (47, (.int .i64 (i111 : Int))), (127, (.bool false)), (130, (.bool true)), (133, (.bool (y175.1 != (0 : Int))))] rfl ⟨rfl, rfl, rfl, rfl, rfl, rfl, rfl, rfl, rfl, rfl, rfl, trivial⟩ ?_
    rcases bif_some h with ⟨hc196, h⟩ | ⟨hc196, h⟩
    · refine wo_know 133 true rfl hc196 ?_
      refine wo_seg Θ_ok [20, 21, 22, 23, 24] [(0, v0), (2, v2), (7, v8), (8, (.bool y18)), (45, (.slice A108 x1.length c109)), (46, (.int .i64 (x1.length : Int))), (47, (.int .i64 (i111 : Int))), (138, (.bool true))] rfl ⟨rfl, rfl, rfl, rfl, rfl, rfl, rfl, rfl, trivial⟩ ?_
      refine wo_nil ?_
      refine wq_seq ?_
      refine wc_true rfl ?_
      refine wc_seq ?_
      refine wc_region (l := [0]) rfl ?_
      refine wo_seg Θ_ok [0] [(6, (.bool false))] rfl ⟨rfl, trivial⟩ ?_
      refine wo_nil ?_
      refine wq_seq ?_
      refine wc_ret ?_
      cases h
      exact wq_block_ret (wq_then_ret (wq_then_ret (wq_block_ret (wq_then_ret (wq_ret rfl ⟨_, rfl, (bool_is.2 rfl), hF⟩)))))
    refine wo_know 133 false rfl hc196 ?_
    refine wo_seg Θ_ok [20, 21, 22, 23, 24] [(0, v0), (2, v2), (7, v8), (8, (.bool y18)), (45, (.slice A108 x1.length c109)), (46, (.int .i64 (x1.length : Int))), (47, (.int .i64 (i111 : Int))), (138, (.bool (y175.2 != (2 : Int))))] rfl ⟨rfl, rfl, rfl, rfl, rfl, rfl, rfl, rfl, trivial⟩ ?_
    refine wo_nil ?_
    refine wq_seq ?_
    rcases bif_some h with ⟨hc197, h⟩ | ⟨hc197, h⟩
    rotate_left
    · refine wc_known_false rfl hc197 ?_
      refine wc_skip ?_
      refine wq_block (wq_seq ?_)
      refine wc_region (l := [0, 1]) rfl ?_
      refine wo_seg Θ_ok [0, 1] [(0, v0), (2, v2), (7, v8), (8, (.bool y18)), (45, (.slice A108 x1.length c109)), (46, (.int .i64 (x1.length : Int))), (47, (.int .i64 (IntKind.i64.wrap ((i111 : Int) + (1 : Int)))))] rfl ⟨rfl, rfl, rfl, rfl, rfl, rfl, rfl, trivial⟩ ?_
      refine wo_nil ?_
      exact wq_next rest112.length [(0, v0), (2, v2), (7, v8), (8, (.bool y18)), (45, (.slice A108 x1.length c109)), (46, (.int .i64 (x1.length : Int))), (47, (.int .i64 ((i111 + 1 : Nat) : Int)))] (Nat.lt_succ_self _) ⟨rfl, rfl, rfl, rfl, rfl, rfl, congrArg (fun z => some (Value.int .i64 z)) (wrap_succ hl121 (Nat.le_trans hlc109 hmc109)), trivial⟩ ⟨rest112, i111 + 1, O149, rfl, hd114, rfl, T110, hO, hS, hF, h⟩
    refine wc_known_true rfl hc197 ?_
    refine wc_seq ?_
    refine wc_region (l := [0]) rfl ?_
    refine wo_seg Θ_ok [0] [(6, (.bool false))] rfl ⟨rfl, trivial⟩ ?_
    refine wo_nil ?_
    refine wq_seq ?_
    refine wc_ret ?_
    cases h
    exact wq_block_ret (wq_then_ret (wq_then_ret (wq_block_ret (wq_then_ret (wq_ret rfl ⟨_, rfl, (bool_is.2 rfl), hF⟩)))))
  refine wo_know 120 true rfl hc186 ?_
  refine wo_seg Θ_ok [7] [(0, v0), (2, v2), (7, v8), (8, (.bool y18)), (11, (.pointer (some ⟨b126, 0, none⟩))), (16, (.int .u64 y175.1)), (17, (.int .i64 y175.2)), (18, (.bool ((r_Is z113)))), (45, (.slice A108 x1.length c109)), (46, (.int .i64 (x1.length : Int))), (47, (.int .i64 (i111 : Int))), (118, (.bool false)), (120, (.bool true)), (121, (.int .u64 y175.1))] rfl ⟨rfl, rfl, rfl, rfl, rfl, rfl, rfl, rfl, rfl, rfl, rfl, rfl, rfl, rfl, trivial⟩ ?_
  refine wo_load Θ_ok rfl rfl rfl rfl rfl rfl rfl hb126 [(.int .u64 z113.fPid), (.int .i64 z113.fFd), (.int .u64 z113.fWhat)] rfl rfl (.inl rfl) (.agg #[(.int .u64 z113.fPid), (.int .i64 z113.fFd), (.int .u64 z113.fWhat)]) rfl ?_
  refine wo_gives rfl rfl rfl rfl rfl ent21 rfl (r_Key_c hO ((tGDesc_is (x := z113)).2 rfl)) (fun v187 w188 h189 f190 => ?_)
  have h0 := h0.tr f190.tr0
  have h2 := h2.tr f190.tr0
  have h10 := h10.tr f190.tr0
  have h1 := h1.tr f190.tr0
  have hg0 := hg0.tr f190.tr0
  have T29 := T29.trans f190.tr0
  have T110 := T110.trans f190.tr0
  have hO := f190.ob hO
  have hF := hF.trans f190
  obtain rfl := int_is.1 h189
  refine wo_seg Θ_ok [10, 11, 12, 13] [(0, v0), (2, v2), (7, v8), (8, (.bool y18)), (16, (.int .u64 y175.1)), (17, (.int .i64 y175.2)), (18, (.bool ((r_Is z113)))), (45, (.slice A108 x1.length c109)), (46, (.int .i64 (x1.length : Int))), (47, (.int .i64 (i111 : Int))), (127, (.bool (y175.1 != (r_Key z113))))] rfl ⟨rfl, rfl, rfl, rfl, rfl, rfl, rfl, rfl, rfl, rfl, rfl, trivial⟩ ?_
  rcases bif_some h with ⟨hc191, h⟩ | ⟨hc191, h⟩
  · refine wo_know 127 true rfl hc191 ?_
    refine wo_seg Θ_ok [14, 15, 16, 17, 18, 19, 20, 21, 22, 23, 24] [(0, v0), (2, v2), (7, v8), (8, (.bool y18)), (45, (.slice A108 x1.length c109)), (46, (.int .i64 (x1.length : Int))), (47, (.int .i64 (i111 : Int))), (138, (.bool true))] rfl ⟨rfl, rfl, rfl, rfl, rfl, rfl, rfl, rfl, trivial⟩ ?_
    refine wo_nil ?_
    refine wq_seq ?_
    refine wc_true rfl ?_
    refine wc_seq ?_
    refine wc_region (l := [0]) rfl ?_
    refine wo_seg Θ_ok [0] [(6, (.bool false))] rfl ⟨rfl, trivial⟩ ?_
    refine wo_nil ?_
    refine wq_seq ?_
    refine wc_ret ?_
    cases h
    exact wq_block_ret (wq_then_ret (wq_then_ret (wq_block_ret (wq_then_ret (wq_ret rfl ⟨_, rfl, (bool_is.2 rfl), hF⟩)))))
  refine wo_know 127 false rfl hc191 ?_
  refine wo_seg Θ_ok [14, 15, 16] [(0, v0), (2, v2), (7, v8), (8, (.bool y18)), (16, (.int .u64 y175.1)), (17, (.int .i64 y175.2)), (45, (.slice A108 x1.length c109)), (46, (.int .i64 (x1.length : Int))), (47, (.int .i64 (i111 : Int))), (127, (.bool false)), (130, (.bool (!(r_Is z113))))] rfl ⟨rfl, rfl, rfl, rfl, rfl, rfl, rfl, rfl, rfl, rfl, rfl, trivial⟩ ?_
  rcases bif_some h with ⟨hc192, h⟩ | ⟨hc192, h⟩
  rotate_left
  · refine wo_know 130 false rfl hc192 ?_
    refine wo_seg Θ_ok [17, 18, 19, 20, 21, 22, 23, 24] [(0, v0), (2, v2), (7, v8), (8, (.bool y18)), (45, (.slice A108 x1.length c109)), (46, (.int .i64 (x1.length : Int))), (47, (.int .i64 (i111 : Int))), (138, (.bool false))] rfl ⟨rfl, rfl, rfl, rfl, rfl, rfl, rfl, rfl, trivial⟩ ?_
    refine wo_nil ?_
    refine wq_seq ?_
    refine wc_false rfl ?_
    refine wc_skip ?_
    refine wq_block (wq_seq ?_)
    refine wc_region (l := [0, 1]) rfl ?_
    refine wo_seg Θ_ok [0, 1] [(0, v0), (2, v2), (7, v8), (8, (.bool y18)), (45, (.slice A108 x1.length c109)), (46, (.int .i64 (x1.length : Int))), (47, (.int .i64 (IntKind.i64.wrap ((i111 : Int) + (1 : Int)))))] rfl ⟨rfl, rfl, rfl, rfl, rfl, rfl, rfl, trivial⟩ ?_
    refine wo_nil ?_
    exact wq_next rest112.length [(0, v0), (2, v2), (7, v8), (8, (.bool y18)), (45, (.slice A108 x1.length c109)), (46, (.int .i64 (x1.length : Int))), (47, (.int .i64 ((i111 + 1 : Nat) : Int)))] (Nat.lt_succ_self _) ⟨rfl, rfl, rfl, rfl, rfl, rfl, congrArg (fun z => some (Value.int .i64 z)) (wrap_succ hl121 (Nat.le_trans hlc109 hmc109)), trivial⟩ ⟨rest112, i111 + 1, O149, rfl, hd114, rfl, T110, hO, hS, hF, h⟩
  refine wo_know 130 true rfl hc192 ?_
  refine wo_seg Θ_ok [17, 18, 19] [(0, v0), (2, v2), (7, v8), (8, (.bool y18)), (17, (.int .i64 y175.2)), (45, (.slice A108 x1.length c109)), (46, (.int .i64 (x1.length : Int))), (47, (.int .i64 (i111 : Int))), (127, (.bool false)), (130, (.bool true)), (133, (.bool (y175.1 != (0 : Int))))] rfl ⟨rfl, rfl, rfl, rfl, rfl, rfl, rfl, rfl, rfl, rfl, rfl, trivial⟩ ?_
  rcases bif_some h with ⟨hc193, h⟩ | ⟨hc193, h⟩
  · refine wo_know 133 true rfl hc193 ?_
    refine wo_seg Θ_ok [20, 21, 22, 23, 24] [(0, v0), (2, v2), (7, v8), (8, (.bool y18)), (45, (.slice A108 x1.length c109)), (46, (.int .i64 (x1.length : Int))), (47, (.int .i64 (i111 : Int))), (138, (.bool true))] rfl ⟨rfl, rfl, rfl, rfl, rfl, rfl, rfl, rfl, trivial⟩ ?_
    refine wo_nil ?_
    refine wq_seq ?_
    refine wc_true rfl ?_
    refine wc_seq ?_
    refine wc_region (l := [0]) rfl ?_
    refine wo_seg Θ_ok [0] [(6, (.bool false))] rfl ⟨rfl, trivial⟩ ?_
    refine wo_nil ?_
    refine wq_seq ?_
    refine wc_ret ?_
    cases h
    exact wq_block_ret (wq_then_ret (wq_then_ret (wq_block_ret (wq_then_ret (wq_ret rfl ⟨_, rfl, (bool_is.2 rfl), hF⟩)))))
  refine wo_know 133 false rfl hc193 ?_
  refine wo_seg Θ_ok [20, 21, 22, 23, 24] [(0, v0), (2, v2), (7, v8), (8, (.bool y18)), (45, (.slice A108 x1.length c109)), (46, (.int .i64 (x1.length : Int))), (47, (.int .i64 (i111 : Int))), (138, (.bool (y175.2 != (2 : Int))))] rfl ⟨rfl, rfl, rfl, rfl, rfl, rfl, rfl, rfl, trivial⟩ ?_
  refine wo_nil ?_
  refine wq_seq ?_
  rcases bif_some h with ⟨hc194, h⟩ | ⟨hc194, h⟩
  rotate_left
  · refine wc_known_false rfl hc194 ?_
    refine wc_skip ?_
    refine wq_block (wq_seq ?_)
    refine wc_region (l := [0, 1]) rfl ?_
    refine wo_seg Θ_ok [0, 1] [(0, v0), (2, v2), (7, v8), (8, (.bool y18)), (45, (.slice A108 x1.length c109)), (46, (.int .i64 (x1.length : Int))), (47, (.int .i64 (IntKind.i64.wrap ((i111 : Int) + (1 : Int)))))] rfl ⟨rfl, rfl, rfl, rfl, rfl, rfl, rfl, trivial⟩ ?_
    refine wo_nil ?_
    exact wq_next rest112.length [(0, v0), (2, v2), (7, v8), (8, (.bool y18)), (45, (.slice A108 x1.length c109)), (46, (.int .i64 (x1.length : Int))), (47, (.int .i64 ((i111 + 1 : Nat) : Int)))] (Nat.lt_succ_self _) ⟨rfl, rfl, rfl, rfl, rfl, rfl, congrArg (fun z => some (Value.int .i64 z)) (wrap_succ hl121 (Nat.le_trans hlc109 hmc109)), trivial⟩ ⟨rest112, i111 + 1, O149, rfl, hd114, rfl, T110, hO, hS, hF, h⟩
  refine wc_known_true rfl hc194 ?_
  refine wc_seq ?_
  refine wc_region (l := [0]) rfl ?_
  refine wo_seg Θ_ok [0] [(6, (.bool false))] rfl ⟨rfl, trivial⟩ ?_
  refine wo_nil ?_
  refine wq_seq ?_
  refine wc_ret ?_
  cases h
  exact wq_block_ret (wq_then_ret (wq_then_ret (wq_block_ret (wq_then_ret (wq_ret rfl ⟨_, rfl, (bool_is.2 rfl), hF⟩)))))
end Go.Proofs.YtbaffpifmfddeaaDoor
