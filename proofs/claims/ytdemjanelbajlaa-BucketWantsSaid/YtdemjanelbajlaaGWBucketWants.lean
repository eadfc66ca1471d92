/-
  The program's functions compute the plain ones (printed by a tool of the prover's).
-/
import Derived.Test.YtdemjanelbajlaaGWalk4
namespace Go.Proofs.Ytdemjanelbajlaa
open Go.RowKit Go.Dc Go.Shelf
set_option maxRecDepth 100000 in
set_option maxHeartbeats 4000000 in
theorem l_Wants_c {O : List Nat} {w : World} (hO : OB O w) {fuel : Nat} {v0 : Value} {x0 : List GPair} (h0 : (Ty.slice tGPair).is O w v0 x0) {r : Bool} (h : l_Wants fuel x0 = some r) : Calls Try.prog 3 #[v0] w (Gives (rt1 Ty.bool) O w r) := by
  have hF := Fr.refl [] w
  have hO0 := hO
  have hS := Sub.refl O
  refine calls_of (args := [v0]) (N := 51) Try.func3 rfl rfl rfl ?_
  unfold l_Wants at h
  refine wc_seq ?_
  refine wc_region (l := [0]) rfl ?_
  refine wo_seg Θ_ok [0] [(0, v0)] rfl ⟨rfl, trivial⟩ ?_
  refine wo_nil ?_
  refine wq_seq ?_
  refine wc_seq ?_
  refine wc_seq ?_
  refine wc_region (l := [0, 1]) rfl ?_
  obtain ⟨y6, hy7, h⟩ := bind_some h
  refine wo_gives rfl rfl rfl rfl rfl ent10 rfl (r_wakes_c hO hy7) (fun v2 w3 h4 f5 => ?_)
  have h0 := h0.tr f5.tr0
  have hO := f5.ob hO
  have hF := hF.trans f5
  obtain rfl := bool_is.1 h4
  refine wo_seg Θ_ok [1] [(0, v0), (10, (.bool (!y6)))] rfl ⟨rfl, rfl, trivial⟩ ?_
  refine wo_nil ?_
  refine wq_seq ?_
  rcases bif_some h with ⟨hc8, h⟩ | ⟨hc8, h⟩
  · refine wc_known_true rfl hc8 ?_
    refine wc_seq ?_
    refine wc_region (l := [0]) rfl ?_
    refine wo_seg Θ_ok [0] [(2, (.bool false))] rfl ⟨rfl, trivial⟩ ?_
    refine wo_nil ?_
    refine wq_seq ?_
    refine wc_ret ?_
    cases h
    exact wq_then_ret (wq_ret rfl ⟨_, rfl, (bool_is.2 rfl), hF⟩)
  refine wc_known_false rfl hc8 ?_
  refine wc_skip ?_
  refine wq_seq ?_
  obtain ⟨k10, hk11, h⟩ := letk_some h
  refine wc_join (fun E W => ∃ (O14 : List Nat), E = [] ∧ Tr O w3 O14 W ∧ OB O14 W ∧ Sub O O14 ∧ Fr [] w W ∧ k10 = some r) ?_ (fun K12 hK13 => ?_)
  · rintro E w15 ⟨O14, rfl, T9, hO, hS, hF, h⟩
    subst hk11
    (try dsimp only at h)
    refine wc_seq ?_
    refine wc_region (l := [0]) rfl ?_
    refine wo_seg Θ_ok [0] [(2, (.bool true))] rfl ⟨rfl, trivial⟩ ?_
    refine wo_nil ?_
    refine wq_seq ?_
    refine wc_ret ?_
    cases h
    exact wq_ret rfl ⟨_, rfl, (bool_is.2 rfl), hF⟩
  clear hk11
  have T9 := Tr.refl O w3
  refine wc_seq ?_
  refine wc_region (l := [0, 1, 2]) rfl ?_
  refine wo_seg Θ_ok [0] [(11, v0)] rfl ⟨rfl, trivial⟩ ?_
  obtain ⟨A16, c17, rfl, hlc17, hmc17⟩ := slice_form h0
  refine wo_seg Θ_ok [1] [(11, (.slice A16 x0.length c17)), (12, (.int .i64 (x0.length : Int)))] rfl ⟨rfl, rfl, trivial⟩ ?_
  refine wo_seg Θ_ok [2] [(11, (.slice A16 x0.length c17)), (12, (.int .i64 (x0.length : Int))), (13, (.int .i64 0))] rfl ⟨rfl, rfl, rfl, trivial⟩ ?_
  refine wo_nil ?_
  refine wq_seq ?_
  refine wc_block ?_
  refine wc_loop (fun m E W => ∃ (rest20 : List GPair) (i19 : Nat) (O23 : List Nat), rest20.length = m ∧ x0.drop i19 = rest20 ∧ E = [(11, (.slice A16 x0.length c17)), (12, (.int .i64 (x0.length : Int))), (13, (.int .i64 (i19 : Int)))] ∧ Tr O w3 O23 W ∧ OB O23 W ∧ Sub O O23 ∧ Fr [] w W ∧ l_Wants_l1 k10 rest20 i19 = some r) _ [(11, (.slice A16 x0.length c17)), (12, (.int .i64 (x0.length : Int))), (13, (.int .i64 ((0 : Nat) : Int)))] ⟨rfl, rfl, rfl, trivial⟩ ⟨x0, 0, O, rfl, rfl, rfl, Tr.refl _ _, hO, hS, hF, h⟩ ?_
  rintro m E w24 ⟨rest20, i19, O23, rfl, hd22, rfl, T18, hO, hS, hF, h⟩
  have T9 := T9.trans T18
  have h0 := h0.tr T18
  rcases rest20 with _ | ⟨z21, rest20⟩
  · rw [l_Wants_l1] at h
    have hl28 := drop_nil hd22
    have hc25 : (decide ((i19 : Int) < (x0.length : Int))) = false := decide_eq_false (by omega)
    refine wc_seq ?_
    refine wc_region (l := [0]) rfl ?_
    refine wo_seg Θ_ok [0] [(11, (.slice A16 x0.length c17)), (12, (.int .i64 (x0.length : Int))), (13, (.int .i64 (i19 : Int))), (14, (.bool (decide ((i19 : Int) < (x0.length : Int)))))] rfl ⟨rfl, rfl, rfl, rfl, trivial⟩ ?_
    refine wo_nil ?_
    refine wq_seq ?_
    refine wc_seq ?_
    refine wc_known_false rfl hc25 ?_
    refine wc_exit ?_
    exact wq_then_exit (wq_then_exit (wq_block_exit (wq_join hK13 [] trivial ⟨O23, rfl, T9, hO, hS, hF, h⟩)))
  rw [l_Wants_l1] at h
  obtain ⟨hl29, hg27, hd22⟩ := drop_cons hd22
  have hc26 : (decide ((i19 : Int) < (x0.length : Int))) = true := decide_eq_true (by omega)
  refine wc_seq ?_
  refine wc_region (l := [0]) rfl ?_
  refine wo_seg Θ_ok [0] [(11, (.slice A16 x0.length c17)), (12, (.int .i64 (x0.length : Int))), (13, (.int .i64 (i19 : Int))), (14, (.bool (decide ((i19 : Int) < (x0.length : Int)))))] rfl ⟨rfl, rfl, rfl, rfl, trivial⟩ ?_
  refine wo_nil ?_
  refine wq_seq ?_
  refine wc_seq ?_
  refine wc_known_true rfl hc26 ?_
  refine wc_skip ?_
  refine wq_seq ?_
  refine wc_seq ?_
  refine wc_block ?_
  refine wc_seq ?_
  refine wc_region (l := [0, 1, 2, 3, 4, 5]) rfl ?_
  refine wo_seg Θ_ok [0] [(11, (.slice A16 x0.length c17)), (12, (.int .i64 (x0.length : Int))), (13, (.int .i64 (i19 : Int))), (15, (.int .i64 (i19 : Int)))] rfl ⟨rfl, rfl, rfl, rfl, trivial⟩ ?_
  refine wo_index Θ_ok rfl rfl rfl rfl rfl rfl rfl rfl rfl rfl h0 rfl (by omega) hg27 (fun p30 h31 => ?_)
  refine wo_loadp Θ_ok rfl rfl rfl rfl rfl rfl rfl h31 rfl rfl (fun v32 h33 => ?_)
  obtain rfl := tGPair_is.1 h33
  refine wo_alloc Θ_ok rfl rfl rfl rfl rfl rfl [(.int .i64 0), (.int .i64 0)] rfl hO (fun b34 w35 n36 => ?_)
  have h0 := h0.tr n36.tr
  have T9 := T9.trans n36.tr
  have T18 := T18.trans n36.tr
  have hb34 := n36.blk
  have gb34 := n36.ge0 hF
  have ib34 : b34 ∈ b34 :: O23 := List.mem_cons_self
  have hO := n36.ob
  have hF := hF.trans n36.fr
  have hS := Sub.cons hS b34
  refine wo_seg Θ_ok [4] [(3, (.int .i64 (i19 : Int))), (4, (.pointer (some ⟨b34, 0, none⟩))), (11, (.slice A16 x0.length c17)), (12, (.int .i64 (x0.length : Int))), (13, (.int .i64 (i19 : Int))), (17, (.agg #[(.int .i64 z21.f0), (.int .i64 z21.f1)]))] rfl ⟨rfl, rfl, rfl, rfl, rfl, rfl, trivial⟩ ?_
  refine wo_store Θ_ok rfl rfl rfl rfl rfl rfl rfl hb34 [(.int .i64 z21.f0), (.int .i64 z21.f1)] rfl rfl (by simp [Value.oneCell']) rfl [(.int .i64 z21.f0), (.int .i64 z21.f1)] rfl (fun w37 hb34 f38 => ?_)
  have h0 := h0.tr (f38.tr (one_in ib34))
  have T9 := T9.trans (f38.tr (one_in ib34))
  have T18 := T18.trans (f38.tr (one_in ib34))
  have hO := f38.ob hO
  have hF := hF.own f38 gb34
  refine wo_nil ?_
  refine wq_seq ?_
  refine wc_seq ?_
  refine wc_seq ?_
  refine wc_region (l := [0, 1]) rfl ?_
  refine wo_seg Θ_ok [0, 1] [(4, (.pointer (some ⟨b34, 0, none⟩))), (11, (.slice A16 x0.length c17)), (12, (.int .i64 (x0.length : Int))), (13, (.int .i64 (i19 : Int))), (19, (.bool ((i19 : Int) == (20 : Int))))] rfl ⟨rfl, rfl, rfl, rfl, rfl, trivial⟩ ?_
  refine wo_nil ?_
  refine wq_seq ?_
  rcases bif_some h with ⟨hc39, h⟩ | ⟨hc39, h⟩
  · refine wc_known_true rfl hc39 ?_
    refine wc_exit ?_
    exact wq_then_exit (wq_block_past rfl (wq_then_exit (wq_then_exit (wq_block_exit (wq_join hK13 [] trivial ⟨b34 :: O23, rfl, T9, hO, hS, hF, h⟩)))))
  refine wc_known_false rfl hc39 ?_
  refine wc_skip ?_
  refine wq_seq ?_
  refine wc_seq ?_
  refine wc_region (l := [0, 1, 2, 3, 4, 5, 6, 7, 8, 9]) rfl ?_
  refine wo_aindexC (j := 0) Θ_ok rfl rfl rfl rfl rfl rfl rfl rfl rfl rfl rfl rfl ?_
  refine wo_load Θ_ok rfl rfl rfl rfl rfl rfl rfl hb34 [(.int .i64 z21.f0)] rfl rfl (.inr rfl) (.int .i64 z21.f0) rfl ?_
  refine wo_aindexC (j := 1) Θ_ok rfl rfl rfl rfl rfl rfl rfl rfl rfl rfl rfl rfl ?_
  refine wo_load Θ_ok rfl rfl rfl rfl rfl rfl rfl hb34 [(.int .i64 z21.f1)] rfl rfl (.inr rfl) (.int .i64 z21.f1) rfl ?_
  refine wo_gives rfl rfl rfl rfl rfl ent11 rfl (b_Want_c hO (int_is.2 rfl) (int_is.2 rfl)) (fun v40 w41 h42 f43 => ?_)
  have h0 := h0.tr f43.tr0
  have hb34 := hb34.fr0 f43
  have T9 := T9.trans f43.tr0
  have T18 := T18.trans f43.tr0
  have hO := f43.ob hO
  have hF := hF.trans f43
  obtain ⟨u44, u46, rfl, h45, h47⟩ := h42
  obtain rfl := int_is.1 h45
  obtain rfl := int_is.1 h47
  refine wo_seg Θ_ok [5, 6, 7, 8, 9] [(4, (.pointer (some ⟨b34, 0, none⟩))), (5, (.int .i64 (((b_Want z21.f0 z21.f1)).1))), (6, (.int .i64 (((b_Want z21.f0 z21.f1)).2))), (11, (.slice A16 x0.length c17)), (12, (.int .i64 (x0.length : Int))), (13, (.int .i64 (i19 : Int)))] rfl ⟨rfl, rfl, rfl, rfl, rfl, rfl, trivial⟩ ?_
  refine wo_nil ?_
  refine wq_seq ?_
  refine wc_seq ?_
  refine wc_region (l := [0, 1]) rfl ?_
  refine wo_seg Θ_ok [0, 1] [(4, (.pointer (some ⟨b34, 0, none⟩))), (5, (.int .i64 (((b_Want z21.f0 z21.f1)).1))), (6, (.int .i64 (((b_Want z21.f0 z21.f1)).2))), (7, (.int .i64 0)), (8, (.int .i64 2)), (11, (.slice A16 x0.length c17)), (12, (.int .i64 (x0.length : Int))), (13, (.int .i64 (i19 : Int)))] rfl ⟨rfl, rfl, rfl, rfl, rfl, rfl, rfl, rfl, trivial⟩ ?_
  refine wo_nil ?_
  refine wq_seq ?_
  obtain ⟨k49, hk50, h⟩ := letk_some h
  refine wc_join (fun E W => ∃ (O55 : List Nat) (p53 : Int) (p54 : Int), E = [(5, (.int .i64 (((b_Want z21.f0 z21.f1)).1))), (6, (.int .i64 (((b_Want z21.f0 z21.f1)).2))), (7, (.int .i64 p53)), (8, (.int .i64 p54)), (11, (.slice A16 x0.length c17)), (12, (.int .i64 (x0.length : Int))), (13, (.int .i64 (i19 : Int)))] ∧ Tr (b34 :: O23) w41 O55 W ∧ OB O55 W ∧ Sub O O55 ∧ Fr [] w W ∧ k49 p53 p54 = some r) ?_ (fun K51 hK52 => ?_)
  · rintro E w56 ⟨O55, p53, p54, rfl, T48, hO, hS, hF, h⟩
    have T9 := T9.trans T48
    have T18 := T18.trans T48
    have h0 := h0.tr T48
    subst hk50
    (try dsimp only at h)
    refine wc_seq ?_
    refine wc_region (l := [0, 1, 2, 3, 4, 5, 6, 7]) rfl ?_
    refine wo_seg Θ_ok [0, 1, 2, 3] [(6, (.int .i64 (((b_Want z21.f0 z21.f1)).2))), (8, (.int .i64 p54)), (11, (.slice A16 x0.length c17)), (12, (.int .i64 (x0.length : Int))), (13, (.int .i64 (i19 : Int))), (45, (.bool ((((b_Want z21.f0 z21.f1)).1) != p53)))] rfl ⟨rfl, rfl, rfl, rfl, rfl, rfl, trivial⟩ ?_
    rcases bif_some h with ⟨hc57, h⟩ | ⟨hc57, h⟩
    · refine wo_know 45 true rfl hc57 ?_
      refine wo_seg Θ_ok [4, 5, 6, 7] [(11, (.slice A16 x0.length c17)), (12, (.int .i64 (x0.length : Int))), (13, (.int .i64 (i19 : Int))), (49, (.bool true))] rfl ⟨rfl, rfl, rfl, rfl, trivial⟩ ?_
      refine wo_nil ?_
      refine wq_seq ?_
      refine wc_true rfl ?_
      refine wc_seq ?_
      refine wc_region (l := [0]) rfl ?_
      refine wo_seg Θ_ok [0] [(2, (.bool false))] rfl ⟨rfl, trivial⟩ ?_
      refine wo_nil ?_
      refine wq_seq ?_
      refine wc_ret ?_
      cases h
      exact wq_block_ret (wq_then_ret (wq_then_ret (wq_block_ret (wq_then_ret (wq_ret rfl ⟨_, rfl, (bool_is.2 rfl), hF⟩)))))
    refine wo_know 45 false rfl hc57 ?_
    refine wo_seg Θ_ok [4, 5, 6, 7] [(11, (.slice A16 x0.length c17)), (12, (.int .i64 (x0.length : Int))), (13, (.int .i64 (i19 : Int))), (49, (.bool ((((b_Want z21.f0 z21.f1)).2) != p54)))] rfl ⟨rfl, rfl, rfl, rfl, trivial⟩ ?_
    refine wo_nil ?_
    refine wq_seq ?_
    rcases bif_some h with ⟨hc58, h⟩ | ⟨hc58, h⟩
    rotate_left
    · refine wc_known_false rfl hc58 ?_
      refine wc_skip ?_
      refine wq_block (wq_seq ?_)
      refine wc_region (l := [0, 1]) rfl ?_
      refine wo_seg Θ_ok [0, 1] [(11, (.slice A16 x0.length c17)), (12, (.int .i64 (x0.length : Int))), (13, (.int .i64 (IntKind.i64.wrap ((i19 : Int) + (1 : Int)))))] rfl ⟨rfl, rfl, rfl, trivial⟩ ?_
      refine wo_nil ?_
      exact wq_next rest20.length [(11, (.slice A16 x0.length c17)), (12, (.int .i64 (x0.length : Int))), (13, (.int .i64 ((i19 + 1 : Nat) : Int)))] (Nat.lt_succ_self _) ⟨rfl, rfl, congrArg (fun z => some (Value.int .i64 z)) (wrap_succ hl29 (Nat.le_trans hlc17 hmc17)), trivial⟩ ⟨rest20, i19 + 1, O55, rfl, hd22, rfl, T18, hO, hS, hF, h⟩
    refine wc_known_true rfl hc58 ?_
    refine wc_seq ?_
    refine wc_region (l := [0]) rfl ?_
    refine wo_seg Θ_ok [0] [(2, (.bool false))] rfl ⟨rfl, trivial⟩ ?_
    refine wo_nil ?_
    refine wq_seq ?_
    refine wc_ret ?_
    cases h
    exact wq_block_ret (wq_then_ret (wq_then_ret (wq_block_ret (wq_then_ret (wq_ret rfl ⟨_, rfl, (bool_is.2 rfl), hF⟩)))))
  clear hk50
  have T48 := Tr.refl (b34 :: O23) w41
  obtain ⟨k60, hk61, h⟩ := letk_some h
  refine wc_join (fun E W => ∃ (O65 : List Nat) (p64 : Bool), E = [(4, (.pointer (some ⟨b34, 0, none⟩))), (5, (.int .i64 (((b_Want z21.f0 z21.f1)).1))), (6, (.int .i64 (((b_Want z21.f0 z21.f1)).2))), (7, (.int .i64 0)), (8, (.int .i64 2)), (11, (.slice A16 x0.length c17)), (12, (.int .i64 (x0.length : Int))), (13, (.int .i64 (i19 : Int))), (35, (.bool p64))] ∧ Tr (b34 :: O23) w41 O65 W ∧ OB O65 W ∧ Sub O O65 ∧ Fr [] w W ∧ b34 ∈ O65 ∧ Blk W b34 24 [(.int .i64 z21.f0), (.int .i64 z21.f1)] ∧ k60 p64 = some r) ?_ (fun K62 hK63 => ?_)
  rotate_left
  · clear hk61
    have T59 := Tr.refl (b34 :: O23) w41
    refine wc_region (l := [0, 1, 2, 3, 4, 5, 6, 7]) rfl ?_
    refine wo_aindexC (j := 0) Θ_ok rfl rfl rfl rfl rfl rfl rfl rfl rfl rfl rfl rfl ?_
    refine wo_load Θ_ok rfl rfl rfl rfl rfl rfl rfl hb34 [(.int .i64 z21.f0)] rfl rfl (.inr rfl) (.int .i64 z21.f0) rfl ?_
    refine wo_gives rfl rfl rfl rfl rfl ent12 rfl (r_May_c hO (int_is.2 rfl)) (fun v72 w73 h74 f75 => ?_)
    have h0 := h0.tr f75.tr0
    have hb34 := hb34.fr0 f75
    have T9 := T9.trans f75.tr0
    have T18 := T18.trans f75.tr0
    have T48 := T48.trans f75.tr0
    have T59 := T59.trans f75.tr0
    have hO := f75.ob hO
    have hF := hF.trans f75
    obtain rfl := bool_is.1 h74
    refine wo_seg Θ_ok [3] [(4, (.pointer (some ⟨b34, 0, none⟩))), (5, (.int .i64 (((b_Want z21.f0 z21.f1)).1))), (6, (.int .i64 (((b_Want z21.f0 z21.f1)).2))), (7, (.int .i64 0)), (8, (.int .i64 2)), (11, (.slice A16 x0.length c17)), (12, (.int .i64 (x0.length : Int))), (13, (.int .i64 (i19 : Int))), (31, (.bool ((r_May z21.f0))))] rfl ⟨rfl, rfl, rfl, rfl, rfl, rfl, rfl, rfl, rfl, trivial⟩ ?_
    rcases bif_some h with ⟨hc76, h⟩ | ⟨hc76, h⟩
    rotate_left
    · refine wo_know 31 false rfl hc76 ?_
      refine wo_seg Θ_ok [4, 5, 6, 7] [(4, (.pointer (some ⟨b34, 0, none⟩))), (5, (.int .i64 (((b_Want z21.f0 z21.f1)).1))), (6, (.int .i64 (((b_Want z21.f0 z21.f1)).2))), (7, (.int .i64 0)), (8, (.int .i64 2)), (11, (.slice A16 x0.length c17)), (12, (.int .i64 (x0.length : Int))), (13, (.int .i64 (i19 : Int))), (35, (.bool false))] rfl ⟨rfl, rfl, rfl, rfl, rfl, rfl, rfl, rfl, rfl, trivial⟩ ?_
      refine wo_nil ?_
      exact wq_join hK63 [(4, (.pointer (some ⟨b34, 0, none⟩))), (5, (.int .i64 (((b_Want z21.f0 z21.f1)).1))), (6, (.int .i64 (((b_Want z21.f0 z21.f1)).2))), (7, (.int .i64 0)), (8, (.int .i64 2)), (11, (.slice A16 x0.length c17)), (12, (.int .i64 (x0.length : Int))), (13, (.int .i64 (i19 : Int))), (35, (.bool false))] ⟨rfl, rfl, rfl, rfl, rfl, rfl, rfl, rfl, rfl, trivial⟩ ⟨b34 :: O23, false, rfl, T59, hO, hS, hF, ib34, hb34, h⟩
    refine wo_know 31 true rfl hc76 ?_
    refine wo_aindexC (j := 1) Θ_ok rfl rfl rfl rfl rfl rfl rfl rfl rfl rfl rfl rfl ?_
    refine wo_load Θ_ok rfl rfl rfl rfl rfl rfl rfl hb34 [(.int .i64 z21.f1)] rfl rfl (.inr rfl) (.int .i64 z21.f1) rfl ?_
    refine wo_seg Θ_ok [6, 7] [(4, (.pointer (some ⟨b34, 0, none⟩))), (5, (.int .i64 (((b_Want z21.f0 z21.f1)).1))), (6, (.int .i64 (((b_Want z21.f0 z21.f1)).2))), (7, (.int .i64 0)), (8, (.int .i64 2)), (11, (.slice A16 x0.length c17)), (12, (.int .i64 (x0.length : Int))), (13, (.int .i64 (i19 : Int))), (35, (.bool (decide (z21.f1 ≥ (0 : Int)))))] rfl ⟨rfl, rfl, rfl, rfl, rfl, rfl, rfl, rfl, rfl, trivial⟩ ?_
    refine wo_nil ?_
    exact wq_join hK63 [(4, (.pointer (some ⟨b34, 0, none⟩))), (5, (.int .i64 (((b_Want z21.f0 z21.f1)).1))), (6, (.int .i64 (((b_Want z21.f0 z21.f1)).2))), (7, (.int .i64 0)), (8, (.int .i64 2)), (11, (.slice A16 x0.length c17)), (12, (.int .i64 (x0.length : Int))), (13, (.int .i64 (i19 : Int))), (35, (.bool (decide (z21.f1 ≥ (0 : Int)))))] ⟨rfl, rfl, rfl, rfl, rfl, rfl, rfl, rfl, rfl, trivial⟩ ⟨b34 :: O23, (decide (z21.f1 ≥ (0 : Int))), rfl, T59, hO, hS, hF, ib34, hb34, h⟩
  rintro E w66 ⟨O65, p64, rfl, T59, hO, hS, hF, ib34, hb34, h⟩
  have T9 := T9.trans T59
  have T18 := T18.trans T59
  have T48 := T48.trans T59
  have h0 := h0.tr T59
  subst hk61
  (try dsimp only at h)
  rcases bif_some h with ⟨hc67, h⟩ | ⟨hc67, h⟩
  rotate_left
  · refine wc_known_false rfl hc67 ?_
    refine wc_skip ?_
    exact wq_join hK52 [(5, (.int .i64 (((b_Want z21.f0 z21.f1)).1))), (6, (.int .i64 (((b_Want z21.f0 z21.f1)).2))), (7, (.int .i64 0)), (8, (.int .i64 2)), (11, (.slice A16 x0.length c17)), (12, (.int .i64 (x0.length : Int))), (13, (.int .i64 (i19 : Int)))] ⟨rfl, rfl, rfl, rfl, rfl, rfl, rfl, trivial⟩ ⟨O65, (0 : Int), (2 : Int), rfl, T48, hO, hS, hF, h⟩
  refine wc_known_true rfl hc67 ?_
  refine wc_region (l := [0, 1, 2, 3, 4, 5, 6, 7]) rfl ?_
  refine wo_aindexC (j := 0) Θ_ok rfl rfl rfl rfl rfl rfl rfl rfl rfl rfl rfl rfl ?_
  refine wo_load Θ_ok rfl rfl rfl rfl rfl rfl rfl hb34 [(.int .i64 z21.f0)] rfl rfl (.inr rfl) (.int .i64 z21.f0) rfl ?_
  refine wo_aindexC (j := 1) Θ_ok rfl rfl rfl rfl rfl rfl rfl rfl rfl rfl rfl rfl ?_
  refine wo_load Θ_ok rfl rfl rfl rfl rfl rfl rfl hb34 [(.int .i64 z21.f1)] rfl rfl (.inr rfl) (.int .i64 z21.f1) rfl ?_
  refine wo_seg Θ_ok [4] [(5, (.int .i64 (((b_Want z21.f0 z21.f1)).1))), (6, (.int .i64 (((b_Want z21.f0 z21.f1)).2))), (11, (.slice A16 x0.length c17)), (12, (.int .i64 (x0.length : Int))), (13, (.int .i64 (i19 : Int))), (37, (.int .i64 z21.f0)), (40, (.int .i64 (if (1000 : Int) < z21.f1 then (1000 : Int) else z21.f1)))] rfl ⟨rfl, rfl, rfl, rfl, rfl, rfl, rfl, trivial⟩ ?_
  refine wo_gives rfl rfl rfl rfl rfl ent13 rfl (r_Want_c hO (int_is.2 rfl) (int_is.2 rfl)) (fun v68 w69 h70 f71 => ?_)
  have h0 := h0.tr f71.tr0
  have T9 := T9.trans f71.tr0
  have T18 := T18.trans f71.tr0
  have T48 := T48.trans f71.tr0
  have hO := f71.ob hO
  have hF := hF.trans f71
  obtain rfl := int_is.1 h70
  refine wo_seg Θ_ok [6, 7] [(5, (.int .i64 (((b_Want z21.f0 z21.f1)).1))), (6, (.int .i64 (((b_Want z21.f0 z21.f1)).2))), (7, (.int .i64 (r_Want z21.f0 (if (1000 : Int) < z21.f1 then (1000 : Int) else z21.f1)))), (8, (.int .i64 0)), (11, (.slice A16 x0.length c17)), (12, (.int .i64 (x0.length : Int))), (13, (.int .i64 (i19 : Int)))] rfl ⟨rfl, rfl, rfl, rfl, rfl, rfl, rfl, trivial⟩ ?_
  refine wo_nil ?_
  exact wq_join hK52 [(5, (.int .i64 (((b_Want z21.f0 z21.f1)).1))), (6, (.int .i64 (((b_Want z21.f0 z21.f1)).2))), (7, (.int .i64 (r_Want z21.f0 (if (1000 : Int) < z21.f1 then (1000 : Int) else z21.f1)))), (8, (.int .i64 0)), (11, (.slice A16 x0.length c17)), (12, (.int .i64 (x0.length : Int))), (13, (.int .i64 (i19 : Int)))] ⟨rfl, rfl, rfl, rfl, rfl, rfl, rfl, trivial⟩ ⟨O65, (r_Want z21.f0 (if (1000 : Int) < z21.f1 then (1000 : Int) else z21.f1)), (0 : Int), rfl, T48, hO, hS, hF, h⟩
end Go.Proofs.Ytdemjanelbajlaa
