/-
  The program's functions compute the plain ones (printed by a tool of the prover's).
-/
import Derived.Test.YtdemjanelbajlaaGWalk1
namespace Go.Proofs.Ytdemjanelbajlaa
open Go.RowKit Go.Dc Go.Shelf
set_option maxRecDepth 100000 in
set_option maxHeartbeats 4000000 in
theorem r_Keys_c {O : List Nat} {w : World} (hO : OB O w) {v0 : Value} {x0 : List (List Int)} (h0 : (Ty.slice (Ty.slice (Ty.int .u64))).is O w v0 x0) {r : List Int} (h : r_Keys x0 = some r) : Calls Try.prog 34 #[v0] w (Gives (rt1 (Ty.slice (Ty.int .u64))) O w r) := by
  have hF := Fr.refl [] w
  have hO0 := hO
  have hS := Sub.refl O
  refine calls_of (args := [v0]) (N := 17) Try.func34 rfl rfl rfl ?_
  unfold r_Keys at h
  refine wc_seq ?_
  refine wc_region (l := [0]) rfl ?_
  refine wo_seg Θ_ok [0] [(0, v0)] rfl ⟨rfl, trivial⟩ ?_
  refine wo_nil ?_
  refine wq_seq ?_
  refine wc_seq ?_
  refine wc_region (l := [0]) rfl ?_
  refine wo_seg Θ_ok [0] [(0, v0), (3, (.slice none 0 0))] rfl ⟨rfl, rfl, trivial⟩ ?_
  refine wo_nil ?_
  refine wq_seq ?_
  obtain ⟨k3, hk4, h⟩ := letk_some h
  refine wc_join (fun E W => ∃ (O10 : List Nat) (p7 : List Int) (v8 : Value), E = [(3, v8)] ∧ Tr O w O10 W ∧ OB O10 W ∧ Sub O O10 ∧ Fr [] w W ∧ Go.Dc.Own (Ty.int .u64) 31 w.heap.size O10 W v8 p7 ∧ k3 p7 = some r) ?_ (fun K5 hK6 => ?_)
  · rintro E w11 ⟨O10, p7, v8, rfl, T2, hO, hS, hF, h9, h⟩
    subst hk4
    (try dsimp only at h)
    refine wc_seq ?_
    refine wc_region (l := [0, 1]) rfl ?_
    refine wo_seg Θ_ok [0, 1] [(2, v8)] rfl ⟨rfl, trivial⟩ ?_
    refine wo_nil ?_
    refine wq_seq ?_
    refine wc_ret ?_
    cases h
    exact wq_ret rfl ⟨_, rfl, (h9.share0 hS hO0), hF⟩
  clear hk4
  have T2 := Tr.refl O w
  refine wc_seq ?_
  refine wc_region (l := [0, 1, 2]) rfl ?_
  refine wo_seg Θ_ok [0] [(3, (.slice none 0 0)), (6, v0)] rfl ⟨rfl, rfl, trivial⟩ ?_
  obtain ⟨A12, c13, rfl, hlc13, hmc13⟩ := slice_form h0
  refine wo_seg Θ_ok [1] [(3, (.slice none 0 0)), (6, (.slice A12 x0.length c13)), (7, (.int .i64 (x0.length : Int)))] rfl ⟨rfl, rfl, rfl, trivial⟩ ?_
  refine wo_seg Θ_ok [2] [(3, (.slice none 0 0)), (6, (.slice A12 x0.length c13)), (7, (.int .i64 (x0.length : Int))), (8, (.int .i64 0))] rfl ⟨rfl, rfl, rfl, rfl, trivial⟩ ?_
  refine wo_nil ?_
  refine wq_seq ?_
  refine wc_block ?_
  refine wc_loop (fun m E W => ∃ (rest19 : List (List Int)) (i18 : Nat) (O22 : List Nat) (p15 : List Int) (v16 : Value), rest19.length = m ∧ x0.drop i18 = rest19 ∧ E = [(3, v16), (6, (.slice A12 x0.length c13)), (7, (.int .i64 (x0.length : Int))), (8, (.int .i64 (i18 : Int)))] ∧ Tr O w O22 W ∧ OB O22 W ∧ Sub O O22 ∧ Fr [] w W ∧ Go.Dc.Own (Ty.int .u64) 31 w.heap.size O22 W v16 p15 ∧ r_Keys_l1 k3 rest19 i18 p15 = some r) _ [(3, (.slice none 0 0)), (6, (.slice A12 x0.length c13)), (7, (.int .i64 (x0.length : Int))), (8, (.int .i64 ((0 : Nat) : Int)))] ⟨rfl, rfl, rfl, rfl, trivial⟩ ⟨x0, 0, O, ([] : List Int), (.slice none 0 0), rfl, rfl, rfl, Tr.refl _ _, hO, hS, hF, (Go.Dc.Own.nil_ : Go.Dc.Own (Ty.int .u64) 31 w.heap.size _ _ _ _), h⟩ ?_
  rintro m E w23 ⟨rest19, i18, O22, p15, v16, rfl, hd21, rfl, T14, hO, hS, hF, h17, h⟩
  have T2 := T2.trans T14
  have h0 := h0.tr T14
  rcases rest19 with _ | ⟨z20, rest19⟩
  · rw [r_Keys_l1] at h
    have hl27 := drop_nil hd21
    have hc24 : (decide ((i18 : Int) < (x0.length : Int))) = false := decide_eq_false (by omega)
    refine wc_seq ?_
    refine wc_region (l := [0]) rfl ?_
    refine wo_seg Θ_ok [0] [(3, v16), (6, (.slice A12 x0.length c13)), (7, (.int .i64 (x0.length : Int))), (8, (.int .i64 (i18 : Int))), (9, (.bool (decide ((i18 : Int) < (x0.length : Int)))))] rfl ⟨rfl, rfl, rfl, rfl, rfl, trivial⟩ ?_
    refine wo_nil ?_
    refine wq_seq ?_
    refine wc_seq ?_
    refine wc_known_false rfl hc24 ?_
    refine wc_exit ?_
    exact wq_then_exit (wq_then_exit (wq_block_exit (wq_join hK6 [(3, v16)] ⟨rfl, trivial⟩ ⟨O22, p15, v16, rfl, T2, hO, hS, hF, h17, h⟩)))
  rw [r_Keys_l1] at h
  obtain ⟨hl28, hg26, hd21⟩ := drop_cons hd21
  have hc25 : (decide ((i18 : Int) < (x0.length : Int))) = true := decide_eq_true (by omega)
  refine wc_seq ?_
  refine wc_region (l := [0]) rfl ?_
  refine wo_seg Θ_ok [0] [(3, v16), (6, (.slice A12 x0.length c13)), (7, (.int .i64 (x0.length : Int))), (8, (.int .i64 (i18 : Int))), (9, (.bool (decide ((i18 : Int) < (x0.length : Int)))))] rfl ⟨rfl, rfl, rfl, rfl, rfl, trivial⟩ ?_
  refine wo_nil ?_
  refine wq_seq ?_
  refine wc_seq ?_
  refine wc_known_true rfl hc25 ?_
  refine wc_skip ?_
  refine wq_seq ?_
  refine wc_seq ?_
  refine wc_block ?_
  refine wc_seq ?_
  refine wc_region (l := [0, 1, 2]) rfl ?_
  refine wo_index Θ_ok rfl rfl rfl rfl rfl rfl rfl rfl rfl rfl h0 rfl (by omega) hg26 (fun p29 h30 => ?_)
  refine wo_loadp Θ_ok rfl rfl rfl rfl rfl rfl rfl h30 rfl rfl (fun v31 h32 => ?_)
  refine wo_seg Θ_ok [2] [(3, v16), (5, v31), (6, (.slice A12 x0.length c13)), (7, (.int .i64 (x0.length : Int))), (8, (.int .i64 (i18 : Int)))] rfl ⟨rfl, rfl, rfl, rfl, rfl, trivial⟩ ?_
  refine wo_nil ?_
  refine wq_seq ?_
  refine wc_region (l := [0, 1, 2, 3]) rfl ?_
  refine wo_seg Θ_ok [0, 1] [(6, (.slice A12 x0.length c13)), (7, (.int .i64 (x0.length : Int))), (8, (.int .i64 (i18 : Int))), (12, v16), (13, v31)] rfl ⟨rfl, rfl, rfl, rfl, rfl, trivial⟩ ?_
  obtain ⟨z33, hz34, h⟩ := bind_some h
  refine wo_app Θ_ok rfl rfl rfl rfl rfl rfl rfl rfl rfl rfl rfl rfl rfl rfl hF hO h17 h32 hz34 (fun v35 w36 O37 ap38 => ?_)
  have h0 := h0.tr ap38.tr
  have T2 := T2.trans ap38.tr
  have T14 := T14.trans ap38.tr
  have hF := ap38.fr0 h17 hF
  have hS := Sub.trans hS ap38.sub
  have hO := ap38.ob
  have h39 := ap38.own
  refine wo_seg Θ_ok [3] [(3, v35), (6, (.slice A12 x0.length c13)), (7, (.int .i64 (x0.length : Int))), (8, (.int .i64 (i18 : Int)))] rfl ⟨rfl, rfl, rfl, rfl, trivial⟩ ?_
  refine wo_nil ?_
  refine wq_block (wq_seq ?_)
  refine wc_region (l := [0, 1]) rfl ?_
  refine wo_seg Θ_ok [0, 1] [(3, v35), (6, (.slice A12 x0.length c13)), (7, (.int .i64 (x0.length : Int))), (8, (.int .i64 (IntKind.i64.wrap ((i18 : Int) + (1 : Int)))))] rfl ⟨rfl, rfl, rfl, rfl, trivial⟩ ?_
  refine wo_nil ?_
  exact wq_next rest19.length [(3, v35), (6, (.slice A12 x0.length c13)), (7, (.int .i64 (x0.length : Int))), (8, (.int .i64 ((i18 + 1 : Nat) : Int)))] (Nat.lt_succ_self _) ⟨rfl, rfl, rfl, congrArg (fun z => some (Value.int .i64 z)) (wrap_succ hl28 (Nat.le_trans hlc13 hmc13)), trivial⟩ ⟨rest19, i18 + 1, O37, z33, v35, rfl, hd21, rfl, T14, hO, hS, hF, h39, h⟩
set_option maxRecDepth 100000 in
set_option maxHeartbeats 4000000 in
theorem r_Same_c {O : List Nat} {w : World} (hO : OB O w) {v0 : Value} {x0 : List (List Int)} (h0 : (Ty.slice (Ty.slice (Ty.int .u64))).is O w v0 x0) {v1 : Value} {x1 : List (List Int)} (h1 : (Ty.slice (Ty.slice (Ty.int .u64))).is O w v1 x1) {r : Bool} (h : r_Same x0 x1 = some r) : Calls Try.prog 43 #[v0, v1] w (Gives (rt1 Ty.bool) O w r) := by
  have hF := Fr.refl [] w
  have hO0 := hO
  have hS := Sub.refl O
  refine calls_of (args := [v0, v1]) (N := 47) Try.func43 rfl rfl rfl ?_
  unfold r_Same at h
  refine wc_seq ?_
  refine wc_region (l := [0]) rfl ?_
  refine wo_seg Θ_ok [0] [(0, v0), (1, v1)] rfl ⟨rfl, rfl, trivial⟩ ?_
  refine wo_nil ?_
  refine wq_seq ?_
  refine wc_seq ?_
  refine wc_seq ?_
  refine wc_region (l := [0, 1, 2, 3, 4]) rfl ?_
  refine wo_seg Θ_ok [0] [(0, v0), (1, v1), (9, v0)] rfl ⟨rfl, rfl, rfl, trivial⟩ ?_
  obtain ⟨A3, c4, rfl, hlc4, hmc4⟩ := slice_form h0
  refine wo_seg Θ_ok [1] [(0, (.slice A3 x0.length c4)), (1, v1), (10, (.int .i64 (x0.length : Int)))] rfl ⟨rfl, rfl, rfl, trivial⟩ ?_
  refine wo_seg Θ_ok [2] [(0, (.slice A3 x0.length c4)), (1, v1), (10, (.int .i64 (x0.length : Int))), (11, v1)] rfl ⟨rfl, rfl, rfl, rfl, trivial⟩ ?_
  obtain ⟨A5, c6, rfl, hlc6, hmc6⟩ := slice_form h1
  refine wo_seg Θ_ok [3] [(0, (.slice A3 x0.length c4)), (1, (.slice A5 x1.length c6)), (10, (.int .i64 (x0.length : Int))), (12, (.int .i64 (x1.length : Int)))] rfl ⟨rfl, rfl, rfl, rfl, trivial⟩ ?_
  refine wo_seg Θ_ok [4] [(0, (.slice A3 x0.length c4)), (1, (.slice A5 x1.length c6)), (13, (.bool ((x0.length : Int) != (x1.length : Int))))] rfl ⟨rfl, rfl, rfl, trivial⟩ ?_
  refine wo_nil ?_
  refine wq_seq ?_
  rcases bif_some h with ⟨hc7, h⟩ | ⟨hc7, h⟩
  · refine wc_known_true rfl hc7 ?_
    refine wc_seq ?_
    refine wc_region (l := [0]) rfl ?_
    refine wo_seg Θ_ok [0] [(4, (.bool false))] rfl ⟨rfl, trivial⟩ ?_
    refine wo_nil ?_
    refine wq_seq ?_
    refine wc_ret ?_
    cases h
    exact wq_then_ret (wq_ret rfl ⟨_, rfl, (bool_is.2 rfl), hF⟩)
  refine wc_known_false rfl hc7 ?_
  refine wc_skip ?_
  refine wq_seq ?_
  obtain ⟨k9, hk10, h⟩ := letk_some h
  refine wc_join (fun E W => ∃ (O13 : List Nat), E = [] ∧ Tr O w O13 W ∧ OB O13 W ∧ Sub O O13 ∧ Fr [] w W ∧ k9 = some r) ?_ (fun K11 hK12 => ?_)
  · rintro E w14 ⟨O13, rfl, T8, hO, hS, hF, h⟩
    subst hk10
    (try dsimp only at h)
    refine wc_seq ?_
    refine wc_region (l := [0]) rfl ?_
    refine wo_seg Θ_ok [0] [(4, (.bool true))] rfl ⟨rfl, trivial⟩ ?_
    refine wo_nil ?_
    refine wq_seq ?_
    refine wc_ret ?_
    cases h
    exact wq_ret rfl ⟨_, rfl, (bool_is.2 rfl), hF⟩
  clear hk10
  have T8 := Tr.refl O w
  refine wc_seq ?_
  refine wc_region (l := [0, 1, 2]) rfl ?_
  refine wo_seg Θ_ok [0, 1, 2] [(1, (.slice A5 x1.length c6)), (14, (.slice A3 x0.length c4)), (15, (.int .i64 (x0.length : Int))), (16, (.int .i64 0))] rfl ⟨rfl, rfl, rfl, rfl, trivial⟩ ?_
  refine wo_nil ?_
  refine wq_seq ?_
  refine wc_block ?_
  refine wc_loop (fun m E W => ∃ (rest17 : List (List Int)) (i16 : Nat) (O20 : List Nat), rest17.length = m ∧ x0.drop i16 = rest17 ∧ E = [(1, (.slice A5 x1.length c6)), (14, (.slice A3 x0.length c4)), (15, (.int .i64 (x0.length : Int))), (16, (.int .i64 (i16 : Int)))] ∧ Tr O w O20 W ∧ OB O20 W ∧ Sub O O20 ∧ Fr [] w W ∧ r_Same_l1 x1 k9 rest17 i16 = some r) _ [(1, (.slice A5 x1.length c6)), (14, (.slice A3 x0.length c4)), (15, (.int .i64 (x0.length : Int))), (16, (.int .i64 ((0 : Nat) : Int)))] ⟨rfl, rfl, rfl, rfl, trivial⟩ ⟨x0, 0, O, rfl, rfl, rfl, Tr.refl _ _, hO, hS, hF, h⟩ ?_
  rintro m E w21 ⟨rest17, i16, O20, rfl, hd19, rfl, T15, hO, hS, hF, h⟩
  have T8 := T8.trans T15
  have h1 := h1.tr T15
  have h0 := h0.tr T15
  rcases rest17 with _ | ⟨z18, rest17⟩
  · rw [r_Same_l1] at h
    have hl25 := drop_nil hd19
    have hc22 : (decide ((i16 : Int) < (x0.length : Int))) = false := decide_eq_false (by omega)
    refine wc_seq ?_
    refine wc_region (l := [0]) rfl ?_
    refine wo_seg Θ_ok [0] [(1, (.slice A5 x1.length c6)), (14, (.slice A3 x0.length c4)), (15, (.int .i64 (x0.length : Int))), (16, (.int .i64 (i16 : Int))), (17, (.bool (decide ((i16 : Int) < (x0.length : Int)))))] rfl ⟨rfl, rfl, rfl, rfl, rfl, trivial⟩ ?_
    refine wo_nil ?_
    refine wq_seq ?_
    refine wc_seq ?_
    refine wc_known_false rfl hc22 ?_
    refine wc_exit ?_
    exact wq_then_exit (wq_then_exit (wq_block_exit (wq_join hK12 [] trivial ⟨O20, rfl, T8, hO, hS, hF, h⟩)))
  rw [r_Same_l1] at h
  obtain ⟨hl26, hg24, hd19⟩ := drop_cons hd19
  have hc23 : (decide ((i16 : Int) < (x0.length : Int))) = true := decide_eq_true (by omega)
  refine wc_seq ?_
  refine wc_region (l := [0]) rfl ?_
  refine wo_seg Θ_ok [0] [(1, (.slice A5 x1.length c6)), (14, (.slice A3 x0.length c4)), (15, (.int .i64 (x0.length : Int))), (16, (.int .i64 (i16 : Int))), (17, (.bool (decide ((i16 : Int) < (x0.length : Int)))))] rfl ⟨rfl, rfl, rfl, rfl, rfl, trivial⟩ ?_
  refine wo_nil ?_
  refine wq_seq ?_
  refine wc_seq ?_
  refine wc_known_true rfl hc23 ?_
  refine wc_skip ?_
  refine wq_seq ?_
  obtain ⟨k28, hk29, h⟩ := letk_some h
  refine wc_join (fun E W => ∃ (O32 : List Nat), E = [(1, (.slice A5 x1.length c6)), (14, (.slice A3 x0.length c4)), (15, (.int .i64 (x0.length : Int))), (16, (.int .i64 (i16 : Int)))] ∧ Tr O20 w21 O32 W ∧ OB O32 W ∧ Sub O O32 ∧ Fr [] w W ∧ k28 = some r) ?_ (fun K30 hK31 => ?_)
  · rintro E w33 ⟨O32, rfl, T27, hO, hS, hF, h⟩
    have T8 := T8.trans T27
    have T15 := T15.trans T27
    have h1 := h1.tr T27
    have h0 := h0.tr T27
    subst hk29
    (try dsimp only at h)
    refine wc_region (l := [0, 1]) rfl ?_
    refine wo_seg Θ_ok [0, 1] [(1, (.slice A5 x1.length c6)), (14, (.slice A3 x0.length c4)), (15, (.int .i64 (x0.length : Int))), (16, (.int .i64 (IntKind.i64.wrap ((i16 : Int) + (1 : Int)))))] rfl ⟨rfl, rfl, rfl, rfl, trivial⟩ ?_
    refine wo_nil ?_
    exact wq_next rest17.length [(1, (.slice A5 x1.length c6)), (14, (.slice A3 x0.length c4)), (15, (.int .i64 (x0.length : Int))), (16, (.int .i64 ((i16 + 1 : Nat) : Int)))] (Nat.lt_succ_self _) ⟨rfl, rfl, rfl, congrArg (fun z => some (Value.int .i64 z)) (wrap_succ hl26 (Nat.le_trans hlc4 hmc4)), trivial⟩ ⟨rest17, i16 + 1, O32, rfl, hd19, rfl, T15, hO, hS, hF, h⟩
  clear hk29
  have T27 := Tr.refl O20 w21
  refine wc_block ?_
  refine wc_seq ?_
  refine wc_region (l := [0, 1, 2, 3, 4]) rfl ?_
  refine wo_seg Θ_ok [0] [(1, (.slice A5 x1.length c6)), (14, (.slice A3 x0.length c4)), (15, (.int .i64 (x0.length : Int))), (16, (.int .i64 (i16 : Int))), (18, (.int .i64 (i16 : Int)))] rfl ⟨rfl, rfl, rfl, rfl, rfl, trivial⟩ ?_
  refine wo_index Θ_ok rfl rfl rfl rfl rfl rfl rfl rfl rfl rfl h0 rfl (by omega) hg24 (fun p34 h35 => ?_)
  refine wo_loadp Θ_ok rfl rfl rfl rfl rfl rfl rfl h35 rfl rfl (fun v36 h37 => ?_)
  refine wo_seg Θ_ok [3, 4] [(1, (.slice A5 x1.length c6)), (5, (.int .i64 (i16 : Int))), (6, v36), (14, (.slice A3 x0.length c4)), (15, (.int .i64 (x0.length : Int))), (16, (.int .i64 (i16 : Int)))] rfl ⟨rfl, rfl, rfl, rfl, rfl, rfl, trivial⟩ ?_
  refine wo_nil ?_
  refine wq_seq ?_
  refine wc_seq ?_
  refine wc_seq ?_
  refine wc_region (l := [0, 1, 2, 3, 4, 5, 6, 7]) rfl ?_
  refine wo_seg Θ_ok [0] [(1, (.slice A5 x1.length c6)), (5, (.int .i64 (i16 : Int))), (6, v36), (14, (.slice A3 x0.length c4)), (15, (.int .i64 (x0.length : Int))), (16, (.int .i64 (i16 : Int))), (21, v36)] rfl ⟨rfl, rfl, rfl, rfl, rfl, rfl, rfl, trivial⟩ ?_
  obtain ⟨A38, c39, rfl, hlc39, hmc39⟩ := slice_form h37
  refine wo_seg Θ_ok [1] [(1, (.slice A5 x1.length c6)), (5, (.int .i64 (i16 : Int))), (6, (.slice A38 z18.length c39)), (14, (.slice A3 x0.length c4)), (15, (.int .i64 (x0.length : Int))), (16, (.int .i64 (i16 : Int))), (22, (.int .i64 (z18.length : Int)))] rfl ⟨rfl, rfl, rfl, rfl, rfl, rfl, rfl, trivial⟩ ?_
  refine wo_seg Θ_ok [2, 3] [(1, (.slice A5 x1.length c6)), (5, (.int .i64 (i16 : Int))), (6, (.slice A38 z18.length c39)), (14, (.slice A3 x0.length c4)), (15, (.int .i64 (x0.length : Int))), (16, (.int .i64 (i16 : Int))), (22, (.int .i64 (z18.length : Int))), (23, (.slice A5 x1.length c6)), (24, (.int .i64 (i16 : Int)))] rfl ⟨rfl, rfl, rfl, rfl, rfl, rfl, rfl, rfl, rfl, trivial⟩ ?_
  obtain ⟨y42, hz43, h⟩ := bind_some h
  refine wo_index Θ_ok rfl rfl rfl rfl rfl rfl rfl rfl rfl rfl h1 rfl (idx_some hz43).1 (idx_some hz43).2 (fun p40 h41 => ?_)
  refine wo_loadp Θ_ok rfl rfl rfl rfl rfl rfl rfl h41 rfl rfl (fun v44 h45 => ?_)
  obtain ⟨A46, c47, rfl, hlc47, hmc47⟩ := slice_form h45
  refine wo_seg Θ_ok [6] [(1, (.slice A5 x1.length c6)), (5, (.int .i64 (i16 : Int))), (6, (.slice A38 z18.length c39)), (14, (.slice A3 x0.length c4)), (15, (.int .i64 (x0.length : Int))), (16, (.int .i64 (i16 : Int))), (22, (.int .i64 (z18.length : Int))), (27, (.int .i64 (y42.length : Int)))] rfl ⟨rfl, rfl, rfl, rfl, rfl, rfl, rfl, rfl, trivial⟩ ?_
  refine wo_seg Θ_ok [7] [(1, (.slice A5 x1.length c6)), (5, (.int .i64 (i16 : Int))), (6, (.slice A38 z18.length c39)), (14, (.slice A3 x0.length c4)), (15, (.int .i64 (x0.length : Int))), (16, (.int .i64 (i16 : Int))), (28, (.bool ((z18.length : Int) != (y42.length : Int))))] rfl ⟨rfl, rfl, rfl, rfl, rfl, rfl, rfl, trivial⟩ ?_
  refine wo_nil ?_
  refine wq_seq ?_
  rcases bif_some h with ⟨hc48, h⟩ | ⟨hc48, h⟩
  · refine wc_known_true rfl hc48 ?_
    refine wc_seq ?_
    refine wc_region (l := [0]) rfl ?_
    refine wo_seg Θ_ok [0] [(4, (.bool false))] rfl ⟨rfl, trivial⟩ ?_
    refine wo_nil ?_
    refine wq_seq ?_
    refine wc_ret ?_
    cases h
    exact wq_then_ret (wq_block_ret (wq_then_ret (wq_then_ret (wq_block_ret (wq_then_ret (wq_ret rfl ⟨_, rfl, (bool_is.2 rfl), hF⟩))))))
  refine wc_known_false rfl hc48 ?_
  refine wc_skip ?_
  refine wq_seq ?_
  refine wc_seq ?_
  refine wc_region (l := [0, 1, 2]) rfl ?_
  refine wo_seg Θ_ok [0, 1, 2] [(1, (.slice A5 x1.length c6)), (5, (.int .i64 (i16 : Int))), (14, (.slice A3 x0.length c4)), (15, (.int .i64 (x0.length : Int))), (16, (.int .i64 (i16 : Int))), (29, (.slice A38 z18.length c39)), (30, (.int .i64 (z18.length : Int))), (31, (.int .i64 0))] rfl ⟨rfl, rfl, rfl, rfl, rfl, rfl, rfl, rfl, trivial⟩ ?_
  refine wo_nil ?_
  refine wq_seq ?_
  refine wc_block ?_
  refine wc_loop (fun m E W => ∃ (rest51 : List Int) (i50 : Nat) (O54 : List Nat), rest51.length = m ∧ z18.drop i50 = rest51 ∧ E = [(1, (.slice A5 x1.length c6)), (5, (.int .i64 (i16 : Int))), (14, (.slice A3 x0.length c4)), (15, (.int .i64 (x0.length : Int))), (16, (.int .i64 (i16 : Int))), (29, (.slice A38 z18.length c39)), (30, (.int .i64 (z18.length : Int))), (31, (.int .i64 (i50 : Int)))] ∧ Tr O20 w21 O54 W ∧ OB O54 W ∧ Sub O O54 ∧ Fr [] w W ∧ r_Same_l2 x1 i16 k28 rest51 i50 = some r) _ [(1, (.slice A5 x1.length c6)), (5, (.int .i64 (i16 : Int))), (14, (.slice A3 x0.length c4)), (15, (.int .i64 (x0.length : Int))), (16, (.int .i64 (i16 : Int))), (29, (.slice A38 z18.length c39)), (30, (.int .i64 (z18.length : Int))), (31, (.int .i64 ((0 : Nat) : Int)))] ⟨rfl, rfl, rfl, rfl, rfl, rfl, rfl, rfl, trivial⟩ ⟨z18, 0, O20, rfl, rfl, rfl, Tr.refl _ _, hO, hS, hF, h⟩ ?_
  rintro m E w55 ⟨rest51, i50, O54, rfl, hd53, rfl, T49, hO, hS, hF, h⟩
  have T8 := T8.trans T49
  have T15 := T15.trans T49
  have T27 := T27.trans T49
  have h1 := h1.tr T49
  have h0 := h0.tr T49
  have h37 := h37.tr T49
  rcases rest51 with _ | ⟨z52, rest51⟩
  · rw [r_Same_l2] at h
    have hl59 := drop_nil hd53
    have hc56 : (decide ((i50 : Int) < (z18.length : Int))) = false := decide_eq_false (by omega)
    refine wc_seq ?_
    refine wc_region (l := [0]) rfl ?_
    refine wo_seg Θ_ok [0] [(1, (.slice A5 x1.length c6)), (5, (.int .i64 (i16 : Int))), (14, (.slice A3 x0.length c4)), (15, (.int .i64 (x0.length : Int))), (16, (.int .i64 (i16 : Int))), (29, (.slice A38 z18.length c39)), (30, (.int .i64 (z18.length : Int))), (31, (.int .i64 (i50 : Int))), (32, (.bool (decide ((i50 : Int) < (z18.length : Int)))))] rfl ⟨rfl, rfl, rfl, rfl, rfl, rfl, rfl, rfl, rfl, trivial⟩ ?_
    refine wo_nil ?_
    refine wq_seq ?_
    refine wc_seq ?_
    refine wc_known_false rfl hc56 ?_
    refine wc_exit ?_
    exact wq_then_exit (wq_then_exit (wq_block_exit (wq_block (wq_join hK31 [(1, (.slice A5 x1.length c6)), (14, (.slice A3 x0.length c4)), (15, (.int .i64 (x0.length : Int))), (16, (.int .i64 (i16 : Int)))] ⟨rfl, rfl, rfl, rfl, trivial⟩ ⟨O54, rfl, T27, hO, hS, hF, h⟩))))
  rw [r_Same_l2] at h
  obtain ⟨hl60, hg58, hd53⟩ := drop_cons hd53
  have hc57 : (decide ((i50 : Int) < (z18.length : Int))) = true := decide_eq_true (by omega)
  refine wc_seq ?_
  refine wc_region (l := [0]) rfl ?_
  refine wo_seg Θ_ok [0] [(1, (.slice A5 x1.length c6)), (5, (.int .i64 (i16 : Int))), (14, (.slice A3 x0.length c4)), (15, (.int .i64 (x0.length : Int))), (16, (.int .i64 (i16 : Int))), (29, (.slice A38 z18.length c39)), (30, (.int .i64 (z18.length : Int))), (31, (.int .i64 (i50 : Int))), (32, (.bool (decide ((i50 : Int) < (z18.length : Int)))))] rfl ⟨rfl, rfl, rfl, rfl, rfl, rfl, rfl, rfl, rfl, trivial⟩ ?_
  refine wo_nil ?_
  refine wq_seq ?_
  refine wc_seq ?_
  refine wc_known_true rfl hc57 ?_
  refine wc_skip ?_
  refine wq_seq ?_
  refine wc_seq ?_
  refine wc_block ?_
  refine wc_seq ?_
  refine wc_region (l := [0, 1, 2, 3, 4]) rfl ?_
  refine wo_seg Θ_ok [0] [(1, (.slice A5 x1.length c6)), (5, (.int .i64 (i16 : Int))), (14, (.slice A3 x0.length c4)), (15, (.int .i64 (x0.length : Int))), (16, (.int .i64 (i16 : Int))), (29, (.slice A38 z18.length c39)), (30, (.int .i64 (z18.length : Int))), (31, (.int .i64 (i50 : Int))), (33, (.int .i64 (i50 : Int)))] rfl ⟨rfl, rfl, rfl, rfl, rfl, rfl, rfl, rfl, rfl, trivial⟩ ?_
  refine wo_index Θ_ok rfl rfl rfl rfl rfl rfl rfl rfl rfl rfl h37 rfl (by omega) hg58 (fun p61 h62 => ?_)
  refine wo_loadp Θ_ok rfl rfl rfl rfl rfl rfl rfl h62 rfl rfl (fun v63 h64 => ?_)
  obtain rfl := int_is.1 h64
  refine wo_seg Θ_ok [3, 4] [(1, (.slice A5 x1.length c6)), (5, (.int .i64 (i16 : Int))), (7, (.int .i64 (i50 : Int))), (8, (.int .u64 z52)), (14, (.slice A3 x0.length c4)), (15, (.int .i64 (x0.length : Int))), (16, (.int .i64 (i16 : Int))), (29, (.slice A38 z18.length c39)), (30, (.int .i64 (z18.length : Int))), (31, (.int .i64 (i50 : Int)))] rfl ⟨rfl, rfl, rfl, rfl, rfl, rfl, rfl, rfl, rfl, rfl, trivial⟩ ?_
  refine wo_nil ?_
  refine wq_seq ?_
  refine wc_seq ?_
  refine wc_region (l := [0, 1, 2, 3, 4, 5, 6, 7, 8]) rfl ?_
  refine wo_seg Θ_ok [0, 1, 2] [(1, (.slice A5 x1.length c6)), (5, (.int .i64 (i16 : Int))), (7, (.int .i64 (i50 : Int))), (14, (.slice A3 x0.length c4)), (15, (.int .i64 (x0.length : Int))), (16, (.int .i64 (i16 : Int))), (29, (.slice A38 z18.length c39)), (30, (.int .i64 (z18.length : Int))), (31, (.int .i64 (i50 : Int))), (36, (.int .u64 z52)), (37, (.slice A5 x1.length c6)), (38, (.int .i64 (i16 : Int)))] rfl ⟨rfl, rfl, rfl, rfl, rfl, rfl, rfl, rfl, rfl, rfl, rfl, rfl, trivial⟩ ?_
  obtain ⟨y67, hz68, h⟩ := bind_some h
  refine wo_index Θ_ok rfl rfl rfl rfl rfl rfl rfl rfl rfl rfl h1 rfl (idx_some hz68).1 (idx_some hz68).2 (fun p65 h66 => ?_)
  refine wo_loadp Θ_ok rfl rfl rfl rfl rfl rfl rfl h66 rfl rfl (fun v69 h70 => ?_)
  refine wo_seg Θ_ok [5] [(1, (.slice A5 x1.length c6)), (5, (.int .i64 (i16 : Int))), (14, (.slice A3 x0.length c4)), (15, (.int .i64 (x0.length : Int))), (16, (.int .i64 (i16 : Int))), (29, (.slice A38 z18.length c39)), (30, (.int .i64 (z18.length : Int))), (31, (.int .i64 (i50 : Int))), (36, (.int .u64 z52)), (40, v69), (41, (.int .i64 (i50 : Int)))] rfl ⟨rfl, rfl, rfl, rfl, rfl, rfl, rfl, rfl, rfl, rfl, rfl, trivial⟩ ?_
  obtain ⟨y73, hz74, h⟩ := bind_some h
  refine wo_index Θ_ok rfl rfl rfl rfl rfl rfl rfl rfl rfl rfl h70 rfl (idx_some hz74).1 (idx_some hz74).2 (fun p71 h72 => ?_)
  refine wo_loadp Θ_ok rfl rfl rfl rfl rfl rfl rfl h72 rfl rfl (fun v75 h76 => ?_)
  obtain rfl := int_is.1 h76
  refine wo_seg Θ_ok [8] [(1, (.slice A5 x1.length c6)), (5, (.int .i64 (i16 : Int))), (14, (.slice A3 x0.length c4)), (15, (.int .i64 (x0.length : Int))), (16, (.int .i64 (i16 : Int))), (29, (.slice A38 z18.length c39)), (30, (.int .i64 (z18.length : Int))), (31, (.int .i64 (i50 : Int))), (44, (.bool (z52 != y73)))] rfl ⟨rfl, rfl, rfl, rfl, rfl, rfl, rfl, rfl, rfl, trivial⟩ ?_
  refine wo_nil ?_
  refine wq_seq ?_
  rcases bif_some h with ⟨hc77, h⟩ | ⟨hc77, h⟩
  rotate_left
  · refine wc_known_false rfl hc77 ?_
    refine wc_skip ?_
    refine wq_block (wq_seq ?_)
    refine wc_region (l := [0, 1]) rfl ?_
    refine wo_seg Θ_ok [0, 1] [(1, (.slice A5 x1.length c6)), (5, (.int .i64 (i16 : Int))), (14, (.slice A3 x0.length c4)), (15, (.int .i64 (x0.length : Int))), (16, (.int .i64 (i16 : Int))), (29, (.slice A38 z18.length c39)), (30, (.int .i64 (z18.length : Int))), (31, (.int .i64 (IntKind.i64.wrap ((i50 : Int) + (1 : Int)))))] rfl ⟨rfl, rfl, rfl, rfl, rfl, rfl, rfl, rfl, trivial⟩ ?_
    refine wo_nil ?_
    exact wq_next rest51.length [(1, (.slice A5 x1.length c6)), (5, (.int .i64 (i16 : Int))), (14, (.slice A3 x0.length c4)), (15, (.int .i64 (x0.length : Int))), (16, (.int .i64 (i16 : Int))), (29, (.slice A38 z18.length c39)), (30, (.int .i64 (z18.length : Int))), (31, (.int .i64 ((i50 + 1 : Nat) : Int)))] (Nat.lt_succ_self _) ⟨rfl, rfl, rfl, rfl, rfl, rfl, rfl, congrArg (fun z => some (Value.int .i64 z)) (wrap_succ hl60 (Nat.le_trans hlc39 hmc39)), trivial⟩ ⟨rest51, i50 + 1, O54, rfl, hd53, rfl, T49, hO, hS, hF, h⟩
  refine wc_known_true rfl hc77 ?_
  refine wc_seq ?_
  refine wc_region (l := [0]) rfl ?_
  refine wo_seg Θ_ok [0] [(4, (.bool false))] rfl ⟨rfl, trivial⟩ ?_
  refine wo_nil ?_
  refine wq_seq ?_
  refine wc_ret ?_
  cases h
  exact wq_block_ret (wq_then_ret (wq_then_ret (wq_block_ret (wq_block_ret (wq_then_ret (wq_then_ret (wq_block_ret (wq_then_ret (wq_ret rfl ⟨_, rfl, (bool_is.2 rfl), hF⟩)))))))))
set_option maxRecDepth 100000 in
set_option maxHeartbeats 4000000 in
theorem r_Spread_c {O : List Nat} {w : World} (hO : OB O w) {fuel : Nat} {v0 : Value} {x0 : Int} (h0 : (Ty.int .i64).is O w v0 x0) {v1 : Value} {x1 : List Int} (h1 : (Ty.slice (Ty.int .u64)).is O w v1 x1) {r : List (List Int)} (h : r_Spread fuel x0 x1 = some r) : Calls Try.prog 23 #[v0, v1] w (Gives (rt1 (Ty.slice (Ty.slice (Ty.int .u64)))) O w r) := by
  obtain rfl := int_is.1 h0
  have hF := Fr.refl [] w
  have hO0 := hO
  have hS := Sub.refl O
  refine calls_of (args := [(.int .i64 x0), v1]) (N := 35) Try.func23 rfl rfl rfl ?_
  unfold r_Spread at h
  refine wc_seq ?_
  refine wc_region (l := [0]) rfl ?_
  refine wo_seg Θ_ok [0] [(0, (.int .i64 x0)), (1, v1)] rfl ⟨rfl, rfl, trivial⟩ ?_
  refine wo_nil ?_
  refine wq_seq ?_
  refine wc_seq ?_
  refine wc_region (l := [0]) rfl ?_
  refine wo_seg Θ_ok [0] [(0, (.int .i64 x0)), (1, v1), (5, (.slice none 0 0))] rfl ⟨rfl, rfl, rfl, trivial⟩ ?_
  refine wo_nil ?_
  refine wq_seq ?_
  obtain ⟨k4, hk5, h⟩ := letk_some h
  refine wc_join (fun E W => ∃ (O11 : List Nat) (p8 : List (List Int)) (v9 : Value), E = [(5, v9)] ∧ Tr O w O11 W ∧ OB O11 W ∧ Sub O O11 ∧ Fr [] w W ∧ Go.Dc.Own (Ty.slice (Ty.int .u64)) 35 w.heap.size O11 W v9 p8 ∧ k4 p8 = some r) ?_ (fun K6 hK7 => ?_)
  · rintro E w12 ⟨O11, p8, v9, rfl, T3, hO, hS, hF, h10, h⟩
    subst hk5
    (try dsimp only at h)
    refine wc_seq ?_
    refine wc_region (l := [0, 1]) rfl ?_
    refine wo_seg Θ_ok [0, 1] [(4, v9)] rfl ⟨rfl, trivial⟩ ?_
    refine wo_nil ?_
    refine wq_seq ?_
    refine wc_ret ?_
    cases h
    exact wq_ret rfl ⟨_, rfl, (h10.share0 hS hO0), hF⟩
  clear hk5
  have T3 := Tr.refl O w
  refine wc_seq ?_
  refine wc_region (l := [0, 1]) rfl ?_
  refine wo_seg Θ_ok [0, 1] [(0, (.int .i64 x0)), (1, v1), (5, (.slice none 0 0)), (10, (.int .i64 x0)), (11, (.int .i64 0))] rfl ⟨rfl, rfl, rfl, rfl, rfl, trivial⟩ ?_
  refine wo_nil ?_
  refine wq_seq ?_
  refine wc_block ?_
  refine wc_loop (fun m E W => ∃ (fl18 : Nat) (O19 : List Nat) (p14 : List (List Int)) (p17 : Int) (v15 : Value), fl18 = m ∧ E = [(0, (.int .i64 x0)), (1, v1), (5, v15), (10, (.int .i64 x0)), (11, (.int .i64 p17))] ∧ Tr O w O19 W ∧ OB O19 W ∧ Sub O O19 ∧ Fr [] w W ∧ Go.Dc.Own (Ty.slice (Ty.int .u64)) 35 w.heap.size O19 W v15 p14 ∧ r_Spread_l1 x0 x1 k4 fl18 p14 p17 = some r) _ [(0, (.int .i64 x0)), (1, v1), (5, (.slice none 0 0)), (10, (.int .i64 x0)), (11, (.int .i64 0))] ⟨rfl, rfl, rfl, rfl, rfl, trivial⟩ ⟨fuel, O, ([] : List (List Int)), (0 : Int), (.slice none 0 0), rfl, rfl, Tr.refl _ _, hO, hS, hF, (Go.Dc.Own.nil_ : Go.Dc.Own (Ty.slice (Ty.int .u64)) 35 w.heap.size _ _ _ _), h⟩ ?_
  rintro m E w20 ⟨fl18, O19, p14, p17, v15, rfl, rfl, T13, hO, hS, hF, h16, h⟩
  have T3 := T3.trans T13
  have h1 := h1.tr T13
  rcases fl18 with _ | fl18
  · rw [r_Spread_l1] at h
    cases h
  rw [r_Spread_l1] at h
  refine wc_seq ?_
  refine wc_region (l := [0]) rfl ?_
  refine wo_seg Θ_ok [0] [(0, (.int .i64 x0)), (1, v1), (5, v15), (10, (.int .i64 x0)), (11, (.int .i64 p17)), (12, (.bool (decide (p17 < x0))))] rfl ⟨rfl, rfl, rfl, rfl, rfl, rfl, trivial⟩ ?_
  refine wo_nil ?_
  refine wq_seq ?_
  refine wc_seq ?_
  rcases bif_some h with ⟨hc21, h⟩ | ⟨hc21, h⟩
  rotate_left
  · refine wc_known_false rfl hc21 ?_
    refine wc_exit ?_
    exact wq_then_exit (wq_then_exit (wq_block_exit (wq_join hK7 [(5, v15)] ⟨rfl, trivial⟩ ⟨O19, p14, v15, rfl, T3, hO, hS, hF, h16, h⟩)))
  refine wc_known_true rfl hc21 ?_
  refine wc_skip ?_
  refine wq_seq ?_
  obtain ⟨k23, hk24, h⟩ := letk_some h
  refine wc_join (fun E W => ∃ (O30 : List Nat) (p27 : List (List Int)) (v28 : Value), E = [(0, (.int .i64 x0)), (1, v1), (5, v28), (10, (.int .i64 x0)), (11, (.int .i64 p17))] ∧ Tr O19 w20 O30 W ∧ OB O30 W ∧ Sub O O30 ∧ Fr [] w W ∧ Go.Dc.Own (Ty.slice (Ty.int .u64)) 35 w.heap.size O30 W v28 p27 ∧ k23 p27 = some r) ?_ (fun K25 hK26 => ?_)
  · rintro E w31 ⟨O30, p27, v28, rfl, T22, hO, hS, hF, h29, h⟩
    have T3 := T3.trans T22
    have T13 := T13.trans T22
    have h1 := h1.tr T22
    subst hk24
    (try dsimp only at h)
    refine wc_region (l := [0, 1]) rfl ?_
    refine wo_seg Θ_ok [0, 1] [(0, (.int .i64 x0)), (1, v1), (5, v28), (10, (.int .i64 x0)), (11, (.int .i64 (IntKind.i64.wrap (p17 + (1 : Int)))))] rfl ⟨rfl, rfl, rfl, rfl, rfl, trivial⟩ ?_
    refine wo_nil ?_
    exact wq_next fl18 [(0, (.int .i64 x0)), (1, v1), (5, v28), (10, (.int .i64 x0)), (11, (.int .i64 (IntKind.i64.wrap (p17 + (1 : Int)))))] (Nat.lt_succ_self _) ⟨rfl, rfl, rfl, rfl, rfl, trivial⟩ ⟨fl18, O30, p27, (IntKind.i64.wrap (p17 + (1 : Int))), v28, rfl, rfl, T13, hO, hS, hF, h29, h⟩
  clear hk24
  have T22 := Tr.refl O19 w20
  refine wc_block ?_
  refine wc_seq ?_
  refine wc_region (l := [0, 1]) rfl ?_
  refine wo_seg Θ_ok [0, 1] [(0, (.int .i64 x0)), (1, v1), (5, v15), (6, (.int .i64 p17)), (10, (.int .i64 x0)), (11, (.int .i64 p17))] rfl ⟨rfl, rfl, rfl, rfl, rfl, rfl, trivial⟩ ?_
  refine wo_nil ?_
  refine wq_seq ?_
  refine wc_seq ?_
  refine wc_region (l := [0]) rfl ?_
  refine wo_seg Θ_ok [0] [(0, (.int .i64 x0)), (1, v1), (5, v15), (6, (.int .i64 p17)), (7, (.slice none 0 0)), (10, (.int .i64 x0)), (11, (.int .i64 p17))] rfl ⟨rfl, rfl, rfl, rfl, rfl, rfl, rfl, trivial⟩ ?_
  refine wo_nil ?_
  refine wq_seq ?_
  obtain ⟨k33, hk34, h⟩ := letk_some h
  refine wc_join (fun E W => ∃ (O40 : List Nat) (p37 : List Int) (v38 : Value), E = [(0, (.int .i64 x0)), (1, v1), (5, v15), (7, v38), (10, (.int .i64 x0)), (11, (.int .i64 p17))] ∧ Tr O19 w20 O40 W ∧ OB O40 W ∧ Sub O O40 ∧ Fr [] w W ∧ Go.Dc.Own (Ty.slice (Ty.int .u64)) 35 w.heap.size O40 W v15 p14 ∧ (Ty.slice (Ty.int .u64)).is O40 W v38 p37 ∧ k33 p37 = some r) ?_ (fun K35 hK36 => ?_)
  · rintro E w41 ⟨O40, p37, v38, rfl, T32, hO, hS, hF, h16, h39, h⟩
    have T3 := T3.trans T32
    have T13 := T13.trans T32
    have T22 := T22.trans T32
    have h1 := h1.tr T32
    subst hk34
    (try dsimp only at h)
    refine wc_region (l := [0, 1, 2, 3, 4]) rfl ?_
    refine wo_seg Θ_ok [0, 1] [(0, (.int .i64 x0)), (1, v1), (10, (.int .i64 x0)), (11, (.int .i64 p17)), (29, v15), (30, v38)] rfl ⟨rfl, rfl, rfl, rfl, rfl, rfl, trivial⟩ ?_
    refine wo_litd Θ_ok rfl rfl rfl rfl rfl rfl rfl rfl rfl rfl (T := (Ty.slice (Ty.int .u64))) (xs := [p37]) (vs := [v38]) rfl ⟨h39, trivial⟩ rfl rfl rfl hO (fun v42 w43 h44 f45 => ?_)
    have h1 := h1.tr f45.tr0
    have h16 := h16.fr0 f45
    have T3 := T3.trans f45.tr0
    have T13 := T13.trans f45.tr0
    have T22 := T22.trans f45.tr0
    have hO := f45.ob hO
    have hF := hF.trans f45
    obtain ⟨z46, hz47, h⟩ := bind_some h
    refine wo_app Θ_ok rfl rfl rfl rfl rfl rfl rfl rfl rfl rfl rfl rfl rfl rfl hF hO h16 h44 hz47 (fun v48 w49 O50 ap51 => ?_)
    have h1 := h1.tr ap51.tr
    have T3 := T3.trans ap51.tr
    have T13 := T13.trans ap51.tr
    have T22 := T22.trans ap51.tr
    have hF := ap51.fr0 h16 hF
    have hS := Sub.trans hS ap51.sub
    have hO := ap51.ob
    have h52 := ap51.own
    refine wo_seg Θ_ok [4] [(0, (.int .i64 x0)), (1, v1), (5, v48), (10, (.int .i64 x0)), (11, (.int .i64 p17))] rfl ⟨rfl, rfl, rfl, rfl, rfl, trivial⟩ ?_
    refine wo_nil ?_
    exact wq_block (wq_join hK26 [(0, (.int .i64 x0)), (1, v1), (5, v48), (10, (.int .i64 x0)), (11, (.int .i64 p17))] ⟨rfl, rfl, rfl, rfl, rfl, trivial⟩ ⟨O50, z46, v48, rfl, T22, hO, hS, hF, h52, h⟩)
  clear hk34
  have T32 := Tr.refl O19 w20
  refine wc_seq ?_
  refine wc_region (l := [0, 1, 2]) rfl ?_
  refine wo_seg Θ_ok [0] [(0, (.int .i64 x0)), (1, v1), (5, v15), (6, (.int .i64 p17)), (7, (.slice none 0 0)), (10, (.int .i64 x0)), (11, (.int .i64 p17)), (14, v1)] rfl ⟨rfl, rfl, rfl, rfl, rfl, rfl, rfl, rfl, trivial⟩ ?_
  obtain ⟨A53, c54, rfl, hlc54, hmc54⟩ := slice_form h1
  refine wo_seg Θ_ok [1] [(0, (.int .i64 x0)), (1, (.slice A53 x1.length c54)), (5, v15), (6, (.int .i64 p17)), (7, (.slice none 0 0)), (10, (.int .i64 x0)), (11, (.int .i64 p17)), (14, (.slice A53 x1.length c54)), (15, (.int .i64 (x1.length : Int)))] rfl ⟨rfl, rfl, rfl, rfl, rfl, rfl, rfl, rfl, rfl, trivial⟩ ?_
  refine wo_seg Θ_ok [2] [(0, (.int .i64 x0)), (1, (.slice A53 x1.length c54)), (5, v15), (6, (.int .i64 p17)), (7, (.slice none 0 0)), (10, (.int .i64 x0)), (11, (.int .i64 p17)), (14, (.slice A53 x1.length c54)), (15, (.int .i64 (x1.length : Int))), (16, (.int .i64 0))] rfl ⟨rfl, rfl, rfl, rfl, rfl, rfl, rfl, rfl, rfl, rfl, trivial⟩ ?_
  refine wo_nil ?_
  refine wq_seq ?_
  refine wc_block ?_
  refine wc_loop (fun m E W => ∃ (rest60 : List Int) (i59 : Nat) (O63 : List Nat) (p56 : List Int) (v57 : Value), rest60.length = m ∧ x1.drop i59 = rest60 ∧ E = [(0, (.int .i64 x0)), (1, (.slice A53 x1.length c54)), (5, v15), (6, (.int .i64 p17)), (7, v57), (10, (.int .i64 x0)), (11, (.int .i64 p17)), (14, (.slice A53 x1.length c54)), (15, (.int .i64 (x1.length : Int))), (16, (.int .i64 (i59 : Int)))] ∧ Tr O19 w20 O63 W ∧ OB O63 W ∧ Sub O O63 ∧ Fr [] w W ∧ Go.Dc.Own (Ty.slice (Ty.int .u64)) 35 w.heap.size O63 W v15 p14 ∧ (Ty.slice (Ty.int .u64)).is O63 W v57 p56 ∧ r_Spread_l2 x0 p17 k33 rest60 i59 p56 = some r) _ [(0, (.int .i64 x0)), (1, (.slice A53 x1.length c54)), (5, v15), (6, (.int .i64 p17)), (7, (.slice none 0 0)), (10, (.int .i64 x0)), (11, (.int .i64 p17)), (14, (.slice A53 x1.length c54)), (15, (.int .i64 (x1.length : Int))), (16, (.int .i64 ((0 : Nat) : Int)))] ⟨rfl, rfl, rfl, rfl, rfl, rfl, rfl, rfl, rfl, rfl, trivial⟩ ⟨x1, 0, O19, ([] : List Int), (.slice none 0 0), rfl, rfl, rfl, Tr.refl _ _, hO, hS, hF, h16, (slice_nil _ _ _), h⟩ ?_
  rintro m E w64 ⟨rest60, i59, O63, p56, v57, rfl, hd62, rfl, T55, hO, hS, hF, h16, h58, h⟩
  have T3 := T3.trans T55
  have T13 := T13.trans T55
  have T22 := T22.trans T55
  have T32 := T32.trans T55
  have h1 := h1.tr T55
  rcases rest60 with _ | ⟨z61, rest60⟩
  · rw [r_Spread_l2] at h
    have hl68 := drop_nil hd62
    have hc65 : (decide ((i59 : Int) < (x1.length : Int))) = false := decide_eq_false (by omega)
    refine wc_seq ?_
    refine wc_region (l := [0]) rfl ?_
    refine wo_seg Θ_ok [0] [(0, (.int .i64 x0)), (1, (.slice A53 x1.length c54)), (5, v15), (6, (.int .i64 p17)), (7, v57), (10, (.int .i64 x0)), (11, (.int .i64 p17)), (14, (.slice A53 x1.length c54)), (15, (.int .i64 (x1.length : Int))), (16, (.int .i64 (i59 : Int))), (17, (.bool (decide ((i59 : Int) < (x1.length : Int)))))] rfl ⟨rfl, rfl, rfl, rfl, rfl, rfl, rfl, rfl, rfl, rfl, rfl, trivial⟩ ?_
    refine wo_nil ?_
    refine wq_seq ?_
    refine wc_seq ?_
    refine wc_known_false rfl hc65 ?_
    refine wc_exit ?_
    exact wq_then_exit (wq_then_exit (wq_block_exit (wq_join hK36 [(0, (.int .i64 x0)), (1, (.slice A53 x1.length c54)), (5, v15), (7, v57), (10, (.int .i64 x0)), (11, (.int .i64 p17))] ⟨rfl, rfl, rfl, rfl, rfl, rfl, trivial⟩ ⟨O63, p56, v57, rfl, T32, hO, hS, hF, h16, h58, h⟩)))
  rw [r_Spread_l2] at h
  obtain ⟨hl69, hg67, hd62⟩ := drop_cons hd62
  have hc66 : (decide ((i59 : Int) < (x1.length : Int))) = true := decide_eq_true (by omega)
  refine wc_seq ?_
  refine wc_region (l := [0]) rfl ?_
  refine wo_seg Θ_ok [0] [(0, (.int .i64 x0)), (1, (.slice A53 x1.length c54)), (5, v15), (6, (.int .i64 p17)), (7, v57), (10, (.int .i64 x0)), (11, (.int .i64 p17)), (14, (.slice A53 x1.length c54)), (15, (.int .i64 (x1.length : Int))), (16, (.int .i64 (i59 : Int))), (17, (.bool (decide ((i59 : Int) < (x1.length : Int)))))] rfl ⟨rfl, rfl, rfl, rfl, rfl, rfl, rfl, rfl, rfl, rfl, rfl, trivial⟩ ?_
  refine wo_nil ?_
  refine wq_seq ?_
  refine wc_seq ?_
  refine wc_known_true rfl hc66 ?_
  refine wc_skip ?_
  refine wq_seq ?_
  refine wc_seq ?_
  refine wc_block ?_
  refine wc_seq ?_
  refine wc_region (l := [0, 1, 2]) rfl ?_
  refine wo_index Θ_ok rfl rfl rfl rfl rfl rfl rfl rfl rfl rfl h1 rfl (by omega) hg67 (fun p70 h71 => ?_)
  refine wo_loadp Θ_ok rfl rfl rfl rfl rfl rfl rfl h71 rfl rfl (fun v72 h73 => ?_)
  obtain rfl := int_is.1 h73
  refine wo_seg Θ_ok [2] [(0, (.int .i64 x0)), (1, (.slice A53 x1.length c54)), (5, v15), (6, (.int .i64 p17)), (7, v57), (9, (.int .u64 z61)), (10, (.int .i64 x0)), (11, (.int .i64 p17)), (14, (.slice A53 x1.length c54)), (15, (.int .i64 (x1.length : Int))), (16, (.int .i64 (i59 : Int)))] rfl ⟨rfl, rfl, rfl, rfl, rfl, rfl, rfl, rfl, rfl, rfl, rfl, trivial⟩ ?_
  refine wo_nil ?_
  refine wq_seq ?_
  refine wc_seq ?_
  refine wc_region (l := [0, 1, 2, 3, 4]) rfl ?_
  refine wo_seg Θ_ok [0, 1] [(0, (.int .i64 x0)), (1, (.slice A53 x1.length c54)), (5, v15), (6, (.int .i64 p17)), (7, v57), (9, (.int .u64 z61)), (10, (.int .i64 x0)), (11, (.int .i64 p17)), (14, (.slice A53 x1.length c54)), (15, (.int .i64 (x1.length : Int))), (16, (.int .i64 (i59 : Int))), (20, (.int .u64 z61)), (21, (.int .i64 x0))] rfl ⟨rfl, rfl, rfl, rfl, rfl, rfl, rfl, rfl, rfl, rfl, rfl, rfl, rfl, trivial⟩ ?_
  obtain ⟨y78, hy79, h⟩ := bind_some h
  refine wo_gives rfl rfl rfl rfl rfl ent18 rfl (r_Of_c hO (int_is.2 rfl) (int_is.2 rfl) hy79) (fun v74 w75 h76 f77 => ?_)
  have h1 := h1.tr f77.tr0
  have h58 := h58.tr f77.tr0
  have h16 := h16.fr0 f77
  have T3 := T3.trans f77.tr0
  have T13 := T13.trans f77.tr0
  have T22 := T22.trans f77.tr0
  have T32 := T32.trans f77.tr0
  have T55 := T55.trans f77.tr0
  have hO := f77.ob hO
  have hF := hF.trans f77
  obtain rfl := int_is.1 h76
  refine wo_seg Θ_ok [3, 4] [(0, (.int .i64 x0)), (1, (.slice A53 x1.length c54)), (5, v15), (6, (.int .i64 p17)), (7, v57), (9, (.int .u64 z61)), (10, (.int .i64 x0)), (11, (.int .i64 p17)), (14, (.slice A53 x1.length c54)), (15, (.int .i64 (x1.length : Int))), (16, (.int .i64 (i59 : Int))), (24, (.bool (y78 == p17)))] rfl ⟨rfl, rfl, rfl, rfl, rfl, rfl, rfl, rfl, rfl, rfl, rfl, rfl, trivial⟩ ?_
  refine wo_nil ?_
  refine wq_seq ?_
  rcases bif_some h with ⟨hc80, h⟩ | ⟨hc80, h⟩
  rotate_left
  · refine wc_known_false rfl hc80 ?_
    refine wc_skip ?_
    refine wq_block (wq_seq ?_)
    refine wc_region (l := [0, 1]) rfl ?_
    refine wo_seg Θ_ok [0, 1] [(0, (.int .i64 x0)), (1, (.slice A53 x1.length c54)), (5, v15), (6, (.int .i64 p17)), (7, v57), (10, (.int .i64 x0)), (11, (.int .i64 p17)), (14, (.slice A53 x1.length c54)), (15, (.int .i64 (x1.length : Int))), (16, (.int .i64 (IntKind.i64.wrap ((i59 : Int) + (1 : Int)))))] rfl ⟨rfl, rfl, rfl, rfl, rfl, rfl, rfl, rfl, rfl, rfl, trivial⟩ ?_
    refine wo_nil ?_
    exact wq_next rest60.length [(0, (.int .i64 x0)), (1, (.slice A53 x1.length c54)), (5, v15), (6, (.int .i64 p17)), (7, v57), (10, (.int .i64 x0)), (11, (.int .i64 p17)), (14, (.slice A53 x1.length c54)), (15, (.int .i64 (x1.length : Int))), (16, (.int .i64 ((i59 + 1 : Nat) : Int)))] (Nat.lt_succ_self _) ⟨rfl, rfl, rfl, rfl, rfl, rfl, rfl, rfl, rfl, congrArg (fun z => some (Value.int .i64 z)) (wrap_succ hl69 (Nat.le_trans hlc54 hmc54)), trivial⟩ ⟨rest60, i59 + 1, O63, p56, v57, rfl, hd62, rfl, T55, hO, hS, hF, h16, h58, h⟩
  refine wc_known_true rfl hc80 ?_
  refine wc_region (l := [0, 1, 2, 3]) rfl ?_
  refine wo_seg Θ_ok [0, 1] [(0, (.int .i64 x0)), (1, (.slice A53 x1.length c54)), (5, v15), (6, (.int .i64 p17)), (10, (.int .i64 x0)), (11, (.int .i64 p17)), (14, (.slice A53 x1.length c54)), (15, (.int .i64 (x1.length : Int))), (16, (.int .i64 (i59 : Int))), (25, v57), (26, (.int .u64 z61))] rfl ⟨rfl, rfl, rfl, rfl, rfl, rfl, rfl, rfl, rfl, rfl, rfl, trivial⟩ ?_
  obtain ⟨y85, hy86, h⟩ := bind_some h
  refine wo_gives rfl rfl rfl rfl rfl ent42 rfl (r_Put_c hO h58 (int_is.2 rfl) hy86) (fun v81 w82 h83 f84 => ?_)
  have h1 := h1.tr f84.tr0
  have h16 := h16.fr0 f84
  have T3 := T3.trans f84.tr0
  have T13 := T13.trans f84.tr0
  have T22 := T22.trans f84.tr0
  have T32 := T32.trans f84.tr0
  have T55 := T55.trans f84.tr0
  have hO := f84.ob hO
  have hF := hF.trans f84
  refine wo_seg Θ_ok [3] [(0, (.int .i64 x0)), (1, (.slice A53 x1.length c54)), (5, v15), (6, (.int .i64 p17)), (7, v81), (10, (.int .i64 x0)), (11, (.int .i64 p17)), (14, (.slice A53 x1.length c54)), (15, (.int .i64 (x1.length : Int))), (16, (.int .i64 (i59 : Int)))] rfl ⟨rfl, rfl, rfl, rfl, rfl, rfl, rfl, rfl, rfl, rfl, trivial⟩ ?_
  refine wo_nil ?_
  refine wq_block (wq_seq ?_)
  refine wc_region (l := [0, 1]) rfl ?_
  refine wo_seg Θ_ok [0, 1] [(0, (.int .i64 x0)), (1, (.slice A53 x1.length c54)), (5, v15), (6, (.int .i64 p17)), (7, v81), (10, (.int .i64 x0)), (11, (.int .i64 p17)), (14, (.slice A53 x1.length c54)), (15, (.int .i64 (x1.length : Int))), (16, (.int .i64 (IntKind.i64.wrap ((i59 : Int) + (1 : Int)))))] rfl ⟨rfl, rfl, rfl, rfl, rfl, rfl, rfl, rfl, rfl, rfl, trivial⟩ ?_
  refine wo_nil ?_
  exact wq_next rest60.length [(0, (.int .i64 x0)), (1, (.slice A53 x1.length c54)), (5, v15), (6, (.int .i64 p17)), (7, v81), (10, (.int .i64 x0)), (11, (.int .i64 p17)), (14, (.slice A53 x1.length c54)), (15, (.int .i64 (x1.length : Int))), (16, (.int .i64 ((i59 + 1 : Nat) : Int)))] (Nat.lt_succ_self _) ⟨rfl, rfl, rfl, rfl, rfl, rfl, rfl, rfl, rfl, congrArg (fun z => some (Value.int .i64 z)) (wrap_succ hl69 (Nat.le_trans hlc54 hmc54)), trivial⟩ ⟨rest60, i59 + 1, O63, y85, v81, rfl, hd62, rfl, T55, hO, hS, hF, h16, h83, h⟩
set_option maxRecDepth 100000 in
set_option maxHeartbeats 4000000 in
theorem r_Right_c {O : List Nat} {w : World} (hO : OB O w) {fuel : Nat} {v0 : Value} {x0 : List (List Int)} (h0 : (Ty.slice (Ty.slice (Ty.int .u64))).is O w v0 x0) {r : Bool} (h : r_Right fuel x0 = some r) : Calls Try.prog 27 #[v0] w (Gives (rt1 Ty.bool) O w r) := by
  have hF := Fr.refl [] w
  have hO0 := hO
  have hS := Sub.refl O
  refine calls_of (args := [v0]) (N := 15) Try.func27 rfl rfl rfl ?_
  unfold r_Right at h
  refine wc_seq ?_
  refine wc_region (l := [0]) rfl ?_
  refine wo_seg Θ_ok [0] [(0, v0)] rfl ⟨rfl, trivial⟩ ?_
  refine wo_nil ?_
  refine wq_seq ?_
  refine wc_seq ?_
  refine wc_region (l := [0, 1, 2, 3, 4, 5, 6, 7, 8, 9, 10, 11, 12]) rfl ?_
  refine wo_seg Θ_ok [0] [(0, v0), (3, v0)] rfl ⟨rfl, rfl, trivial⟩ ?_
  obtain ⟨A2, c3, rfl, hlc3, hmc3⟩ := slice_form h0
  refine wo_seg Θ_ok [1] [(0, (.slice A2 x0.length c3)), (4, (.int .i64 (x0.length : Int)))] rfl ⟨rfl, rfl, trivial⟩ ?_
  refine wo_gives rfl rfl rfl rfl rfl ent12 rfl (r_May_c hO (int_is.2 rfl)) (fun v4 w5 h6 f7 => ?_)
  have h0 := h0.tr f7.tr0
  have hO := f7.ob hO
  have hF := hF.trans f7
  obtain rfl := bool_is.1 h6
  refine wo_seg Θ_ok [3] [(0, (.slice A2 x0.length c3)), (6, (.bool ((r_May (x0.length : Int)))))] rfl ⟨rfl, rfl, trivial⟩ ?_
  rcases bif_some h with ⟨hc8, h⟩ | ⟨hc8, h⟩
  rotate_left
  · refine wo_know 6 false rfl hc8 ?_
    refine wo_seg Θ_ok [4, 5, 6, 7, 8, 9, 10, 11, 12] [(2, (.bool false))] rfl ⟨rfl, trivial⟩ ?_
    refine wo_nil ?_
    refine wq_seq ?_
    refine wc_ret ?_
    cases h
    exact wq_ret rfl ⟨_, rfl, (bool_is.2 rfl), hF⟩
  refine wo_know 6 true rfl hc8 ?_
  refine wo_seg Θ_ok [4, 5, 6, 7] [(6, (.bool true)), (7, (.slice A2 x0.length c3)), (9, (.int .i64 (x0.length : Int))), (10, (.slice A2 x0.length c3))] rfl ⟨rfl, rfl, rfl, rfl, trivial⟩ ?_
  obtain ⟨y13, hy14, h⟩ := bind_some h
  refine wo_gives rfl rfl rfl rfl rfl ent34 rfl (r_Keys_c hO h0 hy14) (fun v9 w10 h11 f12 => ?_)
  have h0 := h0.tr f12.tr0
  have hO := f12.ob hO
  have hF := hF.trans f12
  obtain ⟨y19, hy20, h⟩ := bind_some h
  refine wo_gives rfl rfl rfl rfl rfl ent23 rfl (r_Spread_c hO (int_is.2 rfl) h11 hy20) (fun v15 w16 h17 f18 => ?_)
  have h0 := h0.tr f18.tr0
  have hO := f18.ob hO
  have hF := hF.trans f18
  obtain ⟨y25, hy26, h⟩ := bind_some h
  refine wo_gives rfl rfl rfl rfl rfl ent43 rfl (r_Same_c hO h0 h17 hy26) (fun v21 w22 h23 f24 => ?_)
  have hO := f24.ob hO
  have hF := hF.trans f24
  obtain rfl := bool_is.1 h23
  refine wo_seg Θ_ok [11, 12] [(2, (.bool y25))] rfl ⟨rfl, trivial⟩ ?_
  refine wo_nil ?_
  refine wq_seq ?_
  refine wc_ret ?_
  cases h
  exact wq_ret rfl ⟨_, rfl, (bool_is.2 rfl), hF⟩
set_option maxRecDepth 100000 in
set_option maxHeartbeats 4000000 in
theorem r_Seam_c {O : List Nat} {w : World} (hO : OB O w) {v0 : Value} {x0 : List (List Int)} (h0 : (Ty.slice (Ty.slice (Ty.int .u64))).is O w v0 x0) {v1 : Value} {x1 : Int} (h1 : (Ty.int .i64).is O w v1 x1) {r : Int} (h : r_Seam x0 x1 = some r) : Calls Try.prog 31 #[v0, v1] w (Gives (rt1 (Ty.int .i64)) O w r) := by
  obtain rfl := int_is.1 h1
  have hF := Fr.refl [] w
  have hO0 := hO
  have hS := Sub.refl O
  refine calls_of (args := [v0, (.int .i64 x1)]) (N := 28) Try.func31 rfl rfl rfl ?_
  unfold r_Seam at h
  refine wc_seq ?_
  refine wc_region (l := [0]) rfl ?_
  refine wo_seg Θ_ok [0] [(0, v0), (1, (.int .i64 x1))] rfl ⟨rfl, rfl, trivial⟩ ?_
  refine wo_nil ?_
  refine wq_seq ?_
  refine wc_seq ?_
  refine wc_region (l := [0]) rfl ?_
  refine wo_seg Θ_ok [0] [(0, v0), (1, (.int .i64 x1)), (5, (.int .i64 0))] rfl ⟨rfl, rfl, rfl, trivial⟩ ?_
  refine wo_nil ?_
  refine wq_seq ?_
  obtain ⟨k4, hk5, h⟩ := letk_some h
  refine wc_join (fun E W => ∃ (O9 : List Nat) (p8 : Int), E = [(5, (.int .i64 p8))] ∧ Tr O w O9 W ∧ OB O9 W ∧ Sub O O9 ∧ Fr [] w W ∧ k4 p8 = some r) ?_ (fun K6 hK7 => ?_)
  · rintro E w10 ⟨O9, p8, rfl, T3, hO, hS, hF, h⟩
    subst hk5
    (try dsimp only at h)
    refine wc_seq ?_
    refine wc_region (l := [0, 1]) rfl ?_
    refine wo_seg Θ_ok [0, 1] [(4, (.int .i64 p8))] rfl ⟨rfl, trivial⟩ ?_
    refine wo_nil ?_
    refine wq_seq ?_
    refine wc_ret ?_
    cases h
    exact wq_ret rfl ⟨_, rfl, (int_is.2 rfl), hF⟩
  clear hk5
  have T3 := Tr.refl O w
  refine wc_seq ?_
  refine wc_region (l := [0, 1, 2, 3, 4, 5]) rfl ?_
  refine wo_seg Θ_ok [0, 1] [(0, v0), (5, (.int .i64 0)), (8, v0), (9, (.int .i64 x1))] rfl ⟨rfl, rfl, rfl, rfl, trivial⟩ ?_
  obtain ⟨y13, hz14, h⟩ := bind_some h
  refine wo_index Θ_ok rfl rfl rfl rfl rfl rfl rfl rfl rfl rfl h0 rfl (idx_some hz14).1 (idx_some hz14).2 (fun p11 h12 => ?_)
  refine wo_loadp Θ_ok rfl rfl rfl rfl rfl rfl rfl h12 rfl rfl (fun v15 h16 => ?_)
  obtain ⟨A17, c18, rfl, hlc18, hmc18⟩ := slice_form h16
  refine wo_seg Θ_ok [4] [(0, v0), (5, (.int .i64 0)), (11, (.slice A17 y13.length c18)), (12, (.int .i64 (y13.length : Int)))] rfl ⟨rfl, rfl, rfl, rfl, trivial⟩ ?_
  refine wo_seg Θ_ok [5] [(0, v0), (5, (.int .i64 0)), (11, (.slice A17 y13.length c18)), (12, (.int .i64 (y13.length : Int))), (13, (.int .i64 0))] rfl ⟨rfl, rfl, rfl, rfl, rfl, trivial⟩ ?_
  refine wo_nil ?_
  refine wq_seq ?_
  refine wc_block ?_
  refine wc_loop (fun m E W => ∃ (rest22 : List Int) (i21 : Nat) (O25 : List Nat) (p20 : Int), rest22.length = m ∧ y13.drop i21 = rest22 ∧ E = [(0, v0), (5, (.int .i64 p20)), (11, (.slice A17 y13.length c18)), (12, (.int .i64 (y13.length : Int))), (13, (.int .i64 (i21 : Int)))] ∧ Tr O w O25 W ∧ OB O25 W ∧ Sub O O25 ∧ Fr [] w W ∧ r_Seam_l1 x0 k4 rest22 i21 p20 = some r) _ [(0, v0), (5, (.int .i64 0)), (11, (.slice A17 y13.length c18)), (12, (.int .i64 (y13.length : Int))), (13, (.int .i64 ((0 : Nat) : Int)))] ⟨rfl, rfl, rfl, rfl, rfl, trivial⟩ ⟨y13, 0, O, (0 : Int), rfl, rfl, rfl, Tr.refl _ _, hO, hS, hF, h⟩ ?_
  rintro m E w26 ⟨rest22, i21, O25, p20, rfl, hd24, rfl, T19, hO, hS, hF, h⟩
  have T3 := T3.trans T19
  have h0 := h0.tr T19
  have h16 := h16.tr T19
  rcases rest22 with _ | ⟨z23, rest22⟩
  · rw [r_Seam_l1] at h
    have hl30 := drop_nil hd24
    have hc27 : (decide ((i21 : Int) < (y13.length : Int))) = false := decide_eq_false (by omega)
    refine wc_seq ?_
    refine wc_region (l := [0]) rfl ?_
    refine wo_seg Θ_ok [0] [(0, v0), (5, (.int .i64 p20)), (11, (.slice A17 y13.length c18)), (12, (.int .i64 (y13.length : Int))), (13, (.int .i64 (i21 : Int))), (14, (.bool (decide ((i21 : Int) < (y13.length : Int)))))] rfl ⟨rfl, rfl, rfl, rfl, rfl, rfl, trivial⟩ ?_
    refine wo_nil ?_
    refine wq_seq ?_
    refine wc_seq ?_
    refine wc_known_false rfl hc27 ?_
    refine wc_exit ?_
    exact wq_then_exit (wq_then_exit (wq_block_exit (wq_join hK7 [(5, (.int .i64 p20))] ⟨rfl, trivial⟩ ⟨O25, p20, rfl, T3, hO, hS, hF, h⟩)))
  rw [r_Seam_l1] at h
  obtain ⟨hl31, hg29, hd24⟩ := drop_cons hd24
  have hc28 : (decide ((i21 : Int) < (y13.length : Int))) = true := decide_eq_true (by omega)
  refine wc_seq ?_
  refine wc_region (l := [0]) rfl ?_
  refine wo_seg Θ_ok [0] [(0, v0), (5, (.int .i64 p20)), (11, (.slice A17 y13.length c18)), (12, (.int .i64 (y13.length : Int))), (13, (.int .i64 (i21 : Int))), (14, (.bool (decide ((i21 : Int) < (y13.length : Int)))))] rfl ⟨rfl, rfl, rfl, rfl, rfl, rfl, trivial⟩ ?_
  refine wo_nil ?_
  refine wq_seq ?_
  refine wc_seq ?_
  refine wc_known_true rfl hc28 ?_
  refine wc_skip ?_
  refine wq_seq ?_
  refine wc_seq ?_
  refine wc_block ?_
  refine wc_seq ?_
  refine wc_region (l := [0, 1, 2]) rfl ?_
  refine wo_index Θ_ok rfl rfl rfl rfl rfl rfl rfl rfl rfl rfl h16 rfl (by omega) hg29 (fun p32 h33 => ?_)
  refine wo_loadp Θ_ok rfl rfl rfl rfl rfl rfl rfl h33 rfl rfl (fun v34 h35 => ?_)
  obtain rfl := int_is.1 h35
  refine wo_seg Θ_ok [2] [(0, v0), (5, (.int .i64 p20)), (7, (.int .u64 z23)), (11, (.slice A17 y13.length c18)), (12, (.int .i64 (y13.length : Int))), (13, (.int .i64 (i21 : Int)))] rfl ⟨rfl, rfl, rfl, rfl, rfl, rfl, trivial⟩ ?_
  refine wo_nil ?_
  refine wq_seq ?_
  refine wc_seq ?_
  refine wc_region (l := [0, 1, 2, 3, 4, 5, 6]) rfl ?_
  refine wo_seg Θ_ok [0, 1] [(0, v0), (5, (.int .i64 p20)), (11, (.slice A17 y13.length c18)), (12, (.int .i64 (y13.length : Int))), (13, (.int .i64 (i21 : Int))), (17, (.int .u64 z23)), (18, v0)] rfl ⟨rfl, rfl, rfl, rfl, rfl, rfl, rfl, trivial⟩ ?_
  obtain ⟨A36, c37, rfl, hlc37, hmc37⟩ := slice_form h0
  refine wo_seg Θ_ok [2] [(0, (.slice A36 x0.length c37)), (5, (.int .i64 p20)), (11, (.slice A17 y13.length c18)), (12, (.int .i64 (y13.length : Int))), (13, (.int .i64 (i21 : Int))), (17, (.int .u64 z23)), (19, (.int .i64 (x0.length : Int)))] rfl ⟨rfl, rfl, rfl, rfl, rfl, rfl, rfl, trivial⟩ ?_
  refine wo_seg Θ_ok [3] [(0, (.slice A36 x0.length c37)), (5, (.int .i64 p20)), (11, (.slice A17 y13.length c18)), (12, (.int .i64 (y13.length : Int))), (13, (.int .i64 (i21 : Int))), (17, (.int .u64 z23)), (20, (.int .i64 (IntKind.i64.wrap ((2 : Int) * (x0.length : Int)))))] rfl ⟨rfl, rfl, rfl, rfl, rfl, rfl, rfl, trivial⟩ ?_
  obtain ⟨y42, hy43, h⟩ := bind_some h
  refine wo_gives rfl rfl rfl rfl rfl ent18 rfl (r_Of_c hO (int_is.2 rfl) (int_is.2 rfl) hy43) (fun v38 w39 h40 f41 => ?_)
  have h0 := h0.tr f41.tr0
  have h16 := h16.tr f41.tr0
  have T3 := T3.trans f41.tr0
  have T19 := T19.trans f41.tr0
  have hO := f41.ob hO
  have hF := hF.trans f41
  obtain rfl := int_is.1 h40
  refine wo_seg Θ_ok [5, 6] [(0, (.slice A36 x0.length c37)), (5, (.int .i64 p20)), (11, (.slice A17 y13.length c18)), (12, (.int .i64 (y13.length : Int))), (13, (.int .i64 (i21 : Int))), (23, (.bool ((y42.tmod (2 : Int)) == (0 : Int))))] rfl ⟨rfl, rfl, rfl, rfl, rfl, rfl, trivial⟩ ?_
  refine wo_nil ?_
  refine wq_seq ?_
  rcases bif_some h with ⟨hc44, h⟩ | ⟨hc44, h⟩
  rotate_left
  · refine wc_known_false rfl hc44 ?_
    refine wc_skip ?_
    refine wq_block (wq_seq ?_)
    refine wc_region (l := [0, 1]) rfl ?_
    refine wo_seg Θ_ok [0, 1] [(0, (.slice A36 x0.length c37)), (5, (.int .i64 p20)), (11, (.slice A17 y13.length c18)), (12, (.int .i64 (y13.length : Int))), (13, (.int .i64 (IntKind.i64.wrap ((i21 : Int) + (1 : Int)))))] rfl ⟨rfl, rfl, rfl, rfl, rfl, trivial⟩ ?_
    refine wo_nil ?_
    exact wq_next rest22.length [(0, (.slice A36 x0.length c37)), (5, (.int .i64 p20)), (11, (.slice A17 y13.length c18)), (12, (.int .i64 (y13.length : Int))), (13, (.int .i64 ((i21 + 1 : Nat) : Int)))] (Nat.lt_succ_self _) ⟨rfl, rfl, rfl, rfl, congrArg (fun z => some (Value.int .i64 z)) (wrap_succ hl31 (Nat.le_trans hlc18 hmc18)), trivial⟩ ⟨rest22, i21 + 1, O25, p20, rfl, hd24, rfl, T19, hO, hS, hF, h⟩
  refine wc_known_true rfl hc44 ?_
  refine wc_region (l := [0, 1, 2]) rfl ?_
  refine wo_seg Θ_ok [0, 1, 2] [(0, (.slice A36 x0.length c37)), (5, (.int .i64 (IntKind.i64.wrap (p20 + (1 : Int))))), (11, (.slice A17 y13.length c18)), (12, (.int .i64 (y13.length : Int))), (13, (.int .i64 (i21 : Int)))] rfl ⟨rfl, rfl, rfl, rfl, rfl, trivial⟩ ?_
  refine wo_nil ?_
  refine wq_block (wq_seq ?_)
  refine wc_region (l := [0, 1]) rfl ?_
  refine wo_seg Θ_ok [0, 1] [(0, (.slice A36 x0.length c37)), (5, (.int .i64 (IntKind.i64.wrap (p20 + (1 : Int))))), (11, (.slice A17 y13.length c18)), (12, (.int .i64 (y13.length : Int))), (13, (.int .i64 (IntKind.i64.wrap ((i21 : Int) + (1 : Int)))))] rfl ⟨rfl, rfl, rfl, rfl, rfl, trivial⟩ ?_
  refine wo_nil ?_
  exact wq_next rest22.length [(0, (.slice A36 x0.length c37)), (5, (.int .i64 (IntKind.i64.wrap (p20 + (1 : Int))))), (11, (.slice A17 y13.length c18)), (12, (.int .i64 (y13.length : Int))), (13, (.int .i64 ((i21 + 1 : Nat) : Int)))] (Nat.lt_succ_self _) ⟨rfl, rfl, rfl, rfl, congrArg (fun z => some (Value.int .i64 z)) (wrap_succ hl31 (Nat.le_trans hlc18 hmc18)), trivial⟩ ⟨rest22, i21 + 1, O25, (IntKind.i64.wrap (p20 + (1 : Int))), rfl, hd24, rfl, T19, hO, hS, hF, h⟩
set_option maxRecDepth 100000 in
set_option maxHeartbeats 4000000 in
theorem s_Values1_c {O : List Nat} {w : World} (hO : OB O w) {cv0 : Value} {ck0 : List Int} (ch0 : (Ty.ptr (Ty.slice (Ty.int .u64))).is O w cv0 ck0) : Seq1 Try.prog 58 #[cv0] (Value.int .u64) O w (s_Values1 ck0) := by
  intro l0 J Jx Oz wz hT hO0 hJf hJxf hY hJ
  have ch0 := ch0.tr hT
  have hO := hO0
  have hF := Fr.refl [] wz
  have hS := Sub.refl Oz
  obtain ⟨ys, h⟩ : ∃ ys, s_Values1 ck0 = ys := ⟨_, rfl⟩
  obtain ⟨kk, ekk⟩ : ∃ kk, kk = 0 := ⟨_, rfl⟩
  rw [← ekk] at hJ
  have hd : (s_Values1 ck0).drop kk = ys := by rw [ekk]; exact h
  have hk : kk ≤ (s_Values1 ck0).length := by rw [ekk]; exact Nat.zero_le _
  unfold s_Values1 at h
  refine callsIn_of (args := [(.func (.yield l0) #[] #[]), cv0]) (N := 16) Try.func58 rfl rfl rfl ?_
  refine wc_seq ?_
  refine wc_region (l := [0, 1, 2]) rfl ?_
  refine wo_loadp Θ_ok rfl rfl rfl rfl rfl rfl rfl ch0 rfl rfl (fun v2 h3 => ?_)
  obtain ⟨A4, c5, rfl, hlc5, hmc5⟩ := slice_form h3
  refine wo_seg Θ_ok [1] [(0, (.func (.yield l0) #[] #[])), (5, (.slice A4 ck0.length c5)), (6, (.int .i64 (ck0.length : Int)))] rfl ⟨rfl, rfl, rfl, trivial⟩ ?_
  refine wo_seg Θ_ok [2] [(0, (.func (.yield l0) #[] #[])), (5, (.slice A4 ck0.length c5)), (6, (.int .i64 (ck0.length : Int))), (7, (.int .i64 0))] rfl ⟨rfl, rfl, rfl, rfl, trivial⟩ ?_
  refine wo_nil ?_
  refine wq_seq ?_
  refine wc_block ?_
  refine wc_loop (fun m E W => ∃ (rest8 : List Int) (i7 : Nat) (O11 : List Nat) (kk12 : Nat) (ys13 : List Int) (Oz14 : List Nat) (wz15 : World), rest8.length = m ∧ ck0.drop i7 = rest8 ∧ E = [(0, (.func (.yield l0) #[] #[])), (5, (.slice A4 ck0.length c5)), (6, (.int .i64 (ck0.length : Int))), (7, (.int .i64 (i7 : Int)))] ∧ Tr Oz wz O11 W ∧ OB O11 W ∧ Sub Oz14 O11 ∧ Fr [] wz15 W ∧ (s_Values1 ck0).drop kk12 = ys13 ∧ kk12 ≤ (s_Values1 ck0).length ∧ J kk12 Oz14 wz15 ∧ OB Oz14 wz15 ∧ s_Values1_l1 rest8 i7 = ys13) _ [(0, (.func (.yield l0) #[] #[])), (5, (.slice A4 ck0.length c5)), (6, (.int .i64 (ck0.length : Int))), (7, (.int .i64 ((0 : Nat) : Int)))] ⟨rfl, rfl, rfl, rfl, trivial⟩ ⟨ck0, 0, Oz, kk, _, Oz, wz, rfl, rfl, rfl, Tr.refl _ _, hO, hS, hF, hd, hk, hJ, hO0, h⟩ ?_
  rintro m E w16 ⟨rest8, i7, O11, kk12, ys13, Oz14, wz15, rfl, hd10, rfl, T6, hO, hS, hF, hd, hk, hJ, hO0, h⟩
  have h3 := h3.tr T6
  rcases rest8 with _ | ⟨z9, rest8⟩
  · rw [s_Values1_l1] at h
    have hl20 := drop_nil hd10
    have hc17 : (decide ((i7 : Int) < (ck0.length : Int))) = false := decide_eq_false (by omega)
    refine wc_seq ?_
    refine wc_region (l := [0]) rfl ?_
    refine wo_seg Θ_ok [0] [(0, (.func (.yield l0) #[] #[])), (5, (.slice A4 ck0.length c5)), (6, (.int .i64 (ck0.length : Int))), (7, (.int .i64 (i7 : Int))), (8, (.bool (decide ((i7 : Int) < (ck0.length : Int)))))] rfl ⟨rfl, rfl, rfl, rfl, rfl, trivial⟩ ?_
    refine wo_nil ?_
    refine wq_seq ?_
    refine wc_seq ?_
    refine wc_known_false rfl hc17 ?_
    refine wc_exit ?_
    exact wq_then_exit (wq_then_exit (wq_block_exit (wq_end rfl ⟨⟨_, rfl⟩, .inl ⟨_, iter_done hk (hd.trans h.symm) (hJf _ _ _ _ hJ hF)⟩⟩)))
  rw [s_Values1_l1] at h
  obtain ⟨hl21, hg19, hd10⟩ := drop_cons hd10
  have hc18 : (decide ((i7 : Int) < (ck0.length : Int))) = true := decide_eq_true (by omega)
  refine wc_seq ?_
  refine wc_region (l := [0]) rfl ?_
  refine wo_seg Θ_ok [0] [(0, (.func (.yield l0) #[] #[])), (5, (.slice A4 ck0.length c5)), (6, (.int .i64 (ck0.length : Int))), (7, (.int .i64 (i7 : Int))), (8, (.bool (decide ((i7 : Int) < (ck0.length : Int)))))] rfl ⟨rfl, rfl, rfl, rfl, rfl, trivial⟩ ?_
  refine wo_nil ?_
  refine wq_seq ?_
  refine wc_seq ?_
  refine wc_known_true rfl hc18 ?_
  refine wc_skip ?_
  refine wq_seq ?_
  refine wc_seq ?_
  refine wc_block ?_
  refine wc_seq ?_
  refine wc_region (l := [0, 1, 2]) rfl ?_
  refine wo_index Θ_ok rfl rfl rfl rfl rfl rfl rfl rfl rfl rfl h3 rfl (by omega) hg19 (fun p22 h23 => ?_)
  refine wo_loadp Θ_ok rfl rfl rfl rfl rfl rfl rfl h23 rfl rfl (fun v24 h25 => ?_)
  obtain rfl := int_is.1 h25
  refine wo_seg Θ_ok [2] [(0, (.func (.yield l0) #[] #[])), (4, (.int .u64 z9)), (5, (.slice A4 ck0.length c5)), (6, (.int .i64 (ck0.length : Int))), (7, (.int .i64 (i7 : Int)))] rfl ⟨rfl, rfl, rfl, rfl, rfl, trivial⟩ ?_
  refine wo_nil ?_
  refine wq_seq ?_
  refine wc_seq ?_
  refine wc_region (l := [0, 1, 2, 3]) rfl ?_
  refine wo_seg Θ_ok [0, 1] [(0, (.func (.yield l0) #[] #[])), (5, (.slice A4 ck0.length c5)), (6, (.int .i64 (ck0.length : Int))), (7, (.int .i64 (i7 : Int))), (11, (.func (.yield l0) #[] #[])), (12, (.int .u64 z9))] rfl ⟨rfl, rfl, rfl, rfl, rfl, rfl, trivial⟩ ?_
  obtain ⟨hlt, hz, hd⟩ := drop_cons (hd.trans h.symm)
  have hk : (kk12 + 1) ≤ (s_Values1 ck0).length := hlt
  clear h
  refine wo_yield (u := (Value.int .u64) z9) rfl rfl rfl rfl rfl rfl rfl (hY kk12 _ Oz14 w16 hz (hJf _ _ _ _ hJ hF) (hF.ob hO0)) ?_
  rintro e w_y (⟨rfl, O26, hJ, T28, hO0⟩ | ⟨rfl, hJx⟩)
  · obtain ⟨w27, rfl⟩ : ∃ u, u = w_y := ⟨_, rfl⟩
    refine ⟨.bool true, rfl, ?_⟩
    have h : _ = (s_Values1 ck0).drop (kk12 + 1) := hd.symm
    have hd : (s_Values1 ck0).drop (kk12 + 1) = (s_Values1 ck0).drop (kk12 + 1) := rfl
    have T28 := T28.more hS
    have h3 := h3.tr T28
    have T6 := T6.trans T28
    have hF := Fr.refl [] w27
    have hS := Sub.refl O26
    have hO := hO0
    refine wo_seg Θ_ok [3] [(0, (.func (.yield l0) #[] #[])), (5, (.slice A4 ck0.length c5)), (6, (.int .i64 (ck0.length : Int))), (7, (.int .i64 (i7 : Int))), (14, (.bool false))] rfl ⟨rfl, rfl, rfl, rfl, rfl, trivial⟩ ?_
    refine wo_nil ?_
    refine wq_seq ?_
    refine wc_false rfl ?_
    refine wc_skip ?_
    refine wq_block (wq_seq ?_)
    refine wc_region (l := [0, 1]) rfl ?_
    refine wo_seg Θ_ok [0, 1] [(0, (.func (.yield l0) #[] #[])), (5, (.slice A4 ck0.length c5)), (6, (.int .i64 (ck0.length : Int))), (7, (.int .i64 (IntKind.i64.wrap ((i7 : Int) + (1 : Int)))))] rfl ⟨rfl, rfl, rfl, rfl, trivial⟩ ?_
    refine wo_nil ?_
    exact wq_next rest8.length [(0, (.func (.yield l0) #[] #[])), (5, (.slice A4 ck0.length c5)), (6, (.int .i64 (ck0.length : Int))), (7, (.int .i64 ((i7 + 1 : Nat) : Int)))] (Nat.lt_succ_self _) ⟨rfl, rfl, rfl, congrArg (fun z => some (Value.int .i64 z)) (wrap_succ hl21 (Nat.le_trans hlc5 hmc5)), trivial⟩ ⟨rest8, i7 + 1, O26, (kk12 + 1), _, O26, w27, rfl, hd10, rfl, T6, hO, hS, hF, hd, hk, hJ, hO0, h⟩
  · obtain ⟨w29, rfl⟩ : ∃ u, u = w_y := ⟨_, rfl⟩
    refine ⟨.bool false, rfl, ?_⟩
    have hF := Fr.refl [] w29
    refine wo_seg Θ_ok [3] [(6, (.int .i64 (ck0.length : Int))), (7, (.int .i64 (i7 : Int))), (14, (.bool true))] rfl ⟨rfl, rfl, rfl, trivial⟩ ?_
    refine wo_nil ?_
    refine wq_seq ?_
    refine wc_true rfl ?_
    refine wc_ret ?_
    exact wq_block_ret (wq_then_ret (wq_then_ret (wq_block_ret (wq_ret rfl ⟨⟨_, rfl⟩, .inr (hJxf _ _ hJx hF)⟩))))
set_option maxRecDepth 100000 in
set_option maxHeartbeats 4000000 in
theorem s_Values_c {O : List Nat} {w : World} (hO : OB O w) {v0 : Value} {x0 : List Int} (h0 : (Ty.slice (Ty.int .u64)).is O w v0 x0) : Calls Try.prog 52 #[v0] w (Gives (rt1 (Ty.seq Try.prog (Value.int .u64))) O w (s_Values x0)) := by
  have hF := Fr.refl [] w
  have hO0 := hO
  have hS := Sub.refl O
  obtain ⟨r, h⟩ : ∃ r, s_Values x0 = r := ⟨_, rfl⟩
  rw [h]
  refine calls_of (args := [v0]) (N := 4) Try.func52 rfl rfl rfl ?_
  unfold s_Values at h
  refine wc_seq ?_
  refine wc_region (l := [0, 1]) rfl ?_
  refine wo_box rfl rfl rfl rfl rfl rfl [v0] (cells_of rfl h0) hO (fun b2 w3 n4 => ?_)
  have h0 := h0.tr n4.tr
  have hb2 := n4.blk
  have gb2 := n4.ge0 hF
  have ib2 : b2 ∈ b2 :: O := List.mem_cons_self
  have hO := n4.ob
  have hF := hF.trans n4.fr
  have hS := Sub.cons hS b2
  refine wo_seg Θ_ok [1] [(1, (.pointer (some ⟨b2, 0, none⟩)))] rfl ⟨rfl, trivial⟩ ?_
  refine wo_nil ?_
  refine wq_seq ?_
  refine wc_seq ?_
  refine wc_region (l := [0, 1]) rfl ?_
  have p5 := rel_ptr (T := (Ty.slice (Ty.int .u64))) hb2 (Ty.tr _ (rel_tr b2 (b2 :: O) w3) (rep_of rfl h0))
  have h0 := h0.tr (rel_tr b2 (b2 :: O) w3)
  have hO := rel_ob (b := b2) hO
  have hS := rel_sub hS hO0 gb2
  refine wo_seg Θ_ok [0, 1] [(2, (.func (.func 58) #[] #[(.pointer (some ⟨b2, 0, none⟩))]))] rfl ⟨rfl, trivial⟩ ?_
  refine wo_nil ?_
  refine wq_seq ?_
  refine wc_ret ?_
  have h6 : (Ty.seq Try.prog (Value.int .u64)).is (rel b2 (b2 :: O)) w3 (.func (.func 58) #[] #[(.pointer (some ⟨b2, 0, none⟩))]) (s_Values1 x0) := (seq_is (lb := [(.pointer (some ⟨b2, 0, none⟩))]) ent58 (fun O' w' ht hO => s_Values1_c hO (p5.tr ht)))
  subst h
  exact wq_ret rfl ⟨_, rfl, (h6.tr (Tr.less hS)), hF⟩
set_option maxRecDepth 100000 in
set_option maxHeartbeats 4000000 in
theorem s_AppendSeq_f {O : List Nat} {w : World} (hO : OB O w) {B : Nat} (hB : B ≤ w.heap.size) {v1 : Value} {x1 : List Int} (h1 : (Ty.seq Try.prog (Value.int .u64)).is O w v1 x1) {r : List Int} (h : s_AppendSeq x1 = some r) : Calls Try.prog 59 #[(.slice none 0 0), v1] w (GivesOwn (Ty.int .u64) 31 B O w (.slice none 0 0) r) := by
  have hF := Fr.refl [] w
  have hO0 := hO
  have hS := Sub.refl O
  refine calls_of (args := [(.slice none 0 0), v1]) (N := 13) Try.func59 rfl rfl rfl ?_
  unfold s_AppendSeq at h
  refine wc_seq ?_
  refine wc_region (l := [0, 1]) rfl ?_
  refine wo_box rfl rfl rfl rfl rfl rfl [(.slice none 0 0)] rfl hO (fun b3 w4 n5 => ?_)
  have h1 := h1.tr n5.tr
  have hb3 := n5.blk
  have gb3 := n5.ge0 hF
  have ib3 : b3 ∈ b3 :: O := List.mem_cons_self
  have hO := n5.ob
  have hF := hF.trans n5.fr
  have hS := Sub.cons hS b3
  refine wo_seg Θ_ok [1] [(1, v1), (2, (.pointer (some ⟨b3, 0, none⟩)))] rfl ⟨rfl, rfl, trivial⟩ ?_
  refine wo_nil ?_
  refine wq_seq ?_
  refine wc_seq ?_
  refine wc_seq ?_
  refine wc_region (l := [0]) rfl ?_
  refine wo_seg Θ_ok [0] [(2, (.pointer (some ⟨b3, 0, none⟩))), (6, v1)] rfl ⟨rfl, rfl, trivial⟩ ?_
  refine wo_nil ?_
  refine wq_seq ?_
  refine wc_block ?_
  have hFes_AppendSeq_l1 := hF
  refine wc_rangeFunc rfl h1 hO rfl (fun k O12 W => ∃ (rest9 : List Int) (p6 : List Int) (v7 : Value), x1.drop k = rest9 ∧ Sub O O12 ∧ Fr [] w W ∧ b3 ∈ O12 ∧ Blk W b3 35 [v7] ∧ Go.Dc.Own (Ty.int .u64) 31 w.heap.size O12 W v7 p6 ∧ v7.ownBlock ≠ some b3 ∧ s_AppendSeq_l1 rest9 p6 = some r) (fun c O2 W => False) (by rintro k O12 W W' hk ⟨rest9, p6, v7, hd10, hS, hF, ib3, hb3, h8, qh8b3, h⟩; exact ⟨rest9, p6, v7, hd10, hS, hk.fr hF hFes_AppendSeq_l1.size, ib3, hb3.bk hk, h8.bk hk, qh8b3, h⟩) (by rintro k O12 W W' hk ⟨rest9, p6, v7, hd10, hS, hF, ib3, hb3, h8, qh8b3, h⟩; exact ⟨rest9, p6, v7, hd10, hS, hF.trans hk, ib3, hb3.fr0 hk, h8.fr0 hk, qh8b3, h⟩) (fun _ _ _ _ _ h => h.elim) (fun _ _ _ _ _ h => h.elim) (fun O' W' T S B hk => ⟨x1, ([] : List Int), (.slice none 0 0), (by simp), Sub.trans hS S, hF.trans hk, S _ ib3, hb3.fr0 hk, (Go.Dc.Own.nil_ : Go.Dc.Own (Ty.int .u64) 31 w.heap.size _ _ _ _), (nil_ne _), h⟩) ?_ ?_ ?_
  · rintro D13 l14 k rec rec' z16 O12 w15 hz17 T11 hO grD13 grl14 irD13 irl14 nel14 hrl14 hrD13 ⟨rest9, p6, v7, hd10, hS, hF, ib3, hb3, h8, qh8b3, h⟩
    have T_ll14 := T11
    rw [drop_get hz17] at hd10
    subst hd10
    rw [s_AppendSeq_l1] at h
    have h1 := h1.tr T11
    have T18 := Tr.refl O12 w15
    refine wc_region (l := [0]) rfl ?_
    refine wo_seg Θ_ok [0] [(2, (.pointer (some ⟨b3, 0, none⟩))), (5, (.int .u64 z16)), (6, v1)] rfl ⟨rfl, rfl, rfl, trivial⟩ ?_
    refine wo_nil ?_
    refine wq_begin (O2 := O12) irl14 nel14 hrl14 grl14 hrD13 (fun w20 hk19 hrl14 hrD13 => ?_)
    have h1 := h1.tr hk19.tr
    have hb3 := hb3.bk hk19
    have h8 := h8.bk hk19
    have T18 := T18.trans hk19.tr
    have hF := hk19.fr hF hFes_AppendSeq_l1.size
    have hO := hk19.ob hO
    refine wc_block ?_
    refine wc_region (l := [0, 1, 2, 3, 4]) rfl ?_
    refine wo_load Θ_ok rfl rfl rfl rfl rfl rfl rfl hb3 [v7] rfl rfl (.inr rfl) v7 rfl ?_
    refine wo_seg Θ_ok [1] [(2, (.pointer (some ⟨b3, 0, none⟩))), (6, v1), (8, v7), (9, (.int .u64 z16))] rfl ⟨rfl, rfl, rfl, rfl, trivial⟩ ?_
    refine wo_litd Θ_ok rfl rfl rfl rfl rfl rfl rfl rfl rfl rfl (T := (Ty.int .u64)) (xs := [z16]) (vs := [(.int .u64 z16)]) rfl ⟨(int_is.2 rfl), trivial⟩ rfl rfl rfl hO (fun v21 w22 h23 f24 => ?_)
    have h1 := h1.tr f24.tr0
    have hb3 := hb3.fr0 f24
    have h8 := h8.fr0 f24
    have hrl14 := hrl14.fr0 f24
    have hrD13 := hrD13.fr0 f24
    have T18 := T18.trans f24.tr0
    have hO := f24.ob hO
    have hF := hF.trans f24
    obtain ⟨z25, hz26, h⟩ := bind_some h
    refine wo_app Θ_ok rfl rfl rfl rfl rfl rfl rfl rfl rfl rfl rfl rfl rfl rfl hF hO h8 h23 hz26 (fun v27 w28 O29 ap30 => ?_)
    have h1 := h1.tr ap30.tr
    have T18 := T18.trans ap30.tr
    have qh31b3 := ap30.ne _ hb3.lt qh8b3
    have hb3 := ap30.blk hb3 qh8b3
    have ib3 := ap30.sub _ ib3
    have hrl14 := hrl14.app ap30 h8
    have hrD13 := hrD13.app ap30 h8
    have irl14 := ap30.sub _ irl14
    have irD13 := ap30.sub _ irD13
    have hF := ap30.fr0 h8 hF
    have hS := Sub.trans hS ap30.sub
    have hO := ap30.ob
    have h31 := ap30.own
    obtain ⟨A32, c33, rfl, hlc33, hmc33⟩ := h31.form
    have ehrl14 := hrl14.ne hb3
    have ehrD13 := hrD13.ne hb3
    refine wo_store Θ_ok rfl rfl rfl rfl rfl rfl rfl hb3 [(.slice A32 z25.length c33)] rfl rfl (by simp [Value.oneCell']) rfl [(.slice A32 z25.length c33)] rfl (fun w34 hb3 f35 => ?_)
    have h1 := h1.tr (f35.tr (one_in ib3))
    have T18 := T18.trans (f35.tr (one_in ib3))
    have h31 := h31.st f35 ib3 qh31b3
    have hrl14 := hrl14.keep f35 ehrl14
    have hrD13 := hrD13.keep f35 ehrD13
    have hO := f35.ob hO
    have hF := hF.own f35 gb3
    refine wo_nil ?_
    exact wq_block (wq_round T18 hO irD13 irl14 hrl14 hrD13 ⟨(x1.drop (k + 1)), z25, (.slice A32 z25.length c33), rfl, hS, hF, ib3, hb3, h31, qh31b3, h⟩)
  · rintro D36 O12 w37 grD36 T11 hO irD36 hrD36 ⟨rest9, p6, v7, hd10, hS, hF, ib3, hb3, h8, qh8b3, h⟩
    rw [List.drop_length] at hd10
    subst hd10
    rw [s_AppendSeq_l1] at h
    have grD36 := Nat.le_trans hFes_AppendSeq_l1.size grD36
    have h1 := h1.tr T11
    refine wq_block (wq_seq ?_)
    refine wc_seq ?_
    refine wc_region (l := [0, 1]) rfl ?_
    refine wo_load Θ_ok rfl rfl rfl rfl rfl rfl rfl hb3 [v7] rfl rfl (.inr rfl) v7 rfl ?_
    refine wo_seg Θ_ok [1] [(4, v7)] rfl ⟨rfl, trivial⟩ ?_
    refine wo_nil ?_
    refine wq_seq ?_
    refine wc_ret ?_
    refine wq_mark_ret (n0 := w.heap.size) hrD36 irD36 grD36 (fun w39 hk38 => ?_)
    have hb3 := hb3.bk hk38
    have h8 := h8.bk hk38
    have hF := hk38.fr hF (Nat.le_refl _)
    have hO := hk38.ob hO
    cases h
    exact wq_ret rfl (fresh_own h8 hS hF hO0 hB)
  · intro _ _ _ _ _ _ _ _ hz
    exact hz.elim
theorem s_AppendSeq_c {O : List Nat} {w : World} (hO : OB O w) {v1 : Value} {x1 : List Int} (h1 : (Ty.seq Try.prog (Value.int .u64)).is O w v1 x1) {r : List Int} (h : s_AppendSeq x1 = some r) : Calls Try.prog 59 #[(.slice none 0 0), v1] w (Gives (rt1 (Ty.slice (Ty.int .u64))) O w r) := (s_AppendSeq_f hO (Nat.le_refl _) h1 h).mono fun _ _ hh => gives_of_own hO hh
set_option maxRecDepth 100000 in
set_option maxHeartbeats 4000000 in
theorem s_Collect_f {O : List Nat} {w : World} (hO : OB O w) {B : Nat} (hB : B ≤ w.heap.size) {v0 : Value} {x0 : List Int} (h0 : (Ty.seq Try.prog (Value.int .u64)).is O w v0 x0) {r : List Int} (h : s_Collect x0 = some r) : Calls Try.prog 56 #[v0] w (GivesOwn (Ty.int .u64) 31 B O w (.slice none 0 0) r) := by
  have hF := Fr.refl [] w
  have hO0 := hO
  have hS := Sub.refl O
  refine calls_of (args := [v0]) (N := 5) Try.func56 rfl rfl rfl ?_
  unfold s_Collect at h
  refine wc_seq ?_
  refine wc_region (l := [0]) rfl ?_
  refine wo_seg Θ_ok [0] [(0, v0)] rfl ⟨rfl, trivial⟩ ?_
  refine wo_nil ?_
  refine wq_seq ?_
  refine wc_seq ?_
  refine wc_region (l := [0, 1, 2]) rfl ?_
  refine wo_seg Θ_ok [0] [(3, v0)] rfl ⟨rfl, trivial⟩ ?_
  obtain ⟨z2, hz3, h⟩ := bind_some h
  refine wo_ownc rfl rfl rfl rfl rfl ent59 rfl (s_AppendSeq_f hO hF.size h0 hz3) (fun v4 w5 O6 ap7 => ?_)
  have hF := ap7.fr0 (Go.Dc.Own.nil_ : Go.Dc.Own (Ty.int .u64) 31 w.heap.size _ _ _ _) hF
  have hS := Sub.trans hS ap7.sub
  have hO := ap7.ob
  have h8 := ap7.own
  refine wo_seg Θ_ok [2] [(2, v4)] rfl ⟨rfl, trivial⟩ ?_
  refine wo_nil ?_
  refine wq_seq ?_
  refine wc_ret ?_
  cases h
  exact wq_ret rfl (fresh_own h8 hS hF hO0 hB)
theorem s_Collect_c {O : List Nat} {w : World} (hO : OB O w) {v0 : Value} {x0 : List Int} (h0 : (Ty.seq Try.prog (Value.int .u64)).is O w v0 x0) {r : List Int} (h : s_Collect x0 = some r) : Calls Try.prog 56 #[v0] w (Gives (rt1 (Ty.slice (Ty.int .u64))) O w r) := (s_Collect_f hO (Nat.le_refl _) h0 h).mono fun _ _ hh => gives_of_own hO hh
set_option maxRecDepth 100000 in
set_option maxHeartbeats 4000000 in
theorem s_Grow_f {O : List Nat} {w : World} (hO : OB O w) {B : Nat} (hB : B ≤ w.heap.size) {v1 : Value} {n : Int} (h1 : (Ty.int .i64).is O w v1 n) {r : List Int} (h : s_Grow n = some r) :
    Calls Try.prog 46 #[.slice none 0 0, v1] w (GivesOwn (Ty.int .u64) 31 B O w (.slice none 0 0) r) := by
  obtain rfl := int_is.1 h1
  unfold s_Grow at h
  split at h
  · rename_i hc
    obtain ⟨h0, hb⟩ := hc
    simp only [Option.some.injEq] at h
    subst h
    obtain ⟨k, rfl⟩ : ∃ k : Nat, n = k := ⟨n.toNat, by omega⟩
    refine calls_of (args := [.slice none 0 0, .int .i64 k]) (N := 27) Try.func46 rfl rfl rfl ?_
    refine wc_seq ?_
    refine wc_region (l := [0]) rfl ?_
    refine wo_seg Θ_ok [0] [(0, .slice none 0 0), (1, .int .i64 k)] rfl ⟨rfl, rfl, trivial⟩ ?_
    refine wo_nil ?_
    refine wq_seq ?_
    refine wc_seq ?_
    refine wc_seq ?_
    refine wc_region (l := [0, 1]) rfl ?_
    refine wo_seg Θ_ok [0, 1] [(0, .slice none 0 0), (1, .int .i64 k), (6, .bool (decide ((k : Int) < 0)))] rfl ⟨rfl, rfl, rfl, trivial⟩ ?_
    refine wo_nil ?_
    refine wq_seq ?_
    refine wc_known_false rfl (decide_eq_false (by omega)) ?_
    refine wc_skip ?_
    refine wq_seq ?_
    refine wc_seq ?_
    refine wc_seq ?_
    refine wc_region (l := [0, 1, 2, 3, 4, 5, 6, 7]) rfl ?_
    refine wo_seg Θ_ok [0, 1, 2, 3, 4, 5, 6, 7] [(0, .slice none 0 0), (1, .int .i64 (IntKind.i64.wrap ((k : Int) - (IntKind.i64.wrap (((0 : Nat) : Int) - ((0 : Nat) : Int))))))] rfl ⟨rfl, rfl, trivial⟩ ?_
    have hw : IntKind.i64.wrap ((k : Int) - (IntKind.i64.wrap (((0 : Nat) : Int) - ((0 : Nat) : Int)))) = (k : Int) := by rw [IntKind.wrap_i64, IntKind.wrap_i64]; omega
    rw [hw]
    refine wo_nil ?_
    refine wq_seq ?_
    refine wc_seq ?_
    refine wc_region (l := [0, 1]) rfl ?_
    refine wo_seg Θ_ok [0, 1] [(0, .slice none 0 0), (1, .int .i64 k), (16, .bool (decide ((k : Int) > 0)))] rfl ⟨rfl, rfl, rfl, trivial⟩ ?_
    refine wo_nil ?_
    refine wq_seq ?_
    by_cases hk : 0 < k
    · refine wc_known_true rfl (decide_eq_true (by omega)) ?_
      refine wc_region (l := [0, 1, 2, 3, 4, 5, 6, 7, 8, 9]) rfl ?_
      refine wo_seg Θ_ok [0, 1, 2] [(0, .slice none 0 0), (1, .int .i64 k), (17, .slice none 0 0), (19, .int .i64 ((0 : Nat) : Int))] rfl ⟨rfl, rfl, rfl, rfl, trivial⟩ ?_
      refine wo_cutN Θ_ok rfl rfl rfl rfl rfl rfl rfl rfl rfl rfl ?_
      refine wo_seg Θ_ok [4] [(0, .slice none 0 0), (20, .slice none 0 0), (21, .int .i64 k)] rfl ⟨rfl, rfl, rfl, trivial⟩ ?_
      refine wo_appzN Θ_ok rfl rfl rfl rfl rfl rfl rfl rfl rfl rfl rfl rfl rfl hk (by simp only; omega) rfl ?_
      generalize hC : grownCap w k 0 31 = C
      have hCge : k ≤ C := by rw [← hC]; exact grownCap_ge _ _ _ _
      have hCm : C ≤ maxLen := by rw [← hC]; exact grownCap_le_maxLen _ _ _ _ (by unfold maxLen; omega)
      obtain ⟨Z, hZ1, hZ2⟩ := row_parts (cs := []) k (C - k) (show ((Value.cells (.int .u64 0)).size) = 1 from rfl)
      rw [show k + (C - k) = C by omega] at hZ2
      generalize ([] : List Value).toArray ++ Builtin.zeroCells _ k ++ Builtin.zeroCells _ (C - k) = row at *
      have hrsz : row.size = C * 1 := by rw [← Array.length_toList, hZ1]; simpa using hZ2
      have hn1 := new_alloc (O := O) (w := w.drew) hO 31 row.toList
      simp only [Array.toArray_toList] at hn1
      generalize w.drew.alloc (.cells row 31) = w1 at *
      have hG1 : w1.heap[w.heap.size]? = some (.cells row 31 (0, 0)) := by have := hn1.blk; unfold Blk at this; simpa using this
      have hf1 : Fr [] w w1 := (Fr.drew [] w).trans hn1.fr
      refine wo_seg Θ_ok [6, 7] [(22, .slice (some ⟨w.heap.size, 0, none⟩) k C), (24, .int .i64 ((0 : Nat) : Int))] rfl ⟨rfl, rfl, trivial⟩ ?_
      refine wo_cuthi (hi := 0) Θ_ok rfl rfl rfl rfl rfl rfl rfl rfl rfl rfl hCge (by omega) ?_
      refine wo_seg Θ_ok [9] [(0, .slice (some ⟨w.heap.size, 0, none⟩) 0 C)] rfl ⟨rfl, trivial⟩ ?_
      refine wo_nil ?_
      refine wq_seq ?_
      refine wc_seq ?_
      refine wc_region (l := [0, 1]) rfl ?_
      refine wo_seg Θ_ok [0, 1] [(4, .slice (some ⟨w.heap.size, 0, none⟩) 0 C)] rfl ⟨rfl, trivial⟩ ?_
      refine wo_nil ?_
      refine wq_seq ?_
      refine wc_ret ?_
      exact wq_ret rfl ⟨_, w.heap.size :: O, rfl, grew' (zs := []) (cs := []) hO (Nat.le_refl _) hB hf1 hG1 hrsz hCm (Nat.zero_le _) rfl (by simp)⟩
    · refine wc_known_false rfl (decide_eq_false (by omega)) ?_
      refine wc_skip ?_
      refine wq_seq ?_
      refine wc_seq ?_
      refine wc_region (l := [0, 1]) rfl ?_
      refine wo_seg Θ_ok [0, 1] [(4, .slice none 0 0)] rfl ⟨rfl, trivial⟩ ?_
      refine wo_nil ?_
      refine wq_seq ?_
      refine wc_ret ?_
      exact wq_ret rfl (fresh_own (Own.nil_ : Go.Dc.Own (Ty.int .u64) 31 w.heap.size O w _ _) (Sub.refl _) (Fr.refl _ _) hO hB)
  · cases h

set_option maxRecDepth 100000 in
set_option maxHeartbeats 4000000 in
theorem s_Concat_f {O : List Nat} {w : World} (hO : OB O w) {B : Nat} (hB : B ≤ w.heap.size) {v0 : Value} {x0 : List (List Int)} (h0 : (Ty.slice (Ty.slice (Ty.int .u64))).is O w v0 x0) {r : List Int} (h : s_Concat x0 = some r) : Calls Try.prog 35 #[v0] w (GivesOwn (Ty.int .u64) 31 B O w (.slice none 0 0) r) := by
  have hF := Fr.refl [] w
  have hO0 := hO
  have hS := Sub.refl O
  refine calls_of (args := [v0]) (N := 36) Try.func35 rfl rfl rfl ?_
  unfold s_Concat at h
  refine wc_seq ?_
  refine wc_region (l := [0]) rfl ?_
  refine wo_seg Θ_ok [0] [(0, v0)] rfl ⟨rfl, trivial⟩ ?_
  refine wo_nil ?_
  refine wq_seq ?_
  refine wc_seq ?_
  refine wc_region (l := [0]) rfl ?_
  refine wo_seg Θ_ok [0] [(0, v0), (3, (.int .i64 0))] rfl ⟨rfl, rfl, trivial⟩ ?_
  refine wo_nil ?_
  refine wq_seq ?_
  obtain ⟨k3, hk4, h⟩ := letk_some h
  refine wc_join (fun E W => ∃ (O8 : List Nat) (p7 : Int), E = [(0, v0), (3, (.int .i64 p7))] ∧ Tr O w O8 W ∧ OB O8 W ∧ Sub O O8 ∧ Fr [] w W ∧ k3 p7 = some r) ?_ (fun K5 hK6 => ?_)
  rotate_left
  · clear hk4
    have T2 := Tr.refl O w
    refine wc_seq ?_
    refine wc_region (l := [0, 1, 2]) rfl ?_
    refine wo_seg Θ_ok [0] [(0, v0), (3, (.int .i64 0)), (9, v0)] rfl ⟨rfl, rfl, rfl, trivial⟩ ?_
    obtain ⟨A55, c56, rfl, hlc56, hmc56⟩ := slice_form h0
    refine wo_seg Θ_ok [1] [(0, (.slice A55 x0.length c56)), (3, (.int .i64 0)), (9, (.slice A55 x0.length c56)), (10, (.int .i64 (x0.length : Int)))] rfl ⟨rfl, rfl, rfl, rfl, trivial⟩ ?_
    refine wo_seg Θ_ok [2] [(0, (.slice A55 x0.length c56)), (3, (.int .i64 0)), (9, (.slice A55 x0.length c56)), (10, (.int .i64 (x0.length : Int))), (11, (.int .i64 0))] rfl ⟨rfl, rfl, rfl, rfl, rfl, trivial⟩ ?_
    refine wo_nil ?_
    refine wq_seq ?_
    refine wc_block ?_
    refine wc_loop (fun m E W => ∃ (rest60 : List (List Int)) (i59 : Nat) (O63 : List Nat) (p58 : Int), rest60.length = m ∧ x0.drop i59 = rest60 ∧ E = [(0, (.slice A55 x0.length c56)), (3, (.int .i64 p58)), (9, (.slice A55 x0.length c56)), (10, (.int .i64 (x0.length : Int))), (11, (.int .i64 (i59 : Int)))] ∧ Tr O w O63 W ∧ OB O63 W ∧ Sub O O63 ∧ Fr [] w W ∧ s_Concat_l2 k3 rest60 i59 p58 = some r) _ [(0, (.slice A55 x0.length c56)), (3, (.int .i64 0)), (9, (.slice A55 x0.length c56)), (10, (.int .i64 (x0.length : Int))), (11, (.int .i64 ((0 : Nat) : Int)))] ⟨rfl, rfl, rfl, rfl, rfl, trivial⟩ ⟨x0, 0, O, (0 : Int), rfl, rfl, rfl, Tr.refl _ _, hO, hS, hF, h⟩ ?_
    rintro m E w64 ⟨rest60, i59, O63, p58, rfl, hd62, rfl, T57, hO, hS, hF, h⟩
    have T2 := T2.trans T57
    have h0 := h0.tr T57
    rcases rest60 with _ | ⟨z61, rest60⟩
    · rw [s_Concat_l2] at h
      have hl68 := drop_nil hd62
      have hc65 : (decide ((i59 : Int) < (x0.length : Int))) = false := decide_eq_false (by omega)
      refine wc_seq ?_
      refine wc_region (l := [0]) rfl ?_
      refine wo_seg Θ_ok [0] [(0, (.slice A55 x0.length c56)), (3, (.int .i64 p58)), (9, (.slice A55 x0.length c56)), (10, (.int .i64 (x0.length : Int))), (11, (.int .i64 (i59 : Int))), (12, (.bool (decide ((i59 : Int) < (x0.length : Int)))))] rfl ⟨rfl, rfl, rfl, rfl, rfl, rfl, trivial⟩ ?_
      refine wo_nil ?_
      refine wq_seq ?_
      refine wc_seq ?_
      refine wc_known_false rfl hc65 ?_
      refine wc_exit ?_
      exact wq_then_exit (wq_then_exit (wq_block_exit (wq_join hK6 [(0, (.slice A55 x0.length c56)), (3, (.int .i64 p58))] ⟨rfl, rfl, trivial⟩ ⟨O63, p58, rfl, T2, hO, hS, hF, h⟩)))
    rw [s_Concat_l2] at h
    obtain ⟨hl69, hg67, hd62⟩ := drop_cons hd62
    have hc66 : (decide ((i59 : Int) < (x0.length : Int))) = true := decide_eq_true (by omega)
    refine wc_seq ?_
    refine wc_region (l := [0]) rfl ?_
    refine wo_seg Θ_ok [0] [(0, (.slice A55 x0.length c56)), (3, (.int .i64 p58)), (9, (.slice A55 x0.length c56)), (10, (.int .i64 (x0.length : Int))), (11, (.int .i64 (i59 : Int))), (12, (.bool (decide ((i59 : Int) < (x0.length : Int)))))] rfl ⟨rfl, rfl, rfl, rfl, rfl, rfl, trivial⟩ ?_
    refine wo_nil ?_
    refine wq_seq ?_
    refine wc_seq ?_
    refine wc_known_true rfl hc66 ?_
    refine wc_skip ?_
    refine wq_seq ?_
    refine wc_seq ?_
    refine wc_block ?_
    refine wc_seq ?_
    refine wc_region (l := [0, 1, 2]) rfl ?_
    refine wo_index Θ_ok rfl rfl rfl rfl rfl rfl rfl rfl rfl rfl h0 rfl (by omega) hg67 (fun p70 h71 => ?_)
    refine wo_loadp Θ_ok rfl rfl rfl rfl rfl rfl rfl h71 rfl rfl (fun v72 h73 => ?_)
    refine wo_seg Θ_ok [2] [(0, (.slice A55 x0.length c56)), (3, (.int .i64 p58)), (5, v72), (9, (.slice A55 x0.length c56)), (10, (.int .i64 (x0.length : Int))), (11, (.int .i64 (i59 : Int)))] rfl ⟨rfl, rfl, rfl, rfl, rfl, rfl, trivial⟩ ?_
    refine wo_nil ?_
    refine wq_seq ?_
    refine wc_seq ?_
    refine wc_region (l := [0, 1, 2, 3, 4]) rfl ?_
    refine wo_seg Θ_ok [0, 1] [(0, (.slice A55 x0.length c56)), (9, (.slice A55 x0.length c56)), (10, (.int .i64 (x0.length : Int))), (11, (.int .i64 (i59 : Int))), (15, (.int .i64 p58)), (16, v72)] rfl ⟨rfl, rfl, rfl, rfl, rfl, rfl, trivial⟩ ?_
    obtain ⟨A74, c75, rfl, hlc75, hmc75⟩ := slice_form h73
    refine wo_seg Θ_ok [2] [(0, (.slice A55 x0.length c56)), (9, (.slice A55 x0.length c56)), (10, (.int .i64 (x0.length : Int))), (11, (.int .i64 (i59 : Int))), (15, (.int .i64 p58)), (17, (.int .i64 (z61.length : Int)))] rfl ⟨rfl, rfl, rfl, rfl, rfl, rfl, trivial⟩ ?_
    refine wo_seg Θ_ok [3, 4] [(0, (.slice A55 x0.length c56)), (3, (.int .i64 (IntKind.i64.wrap (p58 + (z61.length : Int))))), (9, (.slice A55 x0.length c56)), (10, (.int .i64 (x0.length : Int))), (11, (.int .i64 (i59 : Int)))] rfl ⟨rfl, rfl, rfl, rfl, rfl, trivial⟩ ?_
    refine wo_nil ?_
    refine wq_seq ?_
    refine wc_seq ?_
    refine wc_region (l := [0, 1]) rfl ?_
    refine wo_seg Θ_ok [0, 1] [(0, (.slice A55 x0.length c56)), (3, (.int .i64 (IntKind.i64.wrap (p58 + (z61.length : Int))))), (9, (.slice A55 x0.length c56)), (10, (.int .i64 (x0.length : Int))), (11, (.int .i64 (i59 : Int))), (20, (.bool (decide ((IntKind.i64.wrap (p58 + (z61.length : Int))) < (0 : Int)))))] rfl ⟨rfl, rfl, rfl, rfl, rfl, rfl, trivial⟩ ?_
    refine wo_nil ?_
    refine wq_seq ?_
    rcases bif_some h with ⟨hc76, h⟩ | ⟨hc76, h⟩
    · refine wc_known_true rfl hc76 ?_
      cases h
    refine wc_known_false rfl hc76 ?_
    refine wc_skip ?_
    refine wq_block (wq_seq ?_)
    refine wc_region (l := [0, 1]) rfl ?_
    refine wo_seg Θ_ok [0, 1] [(0, (.slice A55 x0.length c56)), (3, (.int .i64 (IntKind.i64.wrap (p58 + (z61.length : Int))))), (9, (.slice A55 x0.length c56)), (10, (.int .i64 (x0.length : Int))), (11, (.int .i64 (IntKind.i64.wrap ((i59 : Int) + (1 : Int)))))] rfl ⟨rfl, rfl, rfl, rfl, rfl, trivial⟩ ?_
    refine wo_nil ?_
    exact wq_next rest60.length [(0, (.slice A55 x0.length c56)), (3, (.int .i64 (IntKind.i64.wrap (p58 + (z61.length : Int))))), (9, (.slice A55 x0.length c56)), (10, (.int .i64 (x0.length : Int))), (11, (.int .i64 ((i59 + 1 : Nat) : Int)))] (Nat.lt_succ_self _) ⟨rfl, rfl, rfl, rfl, congrArg (fun z => some (Value.int .i64 z)) (wrap_succ hl69 (Nat.le_trans hlc56 hmc56)), trivial⟩ ⟨rest60, i59 + 1, O63, (IntKind.i64.wrap (p58 + (z61.length : Int))), rfl, hd62, rfl, T57, hO, hS, hF, h⟩
  rintro E w9 ⟨O8, p7, rfl, T2, hO, hS, hF, h⟩
  have h0 := h0.tr T2
  subst hk4
  (try dsimp only at h)
  refine wc_seq ?_
  refine wc_region (l := [0, 1, 2]) rfl ?_
  refine wo_seg Θ_ok [0] [(0, v0), (23, (.int .i64 p7))] rfl ⟨rfl, rfl, trivial⟩ ?_
  obtain ⟨z10, hz11, h⟩ := bind_some h
  refine wo_ownc rfl rfl rfl rfl rfl ent46 rfl (s_Grow_f hO hF.size (int_is.2 rfl) hz11) (fun v12 w13 O14 ap15 => ?_)
  have h0 := h0.tr ap15.tr
  have hF := ap15.fr0 (Go.Dc.Own.nil_ : Go.Dc.Own (Ty.int .u64) 31 w.heap.size _ _ _ _) hF
  have hS := Sub.trans hS ap15.sub
  have hO := ap15.ob
  have h16 := ap15.own
  refine wo_seg Θ_ok [2] [(0, v0), (6, v12)] rfl ⟨rfl, rfl, trivial⟩ ?_
  refine wo_nil ?_
  refine wq_seq ?_
  obtain ⟨k18, hk19, h⟩ := letk_some h
  refine wc_join (fun E W => ∃ (O25 : List Nat) (p22 : List Int) (v23 : Value), E = [(6, v23)] ∧ Tr O14 w13 O25 W ∧ OB O25 W ∧ Sub O O25 ∧ Fr [] w W ∧ Go.Dc.Own (Ty.int .u64) 31 w.heap.size O25 W v23 p22 ∧ k18 p22 = some r) ?_ (fun K20 hK21 => ?_)
  · rintro E w26 ⟨O25, p22, v23, rfl, T17, hO, hS, hF, h24, h⟩
    subst hk19
    (try dsimp only at h)
    refine wc_seq ?_
    refine wc_region (l := [0, 1]) rfl ?_
    refine wo_seg Θ_ok [0, 1] [(2, v23)] rfl ⟨rfl, trivial⟩ ?_
    refine wo_nil ?_
    refine wq_seq ?_
    refine wc_ret ?_
    cases h
    exact wq_ret rfl (fresh_own h24 hS hF hO0 hB)
  clear hk19
  have T17 := Tr.refl O14 w13
  refine wc_seq ?_
  refine wc_region (l := [0, 1, 2]) rfl ?_
  refine wo_seg Θ_ok [0] [(6, v12), (25, v0)] rfl ⟨rfl, rfl, trivial⟩ ?_
  obtain ⟨A27, c28, rfl, hlc28, hmc28⟩ := slice_form h0
  refine wo_seg Θ_ok [1] [(6, v12), (25, (.slice A27 x0.length c28)), (26, (.int .i64 (x0.length : Int)))] rfl ⟨rfl, rfl, rfl, trivial⟩ ?_
  refine wo_seg Θ_ok [2] [(6, v12), (25, (.slice A27 x0.length c28)), (26, (.int .i64 (x0.length : Int))), (27, (.int .i64 0))] rfl ⟨rfl, rfl, rfl, rfl, trivial⟩ ?_
  refine wo_nil ?_
  refine wq_seq ?_
  refine wc_block ?_
  refine wc_loop (fun m E W => ∃ (rest34 : List (List Int)) (i33 : Nat) (O37 : List Nat) (p30 : List Int) (v31 : Value), rest34.length = m ∧ x0.drop i33 = rest34 ∧ E = [(6, v31), (25, (.slice A27 x0.length c28)), (26, (.int .i64 (x0.length : Int))), (27, (.int .i64 (i33 : Int)))] ∧ Tr O14 w13 O37 W ∧ OB O37 W ∧ Sub O O37 ∧ Fr [] w W ∧ Go.Dc.Own (Ty.int .u64) 31 w.heap.size O37 W v31 p30 ∧ s_Concat_l1 k18 rest34 i33 p30 = some r) _ [(6, v12), (25, (.slice A27 x0.length c28)), (26, (.int .i64 (x0.length : Int))), (27, (.int .i64 ((0 : Nat) : Int)))] ⟨rfl, rfl, rfl, rfl, trivial⟩ ⟨x0, 0, O14, z10, v12, rfl, rfl, rfl, Tr.refl _ _, hO, hS, hF, h16, h⟩ ?_
  rintro m E w38 ⟨rest34, i33, O37, p30, v31, rfl, hd36, rfl, T29, hO, hS, hF, h32, h⟩
  have T17 := T17.trans T29
  have h0 := h0.tr T29
  rcases rest34 with _ | ⟨z35, rest34⟩
  · rw [s_Concat_l1] at h
    have hl42 := drop_nil hd36
    have hc39 : (decide ((i33 : Int) < (x0.length : Int))) = false := decide_eq_false (by omega)
    refine wc_seq ?_
    refine wc_region (l := [0]) rfl ?_
    refine wo_seg Θ_ok [0] [(6, v31), (25, (.slice A27 x0.length c28)), (26, (.int .i64 (x0.length : Int))), (27, (.int .i64 (i33 : Int))), (28, (.bool (decide ((i33 : Int) < (x0.length : Int)))))] rfl ⟨rfl, rfl, rfl, rfl, rfl, trivial⟩ ?_
    refine wo_nil ?_
    refine wq_seq ?_
    refine wc_seq ?_
    refine wc_known_false rfl hc39 ?_
    refine wc_exit ?_
    exact wq_then_exit (wq_then_exit (wq_block_exit (wq_join hK21 [(6, v31)] ⟨rfl, trivial⟩ ⟨O37, p30, v31, rfl, T17, hO, hS, hF, h32, h⟩)))
  rw [s_Concat_l1] at h
  obtain ⟨hl43, hg41, hd36⟩ := drop_cons hd36
  have hc40 : (decide ((i33 : Int) < (x0.length : Int))) = true := decide_eq_true (by omega)
  refine wc_seq ?_
  refine wc_region (l := [0]) rfl ?_
  refine wo_seg Θ_ok [0] [(6, v31), (25, (.slice A27 x0.length c28)), (26, (.int .i64 (x0.length : Int))), (27, (.int .i64 (i33 : Int))), (28, (.bool (decide ((i33 : Int) < (x0.length : Int)))))] rfl ⟨rfl, rfl, rfl, rfl, rfl, trivial⟩ ?_
  refine wo_nil ?_
  refine wq_seq ?_
  refine wc_seq ?_
  refine wc_known_true rfl hc40 ?_
  refine wc_skip ?_
  refine wq_seq ?_
  refine wc_seq ?_
  refine wc_block ?_
  refine wc_seq ?_
  refine wc_region (l := [0, 1, 2]) rfl ?_
  refine wo_index Θ_ok rfl rfl rfl rfl rfl rfl rfl rfl rfl rfl h0 rfl (by omega) hg41 (fun p44 h45 => ?_)
  refine wo_loadp Θ_ok rfl rfl rfl rfl rfl rfl rfl h45 rfl rfl (fun v46 h47 => ?_)
  refine wo_seg Θ_ok [2] [(6, v31), (8, v46), (25, (.slice A27 x0.length c28)), (26, (.int .i64 (x0.length : Int))), (27, (.int .i64 (i33 : Int)))] rfl ⟨rfl, rfl, rfl, rfl, rfl, trivial⟩ ?_
  refine wo_nil ?_
  refine wq_seq ?_
  refine wc_region (l := [0, 1, 2, 3]) rfl ?_
  refine wo_seg Θ_ok [0, 1] [(25, (.slice A27 x0.length c28)), (26, (.int .i64 (x0.length : Int))), (27, (.int .i64 (i33 : Int))), (31, v31), (32, v46)] rfl ⟨rfl, rfl, rfl, rfl, rfl, trivial⟩ ?_
  obtain ⟨z48, hz49, h⟩ := bind_some h
  refine wo_app Θ_ok rfl rfl rfl rfl rfl rfl rfl rfl rfl rfl rfl rfl rfl rfl hF hO h32 h47 hz49 (fun v50 w51 O52 ap53 => ?_)
  have h0 := h0.tr ap53.tr
  have T17 := T17.trans ap53.tr
  have T29 := T29.trans ap53.tr
  have hF := ap53.fr0 h32 hF
  have hS := Sub.trans hS ap53.sub
  have hO := ap53.ob
  have h54 := ap53.own
  refine wo_seg Θ_ok [3] [(6, v50), (25, (.slice A27 x0.length c28)), (26, (.int .i64 (x0.length : Int))), (27, (.int .i64 (i33 : Int)))] rfl ⟨rfl, rfl, rfl, rfl, trivial⟩ ?_
  refine wo_nil ?_
  refine wq_block (wq_seq ?_)
  refine wc_region (l := [0, 1]) rfl ?_
  refine wo_seg Θ_ok [0, 1] [(6, v50), (25, (.slice A27 x0.length c28)), (26, (.int .i64 (x0.length : Int))), (27, (.int .i64 (IntKind.i64.wrap ((i33 : Int) + (1 : Int)))))] rfl ⟨rfl, rfl, rfl, rfl, trivial⟩ ?_
  refine wo_nil ?_
  exact wq_next rest34.length [(6, v50), (25, (.slice A27 x0.length c28)), (26, (.int .i64 (x0.length : Int))), (27, (.int .i64 ((i33 + 1 : Nat) : Int)))] (Nat.lt_succ_self _) ⟨rfl, rfl, rfl, congrArg (fun z => some (Value.int .i64 z)) (wrap_succ hl43 (Nat.le_trans hlc28 hmc28)), trivial⟩ ⟨rest34, i33 + 1, O52, z48, v50, rfl, hd36, rfl, T29, hO, hS, hF, h54, h⟩
theorem s_Concat_n {O : List Nat} {w : World} (hO : OB O w) {v0 : Value} {x0 : List (List Int)} (h0 : (Ty.slice (Ty.slice (Ty.int .u64))).is [] w v0 x0) {r : List Int} (h : s_Concat x0 = some r) : Calls Try.prog 35 #[v0] w (Gives (rt1 (Ty.slice (Ty.int .u64))) O w r) := (s_Concat_f (ob_nil w) (Nat.le_refl _) h0 h).mono fun _ _ hh => gives_flat (fun h => h) hO hh
theorem s_Concat_c {O : List Nat} {w : World} (hO : OB O w) {v0 : Value} {x0 : List (List Int)} (h0 : (Ty.slice (Ty.slice (Ty.int .u64))).is O w v0 x0) {r : List Int} (h : s_Concat x0 = some r) : Calls Try.prog 35 #[v0] w (Gives (rt1 (Ty.slice (Ty.int .u64))) O w r) := (s_Concat_f hO (Nat.le_refl _) h0 h).mono fun _ _ hh => gives_of_own hO hh
set_option maxRecDepth 100000 in
set_option maxHeartbeats 4000000 in
theorem b_copied_f {O : List Nat} {w : World} (hO : OB O w) {B : Nat} (hB : B ≤ w.heap.size) {v0 : Value} {x0 : List Int} (h0 : (Ty.slice (Ty.int .u64)).is O w v0 x0) {r : List Int} (h : b_copied x0 = some r) : Calls Try.prog 45 #[v0] w (GivesOwn (Ty.int .u64) 31 B O w (.slice none 0 0) r) := by
  have hF := Fr.refl [] w
  have hO0 := hO
  have hS := Sub.refl O
  refine calls_of (args := [v0]) (N := 11) Try.func45 rfl rfl rfl ?_
  unfold b_copied at h
  refine wc_seq ?_
  refine wc_region (l := [0]) rfl ?_
  refine wo_seg Θ_ok [0] [(0, v0)] rfl ⟨rfl, trivial⟩ ?_
  refine wo_nil ?_
  refine wq_seq ?_
  refine wc_seq ?_
  refine wc_region (l := [0, 1, 2, 3]) rfl ?_
  refine wo_seg Θ_ok [0] [(0, v0), (4, v0)] rfl ⟨rfl, rfl, trivial⟩ ?_
  obtain ⟨A2, c3, rfl, hlc3, hmc3⟩ := slice_form h0
  refine wo_seg Θ_ok [1] [(0, (.slice A2 x0.length c3)), (5, (.int .i64 (x0.length : Int)))] rfl ⟨rfl, rfl, trivial⟩ ?_
  obtain ⟨z4, hz5, h⟩ := bind_some h
  refine wo_make Θ_ok rfl rfl rfl rfl rfl rfl rfl rfl rfl rfl (T := (Ty.int .u64)) (z := (0 : Int)) rfl rfl (rep_of rfl (int_is.2 rfl)) hO hF.size hz5 (fun b6 w7 v8 n9 h10 hv11 => ?_)
  obtain ⟨_, n9⟩ := n9
  have h0 := h0.tr n9.tr
  have hO := n9.ob
  have hF := hF.trans n9.fr
  have hS := Sub.cons hS b6
  refine wo_seg Θ_ok [3] [(0, (.slice A2 x0.length c3)), (3, v8)] rfl ⟨rfl, rfl, trivial⟩ ?_
  refine wo_nil ?_
  refine wq_seq ?_
  refine wc_seq ?_
  refine wc_region (l := [0, 1, 2]) rfl ?_
  refine wo_seg Θ_ok [0, 1] [(3, v8), (7, v8), (8, (.slice A2 x0.length c3))] rfl ⟨rfl, rfl, rfl, trivial⟩ ?_
  refine wo_copy Θ_ok rfl rfl rfl rfl rfl rfl rfl rfl rfl rfl rfl hO h10 h0 (fun w12 ap13 => ?_)
  have hF := ap13.fr0 h10 hF
  have hS := Sub.trans hS ap13.sub
  have hO := ap13.ob
  have h14 := ap13.own
  refine wo_nil ?_
  refine wq_seq ?_
  refine wc_seq ?_
  refine wc_region (l := [0, 1]) rfl ?_
  refine wo_seg Θ_ok [0, 1] [(2, v8)] rfl ⟨rfl, trivial⟩ ?_
  refine wo_nil ?_
  refine wq_seq ?_
  refine wc_ret ?_
  cases h
  exact wq_ret rfl (fresh_own h14 hS hF hO0 hB)
theorem b_copied_n {O : List Nat} {w : World} (hO : OB O w) {v0 : Value} {x0 : List Int} (h0 : (Ty.slice (Ty.int .u64)).is [] w v0 x0) {r : List Int} (h : b_copied x0 = some r) : Calls Try.prog 45 #[v0] w (Gives (rt1 (Ty.slice (Ty.int .u64))) O w r) := (b_copied_f (ob_nil w) (Nat.le_refl _) h0 h).mono fun _ _ hh => gives_flat (fun h => h) hO hh
theorem b_copied_c {O : List Nat} {w : World} (hO : OB O w) {v0 : Value} {x0 : List Int} (h0 : (Ty.slice (Ty.int .u64)).is O w v0 x0) {r : List Int} (h : b_copied x0 = some r) : Calls Try.prog 45 #[v0] w (Gives (rt1 (Ty.slice (Ty.int .u64))) O w r) := (b_copied_f hO (Nat.le_refl _) h0 h).mono fun _ _ hh => gives_of_own hO hh
set_option maxRecDepth 100000 in
set_option maxHeartbeats 4000000 in
theorem s_IndexFunc_c {O : List Nat} {w : World} (hO : OB O w) {v0 : Value} {x0 : List Int} (h0 : (Ty.slice (Ty.int .u64)).is O w v0 x0) {v1 : Value} {x1 : Int → Option (Bool)} (h1 : (Ty.fn1 Try.prog (Ty.int .u64) (rt1 Ty.bool)).is O w v1 x1) {r : Int} (h : s_IndexFunc x0 x1 = some r) : Calls Try.prog 55 #[v0, v1] w (Gives (rt1 (Ty.int .i64)) O w r) := by
  have hF := Fr.refl [] w
  have hO0 := hO
  have hS := Sub.refl O
  refine calls_of (args := [v0, v1]) (N := 19) Try.func55 rfl rfl rfl ?_
  unfold s_IndexFunc at h
  refine wc_seq ?_
  refine wc_region (l := [0]) rfl ?_
  refine wo_seg Θ_ok [0] [(0, v0), (1, v1)] rfl ⟨rfl, rfl, trivial⟩ ?_
  refine wo_nil ?_
  refine wq_seq ?_
  obtain ⟨k4, hk5, h⟩ := letk_some h
  refine wc_join (fun E W => ∃ (O8 : List Nat), E = [] ∧ Tr O w O8 W ∧ OB O8 W ∧ Sub O O8 ∧ Fr [] w W ∧ k4 = some r) ?_ (fun K6 hK7 => ?_)
  · rintro E w9 ⟨O8, rfl, T3, hO, hS, hF, h⟩
    subst hk5
    (try dsimp only at h)
    refine wc_seq ?_
    refine wc_region (l := [0]) rfl ?_
    refine wo_seg Θ_ok [0] [(4, (.int .i64 (-1)))] rfl ⟨rfl, trivial⟩ ?_
    refine wo_nil ?_
    refine wq_seq ?_
    refine wc_ret ?_
    cases h
    exact wq_ret rfl ⟨_, rfl, (int_is.2 rfl), hF⟩
  clear hk5
  have T3 := Tr.refl O w
  refine wc_seq ?_
  refine wc_region (l := [0, 1, 2]) rfl ?_
  refine wo_seg Θ_ok [0] [(0, v0), (1, v1), (6, v0)] rfl ⟨rfl, rfl, rfl, trivial⟩ ?_
  obtain ⟨A10, c11, rfl, hlc11, hmc11⟩ := slice_form h0
  refine wo_seg Θ_ok [1] [(0, (.slice A10 x0.length c11)), (1, v1), (7, (.int .i64 (x0.length : Int)))] rfl ⟨rfl, rfl, rfl, trivial⟩ ?_
  refine wo_seg Θ_ok [2] [(0, (.slice A10 x0.length c11)), (1, v1), (7, (.int .i64 (x0.length : Int))), (8, (.int .i64 0))] rfl ⟨rfl, rfl, rfl, rfl, trivial⟩ ?_
  refine wo_nil ?_
  refine wq_seq ?_
  refine wc_block ?_
  refine wc_loop (fun m E W => ∃ (rest14 : List Int) (i13 : Nat) (O17 : List Nat), rest14.length = m ∧ x0.drop i13 = rest14 ∧ E = [(0, (.slice A10 x0.length c11)), (1, v1), (7, (.int .i64 (x0.length : Int))), (8, (.int .i64 (i13 : Int)))] ∧ Tr O w O17 W ∧ OB O17 W ∧ Sub O O17 ∧ Fr [] w W ∧ s_IndexFunc_l1 x1 k4 rest14 i13 = some r) _ [(0, (.slice A10 x0.length c11)), (1, v1), (7, (.int .i64 (x0.length : Int))), (8, (.int .i64 ((0 : Nat) : Int)))] ⟨rfl, rfl, rfl, rfl, trivial⟩ ⟨x0, 0, O, rfl, rfl, rfl, Tr.refl _ _, hO, hS, hF, h⟩ ?_
  rintro m E w18 ⟨rest14, i13, O17, rfl, hd16, rfl, T12, hO, hS, hF, h⟩
  have T3 := T3.trans T12
  have h0 := h0.tr T12
  have h1 := h1.tr T12
  rcases rest14 with _ | ⟨z15, rest14⟩
  · rw [s_IndexFunc_l1] at h
    have hl22 := drop_nil hd16
    have hc19 : (decide ((i13 : Int) < (x0.length : Int))) = false := decide_eq_false (by omega)
    refine wc_seq ?_
    refine wc_region (l := [0]) rfl ?_
    refine wo_seg Θ_ok [0] [(0, (.slice A10 x0.length c11)), (1, v1), (7, (.int .i64 (x0.length : Int))), (8, (.int .i64 (i13 : Int))), (9, (.bool (decide ((i13 : Int) < (x0.length : Int)))))] rfl ⟨rfl, rfl, rfl, rfl, rfl, trivial⟩ ?_
    refine wo_nil ?_
    refine wq_seq ?_
    refine wc_seq ?_
    refine wc_known_false rfl hc19 ?_
    refine wc_exit ?_
    exact wq_then_exit (wq_then_exit (wq_block_exit (wq_join hK7 [] trivial ⟨O17, rfl, T3, hO, hS, hF, h⟩)))
  rw [s_IndexFunc_l1] at h
  obtain ⟨hl23, hg21, hd16⟩ := drop_cons hd16
  have hc20 : (decide ((i13 : Int) < (x0.length : Int))) = true := decide_eq_true (by omega)
  refine wc_seq ?_
  refine wc_region (l := [0]) rfl ?_
  refine wo_seg Θ_ok [0] [(0, (.slice A10 x0.length c11)), (1, v1), (7, (.int .i64 (x0.length : Int))), (8, (.int .i64 (i13 : Int))), (9, (.bool (decide ((i13 : Int) < (x0.length : Int)))))] rfl ⟨rfl, rfl, rfl, rfl, rfl, trivial⟩ ?_
  refine wo_nil ?_
  refine wq_seq ?_
  refine wc_seq ?_
  refine wc_known_true rfl hc20 ?_
  refine wc_skip ?_
  refine wq_seq ?_
  refine wc_seq ?_
  refine wc_block ?_
  refine wc_seq ?_
  refine wc_region (l := [0, 1]) rfl ?_
  refine wo_seg Θ_ok [0, 1] [(0, (.slice A10 x0.length c11)), (1, v1), (5, (.int .i64 (i13 : Int))), (7, (.int .i64 (x0.length : Int))), (8, (.int .i64 (i13 : Int)))] rfl ⟨rfl, rfl, rfl, rfl, rfl, trivial⟩ ?_
  refine wo_nil ?_
  refine wq_seq ?_
  refine wc_seq ?_
  refine wc_region (l := [0, 1, 2, 3, 4, 5]) rfl ?_
  refine wo_seg Θ_ok [0, 1, 2] [(0, (.slice A10 x0.length c11)), (1, v1), (5, (.int .i64 (i13 : Int))), (7, (.int .i64 (x0.length : Int))), (8, (.int .i64 (i13 : Int))), (11, v1), (12, (.slice A10 x0.length c11)), (13, (.int .i64 (i13 : Int)))] rfl ⟨rfl, rfl, rfl, rfl, rfl, rfl, rfl, rfl, trivial⟩ ?_
  refine wo_index Θ_ok rfl rfl rfl rfl rfl rfl rfl rfl rfl rfl h0 rfl (by omega) hg21 (fun p24 h25 => ?_)
  refine wo_loadp Θ_ok rfl rfl rfl rfl rfl rfl rfl h25 rfl rfl (fun v26 h27 => ?_)
  obtain rfl := int_is.1 h27
  obtain ⟨y28, hy29, h⟩ := bind_some h
  refine wo_dyn1 rfl rfl rfl rfl rfl rfl rfl h1 hO (int_is.2 rfl) hy29 (fun v30 w31 h32 f33 => ?_)
  have h0 := h0.tr f33.tr0
  have h1 := h1.tr f33.tr0
  have T3 := T3.trans f33.tr0
  have T12 := T12.trans f33.tr0
  have hO := f33.ob hO
  have hF := hF.trans f33
  obtain rfl := bool_is.1 h32
  refine wo_nil ?_
  refine wq_seq ?_
  rcases bif_some h with ⟨hc34, h⟩ | ⟨hc34, h⟩
  rotate_left
  · refine wc_known_false rfl hc34 ?_
    refine wc_skip ?_
    refine wq_block (wq_seq ?_)
    refine wc_region (l := [0, 1]) rfl ?_
    refine wo_seg Θ_ok [0, 1] [(0, (.slice A10 x0.length c11)), (1, v1), (7, (.int .i64 (x0.length : Int))), (8, (.int .i64 (IntKind.i64.wrap ((i13 : Int) + (1 : Int)))))] rfl ⟨rfl, rfl, rfl, rfl, trivial⟩ ?_
    refine wo_nil ?_
    exact wq_next rest14.length [(0, (.slice A10 x0.length c11)), (1, v1), (7, (.int .i64 (x0.length : Int))), (8, (.int .i64 ((i13 + 1 : Nat) : Int)))] (Nat.lt_succ_self _) ⟨rfl, rfl, rfl, congrArg (fun z => some (Value.int .i64 z)) (wrap_succ hl23 (Nat.le_trans hlc11 hmc11)), trivial⟩ ⟨rest14, i13 + 1, O17, rfl, hd16, rfl, T12, hO, hS, hF, h⟩
  refine wc_known_true rfl hc34 ?_
  refine wc_seq ?_
  refine wc_region (l := [0, 1]) rfl ?_
  refine wo_seg Θ_ok [0, 1] [(4, (.int .i64 (i13 : Int)))] rfl ⟨rfl, trivial⟩ ?_
  refine wo_nil ?_
  refine wq_seq ?_
  refine wc_ret ?_
  cases h
  exact wq_block_ret (wq_then_ret (wq_then_ret (wq_block_ret (wq_then_ret (wq_ret rfl ⟨_, rfl, (int_is.2 rfl), hF⟩)))))
set_option maxRecDepth 100000 in
set_option maxHeartbeats 4000000 in
theorem b_seam1_c {O : List Nat} {w : World} (hO : OB O w) {v0 : Value} {x0 : Int} (h0 : (Ty.int .u64).is O w v0 x0) {cv0 : Value} {ck0 : Int} (ch0 : (Ty.ptr (Ty.int .i64)).is O w cv0 ck0) {r : Bool} (h : b_seam1 x0 ck0 = some r) : Calls Try.prog 54 #[v0, cv0] w (Gives (rt1 Ty.bool) O w r) := by
  obtain rfl := int_is.1 h0
  have hF := Fr.refl [] w
  have hO0 := hO
  have hS := Sub.refl O
  refine calls_of (args := [(.int .u64 x0), cv0]) (N := 10) Try.func54 rfl rfl rfl ?_
  unfold b_seam1 at h
  refine wc_seq ?_
  refine wc_region (l := [0]) rfl ?_
  refine wo_seg Θ_ok [0] [(0, (.int .u64 x0)), (1, cv0)] rfl ⟨rfl, rfl, trivial⟩ ?_
  refine wo_nil ?_
  refine wq_seq ?_
  refine wc_seq ?_
  obtain ⟨y2, hz3, h⟩ := bind_some h
  refine wc_draw mixed [⟨4, [], [0]⟩, ⟨5, [0], []⟩, ⟨6, [], [1]⟩, ⟨7, [1, 2], []⟩, ⟨8, [3], []⟩, ⟨9, [4], []⟩, ⟨3, [5], []⟩] [SP.eq (.int .u64 x0), SP.eq (.int .u64 (b_Hash x0)), SP.eq (.int .i64 ck0), SP.eq (.int .u64 y2), SP.eq (.int .u64 (y2.fdiv (2 ^ 63))), SP.eq (.bool ((y2.fdiv (2 ^ 63)) == (1 : Int))), SP.eq (.bool ((y2.fdiv (2 ^ 63)) == (1 : Int)))] rfl rfl rfl ⟨?_, ?_, ?_, ?_, ?_, ?_, ?_, trivial⟩ ?_
  · intro a w2 hfr hN hds hb hd
    exact op_plain Θ_ok ⟨hN, hds, rows_get (E := [(0, (.int .u64 x0))]) ⟨hb 0 rfl _ rfl, trivial⟩⟩ rfl rfl rfl rfl rfl
  · intro a w2 hfr hN hds hb hd
    exact (op_call ⟨hN, hds, rows_get (E := [(4, (.int .u64 x0))]) ⟨(hd 0 rfl _ _ rfl rfl), trivial⟩⟩ rfl rfl rfl rfl ent14 rfl (b_Hash_c (hfr.ob hO) (int_is.2 rfl))).weaken (fun u w3 ⟨hu, hf⟩ => ⟨int_is.1 hu, hf⟩)
  · intro a w2 hfr hN hds hb hd
    have ch0 := ch0.tr hfr.tr0
    exact (op_loadp Θ_ok ⟨hN, hds, rows_get (E := [(1, cv0)]) ⟨hb 1 rfl _ rfl, trivial⟩⟩ rfl rfl rfl rfl rfl rfl ch0 rfl rfl).weaken (fun u w3 ⟨hu, hf⟩ => ⟨int_is.1 hu, hf⟩)
  · intro a w2 hfr hN hds hb hd
    exact op_bin ⟨hN, hds, rows_get (E := [(5, (.int .u64 (b_Hash x0))), (6, (.int .i64 ck0))]) ⟨(hd 1 rfl _ _ rfl rfl), (hd 2 rfl _ _ rfl rfl), trivial⟩⟩ rfl rfl rfl rfl rfl rfl (run_shl hz3)
  · intro a w2 hfr hN hds hb hd
    exact op_plain Θ_ok ⟨hN, hds, rows_get (E := [(7, (.int .u64 y2))]) ⟨(hd 3 rfl _ _ rfl rfl), trivial⟩⟩ rfl rfl rfl rfl rfl
  · intro a w2 hfr hN hds hb hd
    exact op_plain Θ_ok ⟨hN, hds, rows_get (E := [(8, (.int .u64 (y2.fdiv (2 ^ 63))))]) ⟨(hd 4 rfl _ _ rfl rfl), trivial⟩⟩ rfl rfl rfl rfl rfl
  · intro a w2 hfr hN hds hb hd
    exact op_plain Θ_ok ⟨hN, hds, rows_get (E := [(9, (.bool ((y2.fdiv (2 ^ 63)) == (1 : Int))))]) ⟨(hd 5 rfl _ _ rfl rfl), trivial⟩⟩ rfl rfl rfl rfl rfl
  intro a w5 f4 hN hds hb hr
  have hO := f4.ob hO
  have hF := hF.trans f4
  refine wq_go (E := [(3, (.bool ((y2.fdiv (2 ^ 63)) == (1 : Int))))]) hN hds ⟨(hr 6 _ _ rfl rfl), trivial⟩ ?_
  refine wq_seq ?_
  refine wc_ret ?_
  cases h
  exact wq_ret rfl ⟨_, rfl, (bool_is.2 rfl), hF⟩
set_option maxRecDepth 100000 in
set_option maxHeartbeats 4000000 in
theorem b_seam_c {O : List Nat} {w : World} (hO : OB O w) {v0 : Value} {x0 : List Int} (h0 : (Ty.slice (Ty.int .u64)).is O w v0 x0) {v1 : Value} {x1 : Int} (h1 : (Ty.int .i64).is O w v1 x1) {r : Int} (h : b_seam x0 x1 = some r) : Calls Try.prog 44 #[v0, v1] w (Gives (rt1 (Ty.int .i64)) O w r) := by
  obtain rfl := int_is.1 h1
  have hF := Fr.refl [] w
  have hO0 := hO
  have hS := Sub.refl O
  refine calls_of (args := [v0, (.int .i64 x1)]) (N := 16) Try.func44 rfl rfl rfl ?_
  unfold b_seam at h
  refine wc_seq ?_
  refine wc_region (l := [0, 1]) rfl ?_
  refine wo_box rfl rfl rfl rfl rfl rfl [(.int .i64 x1)] rfl hO (fun b3 w4 n5 => ?_)
  have h0 := h0.tr n5.tr
  have hb3 := n5.blk
  have gb3 := n5.ge0 hF
  have ib3 : b3 ∈ b3 :: O := List.mem_cons_self
  have hO := n5.ob
  have hF := hF.trans n5.fr
  have hS := Sub.cons hS b3
  refine wo_seg Θ_ok [1] [(0, v0), (3, (.pointer (some ⟨b3, 0, none⟩)))] rfl ⟨rfl, rfl, trivial⟩ ?_
  refine wo_nil ?_
  refine wq_seq ?_
  refine wc_seq ?_
  refine wc_region (l := [0, 1]) rfl ?_
  have p6 := rel_ptr (T := (Ty.int .i64)) hb3 (Ty.tr _ (rel_tr b3 (b3 :: O) w4) (rep_of rfl (int_is.2 rfl)))
  have h0 := h0.tr (rel_tr b3 (b3 :: O) w4)
  have hO := rel_ob (b := b3) hO
  have hS := rel_sub hS hO0 gb3
  refine wo_seg Θ_ok [0, 1] [(0, v0), (5, (.func (.func 54) #[] #[(.pointer (some ⟨b3, 0, none⟩))]))] rfl ⟨rfl, rfl, trivial⟩ ?_
  refine wo_nil ?_
  refine wq_seq ?_
  refine wc_seq ?_
  refine wc_seq ?_
  refine wc_region (l := [0, 1, 2, 3]) rfl ?_
  refine wo_seg Θ_ok [0, 1] [(0, v0), (8, v0), (9, (.func (.func 54) #[] #[(.pointer (some ⟨b3, 0, none⟩))]))] rfl ⟨rfl, rfl, rfl, trivial⟩ ?_
  obtain ⟨y11, hy12, h⟩ := bind_some h
  refine wo_gives rfl rfl rfl rfl rfl ent55 rfl (s_IndexFunc_c hO h0 (fn1_is (first := []) (cap := [(.pointer (some ⟨b3, 0, none⟩))]) ent54 (fun O' w' ht hO u0 z0 q0 y hy => b_seam1_c hO q0 (p6.tr ht) hy)) hy12) (fun v7 w8 h9 f10 => ?_)
  have h0 := h0.tr f10.tr0
  have hO := f10.ob hO
  have hF := hF.trans f10
  obtain rfl := int_is.1 h9
  refine wo_seg Θ_ok [3] [(0, v0), (6, (.int .i64 y11))] rfl ⟨rfl, rfl, trivial⟩ ?_
  refine wo_nil ?_
  refine wq_seq ?_
  refine wc_seq ?_
  refine wc_region (l := [0, 1]) rfl ?_
  refine wo_seg Θ_ok [0, 1] [(0, v0), (6, (.int .i64 y11)), (12, (.bool (decide (y11 ≥ (0 : Int)))))] rfl ⟨rfl, rfl, rfl, trivial⟩ ?_
  refine wo_nil ?_
  refine wq_seq ?_
  rcases bif_some h with ⟨hc13, h⟩ | ⟨hc13, h⟩
  · refine wc_known_true rfl hc13 ?_
    refine wc_seq ?_
    refine wc_region (l := [0, 1]) rfl ?_
    refine wo_seg Θ_ok [0, 1] [(4, (.int .i64 y11))] rfl ⟨rfl, trivial⟩ ?_
    refine wo_nil ?_
    refine wq_seq ?_
    refine wc_ret ?_
    cases h
    exact wq_then_ret (wq_ret rfl ⟨_, rfl, (int_is.2 rfl), hF⟩)
  refine wc_known_false rfl hc13 ?_
  refine wc_skip ?_
  refine wq_seq ?_
  refine wc_seq ?_
  refine wc_region (l := [0, 1, 2]) rfl ?_
  refine wo_seg Θ_ok [0] [(14, v0)] rfl ⟨rfl, trivial⟩ ?_
  obtain ⟨A14, c15, rfl, hlc15, hmc15⟩ := slice_form h0
  refine wo_seg Θ_ok [1] [(15, (.int .i64 (x0.length : Int)))] rfl ⟨rfl, trivial⟩ ?_
  refine wo_seg Θ_ok [2] [(4, (.int .i64 (x0.length : Int)))] rfl ⟨rfl, trivial⟩ ?_
  refine wo_nil ?_
  refine wq_seq ?_
  refine wc_ret ?_
  cases h
  exact wq_ret rfl ⟨_, rfl, (int_is.2 rfl), hF⟩
set_option maxRecDepth 100000 in
set_option maxHeartbeats 4000000 in
theorem b_compare_c {O : List Nat} {w : World} (hO : OB O w) {v0 : Value} {x0 : Int} (h0 : (Ty.int .u64).is O w v0 x0) {v1 : Value} {x1 : Int} (h1 : (Ty.int .u64).is O w v1 x1) : Calls Try.prog 53 #[v0, v1] w (Gives (rt1 (Ty.int .i64)) O w (b_compare x0 x1)) := by
  obtain rfl := int_is.1 h0
  obtain rfl := int_is.1 h1
  have hF := Fr.refl [] w
  have hO0 := hO
  have hS := Sub.refl O
  obtain ⟨r, h⟩ : ∃ r, b_compare x0 x1 = r := ⟨_, rfl⟩
  rw [h]
  refine calls_of (args := [(.int .u64 x0), (.int .u64 x1)]) (N := 19) Try.func53 rfl rfl rfl ?_
  unfold b_compare at h
  refine wc_seq ?_
  refine wc_region (l := [0]) rfl ?_
  refine wo_seg Θ_ok [0] [(0, (.int .u64 x0)), (1, (.int .u64 x1))] rfl ⟨rfl, rfl, trivial⟩ ?_
  refine wo_nil ?_
  refine wq_seq ?_
  refine wc_seq ?_
  refine wc_seq ?_
  refine wc_region (l := [0, 1, 2, 3, 4, 5]) rfl ?_
  refine wo_seg Θ_ok [0] [(1, (.int .u64 x1)), (7, (.int .u64 x0))] rfl ⟨rfl, rfl, trivial⟩ ?_
  refine wo_gives rfl rfl rfl rfl rfl ent14 rfl (b_Hash_c hO (int_is.2 rfl)) (fun v3 w4 h5 f6 => ?_)
  have hO := f6.ob hO
  have hF := hF.trans f6
  obtain rfl := int_is.1 h5
  refine wo_seg Θ_ok [2] [(8, (.int .u64 (b_Hash x0))), (9, (.int .u64 x1))] rfl ⟨rfl, rfl, trivial⟩ ?_
  refine wo_gives rfl rfl rfl rfl rfl ent14 rfl (b_Hash_c hO (int_is.2 rfl)) (fun v7 w8 h9 f10 => ?_)
  have hO := f10.ob hO
  have hF := hF.trans f10
  obtain rfl := int_is.1 h9
  refine wo_seg Θ_ok [4, 5] [(5, (.int .u64 (b_Hash x0))), (6, (.int .u64 (b_Hash x1)))] rfl ⟨rfl, rfl, trivial⟩ ?_
  refine wo_nil ?_
  refine wq_seq ?_
  refine wc_block ?_
  refine wc_seq ?_
  refine wc_region (l := [0, 1, 2, 3]) rfl ?_
  refine wo_seg Θ_ok [0, 1, 2, 3] [(5, (.int .u64 (b_Hash x0))), (6, (.int .u64 (b_Hash x1))), (11, (.bool (decide ((b_Hash x0) < (b_Hash x1)))))] rfl ⟨rfl, rfl, rfl, trivial⟩ ?_
  refine wo_nil ?_
  refine wq_seq ?_
  rcases bif_some h with ⟨hc11, h⟩ | ⟨hc11, h⟩
  · refine wc_known_true rfl hc11 ?_
    refine wc_seq ?_
    refine wc_region (l := [0]) rfl ?_
    refine wo_seg Θ_ok [0] [(4, (.int .i64 (-1)))] rfl ⟨rfl, trivial⟩ ?_
    refine wo_nil ?_
    refine wq_seq ?_
    refine wc_ret ?_
    subst h
    exact wq_block_ret (wq_then_ret (wq_ret rfl ⟨_, rfl, (int_is.2 rfl), hF⟩))
  refine wc_known_false rfl hc11 ?_
  refine wc_seq ?_
  refine wc_region (l := [0, 1, 2, 3]) rfl ?_
  refine wo_seg Θ_ok [0, 1, 2, 3] [(15, (.bool (decide ((b_Hash x0) > (b_Hash x1)))))] rfl ⟨rfl, trivial⟩ ?_
  refine wo_nil ?_
  refine wq_seq ?_
  rcases bif_some h with ⟨hc12, h⟩ | ⟨hc12, h⟩
  · refine wc_known_true rfl hc12 ?_
    refine wc_seq ?_
    refine wc_region (l := [0]) rfl ?_
    refine wo_seg Θ_ok [0] [(4, (.int .i64 1))] rfl ⟨rfl, trivial⟩ ?_
    refine wo_nil ?_
    refine wq_seq ?_
    refine wc_ret ?_
    subst h
    exact wq_block_ret (wq_then_ret (wq_ret rfl ⟨_, rfl, (int_is.2 rfl), hF⟩))
  refine wc_known_false rfl hc12 ?_
  refine wc_skip ?_
  refine wq_block (wq_seq ?_)
  refine wc_seq ?_
  refine wc_region (l := [0]) rfl ?_
  refine wo_seg Θ_ok [0] [(4, (.int .i64 0))] rfl ⟨rfl, trivial⟩ ?_
  refine wo_nil ?_
  refine wq_seq ?_
  refine wc_ret ?_
  subst h
  exact wq_ret rfl ⟨_, rfl, (int_is.2 rfl), hF⟩
end Go.Proofs.Ytdemjanelbajlaa
