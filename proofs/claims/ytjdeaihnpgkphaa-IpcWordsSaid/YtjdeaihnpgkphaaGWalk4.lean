/-
  The program's functions compute the plain ones (printed by a tool of the prover's).
-/
import Derived.Test.YtjdeaihnpgkphaaGWalk3
namespace Go.Proofs.Ytjdeaihnpgkphaa
open Go.RowKit Go.Dc Go.Shelf
set_option maxRecDepth 100000 in
set_option maxHeartbeats 4000000 in
theorem i_held1_c {O : List Nat} {w : World} (hO : OB O w) {cv0 : Value} {ck0 : GIpc} (ch0 : (Ty.ptr tGIpc).is O w cv0 ck0) {cv1 : Value} {ck1 : Int} (ch1 : (Ty.ptr (Ty.int .u64)).is O w cv1 ck1) : Seq1 Try.prog 59 #[cv0, cv1] (Value.int .u64) O w (i_held1 ck0 ck1) := by
  intro l0 J Jx Oz wz hT hO0 hJf hJxf hY hJ
  have ch0 := ch0.tr hT
  have ch1 := ch1.tr hT
  have hO := hO0
  have hF := Fr.refl [] wz
  have hS := Sub.refl Oz
  obtain ⟨ys, h⟩ : ∃ ys, i_held1 ck0 ck1 = ys := ⟨_, rfl⟩
  obtain ⟨kk, ekk⟩ : ∃ kk, kk = 0 := ⟨_, rfl⟩
  rw [← ekk] at hJ
  have hd : (i_held1 ck0 ck1).drop kk = ys := by rw [ekk]; exact h
  have hk : kk ≤ (i_held1 ck0 ck1).length := by rw [ekk]; exact Nat.zero_le _
  unfold i_held1 at h
  refine callsIn_of (args := [(.func (.yield l0) #[] #[]), cv0, cv1]) (N := 25) Try.func59 rfl rfl rfl ?_
  refine wc_seq ?_
  refine wc_region (l := [0, 1, 2, 3]) rfl ?_
  obtain ⟨ad2, rfl⟩ := ptr_form ch0
  have h3 := ptr_sub (S := (Ty.slice tGName)) (off := 0) (y := ck0.fNames) ch0 (fun cs hr => by obtain ⟨z0, z1, rfl, y0, y1⟩ := tGIpc_rep hr; exact rep_of rfl y0)
  refine wo_seg Θ_ok [0] [(0, (.func (.yield l0) #[] #[])), (2, cv1), (6, (.pointer (some (ad2.add 0))))] rfl ⟨rfl, rfl, rfl, trivial⟩ ?_
  refine wo_loadp Θ_ok rfl rfl rfl rfl rfl rfl rfl h3 rfl rfl (fun v4 h5 => ?_)
  obtain ⟨A6, c7, rfl, hlc7, hmc7⟩ := slice_form h5
  refine wo_seg Θ_ok [2] [(0, (.func (.yield l0) #[] #[])), (2, cv1), (7, (.slice A6 ck0.fNames.length c7)), (8, (.int .i64 (ck0.fNames.length : Int)))] rfl ⟨rfl, rfl, rfl, rfl, trivial⟩ ?_
  refine wo_seg Θ_ok [3] [(0, (.func (.yield l0) #[] #[])), (2, cv1), (7, (.slice A6 ck0.fNames.length c7)), (8, (.int .i64 (ck0.fNames.length : Int))), (9, (.int .i64 0))] rfl ⟨rfl, rfl, rfl, rfl, rfl, trivial⟩ ?_
  refine wo_nil ?_
  refine wq_seq ?_
  refine wc_block ?_
  refine wc_loop (fun m E W => ∃ (rest10 : List GName) (i9 : Nat) (O13 : List Nat) (kk14 : Nat) (ys15 : List Int) (Oz16 : List Nat) (wz17 : World), rest10.length = m ∧ ck0.fNames.drop i9 = rest10 ∧ E = [(0, (.func (.yield l0) #[] #[])), (2, cv1), (7, (.slice A6 ck0.fNames.length c7)), (8, (.int .i64 (ck0.fNames.length : Int))), (9, (.int .i64 (i9 : Int)))] ∧ Tr Oz wz O13 W ∧ OB O13 W ∧ Sub Oz16 O13 ∧ Fr [] wz17 W ∧ (i_held1 ck0 ck1).drop kk14 = ys15 ∧ kk14 ≤ (i_held1 ck0 ck1).length ∧ J kk14 Oz16 wz17 ∧ OB Oz16 wz17 ∧ i_held1_l1 ck1 rest10 i9 = ys15) _ [(0, (.func (.yield l0) #[] #[])), (2, cv1), (7, (.slice A6 ck0.fNames.length c7)), (8, (.int .i64 (ck0.fNames.length : Int))), (9, (.int .i64 ((0 : Nat) : Int)))] ⟨rfl, rfl, rfl, rfl, rfl, trivial⟩ ⟨ck0.fNames, 0, Oz, kk, _, Oz, wz, rfl, rfl, rfl, Tr.refl _ _, hO, hS, hF, hd, hk, hJ, hO0, h⟩ ?_
  rintro m E w18 ⟨rest10, i9, O13, kk14, ys15, Oz16, wz17, rfl, hd12, rfl, T8, hO, hS, hF, hd, hk, hJ, hO0, h⟩
  have ch1 := ch1.tr T8
  have h5 := h5.tr T8
  rcases rest10 with _ | ⟨z11, rest10⟩
  · rw [i_held1_l1] at h
    have hl22 := drop_nil hd12
    have hc19 : (decide ((i9 : Int) < (ck0.fNames.length : Int))) = false := decide_eq_false (by omega)
    refine wc_seq ?_
    refine wc_region (l := [0]) rfl ?_
    refine wo_seg Θ_ok [0] [(0, (.func (.yield l0) #[] #[])), (2, cv1), (7, (.slice A6 ck0.fNames.length c7)), (8, (.int .i64 (ck0.fNames.length : Int))), (9, (.int .i64 (i9 : Int))), (10, (.bool (decide ((i9 : Int) < (ck0.fNames.length : Int)))))] rfl ⟨rfl, rfl, rfl, rfl, rfl, rfl, trivial⟩ ?_
    refine wo_nil ?_
    refine wq_seq ?_
    refine wc_seq ?_
    refine wc_known_false rfl hc19 ?_
    refine wc_exit ?_
    exact wq_then_exit (wq_then_exit (wq_block_exit (wq_end rfl ⟨⟨_, rfl⟩, .inl ⟨_, iter_done hk (hd.trans h.symm) (hJf _ _ _ _ hJ hF)⟩⟩)))
  rw [i_held1_l1] at h
  obtain ⟨hl23, hg21, hd12⟩ := drop_cons hd12
  have hc20 : (decide ((i9 : Int) < (ck0.fNames.length : Int))) = true := decide_eq_true (by omega)
  refine wc_seq ?_
  refine wc_region (l := [0]) rfl ?_
  refine wo_seg Θ_ok [0] [(0, (.func (.yield l0) #[] #[])), (2, cv1), (7, (.slice A6 ck0.fNames.length c7)), (8, (.int .i64 (ck0.fNames.length : Int))), (9, (.int .i64 (i9 : Int))), (10, (.bool (decide ((i9 : Int) < (ck0.fNames.length : Int)))))] rfl ⟨rfl, rfl, rfl, rfl, rfl, rfl, trivial⟩ ?_
  refine wo_nil ?_
  refine wq_seq ?_
  refine wc_seq ?_
  refine wc_known_true rfl hc20 ?_
  refine wc_skip ?_
  refine wq_seq ?_
  refine wc_seq ?_
  refine wc_block ?_
  refine wc_seq ?_
  refine wc_region (l := [0, 1, 2, 3]) rfl ?_
  refine wo_index Θ_ok rfl rfl rfl rfl rfl rfl rfl rfl rfl rfl h5 rfl (by omega) hg21 (fun p24 h25 => ?_)
  refine wo_loadp Θ_ok rfl rfl rfl rfl rfl rfl rfl h25 rfl rfl (fun v26 h27 => ?_)
  obtain rfl := tGName_is.1 h27
  refine wo_alloc Θ_ok rfl rfl rfl rfl rfl rfl [(.int .u64 0), (.int .u64 0)] rfl hO (fun b28 w29 n30 => ?_)
  have ch1 := ch1.tr n30.tr
  have h5 := h5.tr n30.tr
  have T8 := T8.trans n30.tr
  have hb28 := n30.blk
  have gb28 := n30.ge0 hF
  have ib28 : b28 ∈ b28 :: O13 := List.mem_cons_self
  have hO := n30.ob
  have hF := hF.trans n30.fr
  have hS := Sub.cons hS b28
  refine wo_store Θ_ok rfl rfl rfl rfl rfl rfl rfl hb28 [(.int .u64 z11.fName), (.int .u64 z11.fPid)] rfl rfl (by simp [Value.oneCell']) rfl [(.int .u64 z11.fName), (.int .u64 z11.fPid)] rfl (fun w31 hb28 f32 => ?_)
  have ch1 := ch1.tr (f32.tr (one_in ib28))
  have h5 := h5.tr (f32.tr (one_in ib28))
  have T8 := T8.trans (f32.tr (one_in ib28))
  have hO := f32.ob hO
  have hF := hF.own f32 gb28
  refine wo_nil ?_
  refine wq_seq ?_
  refine wc_seq ?_
  refine wc_region (l := [0, 1, 2, 3, 4, 5, 6, 7, 8, 9, 10]) rfl ?_
  refine wo_seg Θ_ok [0] [(0, (.func (.yield l0) #[] #[])), (2, cv1), (5, (bp b28)), (7, (.slice A6 ck0.fNames.length c7)), (8, (.int .i64 (ck0.fNames.length : Int))), (9, (.int .i64 (i9 : Int))), (13, (.pointer (some ⟨b28, 1, none⟩)))] rfl ⟨rfl, rfl, rfl, rfl, rfl, rfl, rfl, trivial⟩ ?_
  refine wo_load Θ_ok rfl rfl rfl rfl rfl rfl rfl hb28 [(.int .u64 z11.fPid)] rfl rfl (.inr rfl) (.int .u64 z11.fPid) rfl ?_
  refine wo_loadp Θ_ok rfl rfl rfl rfl rfl rfl rfl ch1 rfl rfl (fun v33 h34 => ?_)
  obtain rfl := int_is.1 h34
  refine wo_seg Θ_ok [3, 4] [(0, (.func (.yield l0) #[] #[])), (2, cv1), (5, (bp b28)), (7, (.slice A6 ck0.fNames.length c7)), (8, (.int .i64 (ck0.fNames.length : Int))), (9, (.int .i64 (i9 : Int))), (17, (.bool (z11.fPid == ck1)))] rfl ⟨rfl, rfl, rfl, rfl, rfl, rfl, rfl, trivial⟩ ?_
  rcases bif_some h with ⟨hc35, h⟩ | ⟨hc35, h⟩
  rotate_left
  · refine wo_know 17 false rfl hc35 ?_
    refine wo_seg Θ_ok [5, 6, 7, 8, 9, 10] [(0, (.func (.yield l0) #[] #[])), (2, cv1), (7, (.slice A6 ck0.fNames.length c7)), (8, (.int .i64 (ck0.fNames.length : Int))), (9, (.int .i64 (i9 : Int))), (23, (.bool false))] rfl ⟨rfl, rfl, rfl, rfl, rfl, rfl, trivial⟩ ?_
    refine wo_nil ?_
    refine wq_seq ?_
    refine wc_false rfl ?_
    refine wc_skip ?_
    refine wq_block (wq_seq ?_)
    refine wc_region (l := [0, 1]) rfl ?_
    refine wo_seg Θ_ok [0, 1] [(0, (.func (.yield l0) #[] #[])), (2, cv1), (7, (.slice A6 ck0.fNames.length c7)), (8, (.int .i64 (ck0.fNames.length : Int))), (9, (.int .i64 (IntKind.i64.wrap ((i9 : Int) + (1 : Int)))))] rfl ⟨rfl, rfl, rfl, rfl, rfl, trivial⟩ ?_
    refine wo_nil ?_
    exact wq_next rest10.length [(0, (.func (.yield l0) #[] #[])), (2, cv1), (7, (.slice A6 ck0.fNames.length c7)), (8, (.int .i64 (ck0.fNames.length : Int))), (9, (.int .i64 ((i9 + 1 : Nat) : Int)))] (Nat.lt_succ_self _) ⟨rfl, rfl, rfl, rfl, congrArg (fun z => some (Value.int .i64 z)) (wrap_succ hl23 (Nat.le_trans hlc7 hmc7)), trivial⟩ ⟨rest10, i9 + 1, b28 :: O13, kk14, _, Oz16, wz17, rfl, hd12, rfl, T8, hO, hS, hF, hd, hk, hJ, hO0, h⟩
  refine wo_know 17 true rfl hc35 ?_
  refine wo_seg Θ_ok [5, 6] [(0, (.func (.yield l0) #[] #[])), (2, cv1), (7, (.slice A6 ck0.fNames.length c7)), (8, (.int .i64 (ck0.fNames.length : Int))), (9, (.int .i64 (i9 : Int))), (17, (.bool true)), (18, (.func (.yield l0) #[] #[])), (19, (bp b28))] rfl ⟨rfl, rfl, rfl, rfl, rfl, rfl, rfl, rfl, trivial⟩ ?_
  refine wo_load Θ_ok rfl rfl rfl rfl rfl rfl rfl hb28 [(.int .u64 z11.fName)] rfl rfl (.inr rfl) (.int .u64 z11.fName) rfl ?_
  obtain ⟨hlt, hz, hd⟩ := drop_cons (hd.trans h.symm)
  have hk : (kk14 + 1) ≤ (i_held1 ck0 ck1).length := hlt
  clear h
  refine wo_yield (u := (Value.int .u64) z11.fName) rfl rfl rfl rfl rfl rfl rfl (hY kk14 _ Oz16 w31 hz (hJf _ _ _ _ hJ hF) (hF.ob hO0)) ?_
  rintro e w_y (⟨rfl, O36, hJ, T38, hO0⟩ | ⟨rfl, hJx⟩)
  · obtain ⟨w37, rfl⟩ : ∃ u, u = w_y := ⟨_, rfl⟩
    refine ⟨.bool true, rfl, ?_⟩
    have h : _ = (i_held1 ck0 ck1).drop (kk14 + 1) := hd.symm
    have hd : (i_held1 ck0 ck1).drop (kk14 + 1) = (i_held1 ck0 ck1).drop (kk14 + 1) := rfl
    have T38 := T38.more hS
    have ch1 := ch1.tr T38
    have h5 := h5.tr T38
    have T8 := T8.trans T38
    have hF := Fr.refl [] w37
    have hS := Sub.refl O36
    have hO := hO0
    refine wo_seg Θ_ok [9, 10] [(0, (.func (.yield l0) #[] #[])), (2, cv1), (7, (.slice A6 ck0.fNames.length c7)), (8, (.int .i64 (ck0.fNames.length : Int))), (9, (.int .i64 (i9 : Int))), (23, (.bool false))] rfl ⟨rfl, rfl, rfl, rfl, rfl, rfl, trivial⟩ ?_
    refine wo_nil ?_
    refine wq_seq ?_
    refine wc_false rfl ?_
    refine wc_skip ?_
    refine wq_block (wq_seq ?_)
    refine wc_region (l := [0, 1]) rfl ?_
    refine wo_seg Θ_ok [0, 1] [(0, (.func (.yield l0) #[] #[])), (2, cv1), (7, (.slice A6 ck0.fNames.length c7)), (8, (.int .i64 (ck0.fNames.length : Int))), (9, (.int .i64 (IntKind.i64.wrap ((i9 : Int) + (1 : Int)))))] rfl ⟨rfl, rfl, rfl, rfl, rfl, trivial⟩ ?_
    refine wo_nil ?_
    exact wq_next rest10.length [(0, (.func (.yield l0) #[] #[])), (2, cv1), (7, (.slice A6 ck0.fNames.length c7)), (8, (.int .i64 (ck0.fNames.length : Int))), (9, (.int .i64 ((i9 + 1 : Nat) : Int)))] (Nat.lt_succ_self _) ⟨rfl, rfl, rfl, rfl, congrArg (fun z => some (Value.int .i64 z)) (wrap_succ hl23 (Nat.le_trans hlc7 hmc7)), trivial⟩ ⟨rest10, i9 + 1, O36, (kk14 + 1), _, O36, w37, rfl, hd12, rfl, T8, hO, hS, hF, hd, hk, hJ, hO0, h⟩
  · obtain ⟨w39, rfl⟩ : ∃ u, u = w_y := ⟨_, rfl⟩
    refine ⟨.bool false, rfl, ?_⟩
    have hF := Fr.refl [] w39
    refine wo_seg Θ_ok [9, 10] [(8, (.int .i64 (ck0.fNames.length : Int))), (9, (.int .i64 (i9 : Int))), (23, (.bool true))] rfl ⟨rfl, rfl, rfl, trivial⟩ ?_
    refine wo_nil ?_
    refine wq_seq ?_
    refine wc_true rfl ?_
    refine wc_ret ?_
    exact wq_block_ret (wq_then_ret (wq_then_ret (wq_block_ret (wq_ret rfl ⟨⟨_, rfl⟩, .inr (hJxf _ _ hJx hF)⟩))))
set_option maxRecDepth 100000 in
set_option maxHeartbeats 4000000 in
theorem i_held_c {O : List Nat} {w : World} (hO : OB O w) {v0 : Value} {x0 : GIpc} (h0 : tGIpc.is O w v0 x0) {v1 : Value} {x1 : Int} (h1 : (Ty.int .u64).is O w v1 x1) : Calls Try.prog 43 #[v0, v1] w (Gives (rt1 (Ty.seq Try.prog (Value.int .u64))) O w (i_held x0 x1)) := by
  obtain ⟨v0_1, v0_2, rfl, h0_1, h0_2⟩ := tGIpc_is.1 h0
  obtain rfl := int_is.1 h1
  have hF := Fr.refl [] w
  have hO0 := hO
  have hS := Sub.refl O
  obtain ⟨r, h⟩ : ∃ r, i_held x0 x1 = r := ⟨_, rfl⟩
  rw [h]
  refine calls_of (args := [(.agg #[v0_1, v0_2]), (.int .u64 x1)]) (N := 6) Try.func43 rfl rfl rfl ?_
  unfold i_held at h
  refine wc_seq ?_
  refine wc_region (l := [0, 1, 2]) rfl ?_
  refine wo_box rfl rfl rfl rfl rfl rfl [v0_1, v0_2] rfl hO (fun b3 w4 n5 => ?_)
  have h0_1 := h0_1.tr n5.tr
  have h0_2 := h0_2.tr n5.tr
  have hb3 := n5.blk
  have gb3 := n5.ge0 hF
  have ib3 : b3 ∈ b3 :: O := List.mem_cons_self
  have hO := n5.ob
  have hF := hF.trans n5.fr
  have hS := Sub.cons hS b3
  refine wo_box rfl rfl rfl rfl rfl rfl [(.int .u64 x1)] rfl hO (fun b6 w7 n8 => ?_)
  have h0_1 := h0_1.tr n8.tr
  have h0_2 := h0_2.tr n8.tr
  have nb6b3 : b6 ≠ b3 := by have := hb3.lt; have := n8.ge; omega
  have hb3 := hb3.fr0 n8.fr
  have ib3 := List.mem_cons_of_mem b6 ib3
  have hb6 := n8.blk
  have gb6 := n8.ge0 hF
  have ib6 : b6 ∈ b6 :: (b3 :: O) := List.mem_cons_self
  have hO := n8.ob
  have hF := hF.trans n8.fr
  have hS := Sub.cons hS b6
  refine wo_seg Θ_ok [2] [(2, (bp b3)), (3, (bp b6))] rfl ⟨rfl, rfl, trivial⟩ ?_
  refine wo_nil ?_
  refine wq_seq ?_
  refine wc_seq ?_
  refine wc_region (l := [0, 1]) rfl ?_
  have p9 := rel_ptr (T := tGIpc) hb3 (Ty.tr _ (rel_tr b3 (b6 :: b3 :: O) w7) (rep_cells (v := (.agg #[v0_1, v0_2])) ((tGIpc_is (x := x0)).2 ⟨_, _, rfl, h0_1, h0_2⟩)))
  have h0_1 := h0_1.tr (rel_tr b3 (b6 :: b3 :: O) w7)
  have h0_2 := h0_2.tr (rel_tr b3 (b6 :: b3 :: O) w7)
  have ib6 := rel_in ib6 nb6b3
  have hO := rel_ob (b := b3) hO
  have hS := rel_sub hS hO0 gb3
  have p10 := rel_ptr (T := (Ty.int .u64)) hb6 (Ty.tr _ (rel_tr b6 (rel b3 (b6 :: b3 :: O)) w7) (rep_of rfl (int_is.2 rfl)))
  have h0_1 := h0_1.tr (rel_tr b6 (rel b3 (b6 :: b3 :: O)) w7)
  have h0_2 := h0_2.tr (rel_tr b6 (rel b3 (b6 :: b3 :: O)) w7)
  have p9 := p9.tr (rel_tr b6 (rel b3 (b6 :: b3 :: O)) w7)
  have hO := rel_ob (b := b6) hO
  have hS := rel_sub hS hO0 gb6
  refine wo_seg Θ_ok [0, 1] [(4, (.func (.func 59) #[] #[(bp b3), (bp b6)]))] rfl ⟨rfl, trivial⟩ ?_
  refine wo_nil ?_
  refine wq_seq ?_
  refine wc_ret ?_
  have h11 : (Ty.seq Try.prog (Value.int .u64)).is (rel b6 (rel b3 (b6 :: b3 :: O))) w7 (.func (.func 59) #[] #[(bp b3), (bp b6)]) (i_held1 x0 x1) := (seq_is (lb := [(bp b3), (bp b6)]) ent59 (fun O' w' ht hO => i_held1_c hO (p9.tr ht) (p10.tr ht)))
  subst h
  exact wq_ret rfl ⟨_, rfl, (h11.tr (Tr.less hS)), hF⟩
set_option maxRecDepth 100000 in
set_option maxHeartbeats 4000000 in
theorem i_Held_c {O : List Nat} {w : World} (hO : OB O w) {fuel : Nat} {v0 : Value} {x0 : GIpc} (h0 : tGIpc.is O w v0 x0) {v1 : Value} {x1 : Int} (h1 : (Ty.int .u64).is O w v1 x1) {r : List Int} (h : i_Held fuel x0 x1 = some r) : Calls Try.prog 18 #[v0, v1] w (Gives (rt1 (Ty.slice (Ty.int .u64))) O w r) := by
  obtain ⟨v0_1, v0_2, rfl, h0_1, h0_2⟩ := tGIpc_is.1 h0
  obtain rfl := int_is.1 h1
  have hF := Fr.refl [] w
  have hO0 := hO
  have hS := Sub.refl O
  refine calls_of (args := [(.agg #[v0_1, v0_2]), (.int .u64 x1)]) (N := 19) Try.func18 rfl rfl rfl ?_
  unfold i_Held at h
  refine wc_seq ?_
  refine wc_region (l := [0, 1]) rfl ?_
  refine wo_box rfl rfl rfl rfl rfl rfl [v0_1, v0_2] rfl hO (fun b3 w4 n5 => ?_)
  have h0_1 := h0_1.tr n5.tr
  have h0_2 := h0_2.tr n5.tr
  have hb3 := n5.blk
  have gb3 := n5.ge0 hF
  have ib3 : b3 ∈ b3 :: O := List.mem_cons_self
  have hO := n5.ob
  have hF := hF.trans n5.fr
  have hS := Sub.cons hS b3
  refine wo_seg Θ_ok [1] [(1, (.int .u64 x1)), (2, (bp b3))] rfl ⟨rfl, rfl, trivial⟩ ?_
  refine wo_nil ?_
  refine wq_seq ?_
  refine wc_seq ?_
  refine wc_seq ?_
  refine wc_region (l := [0, 1, 2]) rfl ?_
  refine wo_load Θ_ok rfl rfl rfl rfl rfl rfl rfl hb3 [v0_1, v0_2] rfl rfl (.inl rfl) (.agg #[v0_1, v0_2]) rfl ?_
  obtain ⟨y10, hy11, h⟩ := bind_some h
  refine wo_gives rfl rfl rfl rfl rfl ent16 rfl (i_Check_c hO ((tGIpc_is (x := x0)).2 ⟨_, _, rfl, h0_1, h0_2⟩) hy11) (fun v6 w7 h8 f9 => ?_)
  have h0_1 := h0_1.tr f9.tr0
  have h0_2 := h0_2.tr f9.tr0
  have hb3 := hb3.fr0 f9
  have hO := f9.ob hO
  have hF := hF.trans f9
  obtain rfl := int_is.1 h8
  refine wo_seg Θ_ok [2] [(1, (.int .u64 x1)), (2, (bp b3)), (9, (.bool (y10 != (0 : Int))))] rfl ⟨rfl, rfl, rfl, trivial⟩ ?_
  refine wo_nil ?_
  refine wq_seq ?_
  rcases bif_some h with ⟨hc12, h⟩ | ⟨hc12, h⟩
  · refine wc_known_true rfl hc12 ?_
    refine wc_seq ?_
    refine wc_region (l := [0]) rfl ?_
    refine wo_seg Θ_ok [0] [(4, (.slice none 0 0))] rfl ⟨rfl, trivial⟩ ?_
    refine wo_nil ?_
    refine wq_seq ?_
    refine wc_ret ?_
    cases h
    exact wq_then_ret (wq_ret rfl ⟨_, rfl, (slice_nil _ _ _), hF⟩)
  refine wc_known_false rfl hc12 ?_
  refine wc_skip ?_
  refine wq_seq ?_
  refine wc_seq ?_
  refine wc_region (l := [0]) rfl ?_
  refine wo_alloc Θ_ok rfl rfl rfl rfl rfl rfl [(.slice none 0 0)] rfl hO (fun b13 w14 n15 => ?_)
  have h0_1 := h0_1.tr n15.tr
  have h0_2 := h0_2.tr n15.tr
  have nb13b3 : b13 ≠ b3 := by have := hb3.lt; have := n15.ge; omega
  have hb3 := hb3.fr0 n15.fr
  have ib3 := List.mem_cons_of_mem b13 ib3
  have hb13 := n15.blk
  have gb13 := n15.ge0 hF
  have ib13 : b13 ∈ b13 :: (b3 :: O) := List.mem_cons_self
  have hO := n15.ob
  have hF := hF.trans n15.fr
  have hS := Sub.cons hS b13
  refine wo_nil ?_
  refine wq_seq ?_
  refine wc_seq ?_
  refine wc_seq ?_
  refine wc_region (l := [0, 1, 2]) rfl ?_
  refine wo_load Θ_ok rfl rfl rfl rfl rfl rfl rfl hb3 [v0_1, v0_2] rfl rfl (.inl rfl) (.agg #[v0_1, v0_2]) rfl ?_
  refine wo_seg Θ_ok [1] [(5, (bp b13)), (10, (.agg #[v0_1, v0_2])), (11, (.int .u64 x1))] rfl ⟨rfl, rfl, rfl, trivial⟩ ?_
  refine wo_gives rfl rfl rfl rfl rfl ent43 rfl (i_held_c hO ((tGIpc_is (x := x0)).2 ⟨_, _, rfl, h0_1, h0_2⟩) (int_is.2 rfl)) (fun v16 w17 h18 f19 => ?_)
  have hb13 := hb13.fr0 f19
  have hO := f19.ob hO
  have hF := hF.trans f19
  refine wo_nil ?_
  refine wq_seq ?_
  refine wc_block ?_
  have hFei_Held_l1 := hF
  refine wc_rangeFunc rfl h18 hO rfl (fun k O26 W => ∃ (rest23 : List Int) (p20 : List Int) (v21 : Value), (i_held x0 x1).drop k = rest23 ∧ Sub O O26 ∧ Fr [] w W ∧ b13 ∈ O26 ∧ Blk W b13 40 [v21] ∧ Go.Dc.Own (Ty.int .u64) 29 w.heap.size O26 W v21 p20 ∧ v21.ownBlock ≠ some b13 ∧ i_Held_l1 rest23 p20 = some r) (fun c O2 W => False) (by rintro k O26 W W' hk ⟨rest23, p20, v21, hd24, hS, hF, ib13, hb13, h22, qh22b13, h⟩; exact ⟨rest23, p20, v21, hd24, hS, hk.fr hF hFei_Held_l1.size, ib13, hb13.bk hk, h22.bk hk, qh22b13, h⟩) (by rintro k O26 W W' hk ⟨rest23, p20, v21, hd24, hS, hF, ib13, hb13, h22, qh22b13, h⟩; exact ⟨rest23, p20, v21, hd24, hS, hF.trans hk, ib13, hb13.fr0 hk, h22.fr0 hk, qh22b13, h⟩) (fun _ _ _ _ _ h => h.elim) (fun _ _ _ _ _ h => h.elim) (fun O' W' T S B hk => ⟨(i_held x0 x1), ([] : List Int), (.slice none 0 0), (by simp), Sub.trans hS S, hF.trans hk, S _ ib13, hb13.fr0 hk, (Go.Dc.Own.nil_ : Go.Dc.Own (Ty.int .u64) 29 w.heap.size _ _ _ _), (nil_ne _), h⟩) ?_ ?_ ?_
  · rintro D27 l28 k rec rec' z30 O26 w29 hz31 T25 hO grD27 grl28 irD27 irl28 nel28 hrl28 hrD27 ⟨rest23, p20, v21, hd24, hS, hF, ib13, hb13, h22, qh22b13, h⟩
    have T_ll28 := T25
    rw [drop_get hz31] at hd24
    subst hd24
    rw [i_Held_l1] at h
    have h18 := h18.tr T25
    have T32 := Tr.refl O26 w29
    refine wc_region (l := [0]) rfl ?_
    refine wo_seg Θ_ok [0] [(5, (bp b13)), (6, (.int .u64 z30)), (12, v16)] rfl ⟨rfl, rfl, rfl, trivial⟩ ?_
    refine wo_nil ?_
    refine wq_begin (O2 := O26) irl28 nel28 hrl28 grl28 hrD27 (fun w34 hk33 hrl28 hrD27 => ?_)
    have h18 := h18.tr hk33.tr
    have hb13 := hb13.bk hk33
    have h22 := h22.bk hk33
    have T32 := T32.trans hk33.tr
    have hF := hk33.fr hF hFei_Held_l1.size
    have hO := hk33.ob hO
    refine wc_block ?_
    refine wc_region (l := [0, 1, 2, 3, 4]) rfl ?_
    refine wo_load Θ_ok rfl rfl rfl rfl rfl rfl rfl hb13 [v21] rfl rfl (.inr rfl) v21 rfl ?_
    refine wo_seg Θ_ok [1] [(5, (bp b13)), (12, v16), (14, v21), (15, (.int .u64 z30))] rfl ⟨rfl, rfl, rfl, rfl, trivial⟩ ?_
    refine wo_litd Θ_ok rfl rfl rfl rfl rfl rfl rfl rfl rfl rfl (T := (Ty.int .u64)) (xs := [z30]) (vs := [(.int .u64 z30)]) rfl ⟨(int_is.2 rfl), trivial⟩ rfl rfl rfl hO (fun v35 w36 h37 f38 => ?_)
    have h18 := h18.tr f38.tr0
    have hb13 := hb13.fr0 f38
    have h22 := h22.fr0 f38
    have hrl28 := hrl28.fr0 f38
    have hrD27 := hrD27.fr0 f38
    have T32 := T32.trans f38.tr0
    have hO := f38.ob hO
    have hF := hF.trans f38
    obtain ⟨z39, hz40, h⟩ := bind_some h
    refine wo_app Θ_ok rfl rfl rfl rfl rfl rfl rfl rfl rfl rfl rfl rfl rfl rfl hF hO h22 h37 hz40 (fun v41 w42 O43 ap44 => ?_)
    have h18 := h18.tr ap44.tr
    have T32 := T32.trans ap44.tr
    have qh45b13 := ap44.ne _ hb13.lt qh22b13
    have hb13 := ap44.blk hb13 qh22b13
    have ib13 := ap44.sub _ ib13
    have hrl28 := hrl28.app ap44 h22
    have hrD27 := hrD27.app ap44 h22
    have irl28 := ap44.sub _ irl28
    have irD27 := ap44.sub _ irD27
    have hF := ap44.fr0 h22 hF
    have hS := Sub.trans hS ap44.sub
    have hO := ap44.ob
    have h45 := ap44.own
    obtain ⟨A46, c47, rfl, hlc47, hmc47⟩ := h45.form
    have ehrl28 := hrl28.ne hb13
    have ehrD27 := hrD27.ne hb13
    refine wo_store Θ_ok rfl rfl rfl rfl rfl rfl rfl hb13 [(.slice A46 z39.length c47)] rfl rfl (by simp [Value.oneCell']) rfl [(.slice A46 z39.length c47)] rfl (fun w48 hb13 f49 => ?_)
    have h18 := h18.tr (f49.tr (one_in ib13))
    have T32 := T32.trans (f49.tr (one_in ib13))
    have h45 := h45.st f49 ib13 qh45b13
    have hrl28 := hrl28.keep f49 ehrl28
    have hrD27 := hrD27.keep f49 ehrD27
    have hO := f49.ob hO
    have hF := hF.own f49 gb13
    refine wo_nil ?_
    exact wq_block (wq_round T32 hO irD27 irl28 hrl28 hrD27 ⟨((i_held x0 x1).drop (k + 1)), z39, (.slice A46 z39.length c47), rfl, hS, hF, ib13, hb13, h45, qh45b13, h⟩)
  · rintro D50 O26 w51 grD50 T25 hO irD50 hrD50 ⟨rest23, p20, v21, hd24, hS, hF, ib13, hb13, h22, qh22b13, h⟩
    rw [List.drop_length] at hd24
    subst hd24
    rw [i_Held_l1] at h
    have grD50 := Nat.le_trans hFei_Held_l1.size grD50
    have h18 := h18.tr T25
    refine wq_block (wq_seq ?_)
    refine wc_seq ?_
    refine wc_region (l := [0, 1]) rfl ?_
    refine wo_load Θ_ok rfl rfl rfl rfl rfl rfl rfl hb13 [v21] rfl rfl (.inr rfl) v21 rfl ?_
    refine wo_seg Θ_ok [1] [(4, v21)] rfl ⟨rfl, trivial⟩ ?_
    refine wo_nil ?_
    refine wq_seq ?_
    refine wc_ret ?_
    refine wq_mark_ret (n0 := w.heap.size) hrD50 irD50 grD50 (fun w53 hk52 => ?_)
    have hb13 := hb13.bk hk52
    have h22 := h22.bk hk52
    have hF := hk52.fr hF (Nat.le_refl _)
    have hO := hk52.ob hO
    cases h
    exact wq_ret rfl ⟨_, rfl, (h22.share0 hS hO0), hF⟩
  · intro _ _ _ _ _ _ _ _ hz
    exact hz.elim
set_option maxRecDepth 100000 in
set_option maxHeartbeats 4000000 in
theorem i_Lookup_c {O : List Nat} {w : World} (hO : OB O w) {fuel : Nat} {v0 : Value} {x0 : GIpc} (h0 : tGIpc.is O w v0 x0) {v1 : Value} {x1 : Int} (h1 : (Ty.int .u64).is O w v1 x1) {r : Int × Int} (h : i_Lookup fuel x0 x1 = some r) : Calls Try.prog 22 #[v0, v1] w (Gives (rt2 (Ty.int .u64) (Ty.int .i64)) O w r) := by
  obtain ⟨v0_1, v0_2, rfl, h0_1, h0_2⟩ := tGIpc_is.1 h0
  obtain rfl := int_is.1 h1
  have hF := Fr.refl [] w
  have hO0 := hO
  have hS := Sub.refl O
  refine calls_of (args := [(.agg #[v0_1, v0_2]), (.int .u64 x1)]) (N := 31) Try.func22 rfl rfl rfl ?_
  unfold i_Lookup at h
  refine wc_seq ?_
  refine wc_region (l := [0, 1, 2]) rfl ?_
  refine wo_box rfl rfl rfl rfl rfl rfl [v0_1, v0_2] rfl hO (fun b3 w4 n5 => ?_)
  have h0_1 := h0_1.tr n5.tr
  have h0_2 := h0_2.tr n5.tr
  have hb3 := n5.blk
  have gb3 := n5.ge0 hF
  have ib3 : b3 ∈ b3 :: O := List.mem_cons_self
  have hO := n5.ob
  have hF := hF.trans n5.fr
  have hS := Sub.cons hS b3
  refine wo_seg Θ_ok [1, 2] [(1, (.int .u64 x1)), (2, (bp b3))] rfl ⟨rfl, rfl, trivial⟩ ?_
  refine wo_nil ?_
  refine wq_seq ?_
  refine wc_seq ?_
  refine wc_block ?_
  refine wc_seq ?_
  refine wc_region (l := [0, 1, 2, 3]) rfl ?_
  refine wo_load Θ_ok rfl rfl rfl rfl rfl rfl rfl hb3 [v0_1, v0_2] rfl rfl (.inl rfl) (.agg #[v0_1, v0_2]) rfl ?_
  obtain ⟨y10, hy11, h⟩ := bind_some h
  refine wo_gives rfl rfl rfl rfl rfl ent16 rfl (i_Check_c hO ((tGIpc_is (x := x0)).2 ⟨_, _, rfl, h0_1, h0_2⟩) hy11) (fun v6 w7 h8 f9 => ?_)
  have h0_1 := h0_1.tr f9.tr0
  have h0_2 := h0_2.tr f9.tr0
  have hb3 := hb3.fr0 f9
  have hO := f9.ob hO
  have hF := hF.trans f9
  obtain rfl := int_is.1 h8
  refine wo_seg Θ_ok [2, 3] [(1, (.int .u64 x1)), (2, (bp b3)), (8, (.bool (y10 != (0 : Int))))] rfl ⟨rfl, rfl, rfl, trivial⟩ ?_
  refine wo_nil ?_
  refine wq_seq ?_
  rcases bif_some h with ⟨hc12, h⟩ | ⟨hc12, h⟩
  · refine wc_known_true rfl hc12 ?_
    refine wc_seq ?_
    refine wc_region (l := [0, 1]) rfl ?_
    refine wo_seg Θ_ok [0, 1] [(4, (.int .u64 0)), (5, (.int .i64 350))] rfl ⟨rfl, rfl, trivial⟩ ?_
    refine wo_nil ?_
    refine wq_seq ?_
    refine wc_ret ?_
    cases h
    exact wq_block_ret (wq_then_ret (wq_ret rfl ⟨_, rfl, ⟨_, _, rfl, (int_is.2 rfl), (int_is.2 rfl)⟩, hF⟩))
  refine wc_known_false rfl hc12 ?_
  refine wc_seq ?_
  refine wc_region (l := [0, 1, 2, 3]) rfl ?_
  refine wo_seg Θ_ok [0] [(1, (.int .u64 x1)), (2, (bp b3)), (13, (.int .u64 x1))] rfl ⟨rfl, rfl, rfl, trivial⟩ ?_
  obtain ⟨y17, hy18, h⟩ := bind_some h
  refine wo_gives rfl rfl rfl rfl rfl ent30 rfl (i_Is_c hO (int_is.2 rfl) hy18) (fun v13 w14 h15 f16 => ?_)
  have h0_1 := h0_1.tr f16.tr0
  have h0_2 := h0_2.tr f16.tr0
  have hb3 := hb3.fr0 f16
  have hO := f16.ob hO
  have hF := hF.trans f16
  obtain rfl := bool_is.1 h15
  refine wo_seg Θ_ok [2, 3] [(1, (.int .u64 x1)), (2, (bp b3)), (12, (.bool (!y17)))] rfl ⟨rfl, rfl, rfl, trivial⟩ ?_
  refine wo_nil ?_
  refine wq_seq ?_
  rcases bif_some h with ⟨hc19, h⟩ | ⟨hc19, h⟩
  · refine wc_known_true rfl hc19 ?_
    refine wc_seq ?_
    refine wc_region (l := [0, 1]) rfl ?_
    refine wo_seg Θ_ok [0, 1] [(4, (.int .u64 0)), (5, (.int .i64 351))] rfl ⟨rfl, rfl, trivial⟩ ?_
    refine wo_nil ?_
    refine wq_seq ?_
    refine wc_ret ?_
    cases h
    exact wq_block_ret (wq_then_ret (wq_ret rfl ⟨_, rfl, ⟨_, _, rfl, (int_is.2 rfl), (int_is.2 rfl)⟩, hF⟩))
  refine wc_known_false rfl hc19 ?_
  refine wc_skip ?_
  refine wq_block (wq_seq ?_)
  refine wc_seq ?_
  refine wc_region (l := [0, 1, 2, 3, 4, 5, 6, 7, 8]) rfl ?_
  refine wo_seg Θ_ok [0] [(1, (.int .u64 x1)), (2, (bp b3)), (17, (bp b3))] rfl ⟨rfl, rfl, rfl, trivial⟩ ?_
  refine wo_load Θ_ok rfl rfl rfl rfl rfl rfl rfl hb3 [v0_1] rfl rfl (.inr rfl) v0_1 rfl ?_
  refine wo_seg Θ_ok [2] [(2, (bp b3)), (18, v0_1), (19, (.int .u64 x1))] rfl ⟨rfl, rfl, rfl, trivial⟩ ?_
  obtain ⟨y24, hy25, h⟩ := bind_some h
  refine wo_gives rfl rfl rfl rfl rfl ent35 rfl (i_findN_c hO h0_1 (int_is.2 rfl) (fn1_is (first := []) (cap := []) ent36 (fun O' w' ht hO u0 z0 q0 y hy => by cases hy; exact i_nameOf_c hO q0)) hy25) (fun v20 w21 h22 f23 => ?_)
  have h0_1 := h0_1.tr f23.tr0
  have h0_2 := h0_2.tr f23.tr0
  have hb3 := hb3.fr0 f23
  have hO := f23.ob hO
  have hF := hF.trans f23
  obtain ⟨u26, u28, rfl, h27, h29⟩ := h22
  obtain rfl := int_is.1 h27
  obtain rfl := bool_is.1 h29
  refine wo_seg Θ_ok [4, 5, 6, 7, 8] [(2, (bp b3)), (6, (.int .i64 y24.1)), (7, (.bool y24.2))] rfl ⟨rfl, rfl, rfl, trivial⟩ ?_
  refine wo_nil ?_
  refine wq_seq ?_
  refine wc_seq ?_
  refine wc_seq ?_
  refine wc_region (l := [0, 1]) rfl ?_
  refine wo_seg Θ_ok [0, 1] [(2, (bp b3)), (6, (.int .i64 y24.1)), (24, (.bool (!y24.2)))] rfl ⟨rfl, rfl, rfl, trivial⟩ ?_
  refine wo_nil ?_
  refine wq_seq ?_
  rcases bif_some h with ⟨hc30, h⟩ | ⟨hc30, h⟩
  · refine wc_known_true rfl hc30 ?_
    refine wc_seq ?_
    refine wc_region (l := [0, 1]) rfl ?_
    refine wo_seg Θ_ok [0, 1] [(4, (.int .u64 0)), (5, (.int .i64 4))] rfl ⟨rfl, rfl, trivial⟩ ?_
    refine wo_nil ?_
    refine wq_seq ?_
    refine wc_ret ?_
    cases h
    exact wq_then_ret (wq_ret rfl ⟨_, rfl, ⟨_, _, rfl, (int_is.2 rfl), (int_is.2 rfl)⟩, hF⟩)
  refine wc_known_false rfl hc30 ?_
  refine wc_skip ?_
  refine wq_seq ?_
  refine wc_seq ?_
  refine wc_region (l := [0, 1, 2, 3, 4, 5, 6, 7]) rfl ?_
  refine wo_seg Θ_ok [0] [(6, (.int .i64 y24.1)), (25, (bp b3))] rfl ⟨rfl, rfl, trivial⟩ ?_
  refine wo_load Θ_ok rfl rfl rfl rfl rfl rfl rfl hb3 [v0_1] rfl rfl (.inr rfl) v0_1 rfl ?_
  refine wo_seg Θ_ok [2] [(26, v0_1), (27, (.int .i64 y24.1))] rfl ⟨rfl, rfl, trivial⟩ ?_
  obtain ⟨y33, hz34, h⟩ := bind_some h
  refine wo_index Θ_ok rfl rfl rfl rfl rfl rfl rfl rfl rfl rfl h0_1 rfl (idx_some hz34).1 (idx_some hz34).2 (fun p31 h32 => ?_)
  obtain ⟨ad35, rfl⟩ := ptr_form h32
  have h36 := ptr_sub (S := (Ty.int .u64)) (off := 1) (y := y33.fPid) h32 (fun cs hr => by obtain rfl := tGName_rep hr; exact rfl)
  refine wo_seg Θ_ok [4] [(29, (.pointer (some (ad35.add 1))))] rfl ⟨rfl, trivial⟩ ?_
  refine wo_loadp Θ_ok rfl rfl rfl rfl rfl rfl rfl h36 rfl rfl (fun v37 h38 => ?_)
  obtain rfl := int_is.1 h38
  refine wo_seg Θ_ok [6, 7] [(4, (.int .u64 y33.fPid)), (5, (.int .i64 0))] rfl ⟨rfl, rfl, trivial⟩ ?_
  refine wo_nil ?_
  refine wq_seq ?_
  refine wc_ret ?_
  cases h
  exact wq_ret rfl ⟨_, rfl, ⟨_, _, rfl, (int_is.2 rfl), (int_is.2 rfl)⟩, hF⟩
set_option maxRecDepth 100000 in
abbrev TR : Ty (Int × Value) := rawT .u64
abbrev TW : Ty Int := Ty.int .u64
theorem TW_flat : TW.Flat := fun h => h
/-- a box as a pair -/
def bx (z : GBox) : Int × List Int := (z.fPid, z.fWords)
structure HandF (B : Nat) (O : List Nat) (w : World) (b : Nat) (nv rv : Value) (S : List Nat) (raws : List (Int × Value)) (x : GIpc) : Prop where
  mem : b ∈ O
  ge : B ≤ b
  blk : Blk w b 68 [nv, rv]
  ns : Go.Dc.Own tGName 31 B O w nv x.fNames
  row : Go.Dc.Own TR 61 B O w rv raws
  fo : Forest TW 29 B w S raws (x.fBoxes.map bx)
  nd : S.Nodup
  out : ∀ g ∈ S, g ∉ O
  nb : nv.ownBlock ≠ some b
  rb : rv.ownBlock ≠ some b
  dj : Dj nv rv
def HandX (B : Nat) (O : List Nat) (w : World) (b : Nat) (x : GIpc) : Prop := ∃ nv rv S raws, HandF B O w b nv rv S raws x
/-- what lies below B is as it was -/
structure Stp (B : Nat) (O : List Nat) (w : World) (O' : List Nat) (w' : World) : Prop where
  tr : Tr O w O' w'
  ob : OB O' w'
  sub : Sub O O'
  below : ∀ k, k < B → w'.heap[k]? = w.heap[k]?
theorem Stp.refl {B : Nat} {O : List Nat} {w : World} (h : OB O w) : Stp B O w O w := ⟨Tr.refl _ _, h, Sub.refl _, fun _ _ => rfl⟩
theorem Stp.trans {B : Nat} {O O' O'' : List Nat} {w w' w'' : World} (h : Stp B O w O' w') (k : Stp B O' w' O'' w'') : Stp B O w O'' w'' :=
  ⟨h.tr.trans k.tr, k.ob, h.sub.trans k.sub, fun i hi => (k.below i hi).trans (h.below i hi)⟩
theorem Stp.fr {O O' : List Nat} {w w' : World} (h : Stp w.heap.size O w O' w') : Fr [] w w' := ⟨h.tr.os, h.tr.tape, h.tr.output, h.tr.size, fun k hk _ => h.below k hk⟩
theorem Stp.fr_from {B : Nat} {O O' : List Nat} {w0 w w' : World} (h : Stp B O w O' w') (hF : Fr [] w0 w) (hB : w0.heap.size = B) : Fr [] w0 w' := by
  subst hB
  exact ⟨h.tr.os.trans hF.os, h.tr.tape.trans hF.tape, h.tr.output.trans hF.output, Nat.le_trans hF.size h.tr.size, fun k hk _ => (h.below k hk).trans (hF.block k hk (by simp))⟩
theorem Stp.of_fr {B : Nat} {O : List Nat} {w w' : World} (hO : OB O w) (hB : B ≤ w.heap.size) (h : Fr [] w w') : Stp B O w O w' :=
  ⟨h.tr0, h.ob hO, Sub.refl _, fun k hk => h.block k (Nat.lt_of_lt_of_le hk hB) (by simp)⟩
theorem Stp.of_new {B : Nat} {O : List Nat} {w w' : World} {b t : Nat} {cs : List Value} (hB : B ≤ w.heap.size) (h : New O w b t cs w') : Stp B O w (b :: O) w' :=
  ⟨h.tr, h.ob, Sub.cons (Sub.refl _) _, fun k hk => h.fr.block k (Nat.lt_of_lt_of_le hk hB) (by simp)⟩
theorem Stp.of_ap {α : Type} {T : Ty α} {e B : Nat} {O O' : List Nat} {w w' : World} {v v' : Value} {xs zs : List α} (hB : B ≤ w.heap.size) (ho : Go.Dc.Own T e B O w v xs) (h : Appended T e B O w v zs O' w' v') : Stp B O w O' w' :=
  ⟨h.tr, h.ob, h.sub, fun k hk => h.fr k (Nat.lt_of_lt_of_le hk hB) fun e => by have := (ho.lt k e).1; omega⟩
theorem Stp.of_store {B b : Nat} {O : List Nat} {w w' : World} (hO : OB O w) (hb : b ∈ O) (hB : B ≤ b) (h : Fr [b] w w') : Stp B O w O w' :=
  ⟨h.tr (one_in hb), h.ob hO, Sub.refl _, fun k hk => h.block k (by have := hO b hb; omega) (by simp; omega)⟩
theorem Stp.of_fown {α : Type} {T : Ty α} {e B : Nat} {O : List Nat} {w w' : World} {v : Value} {xs : List α} (hO : OB O w) (hB : B ≤ w.heap.size) (hv : FOwn T e w.heap.size w' v xs) (h : Fr [] w w') : Stp B O w (v.ownBlock.toList ++ O) w' :=
  ⟨⟨h.os, h.tape, h.output, h.size, fun k hk ho => ⟨fun hm => by
      rcases List.mem_append.1 hm with hm | hm
      · have := (hv.lt k (by simpa using hm)).1; omega
      · exact ho hm, h.block k hk (by simp)⟩⟩, fun k hk => by
      rcases List.mem_append.1 hk with hk | hk
      · exact (hv.lt k (by simpa using hk)).2
      · exact Nat.lt_of_lt_of_le (hO k hk) h.size, fun k hk => List.mem_append_right _ hk, fun k hk => h.block k (Nat.lt_of_lt_of_le hk hB) (by simp)⟩
section
variable {B : Nat} {O O' : List Nat} {w w' w'' : World} {b : Nat} {nv rv : Value} {S : List Nat} {raws : List (Int × Value)} {x : GIpc}
theorem HandF.fr0 (h : HandF B O w b nv rv S raws x) (hf : Fr [] w w') : HandF B O w' b nv rv S raws x :=
  ⟨h.mem, h.ge, h.blk.fr0 hf, h.ns.fr0 hf, h.row.fr0 hf, h.fo.fr0 TW_flat hf, h.nd, h.out, h.nb, h.rb, h.dj⟩
theorem HandF.new (h : HandF B O w b nv rv S raws x) {b' t : Nat} {cs : List Value} (hn : New O w b' t cs w') : HandF B (b' :: O) w' b nv rv S raws x :=
  ⟨List.mem_cons_of_mem _ h.mem, h.ge, h.blk.fr0 hn.fr, h.ns.new hn, h.row.new hn, h.fo.fr0 TW_flat hn.fr, h.nd, fun g hg hm => by
    rcases List.mem_cons.1 hm with rfl | hm
    · have := (h.fo.lt g hg).2; have := hn.ge; omega
    · exact h.out g hg hm, h.nb, h.rb, h.dj⟩
theorem HandF.st (h : HandF B O w b nv rv S raws x) {b' : Nat} (hb : b' ∈ O) (hf : Fr [b'] w w') (h1 : b' ≠ b) (h2 : nv.ownBlock ≠ some b') (h3 : rv.ownBlock ≠ some b') : HandF B O w' b nv rv S raws x :=
  ⟨h.mem, h.ge, h.blk.fr hf (by simp; exact fun e => h1 e.symm), h.ns.st hf hb h2, h.row.st hf hb h3, h.fo.keep TW_flat fun g hg => hf.block g (h.fo.lt g hg).2 (by simp; rintro rfl; exact h.out _ hg hb), h.nd, h.out, h.nb, h.rb, h.dj⟩
theorem Appended.later {α : Type} {T : Ty α} {e B : Nat} {O O' : List Nat} {w w2 w3 : World} {v v' : Value} {zs : List α} (ap : Appended T e B O w v zs O' w2 v') (f : Fr [] w2 w3) : Appended T e B O w v zs O' w3 v' :=
  ⟨ap.own.fr0 f, ap.tr.trans f.tr0, f.ob ap.ob, ap.sub, fun k hk hne => (f.block k (Nat.lt_of_lt_of_le hk ap.tr.size) (by simp)).trans (ap.fr k hk hne), ap.ne⟩
/-- its row of boxes anew -/
theorem HandF.boxes (h : HandF B O w b nv rv S raws x) {rv' : Value} {S' : List Nat} {raws' : List (Int × Value)} {x' : GIpc} (ap : Appended TR 61 B O w rv raws' O' w' rv') (hb : Blk w'' b 68 [nv, rv']) (hf : Fr [b] w' w'')
    (hfo : Forest TW 29 B w S' raws' (x'.fBoxes.map bx)) (hnd : S'.Nodup) (hout : ∀ g ∈ S', g ∉ O) (hn : x'.fNames = x.fNames) : HandF B O' w'' b nv rv' S' raws' x' := by
  have hm := ap.sub _ h.mem
  have hrv' := ap.ne _ h.blk.lt h.rb
  have hns := ap.other h.ns fun g hg => h.dj g hg
  refine ⟨hm, h.ge, hb, by rw [hn]; exact hns.st hf hm h.nb, ap.own.st hf hm hrv', ?_, hnd, fun g hg => (ap.tr.keep g (hfo.lt g hg).2 (hout g hg)).1, h.nb, hrv', fun g hg => ap.ne _ (h.ns.lt g hg).2 (h.dj g hg)⟩
  refine hfo.keep TW_flat fun g hg => ?_
  have h1 := (ap.tr.keep g (hfo.lt g hg).2 (hout g hg)).2
  rw [hf.block g (Nat.lt_of_lt_of_le (hfo.lt g hg).2 ap.tr.size) (by simp; rintro rfl; exact hout _ hg h.mem), h1]
/-- its row of names anew -/
theorem HandF.names (h : HandF B O w b nv rv S raws x) {nv' : Value} {zs : List GName} {x' : GIpc} (ap : Appended tGName 31 B O w nv zs O' w' nv') (hb : Blk w'' b 68 [nv', rv]) (hf : Fr [b] w' w'')
    (hn : x'.fNames = zs) (hx : x'.fBoxes = x.fBoxes) : HandF B O' w'' b nv' rv S raws x' := by
  have hm := ap.sub _ h.mem
  have hnv' := ap.ne _ h.blk.lt h.nb
  have hrow := ap.other h.row fun g hg e => h.dj g e hg
  refine ⟨hm, h.ge, hb, by rw [hn]; exact ap.own.st hf hm hnv', hrow.st hf hm h.rb, ?_, h.nd, fun g hg => (ap.tr.keep g (h.fo.lt g hg).2 (h.out g hg)).1, hnv', h.rb, fun g hg hr => ap.ne _ (h.row.lt g hr).2 (fun e => h.dj g e hr) hg⟩
  rw [hx]
  refine h.fo.keep TW_flat fun g hg => ?_
  have h1 := (ap.tr.keep g (h.fo.lt g hg).2 (h.out g hg)).2
  rw [hf.block g (Nat.lt_of_lt_of_le (h.fo.lt g hg).2 ap.tr.size) (by simp; rintro rfl; exact h.out _ hg h.mem), h1]
end
def OwnH (O : List Nat) (w : World) (r : GIpc × Int) (en : Ending) (w' : World) : Prop :=
  ∃ pv O', en = .returned (.tuple #[pv, .int .i64 r.2]) ∧ Stp w.heap.size O w O' w' ∧ (r.2 = 0 → ∃ b, pv = .pointer (some ⟨b, 0, none⟩) ∧ HandX w.heap.size O' w' b r.1)
theorem app_raw {raws : List (Int × Value)} {acc acc' : List GBox} {z : GBox} {p : Int × Value} (hl : raws.length = acc.length) (h : app 32 acc [z] = some acc') : app 32 raws [p] = some (raws ++ [p]) ∧ acc' = acc ++ [z] := by
  obtain ⟨h1, h2⟩ := app_some h
  refine ⟨?_, h2⟩
  unfold app
  rw [if_pos (by rw [hl]; exact h1)]
def SP.agw (p : Int) (B : Nat) (ws : List Int) : SP := ⟨fun w u => ∃ v, u = .agg #[.int .u64 p, v] ∧ FOwn TW 29 B w v ws, fun hf ⟨v, h, k⟩ => ⟨v, h, k.fr0 TW_flat hf⟩⟩
def SP.agr (p : Int) (B : Nat) (O : List Nat) (ws : List Int) : SP := ⟨fun w u => ∃ v, TR.slice.is O w u [(p, v)] ∧ FOwn TW 29 B w v ws, fun hf ⟨v, h, k⟩ => ⟨v, h.tr hf.tr0, k.fr0 TW_flat hf⟩⟩
theorem fown_out {O : List Nat} {w1 w : World} {v : Value} {ws : List Int} (h : FOwn TW 29 w1.heap.size w v ws) (hO : OB O w1) : ∀ g, v.ownBlock = some g → g ∉ O := fun g hg hm => by
  have := (h.lt g hg).1; have := hO g hm; omega
set_option maxRecDepth 100000 in
set_option maxHeartbeats 4000000 in
theorem i_own_h {O : List Nat} {w : World} (hO : OB O w) {fuel : Nat} {v0 : Value} {x0 : GIpc} (h0 : tGIpc.is [] w v0 x0) {r : GIpc × Int} (h : i_own fuel x0 = some r) : Calls Try.prog 33 #[v0] w (OwnH O w r) := by
  obtain ⟨v0_1, v0_2, rfl, h0_1, h0_2⟩ := tGIpc_is.1 h0
  have hS0 : Stp w.heap.size O w O w := Stp.refl hO
  refine calls_of (args := [(.agg #[v0_1, v0_2])]) (N := 45) Try.func33 rfl rfl rfl ?_
  unfold i_own at h
  refine wc_seq ?_
  refine wc_region (l := [0, 1, 2]) rfl ?_
  refine wo_box rfl rfl rfl rfl rfl rfl [v0_1, v0_2] rfl hO (fun b1 w1 n1 => ?_)
  have hb1 := n1.blk
  have hS1 := hS0.trans (Stp.of_new hS0.tr.size n1)
  refine wo_seg Θ_ok [1, 2] [(1, (.pointer (some ⟨b1, 0, none⟩)))] rfl ⟨rfl, trivial⟩ ?_
  refine wo_nil ?_
  refine wq_seq ?_
  refine wc_seq ?_
  refine wc_seq ?_
  refine wc_region (l := [0, 1, 2]) rfl ?_
  refine wo_load Θ_ok rfl rfl rfl rfl rfl rfl rfl hb1 [v0_1, v0_2] rfl rfl (.inl rfl) (.agg #[v0_1, v0_2]) rfl ?_
  obtain ⟨e, he, h⟩ := bind_some h
  refine wo_gives rfl rfl rfl rfl rfl ent16 rfl (i_Check_c (ob_nil _) (h0.tr hS1.fr.tr0) he) (fun v2 w2 g2 f2 => ?_)
  obtain rfl := int_is.1 g2
  have hS2 := hS1.trans (Stp.of_fr hS1.ob hS1.tr.size f2)
  have hb1 := hb1.fr0 f2
  refine wo_seg Θ_ok [2] [(1, (.pointer (some ⟨b1, 0, none⟩))), (4, .int .i64 e)] rfl ⟨rfl, rfl, trivial⟩ ?_
  refine wo_nil ?_
  refine wq_seq ?_
  refine wc_seq ?_
  refine wc_region (l := [0, 1]) rfl ?_
  refine wo_seg Θ_ok [0, 1] [(1, (.pointer (some ⟨b1, 0, none⟩))), (4, .int .i64 e), (11, .bool (!(e == 0)))] rfl ⟨rfl, rfl, rfl, trivial⟩ ?_
  refine wo_nil ?_
  refine wq_seq ?_
  rcases bif_some h with ⟨hc, h⟩ | ⟨hc, h⟩
  · refine wc_known_true rfl hc ?_
    refine wc_seq ?_
    refine wc_region (l := [0, 1, 2]) rfl ?_
    refine wo_seg Θ_ok [0, 1, 2] [(2, (.pointer none)), (3, .int .i64 e)] rfl ⟨rfl, rfl, trivial⟩ ?_
    refine wo_nil ?_
    refine wq_seq ?_
    refine wc_ret ?_
    cases h
    exact wq_then_ret (wq_ret rfl ⟨_, _, rfl, hS2, fun h0 => by simp at hc; exact absurd h0 hc⟩)
  refine wc_known_false rfl hc ?_
  refine wc_skip ?_
  refine wq_seq ?_
  refine wc_seq ?_
  refine wc_region (l := [0, 1, 2, 3, 4, 5, 6]) rfl ?_
  refine wo_seg Θ_ok [0] [(1, (.pointer (some ⟨b1, 0, none⟩))), (13, (.pointer (some ⟨b1, 0, none⟩)))] rfl ⟨rfl, rfl, trivial⟩ ?_
  refine wo_load Θ_ok rfl rfl rfl rfl rfl rfl rfl hb1 [v0_1] rfl rfl (.inr rfl) v0_1 rfl ?_
  obtain ⟨ns, hns, h⟩ := bind_some h
  refine wo_call rfl rfl rfl rfl rfl ent31 rfl (s_CloneN_f (ob_nil _) (Nat.le_refl _) (h0_1.tr hS2.fr.tr0) hns) (fun _ w3 hg => ?_)
  obtain ⟨nv, rfl, hnv, f3⟩ := gives_fown rfl hg
  refine ⟨_, rfl, ?_⟩
  have hS3 := hS2.trans (Stp.of_fown hS2.ob hS2.tr.size hnv f3)
  have hnv := hnv.less hS2.tr.size
  obtain ⟨A3, c3, rfl, hlc3, hmc3⟩ := hnv.form
  refine wo_seg Θ_ok [3, 4] [(1, (.pointer (some ⟨b1, 0, none⟩))), (17, .agg #[(.slice A3 ns.length c3), .slice none 0 0])] rfl ⟨rfl, rfl, trivial⟩ ?_
  have hb1 := hb1.fr0 f3
  refine wo_box rfl rfl rfl rfl rfl rfl [(.slice A3 ns.length c3), .slice none 0 0] rfl hS3.ob (fun b w4 n4 => ?_)
  generalize hnvv : (Value.slice A3 ns.length c3) = nv at *
  have hH : HandF w.heap.size (b :: (nv.ownBlock.toList ++ (b1 :: O))) w4 b nv (.slice none 0 0) [] [] (GIpc.mk ns []) :=
    ⟨List.mem_cons_self, Nat.le_trans hS3.tr.size n4.ge, n4.blk, (hnv.own (fun h => h) fun g hg => List.mem_append_left _ (by rw [hg]; simp)).new n4, Own.nil_, rfl, List.nodup_nil, fun g hg => (by cases hg), fun e => by
      have := (hnv.lt b e).2; have := n4.ge; omega, (nil_ne _), (dj_nil' _)⟩
  have hS4 := hS3.trans (Stp.of_new hS3.tr.size n4)
  have hb1 := hb1.fr0 n4.fr
  refine wo_seg Θ_ok [6] [(1, (.pointer (some ⟨b1, 0, none⟩))), (5, (.pointer (some ⟨b, 0, none⟩)))] rfl ⟨rfl, rfl, trivial⟩ ?_
  refine wo_nil ?_
  refine wq_seq ?_
  refine wc_seq ?_
  refine wc_seq ?_
  refine wc_region (l := [0, 1, 2, 3]) rfl ?_
  refine wo_seg Θ_ok [0] [(5, (.pointer (some ⟨b, 0, none⟩))), (19, (.pointer (some ⟨b1, 1, none⟩)))] rfl ⟨rfl, rfl, trivial⟩ ?_
  refine wo_load Θ_ok rfl rfl rfl rfl rfl rfl rfl hb1 [v0_2] rfl rfl (.inr rfl) v0_2 rfl ?_
  obtain ⟨A5, c5, rfl, hlc5, hmc5⟩ := slice_form h0_2
  refine wo_seg Θ_ok [2, 3] [(5, (.pointer (some ⟨b, 0, none⟩))), (20, .slice A5 x0.fBoxes.length c5), (21, .int .i64 (x0.fBoxes.length : Int)), (22, .int .i64 ((0 : Nat) : Int))] rfl ⟨rfl, rfl, rfl, rfl, trivial⟩ ?_
  refine wo_nil ?_
  refine wq_seq ?_
  obtain ⟨bs, hbs, h⟩ := bind_some h
  refine wc_block ?_
  refine wc_loop (fun m E W => ∃ (rest : List GBox) (i : Nat) (O' : List Nat) (acc : List GBox) (rv : Value) (S : List Nat) (raws : List (Int × Value)), rest.length = m ∧ x0.fBoxes.drop i = rest ∧ E = [(5, (.pointer (some ⟨b, 0, none⟩))), (20, .slice A5 x0.fBoxes.length c5), (21, .int .i64 (x0.fBoxes.length : Int)), (22, .int .i64 (i : Int))] ∧ Stp w.heap.size O w O' W ∧ HandF w.heap.size O' W b nv rv S raws (GIpc.mk ns acc) ∧ i_ownL rest acc = some bs) _
    [(5, (.pointer (some ⟨b, 0, none⟩))), (20, .slice A5 x0.fBoxes.length c5), (21, .int .i64 (x0.fBoxes.length : Int)), (22, .int .i64 ((0 : Nat) : Int))] ⟨rfl, rfl, rfl, rfl, trivial⟩ ⟨x0.fBoxes, 0, _, [], _, [], [], rfl, rfl, rfl, hS4, hH, hbs⟩ ?_
  rintro m E W ⟨rest, i, O5, acc, rv, S, raws, rfl, hd5, rfl, hS5, hH, hbs⟩
  rcases rest with _ | ⟨z, rest⟩
  · have hl := drop_nil hd5
    have hc : (decide ((i : Int) < (x0.fBoxes.length : Int))) = false := decide_eq_false (by omega)
    refine wc_seq ?_
    refine wc_region (l := [0]) rfl ?_
    refine wo_seg Θ_ok [0] [(5, (.pointer (some ⟨b, 0, none⟩))), (23, .bool (decide ((i : Int) < (x0.fBoxes.length : Int))))] rfl ⟨rfl, rfl, trivial⟩ ?_
    refine wo_nil ?_
    refine wq_seq ?_
    refine wc_seq ?_
    refine wc_known_false rfl hc ?_
    refine wc_exit ?_
    refine wq_then_exit (wq_then_exit (wq_block_exit (wq_seq ?_)))
    refine wc_seq ?_
    refine wc_region (l := [0, 1, 2]) rfl ?_
    refine wo_seg Θ_ok [0, 1, 2] [(2, (.pointer (some ⟨b, 0, none⟩))), (3, .int .i64 0)] rfl ⟨rfl, rfl, trivial⟩ ?_
    refine wo_nil ?_
    refine wq_seq ?_
    refine wc_ret ?_
    cases hbs
    cases h
    exact wq_ret rfl ⟨_, _, rfl, hS5, fun _ => ⟨b, rfl, _, _, _, _, hH⟩⟩
  obtain ⟨hl, hg, hd5⟩ := drop_cons hd5
  have hc : (decide ((i : Int) < (x0.fBoxes.length : Int))) = true := decide_eq_true (by omega)
  refine wc_seq ?_
  refine wc_region (l := [0]) rfl ?_
  refine wo_seg Θ_ok [0] [(5, (.pointer (some ⟨b, 0, none⟩))), (20, .slice A5 x0.fBoxes.length c5), (21, .int .i64 (x0.fBoxes.length : Int)), (22, .int .i64 (i : Int)), (23, .bool (decide ((i : Int) < (x0.fBoxes.length : Int))))] rfl ⟨rfl, rfl, rfl, rfl, rfl, trivial⟩ ?_
  refine wo_nil ?_
  refine wq_seq ?_
  refine wc_seq ?_
  refine wc_known_true rfl hc ?_
  refine wc_skip ?_
  refine wq_seq ?_
  refine wc_seq ?_
  refine wc_block ?_
  refine wc_seq ?_
  refine wc_region (l := [0, 1, 2, 3]) rfl ?_
  refine wo_index Θ_ok rfl rfl rfl rfl rfl rfl rfl rfl rfl rfl h0_2 rfl (Int.natCast_nonneg _) (by rw [Int.toNat_natCast]; exact hg) (fun p6 hp6 => ?_)
  refine wo_loadpA Θ_ok rfl rfl rfl rfl rfl rfl rfl hp6 hS5.fr rfl rfl (fun v6 hv6 => ?_)
  obtain ⟨vw, rfl, hvw⟩ := tGBox_is.1 hv6
  obtain ⟨Aw, cw, rfl, hlcw, hmcw⟩ := slice_form hvw
  refine wo_alloc Θ_ok rfl rfl rfl rfl rfl rfl [(.int .u64 0), (.slice none 0 0)] rfl hS5.ob (fun b7 w7 n7 => ?_)
  have hH7 := hH.new n7
  have hS7 := hS5.trans (Stp.of_new hS5.tr.size n7)
  have nb7 : b7 ≠ b := by have := hH.blk.lt; have := n7.ge; omega
  have hq7 := hH.ns.ne_new n7
  have hr7 := hH.row.ne_new n7
  refine wo_store Θ_ok rfl rfl rfl rfl rfl rfl rfl n7.blk [(.int .u64 z.fPid), (.slice Aw z.fWords.length cw)] rfl rfl (by simp [Value.oneCell']) rfl [(.int .u64 z.fPid), (.slice Aw z.fWords.length cw)] rfl (fun w8 hb7 f8 => ?_)
  have hH8 := hH7.st List.mem_cons_self f8 nb7 hq7 hr7
  have hS8 := hS7.trans (Stp.of_store hS7.ob List.mem_cons_self (Nat.le_trans hS5.tr.size n7.ge) f8)
  clear hH7 hS7
  refine wo_nil ?_
  refine wq_seq ?_
  rw [i_ownL] at hbs
  obtain ⟨ws, hws, hbs⟩ := bind_some hbs
  obtain ⟨acc', hacc', hbs⟩ := bind_some hbs
  obtain ⟨Ar, cr, rfl, hlcr, hmcr⟩ := hH8.row.form
  have hO8 := hS8.ob
  have hlen : raws.length = acc.length := by have := hH8.fo.len; simpa using this
  refine wc_drawK mixed [⟨26, [], [5]⟩, ⟨27, [], [5]⟩, ⟨28, [1], []⟩, ⟨29, [2], []⟩, ⟨30, [3], []⟩, ⟨31, [4], []⟩, ⟨32, [], [7]⟩, ⟨33, [6], []⟩, ⟨34, [], [7]⟩, ⟨35, [8], []⟩, ⟨36, [9], []⟩, ⟨37, [7, 10], []⟩, ⟨38, [11], []⟩]
    [SP.eq (.pointer (some ⟨b, 0, none⟩)), SP.eq (.pointer (some ⟨b, 0, none⟩)), SP.eq (.pointer (some ⟨b, 0, none⟩)), SP.eq (.pointer (some ⟨b, 0, none⟩)), SP.eq (.pointer (some ⟨b, 1, none⟩)), SP.eq (.slice Ar raws.length cr), SP.eq (.pointer (some ⟨b7, 0, none⟩)), SP.eq (.int .u64 z.fPid), SP.eq (.pointer (some ⟨b7, 1, none⟩)), SP.eq (.slice Aw z.fWords.length cw), SP.fown TW TW_flat 29 w8.heap.size ws, SP.agw z.fPid w8.heap.size ws, SP.agr z.fPid w8.heap.size (b7 :: O5) ws] [some (.pointer (some ⟨b, 0, none⟩)), none, none, none, none, none, none, none, none, none, none, none, none] 39 [5, 12] [1, 2, 3, 4, 5, 6, 7, 8, 9, 10, 11, 12] (fun w1 w2 u => ∃ vn O', FOwn TW 29 w8.heap.size w1 vn ws ∧ Appended TR 61 w.heap.size (b7 :: O5) w1 (.slice Ar raws.length cr) (raws ++ [(z.fPid, vn)]) O' w2 u) rfl rfl rfl rfl rfl rfl ⟨fun _ _ h => h, trivial⟩ ⟨?_, ?_, ?_, ?_, ?_, ?_, ?_, ?_, ?_, ?_, ?_, ?_, ?_, trivial⟩ ?_ ⟨?_, rfl, rfl, rfl, rfl, rfl, rfl, rfl, rfl, rfl, rfl, rfl, rfl, trivial⟩ ?_
  · intro a w2 hfr hN hds hb hd
    exact op_plain Θ_ok ⟨hN, hds, rows_get (E := [(5, (.pointer (some ⟨b, 0, none⟩)))]) ⟨hb 5 rfl _ rfl, trivial⟩⟩ rfl rfl rfl rfl rfl
  · intro a w2 hfr hN hds hb hd
    exact op_plain Θ_ok ⟨hN, hds, rows_get (E := [(5, (.pointer (some ⟨b, 0, none⟩)))]) ⟨hb 5 rfl _ rfl, trivial⟩⟩ rfl rfl rfl rfl rfl
  · intro a w2 hfr hN hds hb hd
    exact op_plain Θ_ok ⟨hN, hds, rows_get (E := [(27, (.pointer (some ⟨b, 0, none⟩)))]) ⟨(hd 1 rfl _ _ rfl rfl), trivial⟩⟩ rfl rfl rfl rfl rfl
  · intro a w2 hfr hN hds hb hd
    exact op_plain Θ_ok ⟨hN, hds, rows_get (E := [(28, (.pointer (some ⟨b, 0, none⟩)))]) ⟨(hd 2 rfl _ _ rfl rfl), trivial⟩⟩ rfl rfl rfl rfl rfl
  · intro a w2 hfr hN hds hb hd
    exact op_plain Θ_ok ⟨hN, hds, rows_get (E := [(29, (.pointer (some ⟨b, 0, none⟩)))]) ⟨(hd 3 rfl _ _ rfl rfl), trivial⟩⟩ rfl rfl rfl rfl rfl
  · intro a w2 hfr hN hds hb hd
    exact op_load Θ_ok ⟨hN, hds, rows_get (E := [(30, (.pointer (some ⟨b, 1, none⟩)))]) ⟨(hd 4 rfl _ _ rfl rfl), trivial⟩⟩ rfl rfl rfl rfl rfl rfl (hH8.blk.fr0 hfr) [(.slice Ar raws.length cr)] rfl rfl (.inr rfl) (.slice Ar raws.length cr) rfl
  · intro a w2 hfr hN hds hb hd
    exact op_plain Θ_ok ⟨hN, hds, rows_get (E := [(7, (.pointer (some ⟨b7, 0, none⟩)))]) ⟨hb 7 rfl _ rfl, trivial⟩⟩ rfl rfl rfl rfl rfl
  · intro a w2 hfr hN hds hb hd
    exact op_load Θ_ok ⟨hN, hds, rows_get (E := [(32, (.pointer (some ⟨b7, 0, none⟩)))]) ⟨(hd 6 rfl _ _ rfl rfl), trivial⟩⟩ rfl rfl rfl rfl rfl rfl (hb7.fr0 hfr) [(.int .u64 z.fPid)] rfl rfl (.inr rfl) (.int .u64 z.fPid) rfl
  · intro a w2 hfr hN hds hb hd
    exact op_plain Θ_ok ⟨hN, hds, rows_get (E := [(7, (.pointer (some ⟨b7, 0, none⟩)))]) ⟨hb 7 rfl _ rfl, trivial⟩⟩ rfl rfl rfl rfl rfl
  · intro a w2 hfr hN hds hb hd
    exact op_load Θ_ok ⟨hN, hds, rows_get (E := [(34, (.pointer (some ⟨b7, 1, none⟩)))]) ⟨(hd 8 rfl _ _ rfl rfl), trivial⟩⟩ rfl rfl rfl rfl rfl rfl (hb7.fr0 hfr) [(.slice Aw z.fWords.length cw)] rfl rfl (.inr rfl) (.slice Aw z.fWords.length cw) rfl
  · intro a w2 hfr hN hds hb hd
    exact (op_call (O := []) ⟨hN, hds, rows_get (E := [(35, (.slice Aw z.fWords.length cw))]) ⟨(hd 9 rfl _ _ rfl rfl), trivial⟩⟩ rfl rfl rfl rfl ent25 rfl ((s_Clone_f (ob_nil _) (Nat.le_refl _) (hvw.tr (hS8.fr.trans hfr).tr0) hws).mono fun _ _ hh => gives_fown rfl hh)).weaken (fun u w3 ⟨hu, hf⟩ => ⟨hu.less hfr.size, hf⟩)
  · intro a w2 hfr hN hds hb hd
    have d88 : FOwn TW 29 w8.heap.size w2 (a.tmps.getD 36 undef) ws := hd 10 rfl _ _ rfl rfl
    obtain ⟨u, e90⟩ : ∃ v, a.tmps.getD 36 undef = v := ⟨_, rfl⟩
    rw [e90] at d88
    obtain ⟨A92, c93, rfl, _, _⟩ := d88.form
    exact (op_plain Θ_ok ⟨hN, hds, rows_get (E := [(33, (.int .u64 z.fPid)), (36, (.slice A92 ws.length c93))]) ⟨(hd 7 rfl _ _ rfl rfl), e90, trivial⟩⟩ rfl rfl rfl rfl rfl).weaken (fun u w3 ⟨hu, hf⟩ => by subst hu; exact ⟨⟨_, rfl, d88.fr0 TW_flat hf⟩, hf⟩)
  · intro a w2 hfr hN hds hb hd
    have d96 : ∃ v, (a.tmps.getD 37 undef) = .agg #[.int .u64 z.fPid, v] ∧ FOwn TW 29 w8.heap.size w2 v ws := hd 11 rfl _ _ rfl rfl
    obtain ⟨v97, e95, h98⟩ := d96
    obtain ⟨A92, c93, rfl, _, _⟩ := h98.form
    exact (op_lit Θ_ok ⟨hN, hds, rows_get (E := [(37, (.agg #[(.int .u64 z.fPid), (.slice A92 ws.length c93)]))]) ⟨e95, trivial⟩⟩ rfl rfl rfl rfl rfl rfl rfl rfl rfl (T := TR) (xs := [(z.fPid, (.slice A92 ws.length c93))]) (vs := [(.agg #[(.int .u64 z.fPid), (.slice A92 ws.length c93)])]) rfl ⟨⟨_, ⟨rfl, _, _, _, rfl⟩, rfl⟩, trivial⟩ rfl rfl rfl (hfr.ob hO8)).weaken (fun u w3 ⟨hu, hf⟩ => ⟨⟨_, hu, h98.fr0 TW_flat hf⟩, hf⟩)
  · intro a w2 hfr hN hds hd
    obtain ⟨vn, hd38, hvn⟩ : ∃ v, TR.slice.is (b7 :: O5) w2 (a.tmps.getD 38 undef) [(z.fPid, v)] ∧ FOwn TW 29 w8.heap.size w2 v ws := hd 12 rfl _ _ rfl rfl
    obtain ⟨v38, e38⟩ : ∃ v, a.tmps.getD 38 undef = v := ⟨_, rfl⟩
    rw [e38] at hd38
    obtain ⟨happ, _⟩ := app_raw (p := (z.fPid, vn)) hlen hacc'
    exact OpK.weaken (op_app Θ_ok ⟨hN, hds, rows_get (E := [(31, (.slice Ar raws.length cr)), (38, v38)]) ⟨hd 5 rfl _ _ rfl rfl, e38, trivial⟩⟩ rfl rfl rfl rfl rfl rfl rfl rfl rfl rfl rfl rfl rfl rfl rfl (hS8.fr.trans hfr) (hfr.ob hO8) (hH8.row.fr0 hfr) hd38 happ) (fun _ _ ⟨O', h⟩ => ⟨vn, O', hvn, h⟩)
  · rintro w1 w2 u hf1 ⟨vn, O', hvn, ap⟩ a w' hfr hN hds hb
    exact op_plain Θ_ok ⟨hN, hds, rows_get (E := [(5, (.pointer (some ⟨b, 0, none⟩)))]) ⟨hb 5 rfl _ rfl, trivial⟩⟩ rfl rfl rfl rfl rfl
  rintro w9 w10 u a w10' f9 ⟨vn, O10, hvn, ap⟩ f10 hN hds hbs' hkp hu
  have ap := Appended.later ap f10
  have hH9 := hH8.fr0 f9
  have hS9 := hS8.trans (Stp.of_fr hO8 hS8.tr.size f9)
  obtain ⟨happ, rfl⟩ := app_raw (p := (z.fPid, vn)) hlen hacc'
  have hS10 := hS9.trans (Stp.of_ap hS9.tr.size hH9.row ap)
  obtain ⟨A11, c11, rfl, hlc11, hmc11⟩ := ap.own.form
  refine wo_go (E := [(5, (.pointer (some ⟨b, 0, none⟩))), (20, .slice A5 x0.fBoxes.length c5), (21, .int .i64 (x0.fBoxes.length : Int)), (22, .int .i64 (i : Int)), (26, (.pointer (some ⟨b, 0, none⟩))), (39, (.slice A11 (raws ++ [(z.fPid, vn)]).length c11))]) (l := [14, 15, 16, 17]) hN hds ⟨hbs' 5 _ rfl rfl, hbs' 20 _ rfl rfl, hbs' 21 _ rfl rfl, hbs' 22 _ rfl rfl, (hkp 0 _ _ rfl rfl), hu, trivial⟩ rfl ?_
  refine wo_seg Θ_ok [14, 15, 16] [(5, (.pointer (some ⟨b, 0, none⟩))), (20, .slice A5 x0.fBoxes.length c5), (21, .int .i64 (x0.fBoxes.length : Int)), (22, .int .i64 (i : Int)), (39, (.slice A11 (raws ++ [(z.fPid, vn)]).length c11)), (42, (.pointer (some ⟨b, 1, none⟩)))] rfl ⟨rfl, rfl, rfl, rfl, rfl, rfl, trivial⟩ ?_
  have hb10 := ap.blk hH9.blk hH9.rb
  refine wo_store Θ_ok rfl rfl rfl rfl rfl rfl rfl hb10 [(.slice A11 (raws ++ [(z.fPid, vn)]).length c11)] rfl rfl (by simp [Value.oneCell']) rfl [nv, (.slice A11 (raws ++ [(z.fPid, vn)]).length c11)] rfl (fun w11 hb11 f11 => ?_)
  have hS11 := hS10.trans (Stp.of_store hS10.ob (ap.sub _ hH9.mem) hH9.ge f11)
  have hout := fown_out hvn hO8
  have hH11 := hH9.boxes (x' := GIpc.mk ns (acc ++ [GBox.mk z.fPid ws])) (S' := S ++ (vn.ownBlock.toList ++ [])) ap hb11 f11
    (by rw [List.map_append]; exact hH9.fo.app ⟨[], rfl, rfl, hvn.less (Nat.le_trans hS8.tr.size (Nat.le_refl _)), rfl⟩)
    (by
      rw [List.append_nil]
      refine List.nodup_append.2 ⟨hH9.nd, by cases vn.ownBlock <;> simp, fun g hg g' hg' e => ?_⟩
      subst e
      have h1 := (hH8.fo.lt _ hg).2
      have h2 := (hvn.lt g (by simpa using hg')).1
      omega)
    (fun g hg => by
      rcases List.mem_append.1 hg with hg | hg
      · exact hH9.out g hg
      · exact hout g (by simpa using hg)) rfl
  refine wo_nil ?_
  refine wq_block (wq_seq ?_)
  refine wc_region (l := [0, 1]) rfl ?_
  refine wo_seg Θ_ok [0, 1] [(5, (.pointer (some ⟨b, 0, none⟩))), (20, .slice A5 x0.fBoxes.length c5), (21, .int .i64 (x0.fBoxes.length : Int)), (22, (.int .i64 (IntKind.i64.wrap ((i : Int) + (1 : Int)))))] rfl ⟨rfl, rfl, rfl, rfl, trivial⟩ ?_
  refine wo_nil ?_
  exact wq_next rest.length [(5, (.pointer (some ⟨b, 0, none⟩))), (20, .slice A5 x0.fBoxes.length c5), (21, .int .i64 (x0.fBoxes.length : Int)), (22, (.int .i64 ((i + 1 : Nat) : Int)))] (Nat.lt_succ_self _) ⟨rfl, rfl, rfl, congrArg (fun z => some (Value.int .i64 z)) (wrap_succ hl (Nat.le_trans hlc5 hmc5)), trivial⟩ ⟨rest, i + 1, O10, _, _, _, _, rfl, hd5, rfl, hS11, hH11, hbs⟩

set_option maxRecDepth 100000 in
/-- cells of elements of two cells -/
def pc (L : List (Value × Value)) : List Value := L.flatMap fun p => [p.1, p.2]
theorem pc_len : ∀ (L : List (Value × Value)), (pc L).length = L.length * 2
  | [] => rfl
  | _ :: r => by have := pc_len r; unfold pc at this ⊢; simp [this]; omega
theorem pc_app (L M : List (Value × Value)) : pc (L ++ M) = pc L ++ pc M := by simp [pc]
theorem pc_take : ∀ (L : List (Value × Value)) (k : Nat), (pc L).take (k * 2) = pc (L.take k)
  | [], k => by simp [pc]
  | x :: r, 0 => by simp [pc]
  | x :: r, k + 1 => by
    have := pc_take r k
    show ([x.1, x.2] ++ pc r).take ((k + 1) * 2) = [x.1, x.2] ++ pc (r.take k)
    rw [show (k + 1) * 2 = 2 + k * 2 by omega, List.take_append, ← this, List.take_of_length_le (by simp)]
    simp
theorem pc_drop : ∀ (L : List (Value × Value)) (k : Nat), (pc L).drop (k * 2) = pc (L.drop k)
  | [], k => by simp [pc]
  | x :: r, 0 => by simp
  | x :: r, k + 1 => by
    have := pc_drop r k
    show ([x.1, x.2] ++ pc r).drop ((k + 1) * 2) = pc (r.drop k)
    rw [show (k + 1) * 2 = 2 + k * 2 by omega, List.drop_append, ← this]
    simp
theorem pc_at {L : List (Value × Value)} {R : List Value} {k : Nat} {x : Value × Value} (h : L[k]? = some x) : ((pc L ++ R).drop (k * 2)).take 2 = [x.1, x.2] := by
  have hk := (List.getElem?_eq_some_iff.1 h).1
  rw [List.drop_append_of_le_length (by rw [pc_len]; omega), pc_drop, List.drop_eq_getElem_cons hk, (List.getElem?_eq_some_iff.1 h).2]
  rfl
theorem pc_set {L : List (Value × Value)} {R : List Value} {k : Nat} {x : Value × Value} (hk : k < L.length) : putAt (pc L ++ R) (k * 2) [x.1, x.2] = pc (L.set k x) ++ R := by
  unfold putAt
  have e : L.set k x = L.take k ++ [x] ++ L.drop (k + 1) := by
    rw [List.set_eq_take_append_cons_drop, if_pos hk]; simp
  rw [e, pc_app, pc_app, List.take_append_of_le_length (by rw [pc_len]; omega), pc_take, List.drop_append_of_le_length (by rw [pc_len]; simp; omega)]
  rw [show k * 2 + [x.1, x.2].length = (k + 1) * 2 by simp; omega, pc_drop]
  simp [pc]
def rp (r : Int × Value) : Value × Value := (.int .u64 r.1, r.2)
def rc (raws : List (Int × Value)) : List Value := pc (raws.map rp)
theorem rc_at {L : List (Int × Value)} {R : List Value} {k : Nat} {x : Int × Value} (h : L[k]? = some x) : ((rc L ++ R).drop (k * 2)).take 2 = [.int .u64 x.1, x.2] :=
  pc_at (x := rp x) (by simp [h])
theorem rc_set {L : List (Int × Value)} {R : List Value} {k : Nat} {x : Int × Value} (hk : k < L.length) : putAt (rc L ++ R) (k * 2) [.int .u64 x.1, x.2] = rc (L.set k x) ++ R := by
  have := pc_set (L := L.map rp) (R := R) (x := rp x) (k := k) (by simpa using hk)
  rw [show [(rp x).1, (rp x).2] = [.int .u64 x.1, x.2] from rfl] at this
  rw [rc, this, rc]
  simp [List.map_set]
theorem rc_rep {O : List Nat} {w : World} : ∀ {L : List (Int × Value)}, (∀ r ∈ L, ∃ A n c, r.2 = .slice A n c) → RepAll TR O w (rc L) L
  | [], _ => rfl
  | r :: L, h => ⟨[.int .u64 r.1, r.2], rc L, rfl, ⟨rfl, h r List.mem_cons_self⟩, rc_rep fun x hx => h x (List.mem_cons_of_mem _ hx)⟩
theorem rep_rc {O : List Nat} {w : World} : ∀ {L : List (Int × Value)} {cs : List Value}, RepAll TR O w cs L → cs = rc L ∧ ∀ r ∈ L, ∃ A n c, r.2 = .slice A n c
  | [], _, h => ⟨h, by simp⟩
  | r :: L, cs, ⟨c1, c2, h1, h2, h3⟩ => by
    obtain ⟨e, f⟩ := rep_rc h3
    subst h1
    rw [h2.1, e]
    refine ⟨rfl, fun x hx => ?_⟩
    rcases List.mem_cons.1 hx with rfl | hx
    · exact h2.2
    · exact f x hx
/-- does nothing wait? -/
def rlen : Value → Nat
  | .slice _ n _ => n
  | _ => 0
def emp (r : Int × Value) : Bool := rlen r.2 == 0
def fEmp : List (Int × Value) → Nat → Int
  | [], _ => -1
  | r :: rest, k => bif emp r then (k : Int) else fEmp rest (k + 1)
theorem ecast {n : Nat} {A : Option Addr} {c : Nat} {p : Int} : emp (p, .slice A n c) = ((n : Int) == 0) := by
  unfold emp rlen
  cases h : n == 0 <;> simp_all
set_option maxRecDepth 100000 in
set_option maxHeartbeats 4000000 in
theorem i_tidy1_r {O : List Nat} {w : World} (hO : OB O w) {p : Int} {A : Option Addr} {n c : Nat} : Calls Try.prog 58 #[.agg #[.int .u64 p, .slice A n c]] w (Gives (rt1 Ty.bool) O w (emp (p, .slice A n c))) := by
  refine calls_of (args := [.agg #[.int .u64 p, .slice A n c]]) (N := 7) Try.func58 rfl rfl rfl ?_
  refine wc_seq ?_
  refine wc_region (l := [0, 1]) rfl ?_
  refine wo_box rfl rfl rfl rfl rfl rfl [.int .u64 p, .slice A n c] rfl hO (fun b1 w1 n1 => ?_)
  refine wo_seg Θ_ok [1] [(1, (.pointer (some ⟨b1, 0, none⟩)))] rfl ⟨rfl, trivial⟩ ?_
  refine wo_nil ?_
  refine wq_seq ?_
  refine wc_seq ?_
  refine wc_region (l := [0, 1, 2, 3, 4]) rfl ?_
  refine wo_seg Θ_ok [0] [(3, (.pointer (some ⟨b1, 1, none⟩)))] rfl ⟨rfl, trivial⟩ ?_
  refine wo_load Θ_ok rfl rfl rfl rfl rfl rfl rfl n1.blk [.slice A n c] rfl rfl (.inr rfl) (.slice A n c) rfl ?_
  refine wo_seg Θ_ok [2, 3, 4] [(2, .bool ((n : Int) == 0))] rfl ⟨rfl, trivial⟩ ?_
  refine wo_nil ?_
  refine wq_seq ?_
  refine wc_ret ?_
  refine wq_ret rfl ⟨_, rfl, ?_, n1.fr⟩
  exact bool_is.2 (by rw [ecast]; rfl)
set_option maxRecDepth 100000 in
set_option maxHeartbeats 4000000 in
theorem s_IndexB_r {O : List Nat} {w : World} (hO : OB O w) {v : Value} {raws : List (Int × Value)} (hv : TR.slice.is [] w v raws) : Calls Try.prog 66 #[v, .func (.func 58) #[] #[]] w (Gives (rt1 (Ty.int .i64)) O w (fEmp raws 0)) := by
  obtain ⟨A, c, rfl, hlc, hmc⟩ := slice_form hv
  refine calls_of (args := [.slice A raws.length c, .func (.func 58) #[] #[]]) (N := 19) Try.func66 rfl rfl rfl ?_
  refine wc_seq ?_
  refine wc_region (l := [0]) rfl ?_
  refine wo_seg Θ_ok [0] [(0, .slice A raws.length c), (1, .func (.func 58) #[] #[])] rfl ⟨rfl, rfl, trivial⟩ ?_
  refine wo_nil ?_
  refine wq_seq ?_
  refine wc_seq ?_
  refine wc_seq ?_
  refine wc_region (l := [0, 1, 2]) rfl ?_
  refine wo_seg Θ_ok [0, 1, 2] [(0, .slice A raws.length c), (1, .func (.func 58) #[] #[]), (7, .int .i64 (raws.length : Int)), (8, .int .i64 ((0 : Nat) : Int))] rfl ⟨rfl, rfl, rfl, rfl, trivial⟩ ?_
  refine wo_nil ?_
  refine wq_seq ?_
  refine wc_block ?_
  refine wc_loop (fun m E W => ∃ (rest : List (Int × Value)) (i : Nat), rest.length = m ∧ raws.drop i = rest ∧ E = [(0, .slice A raws.length c), (1, .func (.func 58) #[] #[]), (7, .int .i64 (raws.length : Int)), (8, .int .i64 (i : Int))] ∧ Fr [] w W ∧ fEmp rest i = fEmp raws 0) _
    [(0, .slice A raws.length c), (1, .func (.func 58) #[] #[]), (7, .int .i64 (raws.length : Int)), (8, .int .i64 ((0 : Nat) : Int))] ⟨rfl, rfl, rfl, rfl, trivial⟩ ⟨raws, 0, rfl, rfl, rfl, Fr.refl _ _, rfl⟩ ?_
  rintro m E W ⟨rest, i, rfl, hd0, rfl, hF, hf⟩
  rcases rest with _ | ⟨z, rest⟩
  · have hl := drop_nil hd0
    have hc : (decide ((i : Int) < (raws.length : Int))) = false := decide_eq_false (by omega)
    refine wc_seq ?_
    refine wc_region (l := [0]) rfl ?_
    refine wo_seg Θ_ok [0] [(9, .bool (decide ((i : Int) < (raws.length : Int))))] rfl ⟨rfl, trivial⟩ ?_
    refine wo_nil ?_
    refine wq_seq ?_
    refine wc_seq ?_
    refine wc_known_false rfl hc ?_
    refine wc_exit ?_
    refine wq_then_exit (wq_then_exit (wq_block_exit (wq_seq ?_)))
    refine wc_seq ?_
    refine wc_region (l := [0]) rfl ?_
    refine wo_seg Θ_ok [0] [(4, .int .i64 (-1))] rfl ⟨rfl, trivial⟩ ?_
    refine wo_nil ?_
    refine wq_seq ?_
    refine wc_ret ?_
    exact wq_ret rfl ⟨_, rfl, int_is.2 (by rw [← hf]; rfl), hF⟩
  obtain ⟨hl, hg, hd⟩ := drop_cons hd0
  have hc : (decide ((i : Int) < (raws.length : Int))) = true := decide_eq_true (by omega)
  refine wc_seq ?_
  refine wc_region (l := [0]) rfl ?_
  refine wo_seg Θ_ok [0] [(0, .slice A raws.length c), (1, .func (.func 58) #[] #[]), (7, .int .i64 (raws.length : Int)), (8, .int .i64 (i : Int)), (9, .bool (decide ((i : Int) < (raws.length : Int))))] rfl ⟨rfl, rfl, rfl, rfl, rfl, trivial⟩ ?_
  refine wo_nil ?_
  refine wq_seq ?_
  refine wc_seq ?_
  refine wc_known_true rfl hc ?_
  refine wc_skip ?_
  refine wq_seq ?_
  refine wc_seq ?_
  refine wc_block ?_
  refine wc_seq ?_
  refine wc_region (l := [0, 1]) rfl ?_
  refine wo_seg Θ_ok [0, 1] [(0, .slice A raws.length c), (1, .func (.func 58) #[] #[]), (5, .int .i64 (i : Int)), (7, .int .i64 (raws.length : Int)), (8, .int .i64 (i : Int))] rfl ⟨rfl, rfl, rfl, rfl, rfl, trivial⟩ ?_
  refine wo_nil ?_
  refine wq_seq ?_
  refine wc_seq ?_
  refine wc_region (l := [0, 1, 2, 3, 4, 5]) rfl ?_
  refine wo_seg Θ_ok [0, 1, 2] [(0, .slice A raws.length c), (1, .func (.func 58) #[] #[]), (5, .int .i64 (i : Int)), (7, .int .i64 (raws.length : Int)), (8, .int .i64 (i : Int)), (11, .func (.func 58) #[] #[]), (12, .slice A raws.length c), (13, .int .i64 (i : Int))] rfl ⟨rfl, rfl, rfl, rfl, rfl, rfl, rfl, rfl, trivial⟩ ?_
  refine wo_index Θ_ok rfl rfl rfl rfl rfl rfl rfl rfl rfl rfl hv rfl (Int.natCast_nonneg _) (by rw [Int.toNat_natCast]; exact hg) (fun p6 hp6 => ?_)
  refine wo_loadpA Θ_ok rfl rfl rfl rfl rfl rfl rfl hp6 hF rfl rfl (fun v6 hv6 => ?_)
  obtain ⟨cs, ⟨rfl, A2, n2, c2, e2⟩, rfl⟩ := hv6
  obtain ⟨p, q⟩ := z
  simp only at e2
  subst e2
  refine wo_dynk (O := O) (first := []) (cap := []) rfl rfl rfl rfl rfl rfl rfl ent58 (i_tidy1_r (hF.ob hO)) (fun v7 w7 g7 f7 => ?_)
  obtain rfl := bool_is.1 g7
  have hF := hF.trans f7
  rw [fEmp] at hf
  refine wo_nil ?_
  refine wq_seq ?_
  rcases hb : emp (p, .slice A2 n2 c2) with _ | _
  · refine wc_false rfl ?_
    refine wc_skip ?_
    refine wq_block (wq_seq ?_)
    refine wc_region (l := [0, 1]) rfl ?_
    refine wo_seg Θ_ok [0, 1] [(0, .slice A raws.length c), (1, .func (.func 58) #[] #[]), (7, .int .i64 (raws.length : Int)), (8, (.int .i64 (IntKind.i64.wrap ((i : Int) + (1 : Int)))))] rfl ⟨rfl, rfl, rfl, rfl, trivial⟩ ?_
    refine wo_nil ?_
    rw [hb] at hf
    exact wq_next rest.length [(0, .slice A raws.length c), (1, .func (.func 58) #[] #[]), (7, .int .i64 (raws.length : Int)), (8, (.int .i64 ((i + 1 : Nat) : Int)))] (Nat.lt_succ_self _) ⟨rfl, rfl, rfl, congrArg (fun z => some (Value.int .i64 z)) (wrap_succ hl (Nat.le_trans hlc hmc)), trivial⟩ ⟨rest, i + 1, rfl, hd, rfl, hF, hf⟩
  · refine wc_true rfl ?_
    refine wc_seq ?_
    refine wc_region (l := [0, 1]) rfl ?_
    refine wo_seg Θ_ok [0, 1] [(4, .int .i64 (i : Int))] rfl ⟨rfl, trivial⟩ ?_
    refine wo_nil ?_
    refine wq_seq ?_
    refine wc_ret ?_
    rw [hb] at hf
    exact wq_block_ret (wq_then_ret (wq_then_ret (wq_block_ret (wq_then_ret (wq_ret rfl ⟨_, rfl, int_is.2 (by rw [← hf]; rfl), hF⟩)))))
theorem fEmp_spec : ∀ (L : List (Int × Value)) (k : Nat), (fEmp L k = -1 ∧ L.filter (fun r => !emp r) = L) ∨ ∃ i x, fEmp L k = ((k + i : Nat) : Int) ∧ L[i]? = some x ∧ emp x = true ∧ (L.take i).filter (fun r => !emp r) = L.take i
  | [], k => .inl ⟨rfl, rfl⟩
  | r :: L, k => by
    rw [fEmp]
    cases hr : emp r with
    | true => exact .inr ⟨0, r, rfl, rfl, hr, rfl⟩
    | false =>
      rcases fEmp_spec L (k + 1) with ⟨h1, h2⟩ | ⟨i, x, h1, h2, h3, h4⟩
      · exact .inl ⟨h1, by rw [List.filter_cons, hr]; simp only [Bool.not_false, if_true]; rw [h2]⟩
      · exact .inr ⟨i + 1, x, by rw [show k + (i + 1) = k + 1 + i by omega]; exact h1, by simpa using h2, h3, by
          rw [List.take_succ_cons, List.filter_cons, hr]; simp only [Bool.not_false, if_true]; rw [h4]⟩
theorem filter_take {p : Int × Value → Bool} {L : List (Int × Value)} {j : Nat} {x : Int × Value} (h : L[j]? = some x) : (L.take (j + 1)).filter p = (L.take j).filter p ++ bif p x then [x] else [] := by
  rw [List.take_add_one, h, List.filter_append]
  cases hp : p x <;> simp [hp]
/-- clear, of elements of any size -/
theorem wo_clearG {P : Program} {r : Option Nat} {N : Nat} {Θ : Tys} {ops : Array Oper} {Q : Exit → Act → World → Prop} {l : List Nat} {E : Env} {ds : List Deferred} {w : World} {i : Nat} {o : Oper} (hΘ : Θ.ok P) (ho : ops[i]? = some o) (hw : want N ops E o.guard = some true) (hd : o.dst = none) {t : Nat} {x : Operand} {ti te : TI}
    (hop : o.op = .call { callee := .builtin .clear, args := #[x], argTypes := #[t] }) (ht : Θ.get t = some ti) (h5 : ti.tag = 5) (hte : Θ.get ti.e = some te) {g of m c e k : Nat} {cur : Array Value} (hx : ev E x = some (.slice (some ⟨g, of, none⟩) (m + 1) c)) (hg : w.heap[g]? = some (.cells cur e (0, 0))) (hz : te.zero.cells.size = k) (h1 : ∀ u ∈ (Builtin.zeroCells te.zero.cells (m + 1)).toList, u.oneCell' = true) (hfit : of + (m + 1) * k ≤ cur.size)
    (h : ∀ (W : World) (new : Array Value), Fr [g] w W → W.heap[g]? = some (.cells new e (0, 0)) → new = (cur.toList.take of ++ (Builtin.zeroCells te.zero.cells (m + 1)).toList ++ cur.toList.drop (of + (m + 1) * k)).toArray → WO P r N ops Q l E ds W) : WO P r N ops Q (i :: l) E ds w := by
  have hu := (hΘ.fits ht).slice h5
  have hl : (Builtin.zeroCells te.zero.cells (m + 1)).toList.length = (m + 1) * k := by rw [Array.length_toList, size_zeroCells, hz]
  have hst := run_storeCells_at P g of e (Builtin.zeroCells te.zero.cells (m + 1)).toList 0 cur w hg (by rw [hl]; omega) h1
  rw [hl] at hst
  simp only [Nat.add_zero] at hst
  have hrun : (Builtin.clear_ #[t] o.type #[.slice (some ⟨g, of, none⟩) (m + 1) c]).run P w = .ok (.tuple #[]) (w.setRow g (cur.toList.take of ++ (Builtin.zeroCells te.zero.cells (m + 1)).toList ++ cur.toList.drop (of + (m + 1) * k)).toArray) := by
    simp only [Builtin.clear_, Sem.run_bind, List.getElem?_toArray, List.getElem?_cons_zero, run_underlying hu, Result.andThen_ok]
    simp [zero_run (hΘ.fits hte), hst]
  have hgo := h (w.setRow g (cur.toList.take of ++ (Builtin.zeroCells te.zero.cells (m + 1)).toList ++ cur.toList.drop (of + (m + 1) * k)).toArray) _ (setRow_fr hg) (by simp only [World.setRow, Array.getElem?_modify, hg, if_true, Option.map_some]) rfl
  refine wo_callN (v := .tuple #[]) ho hw hd (by rw [hop]; simp) (fun a ha => ?_) hgo
  simp only [execOp, hop, Sem.run_bind, resolve, Sem.run_pure, Result.andThen_ok, invoke, builtin, List.map_toArray, List.map_cons, List.map_nil, ha.eval hx, hrun]
theorem zero2 {n : Nat} {a b u : Value} (ha : a.oneCell' = true) (hb : b.oneCell' = true) (h : u ∈ (Builtin.zeroCells (Value.agg #[a, b]).cells n).toList) : u.oneCell' = true := by
  simp only [Builtin.zeroCells, Value.cells, Array.toList_map, List.mem_map] at h
  obtain ⟨i, _, rfl⟩ := h
  rcases Nat.mod_two_eq_zero_or_one i with h | h <;> simp [h, ha, hb]
set_option maxRecDepth 100000 in
set_option maxHeartbeats 4000000 in
theorem s_DeleteB_r {O : List Nat} {w : World} (hO : OB O w) {B : Nat} {v : Value} {raws : List (Int × Value)} (hv : Go.Dc.Own TR 61 B O w v raws) : Calls Try.prog 57 #[v, .func (.func 58) #[] #[]] w (GivesOwn TR 61 B O w v (raws.filter fun r => !emp r)) := by
  obtain ⟨A, c, rfl, hnc, hcm⟩ := hv.form
  refine calls_of (args := [.slice A raws.length c, .func (.func 58) #[] #[]]) (N := 42) Try.func57 rfl rfl rfl ?_
  refine wc_seq ?_
  refine wc_region (l := [0]) rfl ?_
  refine wo_seg Θ_ok [0] [(0, .slice A raws.length c), (1, .func (.func 58) #[] #[])] rfl ⟨rfl, rfl, trivial⟩ ?_
  refine wo_nil ?_
  refine wq_seq ?_
  refine wc_seq ?_
  refine wc_region (l := [0, 1, 2, 3]) rfl ?_
  refine wo_seg Θ_ok [0, 1] [(0, .slice A raws.length c), (1, .func (.func 58) #[] #[]), (8, .slice A raws.length c), (9, .func (.func 58) #[] #[])] rfl ⟨rfl, rfl, rfl, rfl, trivial⟩ ?_
  refine wo_gives rfl rfl rfl rfl rfl ent66 rfl (s_IndexB_r hO (hv.fown.data (rawT_flat _) (fun _ _ h => by cases h))) (fun v2 w2 g2 f2 => ?_)
  obtain rfl := int_is.1 g2
  refine wo_seg Θ_ok [3] [(0, .slice A raws.length c), (1, .func (.func 58) #[] #[]), (5, .int .i64 (fEmp raws 0))] rfl ⟨rfl, rfl, rfl, trivial⟩ ?_
  refine wo_nil ?_
  refine wq_seq ?_
  refine wc_seq ?_
  refine wc_seq ?_
  refine wc_region (l := [0, 1]) rfl ?_
  refine wo_seg Θ_ok [0, 1] [(0, .slice A raws.length c), (1, .func (.func 58) #[] #[]), (5, .int .i64 (fEmp raws 0)), (12, .bool ((fEmp raws 0) == -1))] rfl ⟨rfl, rfl, rfl, rfl, trivial⟩ ?_
  refine wo_nil ?_
  refine wq_seq ?_
  rcases fEmp_spec raws 0 with ⟨hr, hfil⟩ | ⟨i0, x0, hr, hx0, he0, hf0⟩
  · refine wc_known_true rfl (by rw [hr]; rfl) ?_
    refine wc_seq ?_
    refine wc_region (l := [0, 1]) rfl ?_
    refine wo_seg Θ_ok [0, 1] [(4, .slice A raws.length c)] rfl ⟨rfl, trivial⟩ ?_
    refine wo_nil ?_
    refine wq_seq ?_
    refine wc_ret ?_
    refine wq_then_ret (wq_ret rfl ⟨_, O, rfl, ?_⟩)
    rw [hfil]
    exact ⟨hv.fr0 f2, f2.tr0, f2.ob hO, Sub.refl _, fun k hk _ => f2.block k hk (by simp), fun _ _ h => h⟩
  rw [Nat.zero_add] at hr
  refine wc_known_false rfl (by rw [hr]; exact beq_eq_false_iff_ne.2 (by omega)) ?_
  rw [hr]
  refine wc_skip ?_
  refine wq_seq ?_
  -- the row
  obtain ⟨cs, ⟨hcl, hvv⟩, hrep⟩ := hv.ex
  have hi0 := (List.getElem?_eq_some_iff.1 hx0).1
  rcases hvv with ⟨_, hl0⟩ | ⟨g, cap, cur, hvv, hBg, hh, hnc', hcm', hcs, hct⟩
  · omega
  injection hvv with hA hn2 hc2
  subst hA; subst hc2
  have hgO := hv.mem g rfl
  obtain ⟨hcs', hforms⟩ := rep_rc hrep
  have hT2 : TR.n = 2 := rfl
  rw [hT2] at hcs hct
  obtain ⟨R, hR⟩ : ∃ R, R = cur.toList.drop (raws.length * 2) := ⟨_, rfl⟩
  have hcurl : cur.toList = rc raws ++ R := by
    rw [hR, ← hcs', ← hct]
    exact (List.take_append_drop _ _).symm
  have hRl : raws.length * 2 + R.length = c * 2 := by
    have := congrArg List.length hcurl
    rw [Array.length_toList, hcs] at this
    simp only [List.length_append, rc, pc_len, List.length_map] at this
    omega
  have hb : Blk w g 61 (rc raws ++ R) := by
    unfold Blk
    rw [← hcurl, Array.toArray_toList]
    exact hh
  have hb2 := hb.fr0 f2
  have hw1 : IntKind.i64.wrap ((i0 : Int) + 1) = ((i0 + 1 : Nat) : Int) := wrap_succ hi0 (by omega)
  refine wc_seq ?_
  refine wc_seq ?_
  refine wc_region (l := [0, 1, 2]) rfl ?_
  refine wo_seg Θ_ok [0, 1, 2] [(0, .slice (some ⟨g, 0, none⟩) raws.length c), (1, .func (.func 58) #[] #[]), (5, .int .i64 (i0 : Int)), (6, .int .i64 (IntKind.i64.wrap ((i0 : Int) + 1)))] rfl ⟨rfl, rfl, rfl, rfl, trivial⟩ ?_
  rw [hw1]
  refine wo_nil ?_
  refine wq_seq ?_
  refine wc_block ?_
  refine wc_loop (fun m E W => ∃ (i j : Nat) (M : List (Int × Value)), raws.length - j = m ∧ i < j ∧ j ≤ raws.length ∧ E = [(0, .slice (some ⟨g, 0, none⟩) raws.length c), (1, .func (.func 58) #[] #[]), (5, .int .i64 (i : Int)), (6, .int .i64 (j : Int))] ∧ Fr [g] w W ∧ Blk W g 61 (rc M ++ R) ∧ M.length = raws.length ∧ M.take i = (raws.take j).filter (fun r => !emp r) ∧ M.drop j = raws.drop j) _
    [(0, .slice (some ⟨g, 0, none⟩) raws.length c), (1, .func (.func 58) #[] #[]), (5, .int .i64 (i0 : Int)), (6, .int .i64 ((i0 + 1 : Nat) : Int))] ⟨rfl, rfl, rfl, rfl, trivial⟩ ⟨i0, i0 + 1, raws, rfl, Nat.lt_succ_self _, hi0, rfl, f2.more (by simp), hb2, rfl, by rw [filter_take hx0, hf0, he0]; simp, rfl⟩ ?_
  rintro m E W ⟨i, j, M, hm, hij, hjn, rfl, hFg, hbM, hMl, hMt, hMd⟩
  refine wc_seq ?_
  refine wc_seq ?_
  refine wc_region (l := [0, 1, 2, 3]) rfl ?_
  refine wo_seg Θ_ok [0, 1, 2, 3] [(0, .slice (some ⟨g, 0, none⟩) raws.length c), (1, .func (.func 58) #[] #[]), (5, .int .i64 (i : Int)), (6, .int .i64 (j : Int)), (19, .bool (decide ((j : Int) < (raws.length : Int))))] rfl ⟨rfl, rfl, rfl, rfl, rfl, trivial⟩ ?_
  refine wo_nil ?_
  refine wq_seq ?_
  by_cases hjl : j < raws.length
  case neg =>
    refine wc_known_false rfl (decide_eq_false (by omega)) ?_
    refine wc_exit ?_
    refine wq_then_exit (wq_then_exit (wq_block_exit (wq_seq ?_)))
    refine wc_seq ?_
    refine wc_region (l := [0, 1, 2, 3]) rfl ?_
    refine wo_seg Θ_ok [0, 1] [(0, .slice (some ⟨g, 0, none⟩) raws.length c), (5, .int .i64 (i : Int)), (36, .slice (some ⟨g, 0, none⟩) raws.length c), (37, .int .i64 (i : Int))] rfl ⟨rfl, rfl, rfl, rfl, trivial⟩ ?_
    refine wo_cutlo Θ_ok rfl rfl rfl rfl rfl rfl rfl rfl rfl rfl hnc' (by omega) ?_
    rw [if_neg (by omega), Option.map_some, add_at, Nat.zero_add]
    obtain ⟨q, hq⟩ : ∃ q, raws.length - i = q + 1 := ⟨raws.length - i - 1, by omega⟩
    rw [hq]
    have hsz : (rc M ++ R).length = c * 2 := by simp only [List.length_append, rc, pc_len, List.length_map]; omega
    refine wo_clearG (k := 2) Θ_ok rfl rfl rfl rfl rfl rfl rfl rfl hbM rfl (fun u hu => zero2 rfl rfl hu) (by simp only [List.size_toArray, hsz]; show i * 2 + (q + 1) * 2 ≤ c * 2; omega) (fun W3 new hsr hsh hnew => ?_)
    have hF5 : Fr [g] w W3 := hFg.trans hsr
    have hrcM : (rc M ++ R).take (i * 2) = rc (M.take i) := by
      unfold rc
      rw [List.take_append_of_le_length (by rw [pc_len, List.length_map]; omega), pc_take, List.map_take]
    have hnl : new.toList = rc (M.take i) ++ ((Builtin.zeroCells (Value.agg #[.int .u64 0, .slice none 0 0]).cells (q + 1)).toList ++ (rc M ++ R).drop (i * 2 + (q + 1) * 2)) := by
      rw [hnew]
      simp only [List.toList_toArray, List.append_assoc]
      congr 1
    have hns : new.size = c * 2 := by
      rw [← Array.length_toList, hnl]
      simp only [List.length_append, List.length_drop, Array.length_toList, size_zeroCells, rc, pc_len, List.length_map, List.length_take]
      show min i M.length * 2 + ((q + 1) * 2 + (M.length * 2 + R.length - (i * 2 + (q + 1) * 2))) = c * 2
      omega
    refine wo_nil ?_
    refine wq_seq ?_
    refine wc_seq ?_
    refine wc_region (l := [0, 1, 2, 3]) rfl ?_
    refine wo_seg Θ_ok [0, 1] [(39, .slice (some ⟨g, 0, none⟩) raws.length c), (40, .int .i64 (i : Int))] rfl ⟨rfl, rfl, trivial⟩ ?_
    refine wo_cuthi Θ_ok rfl rfl rfl rfl rfl rfl rfl rfl rfl rfl hnc' (by omega) ?_
    refine wo_seg Θ_ok [3] [(4, .slice (some ⟨g, 0, none⟩) i c)] rfl ⟨rfl, trivial⟩ ?_
    refine wo_nil ?_
    refine wq_seq ?_
    refine wc_ret ?_
    refine wq_ret rfl ⟨_, O, rfl, ?_⟩
    have hjx : raws.take j = raws := List.take_of_length_le (by omega)
    rw [hjx] at hMt
    have hil : (raws.filter fun r => !emp r).length = i := by rw [← hMt, List.length_take]; omega
    have := wrote' (T := TR) (e := 61) (B := B) (n0 := raws.length) (zs := raws.filter fun r => !emp r) (cap := c) hO hgO hBg hF5 hsh hns hcm' (by omega) (rc_rep fun x hx => hforms x (List.mem_filter.1 hx).1) (by
      rw [hnl, hMt]
      refine List.take_left' ?_
      rw [rc, pc_len, List.length_map]; rfl)
    rw [hil] at this
    exact this
  refine wc_known_true rfl (decide_eq_true (by omega)) ?_
  refine wc_skip ?_
  refine wq_seq ?_
  obtain ⟨z, hz⟩ : ∃ x, raws[j]? = some x := ⟨_, List.getElem?_eq_getElem hjl⟩
  have hMz : M[j]? = some z := by
    have := congrArg (·[0]?) hMd
    simp only [List.getElem?_drop, Nat.add_zero] at this
    rw [this, hz]
  obtain ⟨A2, n2, c2, e2⟩ := hforms z (List.mem_of_getElem? hz)
  obtain ⟨p, q⟩ := z
  simp only at e2
  subst e2
  have hMd' : ∀ (M' : List (Int × Value)), (∀ k, j < k → M'[k]? = M[k]?) → M'.drop (j + 1) = raws.drop (j + 1) := by
    intro M' h
    apply List.ext_getElem?
    intro k
    have := congrArg (·[k + 1]?) hMd
    simp only [List.getElem?_drop] at this ⊢
    rw [h _ (by omega), show j + 1 + k = j + (k + 1) by omega, this]
  have e1 : ∀ j : Nat, (j : Int).toNat * ({ tag := 8, k := 0, e := 0, fs := [(29, 0), (40, 1)], size := 2, bytes := 32, zero := .agg #[.int .u64 0, .slice none 0 0] } : TI).size = j * 2 := fun j => by rw [Int.toNat_natCast]
  refine wc_seq ?_
  refine wc_block ?_
  refine wc_seq ?_
  refine wc_region (l := [0, 1, 2, 3, 4, 5]) rfl ?_
  refine wo_seg Θ_ok [0, 1] [(0, .slice (some ⟨g, 0, none⟩) raws.length c), (1, .func (.func 58) #[] #[]), (5, .int .i64 (i : Int)), (6, .int .i64 (j : Int)), (22, .slice (some ⟨g, 0, none⟩) raws.length c), (23, .int .i64 (j : Int))] rfl ⟨rfl, rfl, rfl, rfl, rfl, rfl, trivial⟩ ?_
  refine wo_indexV Θ_ok rfl rfl rfl rfl rfl rfl rfl rfl rfl rfl (by omega) (by rw [Int.toNat_natCast]; omega) ?_
  rw [e1, add_at, Nat.zero_add]
  refine wo_load Θ_ok rfl rfl rfl rfl rfl rfl rfl hbM [.int .u64 p, .slice A2 n2 c2] (rc_at hMz) rfl (.inl rfl) (.agg #[.int .u64 p, .slice A2 n2 c2]) rfl ?_
  refine wo_alloc Θ_ok rfl rfl rfl rfl rfl rfl [(.int .u64 0), (.slice none 0 0)] rfl (hFg.ob hO) (fun b7 w7 n7 => ?_)
  refine wo_store Θ_ok rfl rfl rfl rfl rfl rfl rfl n7.blk [.int .u64 p, .slice A2 n2 c2] rfl rfl (by simp [Value.oneCell']) rfl [.int .u64 p, .slice A2 n2 c2] rfl (fun w8 hb7 f8 => ?_)
  have nb7 : g ≠ b7 := by have := hbM.lt; have := n7.ge; omega
  have hbM8 := (hbM.fr0 n7.fr).fr f8 (by simp; exact nb7)
  have hFg8 : Fr [g] w w8 := by
    refine ⟨f8.os.trans (n7.fr.os.trans hFg.os), f8.tape.trans (n7.fr.tape.trans hFg.tape), f8.output.trans (n7.fr.output.trans hFg.output), Nat.le_trans hFg.size (Nat.le_trans n7.fr.size f8.size), fun k hk hn => ?_⟩
    have h1 := hFg.size; have h2 := n7.ge; have h3 := n7.fr.size
    rw [f8.block k (by omega) (by simp; omega), n7.fr.block k (by omega) (by simp), hFg.block k hk hn]
  refine wo_nil ?_
  refine wq_seq ?_
  refine wc_seq ?_
  refine wc_region (l := [0, 1, 2, 3]) rfl ?_
  refine wo_seg Θ_ok [0] [(0, .slice (some ⟨g, 0, none⟩) raws.length c), (1, .func (.func 58) #[] #[]), (5, .int .i64 (i : Int)), (6, .int .i64 (j : Int)), (7, (.pointer (some ⟨b7, 0, none⟩))), (26, .func (.func 58) #[] #[])] rfl ⟨rfl, rfl, rfl, rfl, rfl, rfl, trivial⟩ ?_
  refine wo_load Θ_ok rfl rfl rfl rfl rfl rfl rfl hb7 [.int .u64 p, .slice A2 n2 c2] rfl rfl (.inl rfl) (.agg #[.int .u64 p, .slice A2 n2 c2]) rfl ?_
  refine wo_dynk (O := O) (first := []) (cap := []) rfl rfl rfl rfl rfl rfl rfl ent58 (i_tidy1_r (hFg8.ob hO)) (fun v9 w9 g9 f9 => ?_)
  obtain rfl := bool_is.1 g9
  have hFg9 := hFg8.trans (f9.more (by simp))
  have hbM9 := hbM8.fr0 f9
  have hb79 := hb7.fr0 f9
  refine wo_seg Θ_ok [3] [(0, .slice (some ⟨g, 0, none⟩) raws.length c), (1, .func (.func 58) #[] #[]), (5, .int .i64 (i : Int)), (6, .int .i64 (j : Int)), (7, (.pointer (some ⟨b7, 0, none⟩))), (29, .bool (!emp (p, .slice A2 n2 c2)))] rfl ⟨rfl, rfl, rfl, rfl, rfl, rfl, trivial⟩ ?_
  refine wo_nil ?_
  refine wq_seq ?_
  have hft := filter_take (p := fun r => !emp r) hz
  rcases hb : emp (p, .slice A2 n2 c2) with _ | _
  · rw [hb] at hft
    refine wc_true rfl ?_
    refine wc_seq ?_
    refine wc_region (l := [0, 1, 2, 3, 4]) rfl ?_
    refine wo_seg Θ_ok [0, 1] [(0, .slice (some ⟨g, 0, none⟩) raws.length c), (1, .func (.func 58) #[] #[]), (5, .int .i64 (i : Int)), (6, .int .i64 (j : Int)), (7, (.pointer (some ⟨b7, 0, none⟩))), (30, .slice (some ⟨g, 0, none⟩) raws.length c), (31, .int .i64 (i : Int))] rfl ⟨rfl, rfl, rfl, rfl, rfl, rfl, rfl, trivial⟩ ?_
    refine wo_load Θ_ok rfl rfl rfl rfl rfl rfl rfl hb79 [.int .u64 p, .slice A2 n2 c2] rfl rfl (.inl rfl) (.agg #[.int .u64 p, .slice A2 n2 c2]) rfl ?_
    refine wo_indexV Θ_ok rfl rfl rfl rfl rfl rfl rfl rfl rfl rfl (by omega) (by rw [Int.toNat_natCast]; omega) ?_
    rw [e1, add_at, Nat.zero_add]
    refine wo_store Θ_ok rfl rfl rfl rfl rfl rfl rfl hbM9 [.int .u64 p, .slice A2 n2 c2] rfl rfl (by simp [Value.oneCell']) (Nat.ble_eq_true_of_le (by simp only [List.length_append, rc, pc_len, List.length_map]; show i * 2 + 2 ≤ _; omega)) (rc (M.set i (p, .slice A2 n2 c2)) ++ R) (rc_set (x := (p, .slice A2 n2 c2)) (by omega)) (fun w10 hb10 f10 => ?_)
    refine wo_nil ?_
    refine wq_seq ?_
    refine wc_region (l := [0, 1, 2]) rfl ?_
    refine wo_seg Θ_ok [0, 1, 2] [(0, .slice (some ⟨g, 0, none⟩) raws.length c), (1, .func (.func 58) #[] #[]), (5, .int .i64 (IntKind.i64.wrap ((i : Int) + 1))), (6, .int .i64 (j : Int))] rfl ⟨rfl, rfl, rfl, rfl, trivial⟩ ?_
    rw [wrap_succ (show i < raws.length by omega) (by omega)]
    refine wo_nil ?_
    refine wq_block (wq_seq ?_)
    refine wc_region (l := [0, 1, 2]) rfl ?_
    refine wo_seg Θ_ok [0, 1, 2] [(0, .slice (some ⟨g, 0, none⟩) raws.length c), (1, .func (.func 58) #[] #[]), (5, .int .i64 ((i + 1 : Nat) : Int)), (6, .int .i64 (IntKind.i64.wrap ((j : Int) + 1)))] rfl ⟨rfl, rfl, rfl, rfl, trivial⟩ ?_
    rw [wrap_succ hjl (by omega)]
    refine wo_nil ?_
    refine wq_next (raws.length - (j + 1)) [(0, .slice (some ⟨g, 0, none⟩) raws.length c), (1, .func (.func 58) #[] #[]), (5, .int .i64 ((i + 1 : Nat) : Int)), (6, .int .i64 ((j + 1 : Nat) : Int))] (by omega) ⟨rfl, rfl, rfl, rfl, trivial⟩ ⟨i + 1, j + 1, M.set i (p, .slice A2 n2 c2), rfl, by omega, by omega, rfl, hFg9.trans f10, hb10, by rw [List.length_set]; exact hMl, ?_, hMd' _ (fun k hk => List.getElem?_set_ne (by omega))⟩
    rw [hft, ← hMt, List.take_add_one, List.take_set_of_le (by omega), List.getElem?_set_self (by omega)]
    rfl
  · rw [hb] at hft
    refine wc_false rfl ?_
    refine wc_skip ?_
    refine wq_block (wq_seq ?_)
    refine wc_region (l := [0, 1, 2]) rfl ?_
    refine wo_seg Θ_ok [0, 1, 2] [(0, .slice (some ⟨g, 0, none⟩) raws.length c), (1, .func (.func 58) #[] #[]), (5, .int .i64 (i : Int)), (6, .int .i64 (IntKind.i64.wrap ((j : Int) + 1)))] rfl ⟨rfl, rfl, rfl, rfl, trivial⟩ ?_
    rw [wrap_succ hjl (by omega)]
    refine wo_nil ?_
    refine wq_next (raws.length - (j + 1)) [(0, .slice (some ⟨g, 0, none⟩) raws.length c), (1, .func (.func 58) #[] #[]), (5, .int .i64 (i : Int)), (6, .int .i64 ((j + 1 : Nat) : Int))] (by omega) ⟨rfl, rfl, rfl, rfl, trivial⟩ ⟨i, j + 1, M, rfl, by omega, by omega, rfl, hFg9, hbM9, hMl, ?_, hMd' M (fun _ _ => rfl)⟩
    rw [hft, ← hMt]
    simp

end Go.Proofs.Ytjdeaihnpgkphaa
