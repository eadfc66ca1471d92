/-
  The program's functions compute the plain ones (printed by a tool of the prover's).
-/
import Derived.Test.YtjdeaihnpgkphaaGWalk7
namespace Go.Proofs.Ytjdeaihnpgkphaa
open Go.RowKit Go.Dc Go.Shelf
set_option maxRecDepth 100000 in
set_option maxHeartbeats 4000000 in
theorem s_EqualN_c {O : List Nat} {w : World} (hO : OB O w) {v0 : Value} {x0 : List GName} (h0 : (Ty.slice tGName).is O w v0 x0) {v1 : Value} {x1 : List GName} (h1 : (Ty.slice tGName).is O w v1 x1) {r : Bool} (h : s_EqualN x0 x1 = some r) : Calls Try.prog 44 #[v0, v1] w (Gives (rt1 Ty.bool) O w r) := by
  have hF := Fr.refl [] w
  have hO0 := hO
  have hS := Sub.refl O
  refine calls_of (args := [v0, v1]) (N := 26) Try.func44 rfl rfl rfl ?_
  unfold s_EqualN at h
  refine wc_seq ?_
  refine wc_region (l := [0]) rfl ?_
  refine wo_seg Θ_ok [0] [(0, v0), (1, v1)] rfl ⟨rfl, rfl, trivial⟩ ?_
  refine wo_nil ?_
  refine wq_seq ?_
  refine wc_seq ?_
  refine wc_seq ?_
  refine wc_region (l := [0, 1, 2, 3, 4]) rfl ?_
  refine wo_seg Θ_ok [0] [(0, v0), (1, v1), (6, v0)] rfl ⟨rfl, rfl, rfl, trivial⟩ ?_
  obtain ⟨A3, c4, rfl, hlc4, hmc4⟩ := slice_form h0
  refine wo_seg Θ_ok [1] [(0, (.slice A3 x0.length c4)), (1, v1), (7, (.int .i64 (x0.length : Int)))] rfl ⟨rfl, rfl, rfl, trivial⟩ ?_
  refine wo_seg Θ_ok [2] [(0, (.slice A3 x0.length c4)), (1, v1), (7, (.int .i64 (x0.length : Int))), (8, v1)] rfl ⟨rfl, rfl, rfl, rfl, trivial⟩ ?_
  obtain ⟨A5, c6, rfl, hlc6, hmc6⟩ := slice_form h1
  refine wo_seg Θ_ok [3] [(0, (.slice A3 x0.length c4)), (1, (.slice A5 x1.length c6)), (7, (.int .i64 (x0.length : Int))), (9, (.int .i64 (x1.length : Int)))] rfl ⟨rfl, rfl, rfl, rfl, trivial⟩ ?_
  refine wo_seg Θ_ok [4] [(0, (.slice A3 x0.length c4)), (1, (.slice A5 x1.length c6)), (10, (.bool ((x0.length : Int) != (x1.length : Int))))] rfl ⟨rfl, rfl, rfl, trivial⟩ ?_
  refine wo_nil ?_
  refine wq_seq ?_
  rcases bif_some h with ⟨hc7, h⟩ | ⟨hc7, h⟩
  · refine wc_known_true rfl hc7 ?_
    refine wc_seq ?_
    refine wc_region (l := [0]) rfl ?_
    refine wo_seg Θ_ok [0] [(4, (.bool false))] rfl ⟨rfl, trivial⟩ ?_
    refine wo_nil ?_
    refine wq_seq ?_
    refine wc_ret ?_
    cases h
    exact wq_then_ret (wq_ret rfl ⟨_, rfl, (bool_is.2 rfl), hF⟩)
  refine wc_known_false rfl hc7 ?_
  refine wc_skip ?_
  refine wq_seq ?_
  obtain ⟨k9, hk10, h⟩ := letk_some h
  refine wc_join (fun E W => ∃ (O13 : List Nat), E = [] ∧ Tr O w O13 W ∧ OB O13 W ∧ Sub O O13 ∧ Fr [] w W ∧ k9 = some r) ?_ (fun K11 hK12 => ?_)
  · rintro E w14 ⟨O13, rfl, T8, hO, hS, hF, h⟩
    subst hk10
    (try dsimp only at h)
    refine wc_seq ?_
    refine wc_region (l := [0]) rfl ?_
    refine wo_seg Θ_ok [0] [(4, (.bool true))] rfl ⟨rfl, trivial⟩ ?_
    refine wo_nil ?_
    refine wq_seq ?_
    refine wc_ret ?_
    cases h
    exact wq_ret rfl ⟨_, rfl, (bool_is.2 rfl), hF⟩
  clear hk10
  have T8 := Tr.refl O w
  refine wc_seq ?_
  refine wc_region (l := [0, 1, 2]) rfl ?_
  refine wo_seg Θ_ok [0, 1, 2] [(0, (.slice A3 x0.length c4)), (1, (.slice A5 x1.length c6)), (12, (.int .i64 (x0.length : Int))), (13, (.int .i64 0))] rfl ⟨rfl, rfl, rfl, rfl, trivial⟩ ?_
  refine wo_nil ?_
  refine wq_seq ?_
  refine wc_block ?_
  refine wc_loop (fun m E W => ∃ (rest17 : List GName) (i16 : Nat) (O20 : List Nat), rest17.length = m ∧ x0.drop i16 = rest17 ∧ E = [(0, (.slice A3 x0.length c4)), (1, (.slice A5 x1.length c6)), (12, (.int .i64 (x0.length : Int))), (13, (.int .i64 (i16 : Int)))] ∧ Tr O w O20 W ∧ OB O20 W ∧ Sub O O20 ∧ Fr [] w W ∧ s_EqualN_l1 x1 k9 rest17 i16 = some r) _ [(0, (.slice A3 x0.length c4)), (1, (.slice A5 x1.length c6)), (12, (.int .i64 (x0.length : Int))), (13, (.int .i64 ((0 : Nat) : Int)))] ⟨rfl, rfl, rfl, rfl, trivial⟩ ⟨x0, 0, O, rfl, rfl, rfl, Tr.refl _ _, hO, hS, hF, h⟩ ?_
  rintro m E w21 ⟨rest17, i16, O20, rfl, hd19, rfl, T15, hO, hS, hF, h⟩
  have T8 := T8.trans T15
  have h0 := h0.tr T15
  have h1 := h1.tr T15
  rcases rest17 with _ | ⟨z18, rest17⟩
  · rw [s_EqualN_l1] at h
    have hl25 := drop_nil hd19
    have hc22 : (decide ((i16 : Int) < (x0.length : Int))) = false := decide_eq_false (by omega)
    refine wc_seq ?_
    refine wc_region (l := [0]) rfl ?_
    refine wo_seg Θ_ok [0] [(0, (.slice A3 x0.length c4)), (1, (.slice A5 x1.length c6)), (12, (.int .i64 (x0.length : Int))), (13, (.int .i64 (i16 : Int))), (14, (.bool (decide ((i16 : Int) < (x0.length : Int)))))] rfl ⟨rfl, rfl, rfl, rfl, rfl, trivial⟩ ?_
    refine wo_nil ?_
    refine wq_seq ?_
    refine wc_seq ?_
    refine wc_known_false rfl hc22 ?_
    refine wc_exit ?_
    exact wq_then_exit (wq_then_exit (wq_block_exit (wq_join hK12 [] trivial ⟨O20, rfl, T8, hO, hS, hF, h⟩)))
  rw [s_EqualN_l1] at h
  obtain ⟨hl26, hg24, hd19⟩ := drop_cons hd19
  have hc23 : (decide ((i16 : Int) < (x0.length : Int))) = true := decide_eq_true (by omega)
  refine wc_seq ?_
  refine wc_region (l := [0]) rfl ?_
  refine wo_seg Θ_ok [0] [(0, (.slice A3 x0.length c4)), (1, (.slice A5 x1.length c6)), (12, (.int .i64 (x0.length : Int))), (13, (.int .i64 (i16 : Int))), (14, (.bool (decide ((i16 : Int) < (x0.length : Int)))))] rfl ⟨rfl, rfl, rfl, rfl, rfl, trivial⟩ ?_
  refine wo_nil ?_
  refine wq_seq ?_
  refine wc_seq ?_
  refine wc_known_true rfl hc23 ?_
  refine wc_skip ?_
  refine wq_seq ?_
  refine wc_seq ?_
  refine wc_block ?_
  refine wc_seq ?_
  refine wc_region (l := [0, 1]) rfl ?_
  refine wo_seg Θ_ok [0, 1] [(0, (.slice A3 x0.length c4)), (1, (.slice A5 x1.length c6)), (5, (.int .i64 (i16 : Int))), (12, (.int .i64 (x0.length : Int))), (13, (.int .i64 (i16 : Int)))] rfl ⟨rfl, rfl, rfl, rfl, rfl, trivial⟩ ?_
  refine wo_nil ?_
  refine wq_seq ?_
  refine wc_seq ?_
  obtain ⟨y27, hz28, h⟩ := bind_some h
  refine wc_draw mixed [⟨16, [], [0]⟩, ⟨17, [], [5]⟩, ⟨18, [0, 1], []⟩, ⟨19, [2], []⟩, ⟨20, [], [1]⟩, ⟨21, [], [5]⟩, ⟨22, [4, 5], []⟩, ⟨23, [6], []⟩, ⟨24, [3, 7], []⟩] [SP.eq (.slice A3 x0.length c4), SP.eq (.int .i64 (i16 : Int)), SP.is (Ty.ptr tGName) O20 z18, SP.eq (.agg #[(.int .u64 z18.fName), (.int .u64 z18.fPid)]), SP.eq (.slice A5 x1.length c6), SP.eq (.int .i64 (i16 : Int)), SP.is (Ty.ptr tGName) O20 y27, SP.eq (.agg #[(.int .u64 y27.fName), (.int .u64 y27.fPid)]), SP.eq (.bool (!(eqGName z18 y27)))] rfl rfl rfl ⟨?_, ?_, ?_, ?_, ?_, ?_, ?_, ?_, ?_, trivial⟩ ?_
  · intro a w2 hfr hN hds hb hd
    have h0 := h0.tr hfr.tr0
    exact op_plain Θ_ok ⟨hN, hds, rows_get (E := [(0, (.slice A3 x0.length c4))]) ⟨hb 0 rfl _ rfl, trivial⟩⟩ rfl rfl rfl rfl rfl
  · intro a w2 hfr hN hds hb hd
    exact op_plain Θ_ok ⟨hN, hds, rows_get (E := [(5, (.int .i64 (i16 : Int)))]) ⟨hb 5 rfl _ rfl, trivial⟩⟩ rfl rfl rfl rfl rfl
  · intro a w2 hfr hN hds hb hd
    have h0 := h0.tr hfr.tr0
    exact op_index (j := (i16 : Int)) Θ_ok ⟨hN, hds, rows_get (E := [(16, (.slice A3 x0.length c4)), (17, (.int .i64 (i16 : Int)))]) ⟨(hd 0 rfl _ _ rfl rfl), (hd 1 rfl _ _ rfl rfl), trivial⟩⟩ rfl rfl rfl rfl rfl rfl rfl rfl rfl h0 rfl (by omega) hg24
  · intro a w2 hfr hN hds hb hd
    have d31 : (Ty.ptr tGName).is O20 w2 (a.tmps.getD 18 undef) z18 := hd 2 rfl _ _ rfl rfl
    obtain ⟨u29, e30⟩ : ∃ v, a.tmps.getD 18 undef = v := ⟨_, rfl⟩
    rw [e30] at d31
    exact (op_loadp Θ_ok ⟨hN, hds, rows_get (E := [(18, u29)]) ⟨e30, trivial⟩⟩ rfl rfl rfl rfl rfl rfl d31 rfl rfl).weaken (fun u w3 ⟨hu, hf⟩ => ⟨tGName_is.1 hu, hf⟩)
  · intro a w2 hfr hN hds hb hd
    have h1 := h1.tr hfr.tr0
    exact op_plain Θ_ok ⟨hN, hds, rows_get (E := [(1, (.slice A5 x1.length c6))]) ⟨hb 1 rfl _ rfl, trivial⟩⟩ rfl rfl rfl rfl rfl
  · intro a w2 hfr hN hds hb hd
    exact op_plain Θ_ok ⟨hN, hds, rows_get (E := [(5, (.int .i64 (i16 : Int)))]) ⟨hb 5 rfl _ rfl, trivial⟩⟩ rfl rfl rfl rfl rfl
  · intro a w2 hfr hN hds hb hd
    have h1 := h1.tr hfr.tr0
    exact op_index (j := (i16 : Int)) Θ_ok ⟨hN, hds, rows_get (E := [(20, (.slice A5 x1.length c6)), (21, (.int .i64 (i16 : Int)))]) ⟨(hd 4 rfl _ _ rfl rfl), (hd 5 rfl _ _ rfl rfl), trivial⟩⟩ rfl rfl rfl rfl rfl rfl rfl rfl rfl h1 rfl (idx_some hz28).1 (idx_some hz28).2
  · intro a w2 hfr hN hds hb hd
    have d34 : (Ty.ptr tGName).is O20 w2 (a.tmps.getD 22 undef) y27 := hd 6 rfl _ _ rfl rfl
    obtain ⟨u32, e33⟩ : ∃ v, a.tmps.getD 22 undef = v := ⟨_, rfl⟩
    rw [e33] at d34
    exact (op_loadp Θ_ok ⟨hN, hds, rows_get (E := [(22, u32)]) ⟨e33, trivial⟩⟩ rfl rfl rfl rfl rfl rfl d34 rfl rfl).weaken (fun u w3 ⟨hu, hf⟩ => ⟨tGName_is.1 hu, hf⟩)
  · intro a w2 hfr hN hds hb hd
    exact op_bin ⟨hN, hds, rows_get (E := [(19, (.agg #[(.int .u64 z18.fName), (.int .u64 z18.fPid)])), (23, (.agg #[(.int .u64 y27.fName), (.int .u64 y27.fPid)]))]) ⟨(hd 3 rfl _ _ rfl rfl), (hd 7 rfl _ _ rfl rfl), trivial⟩⟩ rfl rfl rfl rfl rfl rfl (neq31 _ _)
  intro a w36 f35 hN hds hb hr
  have h0 := h0.tr f35.tr0
  have h1 := h1.tr f35.tr0
  have T8 := T8.trans f35.tr0
  have T15 := T15.trans f35.tr0
  have hO := f35.ob hO
  have hF := hF.trans f35
  refine wq_go (E := [(0, (.slice A3 x0.length c4)), (1, (.slice A5 x1.length c6)), (12, (.int .i64 (x0.length : Int))), (13, (.int .i64 (i16 : Int))), (24, (.bool (!(eqGName z18 y27))))]) hN hds ⟨hb 0 _ rfl rfl, hb 1 _ rfl rfl, hb 12 _ rfl rfl, hb 13 _ rfl rfl, (hr 8 _ _ rfl rfl), trivial⟩ ?_
  refine wq_seq ?_
  rcases bif_some h with ⟨hc37, h⟩ | ⟨hc37, h⟩
  rotate_left
  · refine wc_known_false rfl hc37 ?_
    refine wc_skip ?_
    refine wq_block (wq_seq ?_)
    refine wc_region (l := [0, 1]) rfl ?_
    refine wo_seg Θ_ok [0, 1] [(0, (.slice A3 x0.length c4)), (1, (.slice A5 x1.length c6)), (12, (.int .i64 (x0.length : Int))), (13, (.int .i64 (IntKind.i64.wrap ((i16 : Int) + (1 : Int)))))] rfl ⟨rfl, rfl, rfl, rfl, trivial⟩ ?_
    refine wo_nil ?_
    exact wq_next rest17.length [(0, (.slice A3 x0.length c4)), (1, (.slice A5 x1.length c6)), (12, (.int .i64 (x0.length : Int))), (13, (.int .i64 ((i16 + 1 : Nat) : Int)))] (Nat.lt_succ_self _) ⟨rfl, rfl, rfl, congrArg (fun z => some (Value.int .i64 z)) (wrap_succ hl26 (Nat.le_trans hlc4 hmc4)), trivial⟩ ⟨rest17, i16 + 1, O20, rfl, hd19, rfl, T15, hO, hS, hF, h⟩
  refine wc_known_true rfl hc37 ?_
  refine wc_seq ?_
  refine wc_region (l := [0]) rfl ?_
  refine wo_seg Θ_ok [0] [(4, (.bool false))] rfl ⟨rfl, trivial⟩ ?_
  refine wo_nil ?_
  refine wq_seq ?_
  refine wc_ret ?_
  cases h
  exact wq_block_ret (wq_then_ret (wq_then_ret (wq_block_ret (wq_then_ret (wq_ret rfl ⟨_, rfl, (bool_is.2 rfl), hF⟩)))))
set_option maxRecDepth 100000 in
set_option maxHeartbeats 4000000 in
theorem i_Same1_c {O : List Nat} {w : World} (hO : OB O w) {v0 : Value} {x0 : GBox} (h0 : tGBox.is O w v0 x0) {v1 : Value} {x1 : GBox} (h1 : tGBox.is O w v1 x1) {r : Bool} (h : i_Same1 x0 x1 = some r) : Calls Try.prog 46 #[v0, v1] w (Gives (rt1 Ty.bool) O w r) := by
  obtain ⟨v0_1, rfl, h0_1⟩ := tGBox_is.1 h0
  obtain ⟨v1_1, rfl, h1_1⟩ := tGBox_is.1 h1
  have hF := Fr.refl [] w
  have hO0 := hO
  have hS := Sub.refl O
  refine calls_of (args := [(.agg #[(.int .u64 x0.fPid), v0_1]), (.agg #[(.int .u64 x1.fPid), v1_1])]) (N := 17) Try.func46 rfl rfl rfl ?_
  unfold i_Same1 at h
  refine wc_seq ?_
  refine wc_region (l := [0, 1, 2]) rfl ?_
  refine wo_box rfl rfl rfl rfl rfl rfl [(.int .u64 x0.fPid), v0_1] rfl hO (fun b3 w4 n5 => ?_)
  have h1_1 := h1_1.tr n5.tr
  have h0_1 := h0_1.tr n5.tr
  have hb3 := n5.blk
  have gb3 := n5.ge0 hF
  have ib3 : b3 ∈ b3 :: O := List.mem_cons_self
  have hO := n5.ob
  have hF := hF.trans n5.fr
  have hS := Sub.cons hS b3
  refine wo_box rfl rfl rfl rfl rfl rfl [(.int .u64 x1.fPid), v1_1] rfl hO (fun b6 w7 n8 => ?_)
  have h1_1 := h1_1.tr n8.tr
  have h0_1 := h0_1.tr n8.tr
  have nb6b3 : b6 ≠ b3 := by have := hb3.lt; have := n8.ge; omega
  have hb3 := hb3.fr0 n8.fr
  have ib3 := List.mem_cons_of_mem b6 ib3
  have hb6 := n8.blk
  have gb6 := n8.ge0 hF
  have ib6 : b6 ∈ b6 :: (b3 :: O) := List.mem_cons_self
  have hO := n8.ob
  have hF := hF.trans n8.fr
  have hS := Sub.cons hS b6
  refine wo_seg Θ_ok [2] [(2, (.pointer (some ⟨b3, 0, none⟩))), (3, (.pointer (some ⟨b6, 0, none⟩)))] rfl ⟨rfl, rfl, trivial⟩ ?_
  refine wo_nil ?_
  refine wq_seq ?_
  refine wc_seq ?_
  refine wc_region (l := [0, 1, 2, 3, 4, 5, 6, 7, 8, 9, 10, 11, 12]) rfl ?_
  refine wo_seg Θ_ok [0] [(2, (.pointer (some ⟨b3, 0, none⟩))), (3, (.pointer (some ⟨b6, 0, none⟩))), (5, (.pointer (some ⟨b3, 0, none⟩)))] rfl ⟨rfl, rfl, rfl, trivial⟩ ?_
  refine wo_load Θ_ok rfl rfl rfl rfl rfl rfl rfl hb3 [(.int .u64 x0.fPid)] rfl rfl (.inr rfl) (.int .u64 x0.fPid) rfl ?_
  refine wo_seg Θ_ok [2] [(2, (.pointer (some ⟨b3, 0, none⟩))), (3, (.pointer (some ⟨b6, 0, none⟩))), (6, (.int .u64 x0.fPid)), (7, (.pointer (some ⟨b6, 0, none⟩)))] rfl ⟨rfl, rfl, rfl, rfl, trivial⟩ ?_
  refine wo_load Θ_ok rfl rfl rfl rfl rfl rfl rfl hb6 [(.int .u64 x1.fPid)] rfl rfl (.inr rfl) (.int .u64 x1.fPid) rfl ?_
  refine wo_seg Θ_ok [4, 5] [(2, (.pointer (some ⟨b3, 0, none⟩))), (3, (.pointer (some ⟨b6, 0, none⟩))), (10, (.bool (x0.fPid == x1.fPid)))] rfl ⟨rfl, rfl, rfl, trivial⟩ ?_
  rcases bif_some h with ⟨hc9, h⟩ | ⟨hc9, h⟩
  rotate_left
  · refine wo_know 10 false rfl hc9 ?_
    refine wo_seg Θ_ok [6, 7, 8, 9, 10, 11, 12] [(4, (.bool false))] rfl ⟨rfl, trivial⟩ ?_
    refine wo_nil ?_
    refine wq_seq ?_
    refine wc_ret ?_
    cases h
    exact wq_ret rfl ⟨_, rfl, (bool_is.2 rfl), hF⟩
  refine wo_know 10 true rfl hc9 ?_
  refine wo_seg Θ_ok [6] [(3, (.pointer (some ⟨b6, 0, none⟩))), (10, (.bool true)), (11, (.pointer (some ⟨b3, 1, none⟩)))] rfl ⟨rfl, rfl, rfl, trivial⟩ ?_
  refine wo_load Θ_ok rfl rfl rfl rfl rfl rfl rfl hb3 [v0_1] rfl rfl (.inr rfl) v0_1 rfl ?_
  refine wo_seg Θ_ok [8] [(10, (.bool true)), (12, v0_1), (13, (.pointer (some ⟨b6, 1, none⟩)))] rfl ⟨rfl, rfl, rfl, trivial⟩ ?_
  refine wo_load Θ_ok rfl rfl rfl rfl rfl rfl rfl hb6 [v1_1] rfl rfl (.inr rfl) v1_1 rfl ?_
  obtain ⟨y14, hy15, h⟩ := bind_some h
  refine wo_gives rfl rfl rfl rfl rfl ent21 rfl (s_Equal_c hO h0_1 h1_1 hy15) (fun v10 w11 h12 f13 => ?_)
  have hO := f13.ob hO
  have hF := hF.trans f13
  obtain rfl := bool_is.1 h12
  refine wo_seg Θ_ok [11, 12] [(4, (.bool y14))] rfl ⟨rfl, trivial⟩ ?_
  refine wo_nil ?_
  refine wq_seq ?_
  refine wc_ret ?_
  cases h
  exact wq_ret rfl ⟨_, rfl, (bool_is.2 rfl), hF⟩
set_option maxRecDepth 100000 in
set_option maxHeartbeats 4000000 in
theorem s_EqualFunc_c {O : List Nat} {w : World} (hO : OB O w) {v0 : Value} {x0 : List GBox} (h0 : (Ty.slice tGBox).is O w v0 x0) {v1 : Value} {x1 : List GBox} (h1 : (Ty.slice tGBox).is O w v1 x1) {v2 : Value} {x2 : GBox → GBox → Option (Bool)} (h2 : (Ty.fn2 Try.prog tGBox tGBox (rt1 Ty.bool)).is O w v2 x2) {r : Bool} (h : s_EqualFunc x0 x1 x2 = some r) : Calls Try.prog 45 #[v0, v1, v2] w (Gives (rt1 Ty.bool) O w r) := by
  have hF := Fr.refl [] w
  have hO0 := hO
  have hS := Sub.refl O
  refine calls_of (args := [v0, v1, v2]) (N := 32) Try.func45 rfl rfl rfl ?_
  unfold s_EqualFunc at h
  refine wc_seq ?_
  refine wc_region (l := [0]) rfl ?_
  refine wo_seg Θ_ok [0] [(0, v0), (1, v1), (2, v2)] rfl ⟨rfl, rfl, rfl, trivial⟩ ?_
  refine wo_nil ?_
  refine wq_seq ?_
  refine wc_seq ?_
  refine wc_seq ?_
  refine wc_region (l := [0, 1, 2, 3, 4]) rfl ?_
  refine wo_seg Θ_ok [0] [(0, v0), (1, v1), (2, v2), (10, v0)] rfl ⟨rfl, rfl, rfl, rfl, trivial⟩ ?_
  obtain ⟨A4, c5, rfl, hlc5, hmc5⟩ := slice_form h0
  refine wo_seg Θ_ok [1] [(0, (.slice A4 x0.length c5)), (1, v1), (2, v2), (11, (.int .i64 (x0.length : Int)))] rfl ⟨rfl, rfl, rfl, rfl, trivial⟩ ?_
  refine wo_seg Θ_ok [2] [(0, (.slice A4 x0.length c5)), (1, v1), (2, v2), (11, (.int .i64 (x0.length : Int))), (12, v1)] rfl ⟨rfl, rfl, rfl, rfl, rfl, trivial⟩ ?_
  obtain ⟨A6, c7, rfl, hlc7, hmc7⟩ := slice_form h1
  refine wo_seg Θ_ok [3] [(0, (.slice A4 x0.length c5)), (1, (.slice A6 x1.length c7)), (2, v2), (11, (.int .i64 (x0.length : Int))), (13, (.int .i64 (x1.length : Int)))] rfl ⟨rfl, rfl, rfl, rfl, rfl, trivial⟩ ?_
  refine wo_seg Θ_ok [4] [(0, (.slice A4 x0.length c5)), (1, (.slice A6 x1.length c7)), (2, v2), (14, (.bool ((x0.length : Int) != (x1.length : Int))))] rfl ⟨rfl, rfl, rfl, rfl, trivial⟩ ?_
  refine wo_nil ?_
  refine wq_seq ?_
  rcases bif_some h with ⟨hc8, h⟩ | ⟨hc8, h⟩
  · refine wc_known_true rfl hc8 ?_
    refine wc_seq ?_
    refine wc_region (l := [0]) rfl ?_
    refine wo_seg Θ_ok [0] [(6, (.bool false))] rfl ⟨rfl, trivial⟩ ?_
    refine wo_nil ?_
    refine wq_seq ?_
    refine wc_ret ?_
    cases h
    exact wq_then_ret (wq_ret rfl ⟨_, rfl, (bool_is.2 rfl), hF⟩)
  refine wc_known_false rfl hc8 ?_
  refine wc_skip ?_
  refine wq_seq ?_
  obtain ⟨k10, hk11, h⟩ := letk_some h
  refine wc_join (fun E W => ∃ (O14 : List Nat), E = [] ∧ Tr O w O14 W ∧ OB O14 W ∧ Sub O O14 ∧ Fr [] w W ∧ k10 = some r) ?_ (fun K12 hK13 => ?_)
  · rintro E w15 ⟨O14, rfl, T9, hO, hS, hF, h⟩
    subst hk11
    (try dsimp only at h)
    refine wc_seq ?_
    refine wc_region (l := [0]) rfl ?_
    refine wo_seg Θ_ok [0] [(6, (.bool true))] rfl ⟨rfl, trivial⟩ ?_
    refine wo_nil ?_
    refine wq_seq ?_
    refine wc_ret ?_
    cases h
    exact wq_ret rfl ⟨_, rfl, (bool_is.2 rfl), hF⟩
  clear hk11
  have T9 := Tr.refl O w
  refine wc_seq ?_
  refine wc_region (l := [0, 1, 2]) rfl ?_
  refine wo_seg Θ_ok [0, 1, 2] [(1, (.slice A6 x1.length c7)), (2, v2), (15, (.slice A4 x0.length c5)), (16, (.int .i64 (x0.length : Int))), (17, (.int .i64 0))] rfl ⟨rfl, rfl, rfl, rfl, rfl, trivial⟩ ?_
  refine wo_nil ?_
  refine wq_seq ?_
  refine wc_block ?_
  refine wc_loop (fun m E W => ∃ (rest18 : List GBox) (i17 : Nat) (O21 : List Nat), rest18.length = m ∧ x0.drop i17 = rest18 ∧ E = [(1, (.slice A6 x1.length c7)), (2, v2), (15, (.slice A4 x0.length c5)), (16, (.int .i64 (x0.length : Int))), (17, (.int .i64 (i17 : Int)))] ∧ Tr O w O21 W ∧ OB O21 W ∧ Sub O O21 ∧ Fr [] w W ∧ s_EqualFunc_l1 x1 x2 k10 rest18 i17 = some r) _ [(1, (.slice A6 x1.length c7)), (2, v2), (15, (.slice A4 x0.length c5)), (16, (.int .i64 (x0.length : Int))), (17, (.int .i64 ((0 : Nat) : Int)))] ⟨rfl, rfl, rfl, rfl, rfl, trivial⟩ ⟨x0, 0, O, rfl, rfl, rfl, Tr.refl _ _, hO, hS, hF, h⟩ ?_
  rintro m E w22 ⟨rest18, i17, O21, rfl, hd20, rfl, T16, hO, hS, hF, h⟩
  have T9 := T9.trans T16
  have h1 := h1.tr T16
  have h2 := h2.tr T16
  have h0 := h0.tr T16
  rcases rest18 with _ | ⟨z19, rest18⟩
  · rw [s_EqualFunc_l1] at h
    have hl26 := drop_nil hd20
    have hc23 : (decide ((i17 : Int) < (x0.length : Int))) = false := decide_eq_false (by omega)
    refine wc_seq ?_
    refine wc_region (l := [0]) rfl ?_
    refine wo_seg Θ_ok [0] [(1, (.slice A6 x1.length c7)), (2, v2), (15, (.slice A4 x0.length c5)), (16, (.int .i64 (x0.length : Int))), (17, (.int .i64 (i17 : Int))), (18, (.bool (decide ((i17 : Int) < (x0.length : Int)))))] rfl ⟨rfl, rfl, rfl, rfl, rfl, rfl, trivial⟩ ?_
    refine wo_nil ?_
    refine wq_seq ?_
    refine wc_seq ?_
    refine wc_known_false rfl hc23 ?_
    refine wc_exit ?_
    exact wq_then_exit (wq_then_exit (wq_block_exit (wq_join hK13 [] trivial ⟨O21, rfl, T9, hO, hS, hF, h⟩)))
  rw [s_EqualFunc_l1] at h
  obtain ⟨hl27, hg25, hd20⟩ := drop_cons hd20
  have hc24 : (decide ((i17 : Int) < (x0.length : Int))) = true := decide_eq_true (by omega)
  refine wc_seq ?_
  refine wc_region (l := [0]) rfl ?_
  refine wo_seg Θ_ok [0] [(1, (.slice A6 x1.length c7)), (2, v2), (15, (.slice A4 x0.length c5)), (16, (.int .i64 (x0.length : Int))), (17, (.int .i64 (i17 : Int))), (18, (.bool (decide ((i17 : Int) < (x0.length : Int)))))] rfl ⟨rfl, rfl, rfl, rfl, rfl, rfl, trivial⟩ ?_
  refine wo_nil ?_
  refine wq_seq ?_
  refine wc_seq ?_
  refine wc_known_true rfl hc24 ?_
  refine wc_skip ?_
  refine wq_seq ?_
  refine wc_seq ?_
  refine wc_block ?_
  refine wc_seq ?_
  refine wc_region (l := [0, 1, 2, 3, 4, 5]) rfl ?_
  refine wo_seg Θ_ok [0] [(1, (.slice A6 x1.length c7)), (2, v2), (15, (.slice A4 x0.length c5)), (16, (.int .i64 (x0.length : Int))), (17, (.int .i64 (i17 : Int))), (19, (.int .i64 (i17 : Int)))] rfl ⟨rfl, rfl, rfl, rfl, rfl, rfl, trivial⟩ ?_
  refine wo_index Θ_ok rfl rfl rfl rfl rfl rfl rfl rfl rfl rfl h0 rfl (by omega) hg25 (fun p28 h29 => ?_)
  refine wo_loadp Θ_ok rfl rfl rfl rfl rfl rfl rfl h29 rfl rfl (fun v30 h31 => ?_)
  obtain ⟨v32, rfl, h33⟩ := tGBox_is.1 h31
  refine wo_alloc Θ_ok rfl rfl rfl rfl rfl rfl [(.int .u64 0), (.slice none 0 0)] rfl hO (fun b34 w35 n36 => ?_)
  have h1 := h1.tr n36.tr
  have h2 := h2.tr n36.tr
  have h0 := h0.tr n36.tr
  have h33 := h33.tr n36.tr
  have T9 := T9.trans n36.tr
  have T16 := T16.trans n36.tr
  have hb34 := n36.blk
  have gb34 := n36.ge0 hF
  have ib34 : b34 ∈ b34 :: O21 := List.mem_cons_self
  have hO := n36.ob
  have hF := hF.trans n36.fr
  have hS := Sub.cons hS b34
  refine wo_seg Θ_ok [4] [(1, (.slice A6 x1.length c7)), (2, v2), (7, (.int .i64 (i17 : Int))), (8, (.pointer (some ⟨b34, 0, none⟩))), (15, (.slice A4 x0.length c5)), (16, (.int .i64 (x0.length : Int))), (17, (.int .i64 (i17 : Int))), (21, (.agg #[(.int .u64 z19.fPid), v32]))] rfl ⟨rfl, rfl, rfl, rfl, rfl, rfl, rfl, rfl, trivial⟩ ?_
  obtain ⟨A37, c38, rfl, hlc38, hmc38⟩ := slice_form h33
  refine wo_store Θ_ok rfl rfl rfl rfl rfl rfl rfl hb34 [(.int .u64 z19.fPid), (.slice A37 z19.fWords.length c38)] rfl rfl (by simp [Value.oneCell']) rfl [(.int .u64 z19.fPid), (.slice A37 z19.fWords.length c38)] rfl (fun w39 hb34 f40 => ?_)
  have h1 := h1.tr (f40.tr (one_in ib34))
  have h2 := h2.tr (f40.tr (one_in ib34))
  have h0 := h0.tr (f40.tr (one_in ib34))
  have h33 := h33.tr (f40.tr (one_in ib34))
  have T9 := T9.trans (f40.tr (one_in ib34))
  have T16 := T16.trans (f40.tr (one_in ib34))
  have hO := f40.ob hO
  have hF := hF.own f40 gb34
  refine wo_nil ?_
  refine wq_seq ?_
  refine wc_seq ?_
  refine wc_region (l := [0, 1, 2, 3, 4, 5]) rfl ?_
  refine wo_seg Θ_ok [0, 1] [(1, (.slice A6 x1.length c7)), (2, v2), (8, (.pointer (some ⟨b34, 0, none⟩))), (15, (.slice A4 x0.length c5)), (16, (.int .i64 (x0.length : Int))), (17, (.int .i64 (i17 : Int))), (22, (.slice A6 x1.length c7)), (23, (.int .i64 (i17 : Int)))] rfl ⟨rfl, rfl, rfl, rfl, rfl, rfl, rfl, rfl, trivial⟩ ?_
  obtain ⟨y43, hz44, h⟩ := bind_some h
  refine wo_index Θ_ok rfl rfl rfl rfl rfl rfl rfl rfl rfl rfl h1 rfl (idx_some hz44).1 (idx_some hz44).2 (fun p41 h42 => ?_)
  refine wo_loadp Θ_ok rfl rfl rfl rfl rfl rfl rfl h42 rfl rfl (fun v45 h46 => ?_)
  obtain ⟨v47, rfl, h48⟩ := tGBox_is.1 h46
  refine wo_alloc Θ_ok rfl rfl rfl rfl rfl rfl [(.int .u64 0), (.slice none 0 0)] rfl hO (fun b49 w50 n51 => ?_)
  have h1 := h1.tr n51.tr
  have h2 := h2.tr n51.tr
  have h0 := h0.tr n51.tr
  have h48 := h48.tr n51.tr
  have h33 := h33.tr n51.tr
  have T9 := T9.trans n51.tr
  have T16 := T16.trans n51.tr
  have nb49b34 : b49 ≠ b34 := by have := hb34.lt; have := n51.ge; omega
  have hb34 := hb34.fr0 n51.fr
  have ib34 := List.mem_cons_of_mem b49 ib34
  have hb49 := n51.blk
  have gb49 := n51.ge0 hF
  have ib49 : b49 ∈ b49 :: (b34 :: O21) := List.mem_cons_self
  have hO := n51.ob
  have hF := hF.trans n51.fr
  have hS := Sub.cons hS b49
  obtain ⟨A52, c53, rfl, hlc53, hmc53⟩ := slice_form h48
  refine wo_store Θ_ok rfl rfl rfl rfl rfl rfl rfl hb49 [(.int .u64 y43.fPid), (.slice A52 y43.fWords.length c53)] rfl rfl (by simp [Value.oneCell']) rfl [(.int .u64 y43.fPid), (.slice A52 y43.fWords.length c53)] rfl (fun w54 hb49 f55 => ?_)
  have h1 := h1.tr (f55.tr (one_in ib49))
  have h2 := h2.tr (f55.tr (one_in ib49))
  have h0 := h0.tr (f55.tr (one_in ib49))
  have h33 := h33.tr (f55.tr (one_in ib49))
  have h48 := h48.tr (f55.tr (one_in ib49))
  have T9 := T9.trans (f55.tr (one_in ib49))
  have T16 := T16.trans (f55.tr (one_in ib49))
  have hb34 := hb34.fr f55 (nin nb49b34.symm)
  have hO := f55.ob hO
  have hF := hF.own f55 gb49
  refine wo_nil ?_
  refine wq_seq ?_
  refine wc_seq ?_
  refine wc_region (l := [0, 1, 2, 3, 4]) rfl ?_
  refine wo_seg Θ_ok [0] [(1, (.slice A6 x1.length c7)), (2, v2), (8, (.pointer (some ⟨b34, 0, none⟩))), (9, (.pointer (some ⟨b49, 0, none⟩))), (15, (.slice A4 x0.length c5)), (16, (.int .i64 (x0.length : Int))), (17, (.int .i64 (i17 : Int))), (26, v2)] rfl ⟨rfl, rfl, rfl, rfl, rfl, rfl, rfl, rfl, trivial⟩ ?_
  refine wo_load Θ_ok rfl rfl rfl rfl rfl rfl rfl hb34 [(.int .u64 z19.fPid), (.slice A37 z19.fWords.length c38)] rfl rfl (.inl rfl) (.agg #[(.int .u64 z19.fPid), (.slice A37 z19.fWords.length c38)]) rfl ?_
  refine wo_load Θ_ok rfl rfl rfl rfl rfl rfl rfl hb49 [(.int .u64 y43.fPid), (.slice A52 y43.fWords.length c53)] rfl rfl (.inl rfl) (.agg #[(.int .u64 y43.fPid), (.slice A52 y43.fWords.length c53)]) rfl ?_
  obtain ⟨y56, hy57, h⟩ := bind_some h
  refine wo_dyn2 rfl rfl rfl rfl rfl rfl rfl h2 hO ((tGBox_is (x := z19)).2 ⟨_, rfl, h33⟩) ((tGBox_is (x := y43)).2 ⟨_, rfl, h48⟩) hy57 (fun v58 w59 h60 f61 => ?_)
  have h1 := h1.tr f61.tr0
  have h2 := h2.tr f61.tr0
  have h0 := h0.tr f61.tr0
  have T9 := T9.trans f61.tr0
  have T16 := T16.trans f61.tr0
  have hO := f61.ob hO
  have hF := hF.trans f61
  obtain rfl := bool_is.1 h60
  refine wo_seg Θ_ok [4] [(1, (.slice A6 x1.length c7)), (2, v2), (15, (.slice A4 x0.length c5)), (16, (.int .i64 (x0.length : Int))), (17, (.int .i64 (i17 : Int))), (30, (.bool (!y56)))] rfl ⟨rfl, rfl, rfl, rfl, rfl, rfl, trivial⟩ ?_
  refine wo_nil ?_
  refine wq_seq ?_
  rcases bif_some h with ⟨hc62, h⟩ | ⟨hc62, h⟩
  rotate_left
  · refine wc_known_false rfl hc62 ?_
    refine wc_skip ?_
    refine wq_block (wq_seq ?_)
    refine wc_region (l := [0, 1]) rfl ?_
    refine wo_seg Θ_ok [0, 1] [(1, (.slice A6 x1.length c7)), (2, v2), (15, (.slice A4 x0.length c5)), (16, (.int .i64 (x0.length : Int))), (17, (.int .i64 (IntKind.i64.wrap ((i17 : Int) + (1 : Int)))))] rfl ⟨rfl, rfl, rfl, rfl, rfl, trivial⟩ ?_
    refine wo_nil ?_
    exact wq_next rest18.length [(1, (.slice A6 x1.length c7)), (2, v2), (15, (.slice A4 x0.length c5)), (16, (.int .i64 (x0.length : Int))), (17, (.int .i64 ((i17 + 1 : Nat) : Int)))] (Nat.lt_succ_self _) ⟨rfl, rfl, rfl, rfl, congrArg (fun z => some (Value.int .i64 z)) (wrap_succ hl27 (Nat.le_trans hlc5 hmc5)), trivial⟩ ⟨rest18, i17 + 1, b49 :: b34 :: O21, rfl, hd20, rfl, T16, hO, hS, hF, h⟩
  refine wc_known_true rfl hc62 ?_
  refine wc_seq ?_
  refine wc_region (l := [0]) rfl ?_
  refine wo_seg Θ_ok [0] [(6, (.bool false))] rfl ⟨rfl, trivial⟩ ?_
  refine wo_nil ?_
  refine wq_seq ?_
  refine wc_ret ?_
  cases h
  exact wq_block_ret (wq_then_ret (wq_then_ret (wq_block_ret (wq_then_ret (wq_ret rfl ⟨_, rfl, (bool_is.2 rfl), hF⟩)))))
set_option maxRecDepth 100000 in
set_option maxHeartbeats 4000000 in
theorem i_Same_c {O : List Nat} {w : World} (hO : OB O w) {v0 : Value} {x0 : GIpc} (h0 : tGIpc.is O w v0 x0) {v1 : Value} {x1 : GIpc} (h1 : tGIpc.is O w v1 x1) {r : Bool} (h : i_Same x0 x1 = some r) : Calls Try.prog 23 #[v0, v1] w (Gives (rt1 Ty.bool) O w r) := by
  obtain ⟨v0_1, v0_2, rfl, h0_1, h0_2⟩ := tGIpc_is.1 h0
  obtain ⟨v1_1, v1_2, rfl, h1_1, h1_2⟩ := tGIpc_is.1 h1
  have hF := Fr.refl [] w
  have hO0 := hO
  have hS := Sub.refl O
  refine calls_of (args := [(.agg #[v0_1, v0_2]), (.agg #[v1_1, v1_2])]) (N := 17) Try.func23 rfl rfl rfl ?_
  unfold i_Same at h
  refine wc_seq ?_
  refine wc_region (l := [0, 1, 2]) rfl ?_
  refine wo_box rfl rfl rfl rfl rfl rfl [v0_1, v0_2] rfl hO (fun b3 w4 n5 => ?_)
  have h1_1 := h1_1.tr n5.tr
  have h1_2 := h1_2.tr n5.tr
  have h0_1 := h0_1.tr n5.tr
  have h0_2 := h0_2.tr n5.tr
  have hb3 := n5.blk
  have gb3 := n5.ge0 hF
  have ib3 : b3 ∈ b3 :: O := List.mem_cons_self
  have hO := n5.ob
  have hF := hF.trans n5.fr
  have hS := Sub.cons hS b3
  refine wo_box rfl rfl rfl rfl rfl rfl [v1_1, v1_2] rfl hO (fun b6 w7 n8 => ?_)
  have h1_1 := h1_1.tr n8.tr
  have h1_2 := h1_2.tr n8.tr
  have h0_1 := h0_1.tr n8.tr
  have h0_2 := h0_2.tr n8.tr
  have nb6b3 : b6 ≠ b3 := by have := hb3.lt; have := n8.ge; omega
  have hb3 := hb3.fr0 n8.fr
  have ib3 := List.mem_cons_of_mem b6 ib3
  have hb6 := n8.blk
  have gb6 := n8.ge0 hF
  have ib6 : b6 ∈ b6 :: (b3 :: O) := List.mem_cons_self
  have hO := n8.ob
  have hF := hF.trans n8.fr
  have hS := Sub.cons hS b6
  refine wo_seg Θ_ok [2] [(2, (.pointer (some ⟨b3, 0, none⟩))), (3, (.pointer (some ⟨b6, 0, none⟩)))] rfl ⟨rfl, rfl, trivial⟩ ?_
  refine wo_nil ?_
  refine wq_seq ?_
  refine wc_seq ?_
  refine wc_region (l := [0, 1, 2, 3, 4, 5, 6, 7, 8, 9, 10, 11, 12]) rfl ?_
  refine wo_seg Θ_ok [0] [(2, (.pointer (some ⟨b3, 0, none⟩))), (3, (.pointer (some ⟨b6, 0, none⟩))), (5, (.pointer (some ⟨b3, 0, none⟩)))] rfl ⟨rfl, rfl, rfl, trivial⟩ ?_
  refine wo_load Θ_ok rfl rfl rfl rfl rfl rfl rfl hb3 [v0_1] rfl rfl (.inr rfl) v0_1 rfl ?_
  refine wo_seg Θ_ok [2] [(2, (.pointer (some ⟨b3, 0, none⟩))), (3, (.pointer (some ⟨b6, 0, none⟩))), (6, v0_1), (7, (.pointer (some ⟨b6, 0, none⟩)))] rfl ⟨rfl, rfl, rfl, rfl, trivial⟩ ?_
  refine wo_load Θ_ok rfl rfl rfl rfl rfl rfl rfl hb6 [v1_1] rfl rfl (.inr rfl) v1_1 rfl ?_
  obtain ⟨y13, hy14, h⟩ := bind_some h
  refine wo_gives rfl rfl rfl rfl rfl ent44 rfl (s_EqualN_c hO h0_1 h1_1 hy14) (fun v9 w10 h11 f12 => ?_)
  have h0_1 := h0_1.tr f12.tr0
  have h0_2 := h0_2.tr f12.tr0
  have h1_1 := h1_1.tr f12.tr0
  have h1_2 := h1_2.tr f12.tr0
  have hb3 := hb3.fr0 f12
  have hb6 := hb6.fr0 f12
  have hO := f12.ob hO
  have hF := hF.trans f12
  obtain rfl := bool_is.1 h11
  refine wo_seg Θ_ok [5] [(2, (.pointer (some ⟨b3, 0, none⟩))), (3, (.pointer (some ⟨b6, 0, none⟩))), (10, (.bool y13))] rfl ⟨rfl, rfl, rfl, trivial⟩ ?_
  rcases bif_some h with ⟨hc15, h⟩ | ⟨hc15, h⟩
  rotate_left
  · refine wo_know 10 false rfl hc15 ?_
    refine wo_seg Θ_ok [6, 7, 8, 9, 10, 11, 12] [(4, (.bool false))] rfl ⟨rfl, trivial⟩ ?_
    refine wo_nil ?_
    refine wq_seq ?_
    refine wc_ret ?_
    cases h
    exact wq_ret rfl ⟨_, rfl, (bool_is.2 rfl), hF⟩
  refine wo_know 10 true rfl hc15 ?_
  refine wo_seg Θ_ok [6] [(3, (.pointer (some ⟨b6, 0, none⟩))), (10, (.bool true)), (11, (.pointer (some ⟨b3, 1, none⟩)))] rfl ⟨rfl, rfl, rfl, trivial⟩ ?_
  refine wo_load Θ_ok rfl rfl rfl rfl rfl rfl rfl hb3 [v0_2] rfl rfl (.inr rfl) v0_2 rfl ?_
  refine wo_seg Θ_ok [8] [(10, (.bool true)), (12, v0_2), (13, (.pointer (some ⟨b6, 1, none⟩)))] rfl ⟨rfl, rfl, rfl, trivial⟩ ?_
  refine wo_load Θ_ok rfl rfl rfl rfl rfl rfl rfl hb6 [v1_2] rfl rfl (.inr rfl) v1_2 rfl ?_
  obtain ⟨y20, hy21, h⟩ := bind_some h
  refine wo_gives rfl rfl rfl rfl rfl ent45 rfl (s_EqualFunc_c hO h0_2 h1_2 (fn2_is (first := []) (cap := []) ent46 (fun O' w' ht hO u0 z0 q0 u1 z1 q1 y hy => i_Same1_c hO q0 q1 hy)) hy21) (fun v16 w17 h18 f19 => ?_)
  have hO := f19.ob hO
  have hF := hF.trans f19
  obtain rfl := bool_is.1 h18
  refine wo_seg Θ_ok [11, 12] [(4, (.bool y20))] rfl ⟨rfl, trivial⟩ ?_
  refine wo_nil ?_
  refine wq_seq ?_
  refine wc_ret ?_
  cases h
  exact wq_ret rfl ⟨_, rfl, (bool_is.2 rfl), hF⟩
set_option maxRecDepth 100000 in
set_option maxHeartbeats 4000000 in
theorem s_Index_c {O : List Nat} {w : World} (hO : OB O w) {v0 : Value} {x0 : List Int} (h0 : (Ty.slice (Ty.int .u64)).is O w v0 x0) {v1 : Value} {x1 : Int} (h1 : (Ty.int .u64).is O w v1 x1) : Calls Try.prog 47 #[v0, v1] w (Gives (rt1 (Ty.int .i64)) O w (s_Index x0 x1)) := by
  obtain rfl := int_is.1 h1
  have hF := Fr.refl [] w
  have hO0 := hO
  have hS := Sub.refl O
  obtain ⟨r, h⟩ : ∃ r, s_Index x0 x1 = r := ⟨_, rfl⟩
  rw [h]
  refine calls_of (args := [v0, (.int .u64 x1)]) (N := 19) Try.func47 rfl rfl rfl ?_
  unfold s_Index at h
  refine wc_seq ?_
  refine wc_region (l := [0]) rfl ?_
  refine wo_seg Θ_ok [0] [(0, v0), (1, (.int .u64 x1))] rfl ⟨rfl, rfl, trivial⟩ ?_
  refine wo_nil ?_
  refine wq_seq ?_
  obtain ⟨k4, hk5, h⟩ := letk_some h
  refine wc_join (fun E W => ∃ (O8 : List Nat), E = [] ∧ Tr O w O8 W ∧ OB O8 W ∧ Sub O O8 ∧ Fr [] w W ∧ k4 = r) ?_ (fun K6 hK7 => ?_)
  · rintro E w9 ⟨O8, rfl, T3, hO, hS, hF, h⟩
    subst hk5
    (try dsimp only at h)
    refine wc_seq ?_
    refine wc_region (l := [0]) rfl ?_
    refine wo_seg Θ_ok [0] [(4, (.int .i64 (-1)))] rfl ⟨rfl, trivial⟩ ?_
    refine wo_nil ?_
    refine wq_seq ?_
    refine wc_ret ?_
    subst h
    exact wq_ret rfl ⟨_, rfl, (int_is.2 rfl), hF⟩
  clear hk5
  have T3 := Tr.refl O w
  refine wc_seq ?_
  refine wc_region (l := [0, 1, 2]) rfl ?_
  refine wo_seg Θ_ok [0] [(0, v0), (1, (.int .u64 x1)), (6, v0)] rfl ⟨rfl, rfl, rfl, trivial⟩ ?_
  obtain ⟨A10, c11, rfl, hlc11, hmc11⟩ := slice_form h0
  refine wo_seg Θ_ok [1] [(0, (.slice A10 x0.length c11)), (1, (.int .u64 x1)), (7, (.int .i64 (x0.length : Int)))] rfl ⟨rfl, rfl, rfl, trivial⟩ ?_
  refine wo_seg Θ_ok [2] [(0, (.slice A10 x0.length c11)), (1, (.int .u64 x1)), (7, (.int .i64 (x0.length : Int))), (8, (.int .i64 0))] rfl ⟨rfl, rfl, rfl, rfl, trivial⟩ ?_
  refine wo_nil ?_
  refine wq_seq ?_
  refine wc_block ?_
  refine wc_loop (fun m E W => ∃ (rest14 : List Int) (i13 : Nat) (O17 : List Nat), rest14.length = m ∧ x0.drop i13 = rest14 ∧ E = [(0, (.slice A10 x0.length c11)), (1, (.int .u64 x1)), (7, (.int .i64 (x0.length : Int))), (8, (.int .i64 (i13 : Int)))] ∧ Tr O w O17 W ∧ OB O17 W ∧ Sub O O17 ∧ Fr [] w W ∧ s_Index_l1 x1 k4 rest14 i13 = r) _ [(0, (.slice A10 x0.length c11)), (1, (.int .u64 x1)), (7, (.int .i64 (x0.length : Int))), (8, (.int .i64 ((0 : Nat) : Int)))] ⟨rfl, rfl, rfl, rfl, trivial⟩ ⟨x0, 0, O, rfl, rfl, rfl, Tr.refl _ _, hO, hS, hF, h⟩ ?_
  rintro m E w18 ⟨rest14, i13, O17, rfl, hd16, rfl, T12, hO, hS, hF, h⟩
  have T3 := T3.trans T12
  have h0 := h0.tr T12
  rcases rest14 with _ | ⟨z15, rest14⟩
  · rw [s_Index_l1] at h
    have hl22 := drop_nil hd16
    have hc19 : (decide ((i13 : Int) < (x0.length : Int))) = false := decide_eq_false (by omega)
    refine wc_seq ?_
    refine wc_region (l := [0]) rfl ?_
    refine wo_seg Θ_ok [0] [(0, (.slice A10 x0.length c11)), (1, (.int .u64 x1)), (7, (.int .i64 (x0.length : Int))), (8, (.int .i64 (i13 : Int))), (9, (.bool (decide ((i13 : Int) < (x0.length : Int)))))] rfl ⟨rfl, rfl, rfl, rfl, rfl, trivial⟩ ?_
    refine wo_nil ?_
    refine wq_seq ?_
    refine wc_seq ?_
    refine wc_known_false rfl hc19 ?_
    refine wc_exit ?_
    exact wq_then_exit (wq_then_exit (wq_block_exit (wq_join hK7 [] trivial ⟨O17, rfl, T3, hO, hS, hF, h⟩)))
  rw [s_Index_l1] at h
  obtain ⟨hl23, hg21, hd16⟩ := drop_cons hd16
  have hc20 : (decide ((i13 : Int) < (x0.length : Int))) = true := decide_eq_true (by omega)
  refine wc_seq ?_
  refine wc_region (l := [0]) rfl ?_
  refine wo_seg Θ_ok [0] [(0, (.slice A10 x0.length c11)), (1, (.int .u64 x1)), (7, (.int .i64 (x0.length : Int))), (8, (.int .i64 (i13 : Int))), (9, (.bool (decide ((i13 : Int) < (x0.length : Int)))))] rfl ⟨rfl, rfl, rfl, rfl, rfl, trivial⟩ ?_
  refine wo_nil ?_
  refine wq_seq ?_
  refine wc_seq ?_
  refine wc_known_true rfl hc20 ?_
  refine wc_skip ?_
  refine wq_seq ?_
  refine wc_seq ?_
  refine wc_block ?_
  refine wc_seq ?_
  refine wc_region (l := [0, 1]) rfl ?_
  refine wo_seg Θ_ok [0, 1] [(0, (.slice A10 x0.length c11)), (1, (.int .u64 x1)), (5, (.int .i64 (i13 : Int))), (7, (.int .i64 (x0.length : Int))), (8, (.int .i64 (i13 : Int)))] rfl ⟨rfl, rfl, rfl, rfl, rfl, trivial⟩ ?_
  refine wo_nil ?_
  refine wq_seq ?_
  refine wc_seq ?_
  refine wc_region (l := [0, 1, 2, 3, 4, 5]) rfl ?_
  refine wo_seg Θ_ok [0, 1, 2] [(0, (.slice A10 x0.length c11)), (1, (.int .u64 x1)), (5, (.int .i64 (i13 : Int))), (7, (.int .i64 (x0.length : Int))), (8, (.int .i64 (i13 : Int))), (11, (.int .u64 x1)), (12, (.slice A10 x0.length c11)), (13, (.int .i64 (i13 : Int)))] rfl ⟨rfl, rfl, rfl, rfl, rfl, rfl, rfl, rfl, trivial⟩ ?_
  refine wo_index Θ_ok rfl rfl rfl rfl rfl rfl rfl rfl rfl rfl h0 rfl (by omega) hg21 (fun p24 h25 => ?_)
  refine wo_loadp Θ_ok rfl rfl rfl rfl rfl rfl rfl h25 rfl rfl (fun v26 h27 => ?_)
  obtain rfl := int_is.1 h27
  refine wo_seg Θ_ok [5] [(0, (.slice A10 x0.length c11)), (1, (.int .u64 x1)), (5, (.int .i64 (i13 : Int))), (7, (.int .i64 (x0.length : Int))), (8, (.int .i64 (i13 : Int))), (16, (.bool (x1 == z15)))] rfl ⟨rfl, rfl, rfl, rfl, rfl, rfl, trivial⟩ ?_
  refine wo_nil ?_
  refine wq_seq ?_
  rcases bif_some h with ⟨hc28, h⟩ | ⟨hc28, h⟩
  rotate_left
  · refine wc_known_false rfl hc28 ?_
    refine wc_skip ?_
    refine wq_block (wq_seq ?_)
    refine wc_region (l := [0, 1]) rfl ?_
    refine wo_seg Θ_ok [0, 1] [(0, (.slice A10 x0.length c11)), (1, (.int .u64 x1)), (7, (.int .i64 (x0.length : Int))), (8, (.int .i64 (IntKind.i64.wrap ((i13 : Int) + (1 : Int)))))] rfl ⟨rfl, rfl, rfl, rfl, trivial⟩ ?_
    refine wo_nil ?_
    exact wq_next rest14.length [(0, (.slice A10 x0.length c11)), (1, (.int .u64 x1)), (7, (.int .i64 (x0.length : Int))), (8, (.int .i64 ((i13 + 1 : Nat) : Int)))] (Nat.lt_succ_self _) ⟨rfl, rfl, rfl, congrArg (fun z => some (Value.int .i64 z)) (wrap_succ hl23 (Nat.le_trans hlc11 hmc11)), trivial⟩ ⟨rest14, i13 + 1, O17, rfl, hd16, rfl, T12, hO, hS, hF, h⟩
  refine wc_known_true rfl hc28 ?_
  refine wc_seq ?_
  refine wc_region (l := [0, 1]) rfl ?_
  refine wo_seg Θ_ok [0, 1] [(4, (.int .i64 (i13 : Int)))] rfl ⟨rfl, trivial⟩ ?_
  refine wo_nil ?_
  refine wq_seq ?_
  refine wc_ret ?_
  subst h
  exact wq_block_ret (wq_then_ret (wq_then_ret (wq_block_ret (wq_then_ret (wq_ret rfl ⟨_, rfl, (int_is.2 rfl), hF⟩)))))
set_option maxRecDepth 100000 in
set_option maxHeartbeats 4000000 in
theorem s_Contains_c {O : List Nat} {w : World} (hO : OB O w) {v0 : Value} {x0 : List Int} (h0 : (Ty.slice (Ty.int .u64)).is O w v0 x0) {v1 : Value} {x1 : Int} (h1 : (Ty.int .u64).is O w v1 x1) : Calls Try.prog 24 #[v0, v1] w (Gives (rt1 Ty.bool) O w (s_Contains x0 x1)) := by
  obtain rfl := int_is.1 h1
  have hF := Fr.refl [] w
  have hO0 := hO
  have hS := Sub.refl O
  obtain ⟨r, h⟩ : ∃ r, s_Contains x0 x1 = r := ⟨_, rfl⟩
  rw [h]
  refine calls_of (args := [v0, (.int .u64 x1)]) (N := 9) Try.func24 rfl rfl rfl ?_
  unfold s_Contains at h
  refine wc_seq ?_
  refine wc_region (l := [0]) rfl ?_
  refine wo_seg Θ_ok [0] [(0, v0), (1, (.int .u64 x1))] rfl ⟨rfl, rfl, trivial⟩ ?_
  refine wo_nil ?_
  refine wq_seq ?_
  refine wc_seq ?_
  refine wc_region (l := [0, 1, 2, 3, 4]) rfl ?_
  refine wo_seg Θ_ok [0, 1] [(5, v0), (6, (.int .u64 x1))] rfl ⟨rfl, rfl, trivial⟩ ?_
  refine wo_gives rfl rfl rfl rfl rfl ent47 rfl (s_Index_c hO h0 (int_is.2 rfl)) (fun v3 w4 h5 f6 => ?_)
  have hO := f6.ob hO
  have hF := hF.trans f6
  obtain rfl := int_is.1 h5
  refine wo_seg Θ_ok [3, 4] [(4, (.bool (decide ((s_Index x0 x1) ≥ (0 : Int)))))] rfl ⟨rfl, trivial⟩ ?_
  refine wo_nil ?_
  refine wq_seq ?_
  refine wc_ret ?_
  subst h
  exact wq_ret rfl ⟨_, rfl, (bool_is.2 rfl), hF⟩
set_option maxRecDepth 100000 in
set_option maxHeartbeats 4000000 in
theorem l_Back_c {O : List Nat} {w : World} (hO : OB O w) {fuel : Nat} {v0 : Value} {x0 : GIpc} (h0 : tGIpc.is O w v0 x0) {v1 : Value} {x1 : GName} (h1 : tGName.is O w v1 x1) {v2 : Value} {x2 : Int} (h2 : (Ty.int .u64).is O w v2 x2) {r : Bool} (h : l_Back fuel x0 x1 x2 = some r) : Calls Try.prog 5 #[v0, v1, v2] w (Gives (rt1 Ty.bool) O w r) := by
  obtain ⟨v0_1, v0_2, rfl, h0_1, h0_2⟩ := tGIpc_is.1 h0
  obtain rfl := tGName_is.1 h1
  obtain rfl := int_is.1 h2
  have hF := Fr.refl [] w
  have hO0 := hO
  have hS := Sub.refl O
  refine calls_of (args := [(.agg #[v0_1, v0_2]), (.agg #[(.int .u64 x1.fName), (.int .u64 x1.fPid)]), (.int .u64 x2)]) (N := 122) Try.func5 rfl rfl rfl ?_
  unfold l_Back at h
  refine wc_seq ?_
  refine wc_region (l := [0, 1, 2]) rfl ?_
  refine wo_box rfl rfl rfl rfl rfl rfl [v0_1, v0_2] rfl hO (fun b4 w5 n6 => ?_)
  have h0_1 := h0_1.tr n6.tr
  have h0_2 := h0_2.tr n6.tr
  have hb4 := n6.blk
  have gb4 := n6.ge0 hF
  have ib4 : b4 ∈ b4 :: O := List.mem_cons_self
  have hO := n6.ob
  have hF := hF.trans n6.fr
  have hS := Sub.cons hS b4
  refine wo_box rfl rfl rfl rfl rfl rfl [(.int .u64 x1.fName), (.int .u64 x1.fPid)] rfl hO (fun b7 w8 n9 => ?_)
  have h0_1 := h0_1.tr n9.tr
  have h0_2 := h0_2.tr n9.tr
  have nb7b4 : b7 ≠ b4 := by have := hb4.lt; have := n9.ge; omega
  have hb4 := hb4.fr0 n9.fr
  have ib4 := List.mem_cons_of_mem b7 ib4
  have hb7 := n9.blk
  have gb7 := n9.ge0 hF
  have ib7 : b7 ∈ b7 :: (b4 :: O) := List.mem_cons_self
  have hO := n9.ob
  have hF := hF.trans n9.fr
  have hS := Sub.cons hS b7
  refine wo_seg Θ_ok [2] [(2, (.int .u64 x2)), (3, (.pointer (some ⟨b4, 0, none⟩))), (4, (.pointer (some ⟨b7, 0, none⟩)))] rfl ⟨rfl, rfl, rfl, trivial⟩ ?_
  refine wo_nil ?_
  refine wq_seq ?_
  refine wc_seq ?_
  refine wc_seq ?_
  refine wc_region (l := [0, 1]) rfl ?_
  obtain ⟨y14, hy15, h⟩ := bind_some h
  refine wo_gives rfl rfl rfl rfl rfl ent7 rfl (wakes_c hO hy15) (fun v10 w11 h12 f13 => ?_)
  have h0_1 := h0_1.tr f13.tr0
  have h0_2 := h0_2.tr f13.tr0
  have hb4 := hb4.fr0 f13
  have hb7 := hb7.fr0 f13
  have hO := f13.ob hO
  have hF := hF.trans f13
  obtain rfl := bool_is.1 h12
  refine wo_seg Θ_ok [1] [(2, (.int .u64 x2)), (3, (.pointer (some ⟨b4, 0, none⟩))), (4, (.pointer (some ⟨b7, 0, none⟩))), (21, (.bool (!y14)))] rfl ⟨rfl, rfl, rfl, rfl, trivial⟩ ?_
  refine wo_nil ?_
  refine wq_seq ?_
  rcases bif_some h with ⟨hc16, h⟩ | ⟨hc16, h⟩
  · refine wc_known_true rfl hc16 ?_
    refine wc_seq ?_
    refine wc_region (l := [0]) rfl ?_
    refine wo_seg Θ_ok [0] [(6, (.bool false))] rfl ⟨rfl, trivial⟩ ?_
    refine wo_nil ?_
    refine wq_seq ?_
    refine wc_ret ?_
    cases h
    exact wq_then_ret (wq_ret rfl ⟨_, rfl, (bool_is.2 rfl), hF⟩)
  refine wc_known_false rfl hc16 ?_
  refine wc_skip ?_
  refine wq_seq ?_
  refine wc_seq ?_
  refine wc_region (l := [0, 1, 2, 3]) rfl ?_
  refine wo_load Θ_ok rfl rfl rfl rfl rfl rfl rfl hb4 [v0_1, v0_2] rfl rfl (.inl rfl) (.agg #[v0_1, v0_2]) rfl ?_
  obtain ⟨y21, hy22, h⟩ := bind_some h
  refine wo_gives rfl rfl rfl rfl rfl ent8 rfl (own_c hO ((tGIpc_is (x := x0)).2 ⟨_, _, rfl, h0_1, h0_2⟩) hy22) (fun v17 w18 h19 f20 => ?_)
  have hb7 := hb7.fr0 f20
  have hO := f20.ob hO
  have hF := hF.trans f20
  obtain ⟨v23, v25, rfl, h24, h26⟩ := tGIpc_is.1 h19
  refine wo_alloc Θ_ok rfl rfl rfl rfl rfl rfl [(.slice none 0 0), (.slice none 0 0)] rfl hO (fun b27 w28 n29 => ?_)
  have h24 := h24.tr n29.tr
  have h26 := h26.tr n29.tr
  have nb27b7 : b27 ≠ b7 := by have := hb7.lt; have := n29.ge; omega
  have hb7 := hb7.fr0 n29.fr
  have ib7 := List.mem_cons_of_mem b27 ib7
  have hb27 := n29.blk
  have gb27 := n29.ge0 hF
  have ib27 : b27 ∈ b27 :: (b7 :: b4 :: O) := List.mem_cons_self
  have hO := n29.ob
  have hF := hF.trans n29.fr
  have hS := Sub.cons hS b27
  obtain ⟨A30, c31, rfl, hlc31, hmc31⟩ := slice_form h24
  obtain ⟨A32, c33, rfl, hlc33, hmc33⟩ := slice_form h26
  refine wo_store Θ_ok rfl rfl rfl rfl rfl rfl rfl hb27 [(.slice A30 y21.fNames.length c31), (.slice A32 y21.fBoxes.length c33)] rfl rfl (by simp [Value.oneCell']) rfl [(.slice A30 y21.fNames.length c31), (.slice A32 y21.fBoxes.length c33)] rfl (fun w34 hb27 f35 => ?_)
  have h24 := h24.tr (f35.tr (one_in ib27))
  have h26 := h26.tr (f35.tr (one_in ib27))
  have hb7 := hb7.fr f35 (nin nb27b7.symm)
  have hO := f35.ob hO
  have hF := hF.own f35 gb27
  refine wo_nil ?_
  refine wq_seq ?_
  refine wc_seq ?_
  refine wc_region (l := [0, 1, 2, 3, 4, 5, 6, 7, 8, 9, 10, 11]) rfl ?_
  refine wo_load Θ_ok rfl rfl rfl rfl rfl rfl rfl hb27 [(.slice A30 y21.fNames.length c31), (.slice A32 y21.fBoxes.length c33)] rfl rfl (.inl rfl) (.agg #[(.slice A30 y21.fNames.length c31), (.slice A32 y21.fBoxes.length c33)]) rfl ?_
  refine wo_seg Θ_ok [1] [(2, (.int .u64 x2)), (4, (.pointer (some ⟨b7, 0, none⟩))), (7, (.pointer (some ⟨b27, 0, none⟩))), (25, (.agg #[(.slice A30 y21.fNames.length c31), (.slice A32 y21.fBoxes.length c33)])), (26, (.pointer (some ⟨b7, 0, none⟩)))] rfl ⟨rfl, rfl, rfl, rfl, rfl, trivial⟩ ?_
  refine wo_load Θ_ok rfl rfl rfl rfl rfl rfl rfl hb7 [(.int .u64 x1.fName)] rfl rfl (.inr rfl) (.int .u64 x1.fName) rfl ?_
  refine wo_seg Θ_ok [3] [(2, (.int .u64 x2)), (4, (.pointer (some ⟨b7, 0, none⟩))), (7, (.pointer (some ⟨b27, 0, none⟩))), (25, (.agg #[(.slice A30 y21.fNames.length c31), (.slice A32 y21.fBoxes.length c33)])), (27, (.int .u64 x1.fName)), (28, (.pointer (some ⟨b7, 1, none⟩)))] rfl ⟨rfl, rfl, rfl, rfl, rfl, rfl, trivial⟩ ?_
  refine wo_load Θ_ok rfl rfl rfl rfl rfl rfl rfl hb7 [(.int .u64 x1.fPid)] rfl rfl (.inr rfl) (.int .u64 x1.fPid) rfl ?_
  obtain ⟨y40, hy41, h⟩ := bind_some h
  refine wo_gives rfl rfl rfl rfl rfl ent10 rfl (i_Register_c hO ((tGIpc_is (x := y21)).2 ⟨_, _, rfl, h24, h26⟩) (int_is.2 rfl) (int_is.2 rfl) hy41) (fun v36 w37 h38 f39 => ?_)
  have h24 := h24.tr f39.tr0
  have h26 := h26.tr f39.tr0
  have hb7 := hb7.fr0 f39
  have hb27 := hb27.fr0 f39
  have hO := f39.ob hO
  have hF := hF.trans f39
  obtain ⟨u42, u44, rfl, h43, h45⟩ := h38
  obtain ⟨v46, v48, rfl, h47, h49⟩ := tGIpc_is.1 h43
  obtain rfl := int_is.1 h45
  refine wo_seg Θ_ok [6, 7, 8] [(2, (.int .u64 x2)), (4, (.pointer (some ⟨b7, 0, none⟩))), (7, (.pointer (some ⟨b27, 0, none⟩))), (31, (.agg #[v46, v48])), (32, (.int .i64 y40.2))] rfl ⟨rfl, rfl, rfl, rfl, rfl, trivial⟩ ?_
  refine wo_alloc Θ_ok rfl rfl rfl rfl rfl rfl [(.slice none 0 0), (.slice none 0 0)] rfl hO (fun b50 w51 n52 => ?_)
  have h47 := h47.tr n52.tr
  have h49 := h49.tr n52.tr
  have h24 := h24.tr n52.tr
  have h26 := h26.tr n52.tr
  have nb50b7 : b50 ≠ b7 := by have := hb7.lt; have := n52.ge; omega
  have hb7 := hb7.fr0 n52.fr
  have ib7 := List.mem_cons_of_mem b50 ib7
  have nb50b27 : b50 ≠ b27 := by have := hb27.lt; have := n52.ge; omega
  have hb27 := hb27.fr0 n52.fr
  have ib27 := List.mem_cons_of_mem b50 ib27
  have hb50 := n52.blk
  have gb50 := n52.ge0 hF
  have ib50 : b50 ∈ b50 :: (b27 :: b7 :: b4 :: O) := List.mem_cons_self
  have hO := n52.ob
  have hF := hF.trans n52.fr
  have hS := Sub.cons hS b50
  obtain ⟨A53, c54, rfl, hlc54, hmc54⟩ := slice_form h47
  obtain ⟨A55, c56, rfl, hlc56, hmc56⟩ := slice_form h49
  refine wo_store Θ_ok rfl rfl rfl rfl rfl rfl rfl hb50 [(.slice A53 y40.1.fNames.length c54), (.slice A55 y40.1.fBoxes.length c56)] rfl rfl (by simp [Value.oneCell']) rfl [(.slice A53 y40.1.fNames.length c54), (.slice A55 y40.1.fBoxes.length c56)] rfl (fun w57 hb50 f58 => ?_)
  have h24 := h24.tr (f58.tr (one_in ib50))
  have h26 := h26.tr (f58.tr (one_in ib50))
  have h47 := h47.tr (f58.tr (one_in ib50))
  have h49 := h49.tr (f58.tr (one_in ib50))
  have hb7 := hb7.fr f58 (nin nb50b7.symm)
  have hb27 := hb27.fr f58 (nin nb50b27.symm)
  have hO := f58.ob hO
  have hF := hF.own f58 gb50
  refine wo_seg Θ_ok [11] [(2, (.int .u64 x2)), (4, (.pointer (some ⟨b7, 0, none⟩))), (7, (.pointer (some ⟨b27, 0, none⟩))), (8, (.pointer (some ⟨b50, 0, none⟩))), (9, (.int .i64 y40.2))] rfl ⟨rfl, rfl, rfl, rfl, rfl, trivial⟩ ?_
  refine wo_nil ?_
  refine wq_seq ?_
  refine wc_seq ?_
  refine wc_seq ?_
  refine wc_region (l := [0, 1]) rfl ?_
  refine wo_seg Θ_ok [0, 1] [(2, (.int .u64 x2)), (4, (.pointer (some ⟨b7, 0, none⟩))), (7, (.pointer (some ⟨b27, 0, none⟩))), (8, (.pointer (some ⟨b50, 0, none⟩))), (34, (.bool (y40.2 != (0 : Int))))] rfl ⟨rfl, rfl, rfl, rfl, rfl, trivial⟩ ?_
  refine wo_nil ?_
  refine wq_seq ?_
  rcases bif_some h with ⟨hc59, h⟩ | ⟨hc59, h⟩
  · refine wc_known_true rfl hc59 ?_
    refine wc_seq ?_
    refine wc_region (l := [0, 1, 2, 3, 4, 5, 6, 7, 8]) rfl ?_
    refine wo_seg Θ_ok [0] [(8, (.pointer (some ⟨b50, 0, none⟩))), (35, (.pointer (some ⟨b50, 0, none⟩)))] rfl ⟨rfl, rfl, trivial⟩ ?_
    refine wo_load Θ_ok rfl rfl rfl rfl rfl rfl rfl hb50 [(.slice A53 y40.1.fNames.length c54)] rfl rfl (.inr rfl) (.slice A53 y40.1.fNames.length c54) rfl ?_
    refine wo_seg Θ_ok [2, 3] [(37, (.int .i64 (y40.1.fNames.length : Int))), (38, (.pointer (some ⟨b50, 1, none⟩)))] rfl ⟨rfl, rfl, trivial⟩ ?_
    refine wo_load Θ_ok rfl rfl rfl rfl rfl rfl rfl hb50 [(.slice A55 y40.1.fBoxes.length c56)] rfl rfl (.inr rfl) (.slice A55 y40.1.fBoxes.length c56) rfl ?_
    refine wo_seg Θ_ok [5, 6, 7, 8] [(6, (.bool ((IntKind.i64.wrap ((y40.1.fNames.length : Int) + (y40.1.fBoxes.length : Int))) == (0 : Int))))] rfl ⟨rfl, trivial⟩ ?_
    refine wo_nil ?_
    refine wq_seq ?_
    refine wc_ret ?_
    cases h
    exact wq_then_ret (wq_ret rfl ⟨_, rfl, (bool_is.2 rfl), hF⟩)
  refine wc_known_false rfl hc59 ?_
  refine wc_skip ?_
  refine wq_seq ?_
  refine wc_seq ?_
  refine wc_region (l := [0, 1, 2, 3, 4, 5, 6, 7, 8]) rfl ?_
  refine wo_load Θ_ok rfl rfl rfl rfl rfl rfl rfl hb50 [(.slice A53 y40.1.fNames.length c54), (.slice A55 y40.1.fBoxes.length c56)] rfl rfl (.inl rfl) (.agg #[(.slice A53 y40.1.fNames.length c54), (.slice A55 y40.1.fBoxes.length c56)]) rfl ?_
  refine wo_seg Θ_ok [1] [(2, (.int .u64 x2)), (4, (.pointer (some ⟨b7, 0, none⟩))), (7, (.pointer (some ⟨b27, 0, none⟩))), (8, (.pointer (some ⟨b50, 0, none⟩))), (44, (.agg #[(.slice A53 y40.1.fNames.length c54), (.slice A55 y40.1.fBoxes.length c56)])), (45, (.pointer (some ⟨b7, 0, none⟩)))] rfl ⟨rfl, rfl, rfl, rfl, rfl, rfl, trivial⟩ ?_
  refine wo_load Θ_ok rfl rfl rfl rfl rfl rfl rfl hb7 [(.int .u64 x1.fName)] rfl rfl (.inr rfl) (.int .u64 x1.fName) rfl ?_
  obtain ⟨y64, hy65, h⟩ := bind_some h
  refine wo_gives rfl rfl rfl rfl rfl ent22 rfl (i_Lookup_c hO ((tGIpc_is (x := y40.1)).2 ⟨_, _, rfl, h47, h49⟩) (int_is.2 rfl) hy65) (fun v60 w61 h62 f63 => ?_)
  have h24 := h24.tr f63.tr0
  have h26 := h26.tr f63.tr0
  have h47 := h47.tr f63.tr0
  have h49 := h49.tr f63.tr0
  have hb7 := hb7.fr0 f63
  have hb27 := hb27.fr0 f63
  have hb50 := hb50.fr0 f63
  have hO := f63.ob hO
  have hF := hF.trans f63
  obtain ⟨u66, u68, rfl, h67, h69⟩ := h62
  obtain rfl := int_is.1 h67
  obtain rfl := int_is.1 h69
  refine wo_seg Θ_ok [4, 5, 6, 7, 8] [(2, (.int .u64 x2)), (4, (.pointer (some ⟨b7, 0, none⟩))), (7, (.pointer (some ⟨b27, 0, none⟩))), (8, (.pointer (some ⟨b50, 0, none⟩))), (10, (.int .u64 y64.1)), (11, (.int .i64 y64.2))] rfl ⟨rfl, rfl, rfl, rfl, rfl, rfl, trivial⟩ ?_
  refine wo_nil ?_
  refine wq_seq ?_
  refine wc_seq ?_
  refine wc_region (l := [0, 1, 2, 3, 4, 5, 6, 7, 8, 9]) rfl ?_
  refine wo_load Θ_ok rfl rfl rfl rfl rfl rfl rfl hb50 [(.slice A53 y40.1.fNames.length c54), (.slice A55 y40.1.fBoxes.length c56)] rfl rfl (.inl rfl) (.agg #[(.slice A53 y40.1.fNames.length c54), (.slice A55 y40.1.fBoxes.length c56)]) rfl ?_
  refine wo_seg Θ_ok [1] [(2, (.int .u64 x2)), (4, (.pointer (some ⟨b7, 0, none⟩))), (7, (.pointer (some ⟨b27, 0, none⟩))), (8, (.pointer (some ⟨b50, 0, none⟩))), (10, (.int .u64 y64.1)), (11, (.int .i64 y64.2)), (51, (.agg #[(.slice A53 y40.1.fNames.length c54), (.slice A55 y40.1.fBoxes.length c56)])), (52, (.pointer (some ⟨b7, 0, none⟩)))] rfl ⟨rfl, rfl, rfl, rfl, rfl, rfl, rfl, rfl, trivial⟩ ?_
  refine wo_load Θ_ok rfl rfl rfl rfl rfl rfl rfl hb7 [(.int .u64 x1.fName)] rfl rfl (.inr rfl) (.int .u64 x1.fName) rfl ?_
  obtain ⟨y74, hy75, h⟩ := bind_some h
  refine wo_gives rfl rfl rfl rfl rfl ent11 rfl (i_Unregister_c hO ((tGIpc_is (x := y40.1)).2 ⟨_, _, rfl, h47, h49⟩) (int_is.2 rfl) hy75) (fun v70 w71 h72 f73 => ?_)
  have h24 := h24.tr f73.tr0
  have h26 := h26.tr f73.tr0
  have h47 := h47.tr f73.tr0
  have h49 := h49.tr f73.tr0
  have hb7 := hb7.fr0 f73
  have hb27 := hb27.fr0 f73
  have hb50 := hb50.fr0 f73
  have hO := f73.ob hO
  have hF := hF.trans f73
  obtain ⟨u76, u78, rfl, h77, h79⟩ := h72
  obtain ⟨v80, v82, rfl, h81, h83⟩ := tGIpc_is.1 h77
  obtain rfl := int_is.1 h79
  refine wo_seg Θ_ok [4, 5, 6] [(2, (.int .u64 x2)), (4, (.pointer (some ⟨b7, 0, none⟩))), (7, (.pointer (some ⟨b27, 0, none⟩))), (8, (.pointer (some ⟨b50, 0, none⟩))), (10, (.int .u64 y64.1)), (11, (.int .i64 y64.2)), (55, (.agg #[v80, v82])), (56, (.int .i64 y74.2))] rfl ⟨rfl, rfl, rfl, rfl, rfl, rfl, rfl, rfl, trivial⟩ ?_
  refine wo_alloc Θ_ok rfl rfl rfl rfl rfl rfl [(.slice none 0 0), (.slice none 0 0)] rfl hO (fun b84 w85 n86 => ?_)
  have h81 := h81.tr n86.tr
  have h83 := h83.tr n86.tr
  have h24 := h24.tr n86.tr
  have h26 := h26.tr n86.tr
  have h47 := h47.tr n86.tr
  have h49 := h49.tr n86.tr
  have nb84b7 : b84 ≠ b7 := by have := hb7.lt; have := n86.ge; omega
  have hb7 := hb7.fr0 n86.fr
  have ib7 := List.mem_cons_of_mem b84 ib7
  have nb84b27 : b84 ≠ b27 := by have := hb27.lt; have := n86.ge; omega
  have hb27 := hb27.fr0 n86.fr
  have ib27 := List.mem_cons_of_mem b84 ib27
  have nb84b50 : b84 ≠ b50 := by have := hb50.lt; have := n86.ge; omega
  have hb50 := hb50.fr0 n86.fr
  have ib50 := List.mem_cons_of_mem b84 ib50
  have hb84 := n86.blk
  have gb84 := n86.ge0 hF
  have ib84 : b84 ∈ b84 :: (b50 :: b27 :: b7 :: b4 :: O) := List.mem_cons_self
  have hO := n86.ob
  have hF := hF.trans n86.fr
  have hS := Sub.cons hS b84
  obtain ⟨A87, c88, rfl, hlc88, hmc88⟩ := slice_form h81
  obtain ⟨A89, c90, rfl, hlc90, hmc90⟩ := slice_form h83
  refine wo_store Θ_ok rfl rfl rfl rfl rfl rfl rfl hb84 [(.slice A87 y74.1.fNames.length c88), (.slice A89 y74.1.fBoxes.length c90)] rfl rfl (by simp [Value.oneCell']) rfl [(.slice A87 y74.1.fNames.length c88), (.slice A89 y74.1.fBoxes.length c90)] rfl (fun w91 hb84 f92 => ?_)
  have h24 := h24.tr (f92.tr (one_in ib84))
  have h26 := h26.tr (f92.tr (one_in ib84))
  have h47 := h47.tr (f92.tr (one_in ib84))
  have h49 := h49.tr (f92.tr (one_in ib84))
  have h81 := h81.tr (f92.tr (one_in ib84))
  have h83 := h83.tr (f92.tr (one_in ib84))
  have hb7 := hb7.fr f92 (nin nb84b7.symm)
  have hb27 := hb27.fr f92 (nin nb84b27.symm)
  have hb50 := hb50.fr f92 (nin nb84b50.symm)
  have hO := f92.ob hO
  have hF := hF.own f92 gb84
  refine wo_seg Θ_ok [9] [(2, (.int .u64 x2)), (4, (.pointer (some ⟨b7, 0, none⟩))), (7, (.pointer (some ⟨b27, 0, none⟩))), (8, (.pointer (some ⟨b50, 0, none⟩))), (10, (.int .u64 y64.1)), (11, (.int .i64 y64.2)), (12, (.pointer (some ⟨b84, 0, none⟩))), (13, (.int .i64 y74.2))] rfl ⟨rfl, rfl, rfl, rfl, rfl, rfl, rfl, rfl, trivial⟩ ?_
  refine wo_nil ?_
  refine wq_seq ?_
  refine wc_seq ?_
  refine wc_region (l := [0, 1, 2, 3, 4, 5, 6, 7, 8]) rfl ?_
  refine wo_load Θ_ok rfl rfl rfl rfl rfl rfl rfl hb27 [(.slice A30 y21.fNames.length c31), (.slice A32 y21.fBoxes.length c33)] rfl rfl (.inl rfl) (.agg #[(.slice A30 y21.fNames.length c31), (.slice A32 y21.fBoxes.length c33)]) rfl ?_
  refine wo_seg Θ_ok [1] [(2, (.int .u64 x2)), (4, (.pointer (some ⟨b7, 0, none⟩))), (7, (.pointer (some ⟨b27, 0, none⟩))), (8, (.pointer (some ⟨b50, 0, none⟩))), (10, (.int .u64 y64.1)), (11, (.int .i64 y64.2)), (12, (.pointer (some ⟨b84, 0, none⟩))), (13, (.int .i64 y74.2)), (58, (.agg #[(.slice A30 y21.fNames.length c31), (.slice A32 y21.fBoxes.length c33)])), (59, (.pointer (some ⟨b7, 0, none⟩)))] rfl ⟨rfl, rfl, rfl, rfl, rfl, rfl, rfl, rfl, rfl, rfl, trivial⟩ ?_
  refine wo_load Θ_ok rfl rfl rfl rfl rfl rfl rfl hb7 [(.int .u64 x1.fName)] rfl rfl (.inr rfl) (.int .u64 x1.fName) rfl ?_
  obtain ⟨y97, hy98, h⟩ := bind_some h
  refine wo_gives rfl rfl rfl rfl rfl ent22 rfl (i_Lookup_c hO ((tGIpc_is (x := y21)).2 ⟨_, _, rfl, h24, h26⟩) (int_is.2 rfl) hy98) (fun v93 w94 h95 f96 => ?_)
  have h24 := h24.tr f96.tr0
  have h26 := h26.tr f96.tr0
  have h47 := h47.tr f96.tr0
  have h49 := h49.tr f96.tr0
  have h81 := h81.tr f96.tr0
  have h83 := h83.tr f96.tr0
  have hb7 := hb7.fr0 f96
  have hb27 := hb27.fr0 f96
  have hb50 := hb50.fr0 f96
  have hb84 := hb84.fr0 f96
  have hO := f96.ob hO
  have hF := hF.trans f96
  obtain ⟨u99, u101, rfl, h100, h102⟩ := h95
  obtain rfl := int_is.1 h100
  obtain rfl := int_is.1 h102
  refine wo_seg Θ_ok [4, 5, 6, 7, 8] [(2, (.int .u64 x2)), (4, (.pointer (some ⟨b7, 0, none⟩))), (7, (.pointer (some ⟨b27, 0, none⟩))), (8, (.pointer (some ⟨b50, 0, none⟩))), (10, (.int .u64 y64.1)), (11, (.int .i64 y64.2)), (12, (.pointer (some ⟨b84, 0, none⟩))), (13, (.int .i64 y74.2)), (15, (.int .i64 y97.2))] rfl ⟨rfl, rfl, rfl, rfl, rfl, rfl, rfl, rfl, rfl, trivial⟩ ?_
  refine wo_nil ?_
  refine wq_seq ?_
  refine wc_seq ?_
  refine wc_seq ?_
  rcases bif_some h with ⟨hc103, h⟩ | ⟨hc103, h⟩
  · refine wc_draw mixed [⟨64, [], [11]⟩, ⟨65, [0], []⟩, ⟨66, [1], []⟩, ⟨67, [2], [13]⟩, ⟨68, [2, 3], []⟩, ⟨69, [2, 4], []⟩, ⟨70, [5], []⟩, ⟨71, [6], [15]⟩, ⟨72, [6, 7], []⟩, ⟨73, [6, 8], []⟩, ⟨74, [9], []⟩, ⟨75, [10], [10]⟩, ⟨76, [10], [4]⟩, ⟨77, [10, 12], []⟩, ⟨78, [10, 11, 13], []⟩, ⟨79, [10, 14], []⟩, ⟨80, [15], []⟩, ⟨81, [16], [12]⟩, ⟨82, [16], [7]⟩, ⟨83, [16, 17, 18], []⟩, ⟨84, [16, 19], []⟩, ⟨85, [16, 20], []⟩, ⟨86, [21], []⟩, ⟨87, [22], [8]⟩, ⟨88, [22], [4]⟩, ⟨89, [22, 24], []⟩, ⟨90, [22, 23, 25], []⟩, ⟨91, [22], [4]⟩, ⟨92, [22, 27], []⟩, ⟨93, [22, 26, 28], []⟩, ⟨94, [22, 29], []⟩, ⟨95, [22, 30], []⟩] [SP.eq (.int .i64 y64.2), SP.eq (.bool (y64.2 != (0 : Int))), SP.eq (.bool (y64.2 != (0 : Int))), SP.eq undef, SP.eq undef, SP.eq (.bool true), SP.eq (.bool true), SP.eq undef, SP.eq undef, SP.eq (.bool true), SP.eq (.bool true), SP.eq undef, SP.eq undef, SP.eq undef, SP.eq undef, SP.eq (.bool true), SP.eq (.bool true), SP.eq undef, SP.eq undef, SP.eq undef, SP.eq undef, SP.eq (.bool true), SP.eq (.bool true), SP.eq undef, SP.eq undef, SP.eq undef, SP.eq undef, SP.eq undef, SP.eq undef, SP.eq undef, SP.eq undef, SP.eq (.bool true)] rfl rfl rfl ⟨?_, ?_, ?_, ?_, ?_, ?_, ?_, ?_, ?_, ?_, ?_, ?_, ?_, ?_, ?_, ?_, ?_, ?_, ?_, ?_, ?_, ?_, ?_, ?_, ?_, ?_, ?_, ?_, ?_, ?_, ?_, ?_, trivial⟩ ?_
    · intro a w2 hfr hN hds hb hd
      exact op_plain Θ_ok ⟨hN, hds, rows_get (E := [(11, (.int .i64 y64.2))]) ⟨hb 11 rfl _ rfl, trivial⟩⟩ rfl rfl rfl rfl rfl
    · intro a w2 hfr hN hds hb hd
      exact op_plain Θ_ok ⟨hN, hds, rows_get (E := [(64, (.int .i64 y64.2))]) ⟨(hd 0 rfl _ _ rfl rfl), trivial⟩⟩ rfl rfl rfl rfl rfl
    · intro a w2 hfr hN hds hb hd
      exact op_plain Θ_ok ⟨hN, hds, rows_get (E := [(65, (.bool (y64.2 != (0 : Int))))]) ⟨(hd 1 rfl _ _ rfl rfl), trivial⟩⟩ rfl rfl rfl rfl rfl
    · intro a w2 hfr hN hds hb hd
      exact op_skip ⟨hN, hds, rows_get (E := [(13, (.int .i64 y74.2)), (66, (.bool true))]) ⟨hb 13 rfl _ rfl, ((hd 2 rfl _ _ rfl rfl).trans (congrArg _ hc103)), trivial⟩⟩ rfl rfl rfl
    · intro a w2 hfr hN hds hb hd
      exact op_skip ⟨hN, hds, rows_get (E := [(66, (.bool true)), (67, undef)]) ⟨((hd 2 rfl _ _ rfl rfl).trans (congrArg _ hc103)), (hd 3 rfl _ _ rfl rfl), trivial⟩⟩ rfl rfl rfl
    · intro a w2 hfr hN hds hb hd
      exact op_plain Θ_ok ⟨hN, hds, rows_get (E := [(66, (.bool true)), (68, undef)]) ⟨((hd 2 rfl _ _ rfl rfl).trans (congrArg _ hc103)), (hd 4 rfl _ _ rfl rfl), trivial⟩⟩ rfl rfl rfl rfl rfl
    · intro a w2 hfr hN hds hb hd
      exact op_plain Θ_ok ⟨hN, hds, rows_get (E := [(69, (.bool true))]) ⟨(hd 5 rfl _ _ rfl rfl), trivial⟩⟩ rfl rfl rfl rfl rfl
    · intro a w2 hfr hN hds hb hd
      exact op_skip ⟨hN, hds, rows_get (E := [(15, (.int .i64 y97.2)), (70, (.bool true))]) ⟨hb 15 rfl _ rfl, (hd 6 rfl _ _ rfl rfl), trivial⟩⟩ rfl rfl rfl
    · intro a w2 hfr hN hds hb hd
      exact op_skip ⟨hN, hds, rows_get (E := [(70, (.bool true)), (71, undef)]) ⟨(hd 6 rfl _ _ rfl rfl), (hd 7 rfl _ _ rfl rfl), trivial⟩⟩ rfl rfl rfl
    · intro a w2 hfr hN hds hb hd
      exact op_plain Θ_ok ⟨hN, hds, rows_get (E := [(70, (.bool true)), (72, undef)]) ⟨(hd 6 rfl _ _ rfl rfl), (hd 8 rfl _ _ rfl rfl), trivial⟩⟩ rfl rfl rfl rfl rfl
    · intro a w2 hfr hN hds hb hd
      exact op_plain Θ_ok ⟨hN, hds, rows_get (E := [(73, (.bool true))]) ⟨(hd 9 rfl _ _ rfl rfl), trivial⟩⟩ rfl rfl rfl rfl rfl
    · intro a w2 hfr hN hds hb hd
      exact op_skip ⟨hN, hds, rows_get (E := [(10, (.int .u64 y64.1)), (74, (.bool true))]) ⟨hb 10 rfl _ rfl, (hd 10 rfl _ _ rfl rfl), trivial⟩⟩ rfl rfl rfl
    · intro a w2 hfr hN hds hb hd
      exact op_skip ⟨hN, hds, rows_get (E := [(4, (.pointer (some ⟨b7, 0, none⟩))), (74, (.bool true))]) ⟨hb 4 rfl _ rfl, (hd 10 rfl _ _ rfl rfl), trivial⟩⟩ rfl rfl rfl
    · intro a w2 hfr hN hds hb hd
      exact op_skip ⟨hN, hds, rows_get (E := [(74, (.bool true)), (76, undef)]) ⟨(hd 10 rfl _ _ rfl rfl), (hd 12 rfl _ _ rfl rfl), trivial⟩⟩ rfl rfl rfl
    · intro a w2 hfr hN hds hb hd
      exact op_skip ⟨hN, hds, rows_get (E := [(74, (.bool true)), (75, undef), (77, undef)]) ⟨(hd 10 rfl _ _ rfl rfl), (hd 11 rfl _ _ rfl rfl), (hd 13 rfl _ _ rfl rfl), trivial⟩⟩ rfl rfl rfl
    · intro a w2 hfr hN hds hb hd
      exact op_plain Θ_ok ⟨hN, hds, rows_get (E := [(74, (.bool true)), (78, undef)]) ⟨(hd 10 rfl _ _ rfl rfl), (hd 14 rfl _ _ rfl rfl), trivial⟩⟩ rfl rfl rfl rfl rfl
    · intro a w2 hfr hN hds hb hd
      exact op_plain Θ_ok ⟨hN, hds, rows_get (E := [(79, (.bool true))]) ⟨(hd 15 rfl _ _ rfl rfl), trivial⟩⟩ rfl rfl rfl rfl rfl
    · intro a w2 hfr hN hds hb hd
      exact op_skip ⟨hN, hds, rows_get (E := [(12, (.pointer (some ⟨b84, 0, none⟩))), (80, (.bool true))]) ⟨hb 12 rfl _ rfl, (hd 16 rfl _ _ rfl rfl), trivial⟩⟩ rfl rfl rfl
    · intro a w2 hfr hN hds hb hd
      exact op_skip ⟨hN, hds, rows_get (E := [(7, (.pointer (some ⟨b27, 0, none⟩))), (80, (.bool true))]) ⟨hb 7 rfl _ rfl, (hd 16 rfl _ _ rfl rfl), trivial⟩⟩ rfl rfl rfl
    · intro a w2 hfr hN hds hb hd
      exact op_skip ⟨hN, hds, rows_get (E := [(80, (.bool true)), (81, undef), (82, undef)]) ⟨(hd 16 rfl _ _ rfl rfl), (hd 17 rfl _ _ rfl rfl), (hd 18 rfl _ _ rfl rfl), trivial⟩⟩ rfl rfl rfl
    · intro a w2 hfr hN hds hb hd
      exact op_skip ⟨hN, hds, rows_get (E := [(80, (.bool true)), (83, undef)]) ⟨(hd 16 rfl _ _ rfl rfl), (hd 19 rfl _ _ rfl rfl), trivial⟩⟩ rfl rfl rfl
    · intro a w2 hfr hN hds hb hd
      exact op_plain Θ_ok ⟨hN, hds, rows_get (E := [(80, (.bool true)), (84, undef)]) ⟨(hd 16 rfl _ _ rfl rfl), (hd 20 rfl _ _ rfl rfl), trivial⟩⟩ rfl rfl rfl rfl rfl
    · intro a w2 hfr hN hds hb hd
      exact op_plain Θ_ok ⟨hN, hds, rows_get (E := [(85, (.bool true))]) ⟨(hd 21 rfl _ _ rfl rfl), trivial⟩⟩ rfl rfl rfl rfl rfl
    · intro a w2 hfr hN hds hb hd
      exact op_skip ⟨hN, hds, rows_get (E := [(8, (.pointer (some ⟨b50, 0, none⟩))), (86, (.bool true))]) ⟨hb 8 rfl _ rfl, (hd 22 rfl _ _ rfl rfl), trivial⟩⟩ rfl rfl rfl
    · intro a w2 hfr hN hds hb hd
      exact op_skip ⟨hN, hds, rows_get (E := [(4, (.pointer (some ⟨b7, 0, none⟩))), (86, (.bool true))]) ⟨hb 4 rfl _ rfl, (hd 22 rfl _ _ rfl rfl), trivial⟩⟩ rfl rfl rfl
    · intro a w2 hfr hN hds hb hd
      exact op_skip ⟨hN, hds, rows_get (E := [(86, (.bool true)), (88, undef)]) ⟨(hd 22 rfl _ _ rfl rfl), (hd 24 rfl _ _ rfl rfl), trivial⟩⟩ rfl rfl rfl
    · intro a w2 hfr hN hds hb hd
      exact op_skip ⟨hN, hds, rows_get (E := [(86, (.bool true)), (87, undef), (89, undef)]) ⟨(hd 22 rfl _ _ rfl rfl), (hd 23 rfl _ _ rfl rfl), (hd 25 rfl _ _ rfl rfl), trivial⟩⟩ rfl rfl rfl
    · intro a w2 hfr hN hds hb hd
      exact op_skip ⟨hN, hds, rows_get (E := [(4, (.pointer (some ⟨b7, 0, none⟩))), (86, (.bool true))]) ⟨hb 4 rfl _ rfl, (hd 22 rfl _ _ rfl rfl), trivial⟩⟩ rfl rfl rfl
    · intro a w2 hfr hN hds hb hd
      exact op_skip ⟨hN, hds, rows_get (E := [(86, (.bool true)), (91, undef)]) ⟨(hd 22 rfl _ _ rfl rfl), (hd 27 rfl _ _ rfl rfl), trivial⟩⟩ rfl rfl rfl
    · intro a w2 hfr hN hds hb hd
      exact op_skip ⟨hN, hds, rows_get (E := [(86, (.bool true)), (90, undef), (92, undef)]) ⟨(hd 22 rfl _ _ rfl rfl), (hd 26 rfl _ _ rfl rfl), (hd 28 rfl _ _ rfl rfl), trivial⟩⟩ rfl rfl rfl
    · intro a w2 hfr hN hds hb hd
      exact op_skip ⟨hN, hds, rows_get (E := [(86, (.bool true)), (93, undef)]) ⟨(hd 22 rfl _ _ rfl rfl), (hd 29 rfl _ _ rfl rfl), trivial⟩⟩ rfl rfl rfl
    · intro a w2 hfr hN hds hb hd
      exact op_plain Θ_ok ⟨hN, hds, rows_get (E := [(86, (.bool true)), (94, undef)]) ⟨(hd 22 rfl _ _ rfl rfl), (hd 30 rfl _ _ rfl rfl), trivial⟩⟩ rfl rfl rfl rfl rfl
    intro a w105 f104 hN hds hb hr
    have h24 := h24.tr f104.tr0
    have h26 := h26.tr f104.tr0
    have h47 := h47.tr f104.tr0
    have h49 := h49.tr f104.tr0
    have hb7 := hb7.fr0 f104
    have hb27 := hb27.fr0 f104
    have hb50 := hb50.fr0 f104
    have hO := f104.ob hO
    have hF := hF.trans f104
    refine wq_go (E := [(2, (.int .u64 x2)), (4, (.pointer (some ⟨b7, 0, none⟩))), (7, (.pointer (some ⟨b27, 0, none⟩))), (8, (.pointer (some ⟨b50, 0, none⟩))), (95, (.bool true))]) hN hds ⟨hb 2 _ rfl rfl, hb 4 _ rfl rfl, hb 7 _ rfl rfl, hb 8 _ rfl rfl, (hr 31 _ _ rfl rfl), trivial⟩ ?_
    refine wq_seq ?_
    refine wc_true rfl ?_
    refine wc_seq ?_
    refine wc_region (l := [0]) rfl ?_
    refine wo_seg Θ_ok [0] [(6, (.bool false))] rfl ⟨rfl, trivial⟩ ?_
    refine wo_nil ?_
    refine wq_seq ?_
    refine wc_ret ?_
    cases h
    exact wq_then_ret (wq_ret rfl ⟨_, rfl, (bool_is.2 rfl), hF⟩)
  rcases bif_some h with ⟨hc106, h⟩ | ⟨hc106, h⟩
  · refine wc_draw mixed [⟨64, [], [11]⟩, ⟨65, [0], []⟩, ⟨66, [1], []⟩, ⟨67, [2], [13]⟩, ⟨68, [2, 3], []⟩, ⟨69, [2, 4], []⟩, ⟨70, [5], []⟩, ⟨71, [6], [15]⟩, ⟨72, [6, 7], []⟩, ⟨73, [6, 8], []⟩, ⟨74, [9], []⟩, ⟨75, [10], [10]⟩, ⟨76, [10], [4]⟩, ⟨77, [10, 12], []⟩, ⟨78, [10, 11, 13], []⟩, ⟨79, [10, 14], []⟩, ⟨80, [15], []⟩, ⟨81, [16], [12]⟩, ⟨82, [16], [7]⟩, ⟨83, [16, 17, 18], []⟩, ⟨84, [16, 19], []⟩, ⟨85, [16, 20], []⟩, ⟨86, [21], []⟩, ⟨87, [22], [8]⟩, ⟨88, [22], [4]⟩, ⟨89, [22, 24], []⟩, ⟨90, [22, 23, 25], []⟩, ⟨91, [22], [4]⟩, ⟨92, [22, 27], []⟩, ⟨93, [22, 26, 28], []⟩, ⟨94, [22, 29], []⟩, ⟨95, [22, 30], []⟩] [SP.eq (.int .i64 y64.2), SP.eq (.bool (y64.2 != (0 : Int))), SP.eq (.bool (y64.2 != (0 : Int))), SP.eq (.int .i64 y74.2), SP.eq (.bool (y74.2 != (0 : Int))), SP.eq (.bool (y74.2 != (0 : Int))), SP.eq (.bool (y74.2 != (0 : Int))), SP.eq undef, SP.eq undef, SP.eq (.bool true), SP.eq (.bool true), SP.eq undef, SP.eq undef, SP.eq undef, SP.eq undef, SP.eq (.bool true), SP.eq (.bool true), SP.eq undef, SP.eq undef, SP.eq undef, SP.eq undef, SP.eq (.bool true), SP.eq (.bool true), SP.eq undef, SP.eq undef, SP.eq undef, SP.eq undef, SP.eq undef, SP.eq undef, SP.eq undef, SP.eq undef, SP.eq (.bool true)] rfl rfl rfl ⟨?_, ?_, ?_, ?_, ?_, ?_, ?_, ?_, ?_, ?_, ?_, ?_, ?_, ?_, ?_, ?_, ?_, ?_, ?_, ?_, ?_, ?_, ?_, ?_, ?_, ?_, ?_, ?_, ?_, ?_, ?_, ?_, trivial⟩ ?_
    · intro a w2 hfr hN hds hb hd
      exact op_plain Θ_ok ⟨hN, hds, rows_get (E := [(11, (.int .i64 y64.2))]) ⟨hb 11 rfl _ rfl, trivial⟩⟩ rfl rfl rfl rfl rfl
    · intro a w2 hfr hN hds hb hd
      exact op_plain Θ_ok ⟨hN, hds, rows_get (E := [(64, (.int .i64 y64.2))]) ⟨(hd 0 rfl _ _ rfl rfl), trivial⟩⟩ rfl rfl rfl rfl rfl
    · intro a w2 hfr hN hds hb hd
      exact op_plain Θ_ok ⟨hN, hds, rows_get (E := [(65, (.bool (y64.2 != (0 : Int))))]) ⟨(hd 1 rfl _ _ rfl rfl), trivial⟩⟩ rfl rfl rfl rfl rfl
    · intro a w2 hfr hN hds hb hd
      exact op_plain Θ_ok ⟨hN, hds, rows_get (E := [(13, (.int .i64 y74.2)), (66, (.bool false))]) ⟨hb 13 rfl _ rfl, ((hd 2 rfl _ _ rfl rfl).trans (congrArg _ hc103)), trivial⟩⟩ rfl rfl rfl rfl rfl
    · intro a w2 hfr hN hds hb hd
      exact op_plain Θ_ok ⟨hN, hds, rows_get (E := [(66, (.bool false)), (67, (.int .i64 y74.2))]) ⟨((hd 2 rfl _ _ rfl rfl).trans (congrArg _ hc103)), (hd 3 rfl _ _ rfl rfl), trivial⟩⟩ rfl rfl rfl rfl rfl
    · intro a w2 hfr hN hds hb hd
      exact op_plain Θ_ok ⟨hN, hds, rows_get (E := [(66, (.bool false)), (68, (.bool (y74.2 != (0 : Int))))]) ⟨((hd 2 rfl _ _ rfl rfl).trans (congrArg _ hc103)), (hd 4 rfl _ _ rfl rfl), trivial⟩⟩ rfl rfl rfl rfl rfl
    · intro a w2 hfr hN hds hb hd
      exact op_plain Θ_ok ⟨hN, hds, rows_get (E := [(69, (.bool (y74.2 != (0 : Int))))]) ⟨(hd 5 rfl _ _ rfl rfl), trivial⟩⟩ rfl rfl rfl rfl rfl
    · intro a w2 hfr hN hds hb hd
      exact op_skip ⟨hN, hds, rows_get (E := [(15, (.int .i64 y97.2)), (70, (.bool true))]) ⟨hb 15 rfl _ rfl, ((hd 6 rfl _ _ rfl rfl).trans (congrArg _ hc106)), trivial⟩⟩ rfl rfl rfl
    · intro a w2 hfr hN hds hb hd
      exact op_skip ⟨hN, hds, rows_get (E := [(70, (.bool true)), (71, undef)]) ⟨((hd 6 rfl _ _ rfl rfl).trans (congrArg _ hc106)), (hd 7 rfl _ _ rfl rfl), trivial⟩⟩ rfl rfl rfl
    · intro a w2 hfr hN hds hb hd
      exact op_plain Θ_ok ⟨hN, hds, rows_get (E := [(70, (.bool true)), (72, undef)]) ⟨((hd 6 rfl _ _ rfl rfl).trans (congrArg _ hc106)), (hd 8 rfl _ _ rfl rfl), trivial⟩⟩ rfl rfl rfl rfl rfl
    · intro a w2 hfr hN hds hb hd
      exact op_plain Θ_ok ⟨hN, hds, rows_get (E := [(73, (.bool true))]) ⟨(hd 9 rfl _ _ rfl rfl), trivial⟩⟩ rfl rfl rfl rfl rfl
    · intro a w2 hfr hN hds hb hd
      exact op_skip ⟨hN, hds, rows_get (E := [(10, (.int .u64 y64.1)), (74, (.bool true))]) ⟨hb 10 rfl _ rfl, (hd 10 rfl _ _ rfl rfl), trivial⟩⟩ rfl rfl rfl
    · intro a w2 hfr hN hds hb hd
      exact op_skip ⟨hN, hds, rows_get (E := [(4, (.pointer (some ⟨b7, 0, none⟩))), (74, (.bool true))]) ⟨hb 4 rfl _ rfl, (hd 10 rfl _ _ rfl rfl), trivial⟩⟩ rfl rfl rfl
    · intro a w2 hfr hN hds hb hd
      exact op_skip ⟨hN, hds, rows_get (E := [(74, (.bool true)), (76, undef)]) ⟨(hd 10 rfl _ _ rfl rfl), (hd 12 rfl _ _ rfl rfl), trivial⟩⟩ rfl rfl rfl
    · intro a w2 hfr hN hds hb hd
      exact op_skip ⟨hN, hds, rows_get (E := [(74, (.bool true)), (75, undef), (77, undef)]) ⟨(hd 10 rfl _ _ rfl rfl), (hd 11 rfl _ _ rfl rfl), (hd 13 rfl _ _ rfl rfl), trivial⟩⟩ rfl rfl rfl
    · intro a w2 hfr hN hds hb hd
      exact op_plain Θ_ok ⟨hN, hds, rows_get (E := [(74, (.bool true)), (78, undef)]) ⟨(hd 10 rfl _ _ rfl rfl), (hd 14 rfl _ _ rfl rfl), trivial⟩⟩ rfl rfl rfl rfl rfl
    · intro a w2 hfr hN hds hb hd
      exact op_plain Θ_ok ⟨hN, hds, rows_get (E := [(79, (.bool true))]) ⟨(hd 15 rfl _ _ rfl rfl), trivial⟩⟩ rfl rfl rfl rfl rfl
    · intro a w2 hfr hN hds hb hd
      exact op_skip ⟨hN, hds, rows_get (E := [(12, (.pointer (some ⟨b84, 0, none⟩))), (80, (.bool true))]) ⟨hb 12 rfl _ rfl, (hd 16 rfl _ _ rfl rfl), trivial⟩⟩ rfl rfl rfl
    · intro a w2 hfr hN hds hb hd
      exact op_skip ⟨hN, hds, rows_get (E := [(7, (.pointer (some ⟨b27, 0, none⟩))), (80, (.bool true))]) ⟨hb 7 rfl _ rfl, (hd 16 rfl _ _ rfl rfl), trivial⟩⟩ rfl rfl rfl
    · intro a w2 hfr hN hds hb hd
      exact op_skip ⟨hN, hds, rows_get (E := [(80, (.bool true)), (81, undef), (82, undef)]) ⟨(hd 16 rfl _ _ rfl rfl), (hd 17 rfl _ _ rfl rfl), (hd 18 rfl _ _ rfl rfl), trivial⟩⟩ rfl rfl rfl
    · intro a w2 hfr hN hds hb hd
      exact op_skip ⟨hN, hds, rows_get (E := [(80, (.bool true)), (83, undef)]) ⟨(hd 16 rfl _ _ rfl rfl), (hd 19 rfl _ _ rfl rfl), trivial⟩⟩ rfl rfl rfl
    · intro a w2 hfr hN hds hb hd
      exact op_plain Θ_ok ⟨hN, hds, rows_get (E := [(80, (.bool true)), (84, undef)]) ⟨(hd 16 rfl _ _ rfl rfl), (hd 20 rfl _ _ rfl rfl), trivial⟩⟩ rfl rfl rfl rfl rfl
    · intro a w2 hfr hN hds hb hd
      exact op_plain Θ_ok ⟨hN, hds, rows_get (E := [(85, (.bool true))]) ⟨(hd 21 rfl _ _ rfl rfl), trivial⟩⟩ rfl rfl rfl rfl rfl
    · intro a w2 hfr hN hds hb hd
      exact op_skip ⟨hN, hds, rows_get (E := [(8, (.pointer (some ⟨b50, 0, none⟩))), (86, (.bool true))]) ⟨hb 8 rfl _ rfl, (hd 22 rfl _ _ rfl rfl), trivial⟩⟩ rfl rfl rfl
    · intro a w2 hfr hN hds hb hd
      exact op_skip ⟨hN, hds, rows_get (E := [(4, (.pointer (some ⟨b7, 0, none⟩))), (86, (.bool true))]) ⟨hb 4 rfl _ rfl, (hd 22 rfl _ _ rfl rfl), trivial⟩⟩ rfl rfl rfl
    · intro a w2 hfr hN hds hb hd
      exact op_skip ⟨hN, hds, rows_get (E := [(86, (.bool true)), (88, undef)]) ⟨(hd 22 rfl _ _ rfl rfl), (hd 24 rfl _ _ rfl rfl), trivial⟩⟩ rfl rfl rfl
    · intro a w2 hfr hN hds hb hd
      exact op_skip ⟨hN, hds, rows_get (E := [(86, (.bool true)), (87, undef), (89, undef)]) ⟨(hd 22 rfl _ _ rfl rfl), (hd 23 rfl _ _ rfl rfl), (hd 25 rfl _ _ rfl rfl), trivial⟩⟩ rfl rfl rfl
    · intro a w2 hfr hN hds hb hd
      exact op_skip ⟨hN, hds, rows_get (E := [(4, (.pointer (some ⟨b7, 0, none⟩))), (86, (.bool true))]) ⟨hb 4 rfl _ rfl, (hd 22 rfl _ _ rfl rfl), trivial⟩⟩ rfl rfl rfl
    · intro a w2 hfr hN hds hb hd
      exact op_skip ⟨hN, hds, rows_get (E := [(86, (.bool true)), (91, undef)]) ⟨(hd 22 rfl _ _ rfl rfl), (hd 27 rfl _ _ rfl rfl), trivial⟩⟩ rfl rfl rfl
    · intro a w2 hfr hN hds hb hd
      exact op_skip ⟨hN, hds, rows_get (E := [(86, (.bool true)), (90, undef), (92, undef)]) ⟨(hd 22 rfl _ _ rfl rfl), (hd 26 rfl _ _ rfl rfl), (hd 28 rfl _ _ rfl rfl), trivial⟩⟩ rfl rfl rfl
    · intro a w2 hfr hN hds hb hd
      exact op_skip ⟨hN, hds, rows_get (E := [(86, (.bool true)), (93, undef)]) ⟨(hd 22 rfl _ _ rfl rfl), (hd 29 rfl _ _ rfl rfl), trivial⟩⟩ rfl rfl rfl
    · intro a w2 hfr hN hds hb hd
      exact op_plain Θ_ok ⟨hN, hds, rows_get (E := [(86, (.bool true)), (94, undef)]) ⟨(hd 22 rfl _ _ rfl rfl), (hd 30 rfl _ _ rfl rfl), trivial⟩⟩ rfl rfl rfl rfl rfl
    intro a w108 f107 hN hds hb hr
    have h24 := h24.tr f107.tr0
    have h26 := h26.tr f107.tr0
    have h47 := h47.tr f107.tr0
    have h49 := h49.tr f107.tr0
    have hb7 := hb7.fr0 f107
    have hb27 := hb27.fr0 f107
    have hb50 := hb50.fr0 f107
    have hO := f107.ob hO
    have hF := hF.trans f107
    refine wq_go (E := [(2, (.int .u64 x2)), (4, (.pointer (some ⟨b7, 0, none⟩))), (7, (.pointer (some ⟨b27, 0, none⟩))), (8, (.pointer (some ⟨b50, 0, none⟩))), (95, (.bool true))]) hN hds ⟨hb 2 _ rfl rfl, hb 4 _ rfl rfl, hb 7 _ rfl rfl, hb 8 _ rfl rfl, (hr 31 _ _ rfl rfl), trivial⟩ ?_
    refine wq_seq ?_
    refine wc_true rfl ?_
    refine wc_seq ?_
    refine wc_region (l := [0]) rfl ?_
    refine wo_seg Θ_ok [0] [(6, (.bool false))] rfl ⟨rfl, trivial⟩ ?_
    refine wo_nil ?_
    refine wq_seq ?_
    refine wc_ret ?_
    cases h
    exact wq_then_ret (wq_ret rfl ⟨_, rfl, (bool_is.2 rfl), hF⟩)
  rcases bif_some h with ⟨hc109, h⟩ | ⟨hc109, h⟩
  · refine wc_draw mixed [⟨64, [], [11]⟩, ⟨65, [0], []⟩, ⟨66, [1], []⟩, ⟨67, [2], [13]⟩, ⟨68, [2, 3], []⟩, ⟨69, [2, 4], []⟩, ⟨70, [5], []⟩, ⟨71, [6], [15]⟩, ⟨72, [6, 7], []⟩, ⟨73, [6, 8], []⟩, ⟨74, [9], []⟩, ⟨75, [10], [10]⟩, ⟨76, [10], [4]⟩, ⟨77, [10, 12], []⟩, ⟨78, [10, 11, 13], []⟩, ⟨79, [10, 14], []⟩, ⟨80, [15], []⟩, ⟨81, [16], [12]⟩, ⟨82, [16], [7]⟩, ⟨83, [16, 17, 18], []⟩, ⟨84, [16, 19], []⟩, ⟨85, [16, 20], []⟩, ⟨86, [21], []⟩, ⟨87, [22], [8]⟩, ⟨88, [22], [4]⟩, ⟨89, [22, 24], []⟩, ⟨90, [22, 23, 25], []⟩, ⟨91, [22], [4]⟩, ⟨92, [22, 27], []⟩, ⟨93, [22, 26, 28], []⟩, ⟨94, [22, 29], []⟩, ⟨95, [22, 30], []⟩] [SP.eq (.int .i64 y64.2), SP.eq (.bool (y64.2 != (0 : Int))), SP.eq (.bool (y64.2 != (0 : Int))), SP.eq (.int .i64 y74.2), SP.eq (.bool (y74.2 != (0 : Int))), SP.eq (.bool (y74.2 != (0 : Int))), SP.eq (.bool (y74.2 != (0 : Int))), SP.eq (.int .i64 y97.2), SP.eq (.bool (y97.2 != (4 : Int))), SP.eq (.bool (y97.2 != (4 : Int))), SP.eq (.bool (y97.2 != (4 : Int))), SP.eq undef, SP.eq undef, SP.eq undef, SP.eq undef, SP.eq (.bool true), SP.eq (.bool true), SP.eq undef, SP.eq undef, SP.eq undef, SP.eq undef, SP.eq (.bool true), SP.eq (.bool true), SP.eq undef, SP.eq undef, SP.eq undef, SP.eq undef, SP.eq undef, SP.eq undef, SP.eq undef, SP.eq undef, SP.eq (.bool true)] rfl rfl rfl ⟨?_, ?_, ?_, ?_, ?_, ?_, ?_, ?_, ?_, ?_, ?_, ?_, ?_, ?_, ?_, ?_, ?_, ?_, ?_, ?_, ?_, ?_, ?_, ?_, ?_, ?_, ?_, ?_, ?_, ?_, ?_, ?_, trivial⟩ ?_
    · intro a w2 hfr hN hds hb hd
      exact op_plain Θ_ok ⟨hN, hds, rows_get (E := [(11, (.int .i64 y64.2))]) ⟨hb 11 rfl _ rfl, trivial⟩⟩ rfl rfl rfl rfl rfl
    · intro a w2 hfr hN hds hb hd
      exact op_plain Θ_ok ⟨hN, hds, rows_get (E := [(64, (.int .i64 y64.2))]) ⟨(hd 0 rfl _ _ rfl rfl), trivial⟩⟩ rfl rfl rfl rfl rfl
    · intro a w2 hfr hN hds hb hd
      exact op_plain Θ_ok ⟨hN, hds, rows_get (E := [(65, (.bool (y64.2 != (0 : Int))))]) ⟨(hd 1 rfl _ _ rfl rfl), trivial⟩⟩ rfl rfl rfl rfl rfl
    · intro a w2 hfr hN hds hb hd
      exact op_plain Θ_ok ⟨hN, hds, rows_get (E := [(13, (.int .i64 y74.2)), (66, (.bool false))]) ⟨hb 13 rfl _ rfl, ((hd 2 rfl _ _ rfl rfl).trans (congrArg _ hc103)), trivial⟩⟩ rfl rfl rfl rfl rfl
    · intro a w2 hfr hN hds hb hd
      exact op_plain Θ_ok ⟨hN, hds, rows_get (E := [(66, (.bool false)), (67, (.int .i64 y74.2))]) ⟨((hd 2 rfl _ _ rfl rfl).trans (congrArg _ hc103)), (hd 3 rfl _ _ rfl rfl), trivial⟩⟩ rfl rfl rfl rfl rfl
    · intro a w2 hfr hN hds hb hd
      exact op_plain Θ_ok ⟨hN, hds, rows_get (E := [(66, (.bool false)), (68, (.bool (y74.2 != (0 : Int))))]) ⟨((hd 2 rfl _ _ rfl rfl).trans (congrArg _ hc103)), (hd 4 rfl _ _ rfl rfl), trivial⟩⟩ rfl rfl rfl rfl rfl
    · intro a w2 hfr hN hds hb hd
      exact op_plain Θ_ok ⟨hN, hds, rows_get (E := [(69, (.bool (y74.2 != (0 : Int))))]) ⟨(hd 5 rfl _ _ rfl rfl), trivial⟩⟩ rfl rfl rfl rfl rfl
    · intro a w2 hfr hN hds hb hd
      exact op_plain Θ_ok ⟨hN, hds, rows_get (E := [(15, (.int .i64 y97.2)), (70, (.bool false))]) ⟨hb 15 rfl _ rfl, ((hd 6 rfl _ _ rfl rfl).trans (congrArg _ hc106)), trivial⟩⟩ rfl rfl rfl rfl rfl
    · intro a w2 hfr hN hds hb hd
      exact op_plain Θ_ok ⟨hN, hds, rows_get (E := [(70, (.bool false)), (71, (.int .i64 y97.2))]) ⟨((hd 6 rfl _ _ rfl rfl).trans (congrArg _ hc106)), (hd 7 rfl _ _ rfl rfl), trivial⟩⟩ rfl rfl rfl rfl rfl
    · intro a w2 hfr hN hds hb hd
      exact op_plain Θ_ok ⟨hN, hds, rows_get (E := [(70, (.bool false)), (72, (.bool (y97.2 != (4 : Int))))]) ⟨((hd 6 rfl _ _ rfl rfl).trans (congrArg _ hc106)), (hd 8 rfl _ _ rfl rfl), trivial⟩⟩ rfl rfl rfl rfl rfl
    · intro a w2 hfr hN hds hb hd
      exact op_plain Θ_ok ⟨hN, hds, rows_get (E := [(73, (.bool (y97.2 != (4 : Int))))]) ⟨(hd 9 rfl _ _ rfl rfl), trivial⟩⟩ rfl rfl rfl rfl rfl
    · intro a w2 hfr hN hds hb hd
      exact op_skip ⟨hN, hds, rows_get (E := [(10, (.int .u64 y64.1)), (74, (.bool true))]) ⟨hb 10 rfl _ rfl, ((hd 10 rfl _ _ rfl rfl).trans (congrArg _ hc109)), trivial⟩⟩ rfl rfl rfl
    · intro a w2 hfr hN hds hb hd
      exact op_skip ⟨hN, hds, rows_get (E := [(4, (.pointer (some ⟨b7, 0, none⟩))), (74, (.bool true))]) ⟨hb 4 rfl _ rfl, ((hd 10 rfl _ _ rfl rfl).trans (congrArg _ hc109)), trivial⟩⟩ rfl rfl rfl
    · intro a w2 hfr hN hds hb hd
      exact op_skip ⟨hN, hds, rows_get (E := [(74, (.bool true)), (76, undef)]) ⟨((hd 10 rfl _ _ rfl rfl).trans (congrArg _ hc109)), (hd 12 rfl _ _ rfl rfl), trivial⟩⟩ rfl rfl rfl
    · intro a w2 hfr hN hds hb hd
      exact op_skip ⟨hN, hds, rows_get (E := [(74, (.bool true)), (75, undef), (77, undef)]) ⟨((hd 10 rfl _ _ rfl rfl).trans (congrArg _ hc109)), (hd 11 rfl _ _ rfl rfl), (hd 13 rfl _ _ rfl rfl), trivial⟩⟩ rfl rfl rfl
    · intro a w2 hfr hN hds hb hd
      exact op_plain Θ_ok ⟨hN, hds, rows_get (E := [(74, (.bool true)), (78, undef)]) ⟨((hd 10 rfl _ _ rfl rfl).trans (congrArg _ hc109)), (hd 14 rfl _ _ rfl rfl), trivial⟩⟩ rfl rfl rfl rfl rfl
    · intro a w2 hfr hN hds hb hd
      exact op_plain Θ_ok ⟨hN, hds, rows_get (E := [(79, (.bool true))]) ⟨(hd 15 rfl _ _ rfl rfl), trivial⟩⟩ rfl rfl rfl rfl rfl
    · intro a w2 hfr hN hds hb hd
      exact op_skip ⟨hN, hds, rows_get (E := [(12, (.pointer (some ⟨b84, 0, none⟩))), (80, (.bool true))]) ⟨hb 12 rfl _ rfl, (hd 16 rfl _ _ rfl rfl), trivial⟩⟩ rfl rfl rfl
    · intro a w2 hfr hN hds hb hd
      exact op_skip ⟨hN, hds, rows_get (E := [(7, (.pointer (some ⟨b27, 0, none⟩))), (80, (.bool true))]) ⟨hb 7 rfl _ rfl, (hd 16 rfl _ _ rfl rfl), trivial⟩⟩ rfl rfl rfl
    · intro a w2 hfr hN hds hb hd
      exact op_skip ⟨hN, hds, rows_get (E := [(80, (.bool true)), (81, undef), (82, undef)]) ⟨(hd 16 rfl _ _ rfl rfl), (hd 17 rfl _ _ rfl rfl), (hd 18 rfl _ _ rfl rfl), trivial⟩⟩ rfl rfl rfl
    · intro a w2 hfr hN hds hb hd
      exact op_skip ⟨hN, hds, rows_get (E := [(80, (.bool true)), (83, undef)]) ⟨(hd 16 rfl _ _ rfl rfl), (hd 19 rfl _ _ rfl rfl), trivial⟩⟩ rfl rfl rfl
    · intro a w2 hfr hN hds hb hd
      exact op_plain Θ_ok ⟨hN, hds, rows_get (E := [(80, (.bool true)), (84, undef)]) ⟨(hd 16 rfl _ _ rfl rfl), (hd 20 rfl _ _ rfl rfl), trivial⟩⟩ rfl rfl rfl rfl rfl
    · intro a w2 hfr hN hds hb hd
      exact op_plain Θ_ok ⟨hN, hds, rows_get (E := [(85, (.bool true))]) ⟨(hd 21 rfl _ _ rfl rfl), trivial⟩⟩ rfl rfl rfl rfl rfl
    · intro a w2 hfr hN hds hb hd
      exact op_skip ⟨hN, hds, rows_get (E := [(8, (.pointer (some ⟨b50, 0, none⟩))), (86, (.bool true))]) ⟨hb 8 rfl _ rfl, (hd 22 rfl _ _ rfl rfl), trivial⟩⟩ rfl rfl rfl
    · intro a w2 hfr hN hds hb hd
      exact op_skip ⟨hN, hds, rows_get (E := [(4, (.pointer (some ⟨b7, 0, none⟩))), (86, (.bool true))]) ⟨hb 4 rfl _ rfl, (hd 22 rfl _ _ rfl rfl), trivial⟩⟩ rfl rfl rfl
    · intro a w2 hfr hN hds hb hd
      exact op_skip ⟨hN, hds, rows_get (E := [(86, (.bool true)), (88, undef)]) ⟨(hd 22 rfl _ _ rfl rfl), (hd 24 rfl _ _ rfl rfl), trivial⟩⟩ rfl rfl rfl
    · intro a w2 hfr hN hds hb hd
      exact op_skip ⟨hN, hds, rows_get (E := [(86, (.bool true)), (87, undef), (89, undef)]) ⟨(hd 22 rfl _ _ rfl rfl), (hd 23 rfl _ _ rfl rfl), (hd 25 rfl _ _ rfl rfl), trivial⟩⟩ rfl rfl rfl
    · intro a w2 hfr hN hds hb hd
      exact op_skip ⟨hN, hds, rows_get (E := [(4, (.pointer (some ⟨b7, 0, none⟩))), (86, (.bool true))]) ⟨hb 4 rfl _ rfl, (hd 22 rfl _ _ rfl rfl), trivial⟩⟩ rfl rfl rfl
    · intro a w2 hfr hN hds hb hd
      exact op_skip ⟨hN, hds, rows_get (E := [(86, (.bool true)), (91, undef)]) ⟨(hd 22 rfl _ _ rfl rfl), (hd 27 rfl _ _ rfl rfl), trivial⟩⟩ rfl rfl rfl
    · intro a w2 hfr hN hds hb hd
      exact op_skip ⟨hN, hds, rows_get (E := [(86, (.bool true)), (90, undef), (92, undef)]) ⟨(hd 22 rfl _ _ rfl rfl), (hd 26 rfl _ _ rfl rfl), (hd 28 rfl _ _ rfl rfl), trivial⟩⟩ rfl rfl rfl
    · intro a w2 hfr hN hds hb hd
      exact op_skip ⟨hN, hds, rows_get (E := [(86, (.bool true)), (93, undef)]) ⟨(hd 22 rfl _ _ rfl rfl), (hd 29 rfl _ _ rfl rfl), trivial⟩⟩ rfl rfl rfl
    · intro a w2 hfr hN hds hb hd
      exact op_plain Θ_ok ⟨hN, hds, rows_get (E := [(86, (.bool true)), (94, undef)]) ⟨(hd 22 rfl _ _ rfl rfl), (hd 30 rfl _ _ rfl rfl), trivial⟩⟩ rfl rfl rfl rfl rfl
    intro a w111 f110 hN hds hb hr
    have h24 := h24.tr f110.tr0
    have h26 := h26.tr f110.tr0
    have h47 := h47.tr f110.tr0
    have h49 := h49.tr f110.tr0
    have hb7 := hb7.fr0 f110
    have hb27 := hb27.fr0 f110
    have hb50 := hb50.fr0 f110
    have hO := f110.ob hO
    have hF := hF.trans f110
    refine wq_go (E := [(2, (.int .u64 x2)), (4, (.pointer (some ⟨b7, 0, none⟩))), (7, (.pointer (some ⟨b27, 0, none⟩))), (8, (.pointer (some ⟨b50, 0, none⟩))), (95, (.bool true))]) hN hds ⟨hb 2 _ rfl rfl, hb 4 _ rfl rfl, hb 7 _ rfl rfl, hb 8 _ rfl rfl, (hr 31 _ _ rfl rfl), trivial⟩ ?_
    refine wq_seq ?_
    refine wc_true rfl ?_
    refine wc_seq ?_
    refine wc_region (l := [0]) rfl ?_
    refine wo_seg Θ_ok [0] [(6, (.bool false))] rfl ⟨rfl, trivial⟩ ?_
    refine wo_nil ?_
    refine wq_seq ?_
    refine wc_ret ?_
    cases h
    exact wq_then_ret (wq_ret rfl ⟨_, rfl, (bool_is.2 rfl), hF⟩)
  rcases bif_some h with ⟨hc112, h⟩ | ⟨hc112, h⟩
  · refine wc_draw mixed [⟨64, [], [11]⟩, ⟨65, [0], []⟩, ⟨66, [1], []⟩, ⟨67, [2], [13]⟩, ⟨68, [2, 3], []⟩, ⟨69, [2, 4], []⟩, ⟨70, [5], []⟩, ⟨71, [6], [15]⟩, ⟨72, [6, 7], []⟩, ⟨73, [6, 8], []⟩, ⟨74, [9], []⟩, ⟨75, [10], [10]⟩, ⟨76, [10], [4]⟩, ⟨77, [10, 12], []⟩, ⟨78, [10, 11, 13], []⟩, ⟨79, [10, 14], []⟩, ⟨80, [15], []⟩, ⟨81, [16], [12]⟩, ⟨82, [16], [7]⟩, ⟨83, [16, 17, 18], []⟩, ⟨84, [16, 19], []⟩, ⟨85, [16, 20], []⟩, ⟨86, [21], []⟩, ⟨87, [22], [8]⟩, ⟨88, [22], [4]⟩, ⟨89, [22, 24], []⟩, ⟨90, [22, 23, 25], []⟩, ⟨91, [22], [4]⟩, ⟨92, [22, 27], []⟩, ⟨93, [22, 26, 28], []⟩, ⟨94, [22, 29], []⟩, ⟨95, [22, 30], []⟩] [SP.eq (.int .i64 y64.2), SP.eq (.bool (y64.2 != (0 : Int))), SP.eq (.bool (y64.2 != (0 : Int))), SP.eq (.int .i64 y74.2), SP.eq (.bool (y74.2 != (0 : Int))), SP.eq (.bool (y74.2 != (0 : Int))), SP.eq (.bool (y74.2 != (0 : Int))), SP.eq (.int .i64 y97.2), SP.eq (.bool (y97.2 != (4 : Int))), SP.eq (.bool (y97.2 != (4 : Int))), SP.eq (.bool (y97.2 != (4 : Int))), SP.eq (.int .u64 y64.1), SP.eq (.pointer (some ⟨b7, 1, none⟩)), SP.eq (.int .u64 x1.fPid), SP.eq (.bool (y64.1 != x1.fPid)), SP.eq (.bool (y64.1 != x1.fPid)), SP.eq (.bool (y64.1 != x1.fPid)), SP.eq undef, SP.eq undef, SP.eq undef, SP.eq undef, SP.eq (.bool true), SP.eq (.bool true), SP.eq undef, SP.eq undef, SP.eq undef, SP.eq undef, SP.eq undef, SP.eq undef, SP.eq undef, SP.eq undef, SP.eq (.bool true)] rfl rfl rfl ⟨?_, ?_, ?_, ?_, ?_, ?_, ?_, ?_, ?_, ?_, ?_, ?_, ?_, ?_, ?_, ?_, ?_, ?_, ?_, ?_, ?_, ?_, ?_, ?_, ?_, ?_, ?_, ?_, ?_, ?_, ?_, ?_, trivial⟩ ?_
    · intro a w2 hfr hN hds hb hd
      exact op_plain Θ_ok ⟨hN, hds, rows_get (E := [(11, (.int .i64 y64.2))]) ⟨hb 11 rfl _ rfl, trivial⟩⟩ rfl rfl rfl rfl rfl
    · intro a w2 hfr hN hds hb hd
      exact op_plain Θ_ok ⟨hN, hds, rows_get (E := [(64, (.int .i64 y64.2))]) ⟨(hd 0 rfl _ _ rfl rfl), trivial⟩⟩ rfl rfl rfl rfl rfl
    · intro a w2 hfr hN hds hb hd
      exact op_plain Θ_ok ⟨hN, hds, rows_get (E := [(65, (.bool (y64.2 != (0 : Int))))]) ⟨(hd 1 rfl _ _ rfl rfl), trivial⟩⟩ rfl rfl rfl rfl rfl
    · intro a w2 hfr hN hds hb hd
      exact op_plain Θ_ok ⟨hN, hds, rows_get (E := [(13, (.int .i64 y74.2)), (66, (.bool false))]) ⟨hb 13 rfl _ rfl, ((hd 2 rfl _ _ rfl rfl).trans (congrArg _ hc103)), trivial⟩⟩ rfl rfl rfl rfl rfl
    · intro a w2 hfr hN hds hb hd
      exact op_plain Θ_ok ⟨hN, hds, rows_get (E := [(66, (.bool false)), (67, (.int .i64 y74.2))]) ⟨((hd 2 rfl _ _ rfl rfl).trans (congrArg _ hc103)), (hd 3 rfl _ _ rfl rfl), trivial⟩⟩ rfl rfl rfl rfl rfl
    · intro a w2 hfr hN hds hb hd
      exact op_plain Θ_ok ⟨hN, hds, rows_get (E := [(66, (.bool false)), (68, (.bool (y74.2 != (0 : Int))))]) ⟨((hd 2 rfl _ _ rfl rfl).trans (congrArg _ hc103)), (hd 4 rfl _ _ rfl rfl), trivial⟩⟩ rfl rfl rfl rfl rfl
    · intro a w2 hfr hN hds hb hd
      exact op_plain Θ_ok ⟨hN, hds, rows_get (E := [(69, (.bool (y74.2 != (0 : Int))))]) ⟨(hd 5 rfl _ _ rfl rfl), trivial⟩⟩ rfl rfl rfl rfl rfl
    · intro a w2 hfr hN hds hb hd
      exact op_plain Θ_ok ⟨hN, hds, rows_get (E := [(15, (.int .i64 y97.2)), (70, (.bool false))]) ⟨hb 15 rfl _ rfl, ((hd 6 rfl _ _ rfl rfl).trans (congrArg _ hc106)), trivial⟩⟩ rfl rfl rfl rfl rfl
    · intro a w2 hfr hN hds hb hd
      exact op_plain Θ_ok ⟨hN, hds, rows_get (E := [(70, (.bool false)), (71, (.int .i64 y97.2))]) ⟨((hd 6 rfl _ _ rfl rfl).trans (congrArg _ hc106)), (hd 7 rfl _ _ rfl rfl), trivial⟩⟩ rfl rfl rfl rfl rfl
    · intro a w2 hfr hN hds hb hd
      exact op_plain Θ_ok ⟨hN, hds, rows_get (E := [(70, (.bool false)), (72, (.bool (y97.2 != (4 : Int))))]) ⟨((hd 6 rfl _ _ rfl rfl).trans (congrArg _ hc106)), (hd 8 rfl _ _ rfl rfl), trivial⟩⟩ rfl rfl rfl rfl rfl
    · intro a w2 hfr hN hds hb hd
      exact op_plain Θ_ok ⟨hN, hds, rows_get (E := [(73, (.bool (y97.2 != (4 : Int))))]) ⟨(hd 9 rfl _ _ rfl rfl), trivial⟩⟩ rfl rfl rfl rfl rfl
    · intro a w2 hfr hN hds hb hd
      exact op_plain Θ_ok ⟨hN, hds, rows_get (E := [(10, (.int .u64 y64.1)), (74, (.bool false))]) ⟨hb 10 rfl _ rfl, ((hd 10 rfl _ _ rfl rfl).trans (congrArg _ hc109)), trivial⟩⟩ rfl rfl rfl rfl rfl
    · intro a w2 hfr hN hds hb hd
      exact op_plain Θ_ok ⟨hN, hds, rows_get (E := [(4, (.pointer (some ⟨b7, 0, none⟩))), (74, (.bool false))]) ⟨hb 4 rfl _ rfl, ((hd 10 rfl _ _ rfl rfl).trans (congrArg _ hc109)), trivial⟩⟩ rfl rfl rfl rfl rfl
    · intro a w2 hfr hN hds hb hd
      have hb7 := hb7.fr0 hfr
      exact op_load Θ_ok ⟨hN, hds, rows_get (E := [(74, (.bool false)), (76, (.pointer (some ⟨b7, 1, none⟩)))]) ⟨((hd 10 rfl _ _ rfl rfl).trans (congrArg _ hc109)), (hd 12 rfl _ _ rfl rfl), trivial⟩⟩ rfl rfl rfl rfl rfl rfl hb7 [(.int .u64 x1.fPid)] rfl rfl (.inr rfl) (.int .u64 x1.fPid) rfl
    · intro a w2 hfr hN hds hb hd
      exact op_plain Θ_ok ⟨hN, hds, rows_get (E := [(74, (.bool false)), (75, (.int .u64 y64.1)), (77, (.int .u64 x1.fPid))]) ⟨((hd 10 rfl _ _ rfl rfl).trans (congrArg _ hc109)), (hd 11 rfl _ _ rfl rfl), (hd 13 rfl _ _ rfl rfl), trivial⟩⟩ rfl rfl rfl rfl rfl
    · intro a w2 hfr hN hds hb hd
      exact op_plain Θ_ok ⟨hN, hds, rows_get (E := [(74, (.bool false)), (78, (.bool (y64.1 != x1.fPid)))]) ⟨((hd 10 rfl _ _ rfl rfl).trans (congrArg _ hc109)), (hd 14 rfl _ _ rfl rfl), trivial⟩⟩ rfl rfl rfl rfl rfl
    · intro a w2 hfr hN hds hb hd
      exact op_plain Θ_ok ⟨hN, hds, rows_get (E := [(79, (.bool (y64.1 != x1.fPid)))]) ⟨(hd 15 rfl _ _ rfl rfl), trivial⟩⟩ rfl rfl rfl rfl rfl
    · intro a w2 hfr hN hds hb hd
      exact op_skip ⟨hN, hds, rows_get (E := [(12, (.pointer (some ⟨b84, 0, none⟩))), (80, (.bool true))]) ⟨hb 12 rfl _ rfl, ((hd 16 rfl _ _ rfl rfl).trans (congrArg _ hc112)), trivial⟩⟩ rfl rfl rfl
    · intro a w2 hfr hN hds hb hd
      exact op_skip ⟨hN, hds, rows_get (E := [(7, (.pointer (some ⟨b27, 0, none⟩))), (80, (.bool true))]) ⟨hb 7 rfl _ rfl, ((hd 16 rfl _ _ rfl rfl).trans (congrArg _ hc112)), trivial⟩⟩ rfl rfl rfl
    · intro a w2 hfr hN hds hb hd
      exact op_skip ⟨hN, hds, rows_get (E := [(80, (.bool true)), (81, undef), (82, undef)]) ⟨((hd 16 rfl _ _ rfl rfl).trans (congrArg _ hc112)), (hd 17 rfl _ _ rfl rfl), (hd 18 rfl _ _ rfl rfl), trivial⟩⟩ rfl rfl rfl
    · intro a w2 hfr hN hds hb hd
      exact op_skip ⟨hN, hds, rows_get (E := [(80, (.bool true)), (83, undef)]) ⟨((hd 16 rfl _ _ rfl rfl).trans (congrArg _ hc112)), (hd 19 rfl _ _ rfl rfl), trivial⟩⟩ rfl rfl rfl
    · intro a w2 hfr hN hds hb hd
      exact op_plain Θ_ok ⟨hN, hds, rows_get (E := [(80, (.bool true)), (84, undef)]) ⟨((hd 16 rfl _ _ rfl rfl).trans (congrArg _ hc112)), (hd 20 rfl _ _ rfl rfl), trivial⟩⟩ rfl rfl rfl rfl rfl
    · intro a w2 hfr hN hds hb hd
      exact op_plain Θ_ok ⟨hN, hds, rows_get (E := [(85, (.bool true))]) ⟨(hd 21 rfl _ _ rfl rfl), trivial⟩⟩ rfl rfl rfl rfl rfl
    · intro a w2 hfr hN hds hb hd
      exact op_skip ⟨hN, hds, rows_get (E := [(8, (.pointer (some ⟨b50, 0, none⟩))), (86, (.bool true))]) ⟨hb 8 rfl _ rfl, (hd 22 rfl _ _ rfl rfl), trivial⟩⟩ rfl rfl rfl
    · intro a w2 hfr hN hds hb hd
      exact op_skip ⟨hN, hds, rows_get (E := [(4, (.pointer (some ⟨b7, 0, none⟩))), (86, (.bool true))]) ⟨hb 4 rfl _ rfl, (hd 22 rfl _ _ rfl rfl), trivial⟩⟩ rfl rfl rfl
    · intro a w2 hfr hN hds hb hd
      exact op_skip ⟨hN, hds, rows_get (E := [(86, (.bool true)), (88, undef)]) ⟨(hd 22 rfl _ _ rfl rfl), (hd 24 rfl _ _ rfl rfl), trivial⟩⟩ rfl rfl rfl
    · intro a w2 hfr hN hds hb hd
      exact op_skip ⟨hN, hds, rows_get (E := [(86, (.bool true)), (87, undef), (89, undef)]) ⟨(hd 22 rfl _ _ rfl rfl), (hd 23 rfl _ _ rfl rfl), (hd 25 rfl _ _ rfl rfl), trivial⟩⟩ rfl rfl rfl
    · intro a w2 hfr hN hds hb hd
      exact op_skip ⟨hN, hds, rows_get (E := [(4, (.pointer (some ⟨b7, 0, none⟩))), (86, (.bool true))]) ⟨hb 4 rfl _ rfl, (hd 22 rfl _ _ rfl rfl), trivial⟩⟩ rfl rfl rfl
    · intro a w2 hfr hN hds hb hd
      exact op_skip ⟨hN, hds, rows_get (E := [(86, (.bool true)), (91, undef)]) ⟨(hd 22 rfl _ _ rfl rfl), (hd 27 rfl _ _ rfl rfl), trivial⟩⟩ rfl rfl rfl
    · intro a w2 hfr hN hds hb hd
      exact op_skip ⟨hN, hds, rows_get (E := [(86, (.bool true)), (90, undef), (92, undef)]) ⟨(hd 22 rfl _ _ rfl rfl), (hd 26 rfl _ _ rfl rfl), (hd 28 rfl _ _ rfl rfl), trivial⟩⟩ rfl rfl rfl
    · intro a w2 hfr hN hds hb hd
      exact op_skip ⟨hN, hds, rows_get (E := [(86, (.bool true)), (93, undef)]) ⟨(hd 22 rfl _ _ rfl rfl), (hd 29 rfl _ _ rfl rfl), trivial⟩⟩ rfl rfl rfl
    · intro a w2 hfr hN hds hb hd
      exact op_plain Θ_ok ⟨hN, hds, rows_get (E := [(86, (.bool true)), (94, undef)]) ⟨(hd 22 rfl _ _ rfl rfl), (hd 30 rfl _ _ rfl rfl), trivial⟩⟩ rfl rfl rfl rfl rfl
    intro a w114 f113 hN hds hb hr
    have h24 := h24.tr f113.tr0
    have h26 := h26.tr f113.tr0
    have h47 := h47.tr f113.tr0
    have h49 := h49.tr f113.tr0
    have hb7 := hb7.fr0 f113
    have hb27 := hb27.fr0 f113
    have hb50 := hb50.fr0 f113
    have hO := f113.ob hO
    have hF := hF.trans f113
    refine wq_go (E := [(2, (.int .u64 x2)), (4, (.pointer (some ⟨b7, 0, none⟩))), (7, (.pointer (some ⟨b27, 0, none⟩))), (8, (.pointer (some ⟨b50, 0, none⟩))), (95, (.bool true))]) hN hds ⟨hb 2 _ rfl rfl, hb 4 _ rfl rfl, hb 7 _ rfl rfl, hb 8 _ rfl rfl, (hr 31 _ _ rfl rfl), trivial⟩ ?_
    refine wq_seq ?_
    refine wc_true rfl ?_
    refine wc_seq ?_
    refine wc_region (l := [0]) rfl ?_
    refine wo_seg Θ_ok [0] [(6, (.bool false))] rfl ⟨rfl, trivial⟩ ?_
    refine wo_nil ?_
    refine wq_seq ?_
    refine wc_ret ?_
    cases h
    exact wq_then_ret (wq_ret rfl ⟨_, rfl, (bool_is.2 rfl), hF⟩)
  obtain ⟨y115, hy116, h⟩ := bind_some h
  rcases bif_some h with ⟨hc117, h⟩ | ⟨hc117, h⟩
  · refine wc_draw mixed [⟨64, [], [11]⟩, ⟨65, [0], []⟩, ⟨66, [1], []⟩, ⟨67, [2], [13]⟩, ⟨68, [2, 3], []⟩, ⟨69, [2, 4], []⟩, ⟨70, [5], []⟩, ⟨71, [6], [15]⟩, ⟨72, [6, 7], []⟩, ⟨73, [6, 8], []⟩, ⟨74, [9], []⟩, ⟨75, [10], [10]⟩, ⟨76, [10], [4]⟩, ⟨77, [10, 12], []⟩, ⟨78, [10, 11, 13], []⟩, ⟨79, [10, 14], []⟩, ⟨80, [15], []⟩, ⟨81, [16], [12]⟩, ⟨82, [16], [7]⟩, ⟨83, [16, 17, 18], []⟩, ⟨84, [16, 19], []⟩, ⟨85, [16, 20], []⟩, ⟨86, [21], []⟩, ⟨87, [22], [8]⟩, ⟨88, [22], [4]⟩, ⟨89, [22, 24], []⟩, ⟨90, [22, 23, 25], []⟩, ⟨91, [22], [4]⟩, ⟨92, [22, 27], []⟩, ⟨93, [22, 26, 28], []⟩, ⟨94, [22, 29], []⟩, ⟨95, [22, 30], []⟩] [SP.eq (.int .i64 y64.2), SP.eq (.bool (y64.2 != (0 : Int))), SP.eq (.bool (y64.2 != (0 : Int))), SP.eq (.int .i64 y74.2), SP.eq (.bool (y74.2 != (0 : Int))), SP.eq (.bool (y74.2 != (0 : Int))), SP.eq (.bool (y74.2 != (0 : Int))), SP.eq (.int .i64 y97.2), SP.eq (.bool (y97.2 != (4 : Int))), SP.eq (.bool (y97.2 != (4 : Int))), SP.eq (.bool (y97.2 != (4 : Int))), SP.eq (.int .u64 y64.1), SP.eq (.pointer (some ⟨b7, 1, none⟩)), SP.eq (.int .u64 x1.fPid), SP.eq (.bool (y64.1 != x1.fPid)), SP.eq (.bool (y64.1 != x1.fPid)), SP.eq (.bool (y64.1 != x1.fPid)), SP.eq (.agg #[(.slice A87 y74.1.fNames.length c88), (.slice A89 y74.1.fBoxes.length c90)]), SP.eq (.agg #[(.slice A30 y21.fNames.length c31), (.slice A32 y21.fBoxes.length c33)]), SP.eq (.bool y115), SP.eq (.bool (!y115)), SP.eq (.bool (!y115)), SP.eq (.bool (!y115)), SP.eq undef, SP.eq undef, SP.eq undef, SP.eq undef, SP.eq undef, SP.eq undef, SP.eq undef, SP.eq undef, SP.eq (.bool true)] rfl rfl rfl ⟨?_, ?_, ?_, ?_, ?_, ?_, ?_, ?_, ?_, ?_, ?_, ?_, ?_, ?_, ?_, ?_, ?_, ?_, ?_, ?_, ?_, ?_, ?_, ?_, ?_, ?_, ?_, ?_, ?_, ?_, ?_, ?_, trivial⟩ ?_
    · intro a w2 hfr hN hds hb hd
      exact op_plain Θ_ok ⟨hN, hds, rows_get (E := [(11, (.int .i64 y64.2))]) ⟨hb 11 rfl _ rfl, trivial⟩⟩ rfl rfl rfl rfl rfl
    · intro a w2 hfr hN hds hb hd
      exact op_plain Θ_ok ⟨hN, hds, rows_get (E := [(64, (.int .i64 y64.2))]) ⟨(hd 0 rfl _ _ rfl rfl), trivial⟩⟩ rfl rfl rfl rfl rfl
    · intro a w2 hfr hN hds hb hd
      exact op_plain Θ_ok ⟨hN, hds, rows_get (E := [(65, (.bool (y64.2 != (0 : Int))))]) ⟨(hd 1 rfl _ _ rfl rfl), trivial⟩⟩ rfl rfl rfl rfl rfl
    · intro a w2 hfr hN hds hb hd
      exact op_plain Θ_ok ⟨hN, hds, rows_get (E := [(13, (.int .i64 y74.2)), (66, (.bool false))]) ⟨hb 13 rfl _ rfl, ((hd 2 rfl _ _ rfl rfl).trans (congrArg _ hc103)), trivial⟩⟩ rfl rfl rfl rfl rfl
    · intro a w2 hfr hN hds hb hd
      exact op_plain Θ_ok ⟨hN, hds, rows_get (E := [(66, (.bool false)), (67, (.int .i64 y74.2))]) ⟨((hd 2 rfl _ _ rfl rfl).trans (congrArg _ hc103)), (hd 3 rfl _ _ rfl rfl), trivial⟩⟩ rfl rfl rfl rfl rfl
    · intro a w2 hfr hN hds hb hd
      exact op_plain Θ_ok ⟨hN, hds, rows_get (E := [(66, (.bool false)), (68, (.bool (y74.2 != (0 : Int))))]) ⟨((hd 2 rfl _ _ rfl rfl).trans (congrArg _ hc103)), (hd 4 rfl _ _ rfl rfl), trivial⟩⟩ rfl rfl rfl rfl rfl
    · intro a w2 hfr hN hds hb hd
      exact op_plain Θ_ok ⟨hN, hds, rows_get (E := [(69, (.bool (y74.2 != (0 : Int))))]) ⟨(hd 5 rfl _ _ rfl rfl), trivial⟩⟩ rfl rfl rfl rfl rfl
    · intro a w2 hfr hN hds hb hd
      exact op_plain Θ_ok ⟨hN, hds, rows_get (E := [(15, (.int .i64 y97.2)), (70, (.bool false))]) ⟨hb 15 rfl _ rfl, ((hd 6 rfl _ _ rfl rfl).trans (congrArg _ hc106)), trivial⟩⟩ rfl rfl rfl rfl rfl
    · intro a w2 hfr hN hds hb hd
      exact op_plain Θ_ok ⟨hN, hds, rows_get (E := [(70, (.bool false)), (71, (.int .i64 y97.2))]) ⟨((hd 6 rfl _ _ rfl rfl).trans (congrArg _ hc106)), (hd 7 rfl _ _ rfl rfl), trivial⟩⟩ rfl rfl rfl rfl rfl
    · intro a w2 hfr hN hds hb hd
      exact op_plain Θ_ok ⟨hN, hds, rows_get (E := [(70, (.bool false)), (72, (.bool (y97.2 != (4 : Int))))]) ⟨((hd 6 rfl _ _ rfl rfl).trans (congrArg _ hc106)), (hd 8 rfl _ _ rfl rfl), trivial⟩⟩ rfl rfl rfl rfl rfl
    · intro a w2 hfr hN hds hb hd
      exact op_plain Θ_ok ⟨hN, hds, rows_get (E := [(73, (.bool (y97.2 != (4 : Int))))]) ⟨(hd 9 rfl _ _ rfl rfl), trivial⟩⟩ rfl rfl rfl rfl rfl
    · intro a w2 hfr hN hds hb hd
      exact op_plain Θ_ok ⟨hN, hds, rows_get (E := [(10, (.int .u64 y64.1)), (74, (.bool false))]) ⟨hb 10 rfl _ rfl, ((hd 10 rfl _ _ rfl rfl).trans (congrArg _ hc109)), trivial⟩⟩ rfl rfl rfl rfl rfl
    · intro a w2 hfr hN hds hb hd
      exact op_plain Θ_ok ⟨hN, hds, rows_get (E := [(4, (.pointer (some ⟨b7, 0, none⟩))), (74, (.bool false))]) ⟨hb 4 rfl _ rfl, ((hd 10 rfl _ _ rfl rfl).trans (congrArg _ hc109)), trivial⟩⟩ rfl rfl rfl rfl rfl
    · intro a w2 hfr hN hds hb hd
      have hb7 := hb7.fr0 hfr
      exact op_load Θ_ok ⟨hN, hds, rows_get (E := [(74, (.bool false)), (76, (.pointer (some ⟨b7, 1, none⟩)))]) ⟨((hd 10 rfl _ _ rfl rfl).trans (congrArg _ hc109)), (hd 12 rfl _ _ rfl rfl), trivial⟩⟩ rfl rfl rfl rfl rfl rfl hb7 [(.int .u64 x1.fPid)] rfl rfl (.inr rfl) (.int .u64 x1.fPid) rfl
    · intro a w2 hfr hN hds hb hd
      exact op_plain Θ_ok ⟨hN, hds, rows_get (E := [(74, (.bool false)), (75, (.int .u64 y64.1)), (77, (.int .u64 x1.fPid))]) ⟨((hd 10 rfl _ _ rfl rfl).trans (congrArg _ hc109)), (hd 11 rfl _ _ rfl rfl), (hd 13 rfl _ _ rfl rfl), trivial⟩⟩ rfl rfl rfl rfl rfl
    · intro a w2 hfr hN hds hb hd
      exact op_plain Θ_ok ⟨hN, hds, rows_get (E := [(74, (.bool false)), (78, (.bool (y64.1 != x1.fPid)))]) ⟨((hd 10 rfl _ _ rfl rfl).trans (congrArg _ hc109)), (hd 14 rfl _ _ rfl rfl), trivial⟩⟩ rfl rfl rfl rfl rfl
    · intro a w2 hfr hN hds hb hd
      exact op_plain Θ_ok ⟨hN, hds, rows_get (E := [(79, (.bool (y64.1 != x1.fPid)))]) ⟨(hd 15 rfl _ _ rfl rfl), trivial⟩⟩ rfl rfl rfl rfl rfl
    · intro a w2 hfr hN hds hb hd
      have hb84 := hb84.fr0 hfr
      exact op_load Θ_ok ⟨hN, hds, rows_get (E := [(12, (.pointer (some ⟨b84, 0, none⟩))), (80, (.bool false))]) ⟨hb 12 rfl _ rfl, ((hd 16 rfl _ _ rfl rfl).trans (congrArg _ hc112)), trivial⟩⟩ rfl rfl rfl rfl rfl rfl hb84 [(.slice A87 y74.1.fNames.length c88), (.slice A89 y74.1.fBoxes.length c90)] rfl rfl (.inl rfl) (.agg #[(.slice A87 y74.1.fNames.length c88), (.slice A89 y74.1.fBoxes.length c90)]) rfl
    · intro a w2 hfr hN hds hb hd
      have hb27 := hb27.fr0 hfr
      exact op_load Θ_ok ⟨hN, hds, rows_get (E := [(7, (.pointer (some ⟨b27, 0, none⟩))), (80, (.bool false))]) ⟨hb 7 rfl _ rfl, ((hd 16 rfl _ _ rfl rfl).trans (congrArg _ hc112)), trivial⟩⟩ rfl rfl rfl rfl rfl rfl hb27 [(.slice A30 y21.fNames.length c31), (.slice A32 y21.fBoxes.length c33)] rfl rfl (.inl rfl) (.agg #[(.slice A30 y21.fNames.length c31), (.slice A32 y21.fBoxes.length c33)]) rfl
    · intro a w2 hfr hN hds hb hd
      have h81 := h81.tr hfr.tr0
      have h83 := h83.tr hfr.tr0
      have h24 := h24.tr hfr.tr0
      have h26 := h26.tr hfr.tr0
      exact (op_call ⟨hN, hds, rows_get (E := [(80, (.bool false)), (81, (.agg #[(.slice A87 y74.1.fNames.length c88), (.slice A89 y74.1.fBoxes.length c90)])), (82, (.agg #[(.slice A30 y21.fNames.length c31), (.slice A32 y21.fBoxes.length c33)]))]) ⟨((hd 16 rfl _ _ rfl rfl).trans (congrArg _ hc112)), (hd 17 rfl _ _ rfl rfl), (hd 18 rfl _ _ rfl rfl), trivial⟩⟩ rfl rfl rfl rfl ent23 rfl (i_Same_c (hfr.ob hO) ((tGIpc_is (x := y74.1)).2 ⟨_, _, rfl, h81, h83⟩) ((tGIpc_is (x := y21)).2 ⟨_, _, rfl, h24, h26⟩) hy116)).weaken (fun u w3 ⟨hu, hf⟩ => ⟨bool_is.1 hu, hf⟩)
    · intro a w2 hfr hN hds hb hd
      exact op_plain Θ_ok ⟨hN, hds, rows_get (E := [(80, (.bool false)), (83, (.bool y115))]) ⟨((hd 16 rfl _ _ rfl rfl).trans (congrArg _ hc112)), (hd 19 rfl _ _ rfl rfl), trivial⟩⟩ rfl rfl rfl rfl rfl
    · intro a w2 hfr hN hds hb hd
      exact op_plain Θ_ok ⟨hN, hds, rows_get (E := [(80, (.bool false)), (84, (.bool (!y115)))]) ⟨((hd 16 rfl _ _ rfl rfl).trans (congrArg _ hc112)), (hd 20 rfl _ _ rfl rfl), trivial⟩⟩ rfl rfl rfl rfl rfl
    · intro a w2 hfr hN hds hb hd
      exact op_plain Θ_ok ⟨hN, hds, rows_get (E := [(85, (.bool (!y115)))]) ⟨(hd 21 rfl _ _ rfl rfl), trivial⟩⟩ rfl rfl rfl rfl rfl
    · intro a w2 hfr hN hds hb hd
      exact op_skip ⟨hN, hds, rows_get (E := [(8, (.pointer (some ⟨b50, 0, none⟩))), (86, (.bool true))]) ⟨hb 8 rfl _ rfl, ((hd 22 rfl _ _ rfl rfl).trans (congrArg _ hc117)), trivial⟩⟩ rfl rfl rfl
    · intro a w2 hfr hN hds hb hd
      exact op_skip ⟨hN, hds, rows_get (E := [(4, (.pointer (some ⟨b7, 0, none⟩))), (86, (.bool true))]) ⟨hb 4 rfl _ rfl, ((hd 22 rfl _ _ rfl rfl).trans (congrArg _ hc117)), trivial⟩⟩ rfl rfl rfl
    · intro a w2 hfr hN hds hb hd
      exact op_skip ⟨hN, hds, rows_get (E := [(86, (.bool true)), (88, undef)]) ⟨((hd 22 rfl _ _ rfl rfl).trans (congrArg _ hc117)), (hd 24 rfl _ _ rfl rfl), trivial⟩⟩ rfl rfl rfl
    · intro a w2 hfr hN hds hb hd
      exact op_skip ⟨hN, hds, rows_get (E := [(86, (.bool true)), (87, undef), (89, undef)]) ⟨((hd 22 rfl _ _ rfl rfl).trans (congrArg _ hc117)), (hd 23 rfl _ _ rfl rfl), (hd 25 rfl _ _ rfl rfl), trivial⟩⟩ rfl rfl rfl
    · intro a w2 hfr hN hds hb hd
      exact op_skip ⟨hN, hds, rows_get (E := [(4, (.pointer (some ⟨b7, 0, none⟩))), (86, (.bool true))]) ⟨hb 4 rfl _ rfl, ((hd 22 rfl _ _ rfl rfl).trans (congrArg _ hc117)), trivial⟩⟩ rfl rfl rfl
    · intro a w2 hfr hN hds hb hd
      exact op_skip ⟨hN, hds, rows_get (E := [(86, (.bool true)), (91, undef)]) ⟨((hd 22 rfl _ _ rfl rfl).trans (congrArg _ hc117)), (hd 27 rfl _ _ rfl rfl), trivial⟩⟩ rfl rfl rfl
    · intro a w2 hfr hN hds hb hd
      exact op_skip ⟨hN, hds, rows_get (E := [(86, (.bool true)), (90, undef), (92, undef)]) ⟨((hd 22 rfl _ _ rfl rfl).trans (congrArg _ hc117)), (hd 26 rfl _ _ rfl rfl), (hd 28 rfl _ _ rfl rfl), trivial⟩⟩ rfl rfl rfl
    · intro a w2 hfr hN hds hb hd
      exact op_skip ⟨hN, hds, rows_get (E := [(86, (.bool true)), (93, undef)]) ⟨((hd 22 rfl _ _ rfl rfl).trans (congrArg _ hc117)), (hd 29 rfl _ _ rfl rfl), trivial⟩⟩ rfl rfl rfl
    · intro a w2 hfr hN hds hb hd
      exact op_plain Θ_ok ⟨hN, hds, rows_get (E := [(86, (.bool true)), (94, undef)]) ⟨((hd 22 rfl _ _ rfl rfl).trans (congrArg _ hc117)), (hd 30 rfl _ _ rfl rfl), trivial⟩⟩ rfl rfl rfl rfl rfl
    intro a w119 f118 hN hds hb hr
    have h24 := h24.tr f118.tr0
    have h26 := h26.tr f118.tr0
    have h47 := h47.tr f118.tr0
    have h49 := h49.tr f118.tr0
    have hb7 := hb7.fr0 f118
    have hb27 := hb27.fr0 f118
    have hb50 := hb50.fr0 f118
    have hO := f118.ob hO
    have hF := hF.trans f118
    refine wq_go (E := [(2, (.int .u64 x2)), (4, (.pointer (some ⟨b7, 0, none⟩))), (7, (.pointer (some ⟨b27, 0, none⟩))), (8, (.pointer (some ⟨b50, 0, none⟩))), (95, (.bool true))]) hN hds ⟨hb 2 _ rfl rfl, hb 4 _ rfl rfl, hb 7 _ rfl rfl, hb 8 _ rfl rfl, (hr 31 _ _ rfl rfl), trivial⟩ ?_
    refine wq_seq ?_
    refine wc_true rfl ?_
    refine wc_seq ?_
    refine wc_region (l := [0]) rfl ?_
    refine wo_seg Θ_ok [0] [(6, (.bool false))] rfl ⟨rfl, trivial⟩ ?_
    refine wo_nil ?_
    refine wq_seq ?_
    refine wc_ret ?_
    cases h
    exact wq_then_ret (wq_ret rfl ⟨_, rfl, (bool_is.2 rfl), hF⟩)
  obtain ⟨y120, hy121, h⟩ := bind_some h
  refine wc_draw mixed [⟨64, [], [11]⟩, ⟨65, [0], []⟩, ⟨66, [1], []⟩, ⟨67, [2], [13]⟩, ⟨68, [2, 3], []⟩, ⟨69, [2, 4], []⟩, ⟨70, [5], []⟩, ⟨71, [6], [15]⟩, ⟨72, [6, 7], []⟩, ⟨73, [6, 8], []⟩, ⟨74, [9], []⟩, ⟨75, [10], [10]⟩, ⟨76, [10], [4]⟩, ⟨77, [10, 12], []⟩, ⟨78, [10, 11, 13], []⟩, ⟨79, [10, 14], []⟩, ⟨80, [15], []⟩, ⟨81, [16], [12]⟩, ⟨82, [16], [7]⟩, ⟨83, [16, 17, 18], []⟩, ⟨84, [16, 19], []⟩, ⟨85, [16, 20], []⟩, ⟨86, [21], []⟩, ⟨87, [22], [8]⟩, ⟨88, [22], [4]⟩, ⟨89, [22, 24], []⟩, ⟨90, [22, 23, 25], []⟩, ⟨91, [22], [4]⟩, ⟨92, [22, 27], []⟩, ⟨93, [22, 26, 28], []⟩, ⟨94, [22, 29], []⟩, ⟨95, [22, 30], []⟩] [SP.eq (.int .i64 y64.2), SP.eq (.bool (y64.2 != (0 : Int))), SP.eq (.bool (y64.2 != (0 : Int))), SP.eq (.int .i64 y74.2), SP.eq (.bool (y74.2 != (0 : Int))), SP.eq (.bool (y74.2 != (0 : Int))), SP.eq (.bool (y74.2 != (0 : Int))), SP.eq (.int .i64 y97.2), SP.eq (.bool (y97.2 != (4 : Int))), SP.eq (.bool (y97.2 != (4 : Int))), SP.eq (.bool (y97.2 != (4 : Int))), SP.eq (.int .u64 y64.1), SP.eq (.pointer (some ⟨b7, 1, none⟩)), SP.eq (.int .u64 x1.fPid), SP.eq (.bool (y64.1 != x1.fPid)), SP.eq (.bool (y64.1 != x1.fPid)), SP.eq (.bool (y64.1 != x1.fPid)), SP.eq (.agg #[(.slice A87 y74.1.fNames.length c88), (.slice A89 y74.1.fBoxes.length c90)]), SP.eq (.agg #[(.slice A30 y21.fNames.length c31), (.slice A32 y21.fBoxes.length c33)]), SP.eq (.bool y115), SP.eq (.bool (!y115)), SP.eq (.bool (!y115)), SP.eq (.bool (!y115)), SP.eq (.agg #[(.slice A53 y40.1.fNames.length c54), (.slice A55 y40.1.fBoxes.length c56)]), SP.eq (.pointer (some ⟨b7, 1, none⟩)), SP.eq (.int .u64 x1.fPid), SP.is (Ty.slice (Ty.int .u64)) (b84 :: b50 :: b27 :: b7 :: b4 :: O) y120, SP.eq (.pointer (some ⟨b7, 0, none⟩)), SP.eq (.int .u64 x1.fName), SP.eq (.bool ((s_Contains y120 x1.fName))), SP.eq (.bool (!(s_Contains y120 x1.fName))), SP.eq (.bool (!(s_Contains y120 x1.fName)))] rfl rfl rfl ⟨?_, ?_, ?_, ?_, ?_, ?_, ?_, ?_, ?_, ?_, ?_, ?_, ?_, ?_, ?_, ?_, ?_, ?_, ?_, ?_, ?_, ?_, ?_, ?_, ?_, ?_, ?_, ?_, ?_, ?_, ?_, ?_, trivial⟩ ?_
  · intro a w2 hfr hN hds hb hd
    exact op_plain Θ_ok ⟨hN, hds, rows_get (E := [(11, (.int .i64 y64.2))]) ⟨hb 11 rfl _ rfl, trivial⟩⟩ rfl rfl rfl rfl rfl
  · intro a w2 hfr hN hds hb hd
    exact op_plain Θ_ok ⟨hN, hds, rows_get (E := [(64, (.int .i64 y64.2))]) ⟨(hd 0 rfl _ _ rfl rfl), trivial⟩⟩ rfl rfl rfl rfl rfl
  · intro a w2 hfr hN hds hb hd
    exact op_plain Θ_ok ⟨hN, hds, rows_get (E := [(65, (.bool (y64.2 != (0 : Int))))]) ⟨(hd 1 rfl _ _ rfl rfl), trivial⟩⟩ rfl rfl rfl rfl rfl
  · intro a w2 hfr hN hds hb hd
    exact op_plain Θ_ok ⟨hN, hds, rows_get (E := [(13, (.int .i64 y74.2)), (66, (.bool false))]) ⟨hb 13 rfl _ rfl, ((hd 2 rfl _ _ rfl rfl).trans (congrArg _ hc103)), trivial⟩⟩ rfl rfl rfl rfl rfl
  · intro a w2 hfr hN hds hb hd
    exact op_plain Θ_ok ⟨hN, hds, rows_get (E := [(66, (.bool false)), (67, (.int .i64 y74.2))]) ⟨((hd 2 rfl _ _ rfl rfl).trans (congrArg _ hc103)), (hd 3 rfl _ _ rfl rfl), trivial⟩⟩ rfl rfl rfl rfl rfl
  · intro a w2 hfr hN hds hb hd
    exact op_plain Θ_ok ⟨hN, hds, rows_get (E := [(66, (.bool false)), (68, (.bool (y74.2 != (0 : Int))))]) ⟨((hd 2 rfl _ _ rfl rfl).trans (congrArg _ hc103)), (hd 4 rfl _ _ rfl rfl), trivial⟩⟩ rfl rfl rfl rfl rfl
  · intro a w2 hfr hN hds hb hd
    exact op_plain Θ_ok ⟨hN, hds, rows_get (E := [(69, (.bool (y74.2 != (0 : Int))))]) ⟨(hd 5 rfl _ _ rfl rfl), trivial⟩⟩ rfl rfl rfl rfl rfl
  · intro a w2 hfr hN hds hb hd
    exact op_plain Θ_ok ⟨hN, hds, rows_get (E := [(15, (.int .i64 y97.2)), (70, (.bool false))]) ⟨hb 15 rfl _ rfl, ((hd 6 rfl _ _ rfl rfl).trans (congrArg _ hc106)), trivial⟩⟩ rfl rfl rfl rfl rfl
  · intro a w2 hfr hN hds hb hd
    exact op_plain Θ_ok ⟨hN, hds, rows_get (E := [(70, (.bool false)), (71, (.int .i64 y97.2))]) ⟨((hd 6 rfl _ _ rfl rfl).trans (congrArg _ hc106)), (hd 7 rfl _ _ rfl rfl), trivial⟩⟩ rfl rfl rfl rfl rfl
  · intro a w2 hfr hN hds hb hd
    exact op_plain Θ_ok ⟨hN, hds, rows_get (E := [(70, (.bool false)), (72, (.bool (y97.2 != (4 : Int))))]) ⟨((hd 6 rfl _ _ rfl rfl).trans (congrArg _ hc106)), (hd 8 rfl _ _ rfl rfl), trivial⟩⟩ rfl rfl rfl rfl rfl
  · intro a w2 hfr hN hds hb hd
    exact op_plain Θ_ok ⟨hN, hds, rows_get (E := [(73, (.bool (y97.2 != (4 : Int))))]) ⟨(hd 9 rfl _ _ rfl rfl), trivial⟩⟩ rfl rfl rfl rfl rfl
  · intro a w2 hfr hN hds hb hd
    exact op_plain Θ_ok ⟨hN, hds, rows_get (E := [(10, (.int .u64 y64.1)), (74, (.bool false))]) ⟨hb 10 rfl _ rfl, ((hd 10 rfl _ _ rfl rfl).trans (congrArg _ hc109)), trivial⟩⟩ rfl rfl rfl rfl rfl
  · intro a w2 hfr hN hds hb hd
    exact op_plain Θ_ok ⟨hN, hds, rows_get (E := [(4, (.pointer (some ⟨b7, 0, none⟩))), (74, (.bool false))]) ⟨hb 4 rfl _ rfl, ((hd 10 rfl _ _ rfl rfl).trans (congrArg _ hc109)), trivial⟩⟩ rfl rfl rfl rfl rfl
  · intro a w2 hfr hN hds hb hd
    have hb7 := hb7.fr0 hfr
    exact op_load Θ_ok ⟨hN, hds, rows_get (E := [(74, (.bool false)), (76, (.pointer (some ⟨b7, 1, none⟩)))]) ⟨((hd 10 rfl _ _ rfl rfl).trans (congrArg _ hc109)), (hd 12 rfl _ _ rfl rfl), trivial⟩⟩ rfl rfl rfl rfl rfl rfl hb7 [(.int .u64 x1.fPid)] rfl rfl (.inr rfl) (.int .u64 x1.fPid) rfl
  · intro a w2 hfr hN hds hb hd
    exact op_plain Θ_ok ⟨hN, hds, rows_get (E := [(74, (.bool false)), (75, (.int .u64 y64.1)), (77, (.int .u64 x1.fPid))]) ⟨((hd 10 rfl _ _ rfl rfl).trans (congrArg _ hc109)), (hd 11 rfl _ _ rfl rfl), (hd 13 rfl _ _ rfl rfl), trivial⟩⟩ rfl rfl rfl rfl rfl
  · intro a w2 hfr hN hds hb hd
    exact op_plain Θ_ok ⟨hN, hds, rows_get (E := [(74, (.bool false)), (78, (.bool (y64.1 != x1.fPid)))]) ⟨((hd 10 rfl _ _ rfl rfl).trans (congrArg _ hc109)), (hd 14 rfl _ _ rfl rfl), trivial⟩⟩ rfl rfl rfl rfl rfl
  · intro a w2 hfr hN hds hb hd
    exact op_plain Θ_ok ⟨hN, hds, rows_get (E := [(79, (.bool (y64.1 != x1.fPid)))]) ⟨(hd 15 rfl _ _ rfl rfl), trivial⟩⟩ rfl rfl rfl rfl rfl
  · intro a w2 hfr hN hds hb hd
    have hb84 := hb84.fr0 hfr
    exact op_load Θ_ok ⟨hN, hds, rows_get (E := [(12, (.pointer (some ⟨b84, 0, none⟩))), (80, (.bool false))]) ⟨hb 12 rfl _ rfl, ((hd 16 rfl _ _ rfl rfl).trans (congrArg _ hc112)), trivial⟩⟩ rfl rfl rfl rfl rfl rfl hb84 [(.slice A87 y74.1.fNames.length c88), (.slice A89 y74.1.fBoxes.length c90)] rfl rfl (.inl rfl) (.agg #[(.slice A87 y74.1.fNames.length c88), (.slice A89 y74.1.fBoxes.length c90)]) rfl
  · intro a w2 hfr hN hds hb hd
    have hb27 := hb27.fr0 hfr
    exact op_load Θ_ok ⟨hN, hds, rows_get (E := [(7, (.pointer (some ⟨b27, 0, none⟩))), (80, (.bool false))]) ⟨hb 7 rfl _ rfl, ((hd 16 rfl _ _ rfl rfl).trans (congrArg _ hc112)), trivial⟩⟩ rfl rfl rfl rfl rfl rfl hb27 [(.slice A30 y21.fNames.length c31), (.slice A32 y21.fBoxes.length c33)] rfl rfl (.inl rfl) (.agg #[(.slice A30 y21.fNames.length c31), (.slice A32 y21.fBoxes.length c33)]) rfl
  · intro a w2 hfr hN hds hb hd
    have h81 := h81.tr hfr.tr0
    have h83 := h83.tr hfr.tr0
    have h24 := h24.tr hfr.tr0
    have h26 := h26.tr hfr.tr0
    exact (op_call ⟨hN, hds, rows_get (E := [(80, (.bool false)), (81, (.agg #[(.slice A87 y74.1.fNames.length c88), (.slice A89 y74.1.fBoxes.length c90)])), (82, (.agg #[(.slice A30 y21.fNames.length c31), (.slice A32 y21.fBoxes.length c33)]))]) ⟨((hd 16 rfl _ _ rfl rfl).trans (congrArg _ hc112)), (hd 17 rfl _ _ rfl rfl), (hd 18 rfl _ _ rfl rfl), trivial⟩⟩ rfl rfl rfl rfl ent23 rfl (i_Same_c (hfr.ob hO) ((tGIpc_is (x := y74.1)).2 ⟨_, _, rfl, h81, h83⟩) ((tGIpc_is (x := y21)).2 ⟨_, _, rfl, h24, h26⟩) hy116)).weaken (fun u w3 ⟨hu, hf⟩ => ⟨bool_is.1 hu, hf⟩)
  · intro a w2 hfr hN hds hb hd
    exact op_plain Θ_ok ⟨hN, hds, rows_get (E := [(80, (.bool false)), (83, (.bool y115))]) ⟨((hd 16 rfl _ _ rfl rfl).trans (congrArg _ hc112)), (hd 19 rfl _ _ rfl rfl), trivial⟩⟩ rfl rfl rfl rfl rfl
  · intro a w2 hfr hN hds hb hd
    exact op_plain Θ_ok ⟨hN, hds, rows_get (E := [(80, (.bool false)), (84, (.bool (!y115)))]) ⟨((hd 16 rfl _ _ rfl rfl).trans (congrArg _ hc112)), (hd 20 rfl _ _ rfl rfl), trivial⟩⟩ rfl rfl rfl rfl rfl
  · intro a w2 hfr hN hds hb hd
    exact op_plain Θ_ok ⟨hN, hds, rows_get (E := [(85, (.bool (!y115)))]) ⟨(hd 21 rfl _ _ rfl rfl), trivial⟩⟩ rfl rfl rfl rfl rfl
  · intro a w2 hfr hN hds hb hd
    have hb50 := hb50.fr0 hfr
    exact op_load Θ_ok ⟨hN, hds, rows_get (E := [(8, (.pointer (some ⟨b50, 0, none⟩))), (86, (.bool false))]) ⟨hb 8 rfl _ rfl, ((hd 22 rfl _ _ rfl rfl).trans (congrArg _ hc117)), trivial⟩⟩ rfl rfl rfl rfl rfl rfl hb50 [(.slice A53 y40.1.fNames.length c54), (.slice A55 y40.1.fBoxes.length c56)] rfl rfl (.inl rfl) (.agg #[(.slice A53 y40.1.fNames.length c54), (.slice A55 y40.1.fBoxes.length c56)]) rfl
  · intro a w2 hfr hN hds hb hd
    exact op_plain Θ_ok ⟨hN, hds, rows_get (E := [(4, (.pointer (some ⟨b7, 0, none⟩))), (86, (.bool false))]) ⟨hb 4 rfl _ rfl, ((hd 22 rfl _ _ rfl rfl).trans (congrArg _ hc117)), trivial⟩⟩ rfl rfl rfl rfl rfl
  · intro a w2 hfr hN hds hb hd
    have hb7 := hb7.fr0 hfr
    exact op_load Θ_ok ⟨hN, hds, rows_get (E := [(86, (.bool false)), (88, (.pointer (some ⟨b7, 1, none⟩)))]) ⟨((hd 22 rfl _ _ rfl rfl).trans (congrArg _ hc117)), (hd 24 rfl _ _ rfl rfl), trivial⟩⟩ rfl rfl rfl rfl rfl rfl hb7 [(.int .u64 x1.fPid)] rfl rfl (.inr rfl) (.int .u64 x1.fPid) rfl
  · intro a w2 hfr hN hds hb hd
    have h47 := h47.tr hfr.tr0
    have h49 := h49.tr hfr.tr0
    exact (op_call ⟨hN, hds, rows_get (E := [(86, (.bool false)), (87, (.agg #[(.slice A53 y40.1.fNames.length c54), (.slice A55 y40.1.fBoxes.length c56)])), (89, (.int .u64 x1.fPid))]) ⟨((hd 22 rfl _ _ rfl rfl).trans (congrArg _ hc117)), (hd 23 rfl _ _ rfl rfl), (hd 25 rfl _ _ rfl rfl), trivial⟩⟩ rfl rfl rfl rfl ent18 rfl (i_Held_c (hfr.ob hO) ((tGIpc_is (x := y40.1)).2 ⟨_, _, rfl, h47, h49⟩) (int_is.2 rfl) hy121)).weaken (fun u w3 ⟨hu, hf⟩ => ⟨hu, hf⟩)
  · intro a w2 hfr hN hds hb hd
    exact op_plain Θ_ok ⟨hN, hds, rows_get (E := [(4, (.pointer (some ⟨b7, 0, none⟩))), (86, (.bool false))]) ⟨hb 4 rfl _ rfl, ((hd 22 rfl _ _ rfl rfl).trans (congrArg _ hc117)), trivial⟩⟩ rfl rfl rfl rfl rfl
  · intro a w2 hfr hN hds hb hd
    have hb7 := hb7.fr0 hfr
    exact op_load Θ_ok ⟨hN, hds, rows_get (E := [(86, (.bool false)), (91, (.pointer (some ⟨b7, 0, none⟩)))]) ⟨((hd 22 rfl _ _ rfl rfl).trans (congrArg _ hc117)), (hd 27 rfl _ _ rfl rfl), trivial⟩⟩ rfl rfl rfl rfl rfl rfl hb7 [(.int .u64 x1.fName)] rfl rfl (.inr rfl) (.int .u64 x1.fName) rfl
  · intro a w2 hfr hN hds hb hd
    have d124 : (Ty.slice (Ty.int .u64)).is (b84 :: b50 :: b27 :: b7 :: b4 :: O) w2 (a.tmps.getD 90 undef) y120 := hd 26 rfl _ _ rfl rfl
    obtain ⟨u122, e123⟩ : ∃ v, a.tmps.getD 90 undef = v := ⟨_, rfl⟩
    rw [e123] at d124
    exact (op_call ⟨hN, hds, rows_get (E := [(86, (.bool false)), (90, u122), (92, (.int .u64 x1.fName))]) ⟨((hd 22 rfl _ _ rfl rfl).trans (congrArg _ hc117)), e123, (hd 28 rfl _ _ rfl rfl), trivial⟩⟩ rfl rfl rfl rfl ent24 rfl (s_Contains_c (hfr.ob hO) d124 (int_is.2 rfl))).weaken (fun u w3 ⟨hu, hf⟩ => ⟨bool_is.1 hu, hf⟩)
  · intro a w2 hfr hN hds hb hd
    exact op_plain Θ_ok ⟨hN, hds, rows_get (E := [(86, (.bool false)), (93, (.bool ((s_Contains y120 x1.fName))))]) ⟨((hd 22 rfl _ _ rfl rfl).trans (congrArg _ hc117)), (hd 29 rfl _ _ rfl rfl), trivial⟩⟩ rfl rfl rfl rfl rfl
  · intro a w2 hfr hN hds hb hd
    exact op_plain Θ_ok ⟨hN, hds, rows_get (E := [(86, (.bool false)), (94, (.bool (!(s_Contains y120 x1.fName))))]) ⟨((hd 22 rfl _ _ rfl rfl).trans (congrArg _ hc117)), (hd 30 rfl _ _ rfl rfl), trivial⟩⟩ rfl rfl rfl rfl rfl
  intro a w126 f125 hN hds hb hr
  have h24 := h24.tr f125.tr0
  have h26 := h26.tr f125.tr0
  have h47 := h47.tr f125.tr0
  have h49 := h49.tr f125.tr0
  have hb7 := hb7.fr0 f125
  have hb27 := hb27.fr0 f125
  have hb50 := hb50.fr0 f125
  have hO := f125.ob hO
  have hF := hF.trans f125
  refine wq_go (E := [(2, (.int .u64 x2)), (4, (.pointer (some ⟨b7, 0, none⟩))), (7, (.pointer (some ⟨b27, 0, none⟩))), (8, (.pointer (some ⟨b50, 0, none⟩))), (95, (.bool (!(s_Contains y120 x1.fName))))]) hN hds ⟨hb 2 _ rfl rfl, hb 4 _ rfl rfl, hb 7 _ rfl rfl, hb 8 _ rfl rfl, (hr 31 _ _ rfl rfl), trivial⟩ ?_
  refine wq_seq ?_
  rcases bif_some h with ⟨hc127, h⟩ | ⟨hc127, h⟩
  · refine wc_known_true rfl hc127 ?_
    refine wc_seq ?_
    refine wc_region (l := [0]) rfl ?_
    refine wo_seg Θ_ok [0] [(6, (.bool false))] rfl ⟨rfl, trivial⟩ ?_
    refine wo_nil ?_
    refine wq_seq ?_
    refine wc_ret ?_
    cases h
    exact wq_then_ret (wq_ret rfl ⟨_, rfl, (bool_is.2 rfl), hF⟩)
  refine wc_known_false rfl hc127 ?_
  refine wc_skip ?_
  refine wq_seq ?_
  refine wc_seq ?_
  refine wc_region (l := [0, 1, 2, 3, 4, 5, 6, 7]) rfl ?_
  refine wo_load Θ_ok rfl rfl rfl rfl rfl rfl rfl hb27 [(.slice A30 y21.fNames.length c31), (.slice A32 y21.fBoxes.length c33)] rfl rfl (.inl rfl) (.agg #[(.slice A30 y21.fNames.length c31), (.slice A32 y21.fBoxes.length c33)]) rfl ?_
  refine wo_seg Θ_ok [1] [(2, (.int .u64 x2)), (4, (.pointer (some ⟨b7, 0, none⟩))), (8, (.pointer (some ⟨b50, 0, none⟩))), (97, (.agg #[(.slice A30 y21.fNames.length c31), (.slice A32 y21.fBoxes.length c33)])), (98, (.int .u64 x2))] rfl ⟨rfl, rfl, rfl, rfl, rfl, trivial⟩ ?_
  obtain ⟨y132, hy133, h⟩ := bind_some h
  refine wo_gives rfl rfl rfl rfl rfl ent22 rfl (i_Lookup_c hO ((tGIpc_is (x := y21)).2 ⟨_, _, rfl, h24, h26⟩) (int_is.2 rfl) hy133) (fun v128 w129 h130 f131 => ?_)
  have h47 := h47.tr f131.tr0
  have h49 := h49.tr f131.tr0
  have hb7 := hb7.fr0 f131
  have hb50 := hb50.fr0 f131
  have hO := f131.ob hO
  have hF := hF.trans f131
  obtain ⟨u134, u136, rfl, h135, h137⟩ := h130
  obtain rfl := int_is.1 h135
  obtain rfl := int_is.1 h137
  refine wo_seg Θ_ok [3, 4, 5, 6, 7] [(2, (.int .u64 x2)), (4, (.pointer (some ⟨b7, 0, none⟩))), (8, (.pointer (some ⟨b50, 0, none⟩))), (16, (.int .u64 y132.1)), (17, (.int .i64 y132.2))] rfl ⟨rfl, rfl, rfl, rfl, rfl, trivial⟩ ?_
  refine wo_nil ?_
  refine wq_seq ?_
  refine wc_seq ?_
  refine wc_region (l := [0, 1, 2, 3, 4, 5, 6, 7]) rfl ?_
  refine wo_load Θ_ok rfl rfl rfl rfl rfl rfl rfl hb50 [(.slice A53 y40.1.fNames.length c54), (.slice A55 y40.1.fBoxes.length c56)] rfl rfl (.inl rfl) (.agg #[(.slice A53 y40.1.fNames.length c54), (.slice A55 y40.1.fBoxes.length c56)]) rfl ?_
  refine wo_seg Θ_ok [1] [(2, (.int .u64 x2)), (4, (.pointer (some ⟨b7, 0, none⟩))), (16, (.int .u64 y132.1)), (17, (.int .i64 y132.2)), (103, (.agg #[(.slice A53 y40.1.fNames.length c54), (.slice A55 y40.1.fBoxes.length c56)])), (104, (.int .u64 x2))] rfl ⟨rfl, rfl, rfl, rfl, rfl, rfl, trivial⟩ ?_
  obtain ⟨y142, hy143, h⟩ := bind_some h
  refine wo_gives rfl rfl rfl rfl rfl ent22 rfl (i_Lookup_c hO ((tGIpc_is (x := y40.1)).2 ⟨_, _, rfl, h47, h49⟩) (int_is.2 rfl) hy143) (fun v138 w139 h140 f141 => ?_)
  have hb7 := hb7.fr0 f141
  have hO := f141.ob hO
  have hF := hF.trans f141
  obtain ⟨u144, u146, rfl, h145, h147⟩ := h140
  obtain rfl := int_is.1 h145
  obtain rfl := int_is.1 h147
  refine wo_seg Θ_ok [3, 4, 5, 6, 7] [(2, (.int .u64 x2)), (4, (.pointer (some ⟨b7, 0, none⟩))), (16, (.int .u64 y132.1)), (17, (.int .i64 y132.2)), (18, (.int .u64 y142.1)), (19, (.int .i64 y142.2))] rfl ⟨rfl, rfl, rfl, rfl, rfl, rfl, trivial⟩ ?_
  refine wo_nil ?_
  refine wq_seq ?_
  refine wc_seq ?_
  refine wc_region (l := [0, 1, 2, 3, 4, 5, 6, 7, 8, 9, 10, 11, 12, 13, 14]) rfl ?_
  refine wo_seg Θ_ok [0, 1] [(16, (.int .u64 y132.1)), (17, (.int .i64 y132.2)), (18, (.int .u64 y142.1)), (19, (.int .i64 y142.2)), (108, (.int .u64 x2)), (109, (.pointer (some ⟨b7, 0, none⟩)))] rfl ⟨rfl, rfl, rfl, rfl, rfl, rfl, trivial⟩ ?_
  refine wo_load Θ_ok rfl rfl rfl rfl rfl rfl rfl hb7 [(.int .u64 x1.fName)] rfl rfl (.inr rfl) (.int .u64 x1.fName) rfl ?_
  refine wo_seg Θ_ok [3, 4] [(16, (.int .u64 y132.1)), (17, (.int .i64 y132.2)), (18, (.int .u64 y142.1)), (19, (.int .i64 y142.2)), (112, (.bool (x2 == x1.fName)))] rfl ⟨rfl, rfl, rfl, rfl, rfl, trivial⟩ ?_
  rcases bif_some h with ⟨hc148, h⟩ | ⟨hc148, h⟩
  · refine wo_know 112 true rfl hc148 ?_
    refine wo_seg Θ_ok [5, 6, 7, 8, 9, 10, 11, 12, 13, 14] [(6, (.bool true))] rfl ⟨rfl, trivial⟩ ?_
    refine wo_nil ?_
    refine wq_seq ?_
    refine wc_ret ?_
    cases h
    exact wq_ret rfl ⟨_, rfl, (bool_is.2 rfl), hF⟩
  refine wo_know 112 false rfl hc148 ?_
  refine wo_seg Θ_ok [5, 6, 7, 8] [(17, (.int .i64 y132.2)), (19, (.int .i64 y142.2)), (112, (.bool false)), (116, (.bool (y132.1 == y142.1)))] rfl ⟨rfl, rfl, rfl, rfl, trivial⟩ ?_
  rcases bif_some h with ⟨hc149, h⟩ | ⟨hc149, h⟩
  · refine wo_know 116 true rfl hc149 ?_
    refine wo_seg Θ_ok [9, 10, 11, 12, 13, 14] [(6, (.bool (y132.2 == y142.2)))] rfl ⟨rfl, trivial⟩ ?_
    refine wo_nil ?_
    refine wq_seq ?_
    refine wc_ret ?_
    cases h
    exact wq_ret rfl ⟨_, rfl, (bool_is.2 rfl), hF⟩
  refine wo_know 116 false rfl hc149 ?_
  refine wo_seg Θ_ok [9, 10, 11, 12, 13, 14] [(6, (.bool false))] rfl ⟨rfl, trivial⟩ ?_
  refine wo_nil ?_
  refine wq_seq ?_
  refine wc_ret ?_
  cases h
  exact wq_ret rfl ⟨_, rfl, (bool_is.2 rfl), hF⟩
end Go.Proofs.Ytjdeaihnpgkphaa
