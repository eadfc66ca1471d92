/-
  The program's functions compute the plain ones (printed by a tool of the prover's).
-/
import Derived.Test.YtjdeaihnpgkphaaGWIpcWordsP2
namespace Go.Proofs.Ytjdeaihnpgkphaa
open Go.RowKit Go.Dc Go.Shelf
set_option maxRecDepth 100000 in
set_option maxHeartbeats 4000000 in
theorem r_Right_c {O : List Nat} {w : World} (hO : OB O w) {fuel : Nat} {v0 : Value} {x0 : GIpc} (h0 : tGIpc.is O w v0 x0) {r : Bool} (h : r_Right fuel x0 = some r) : Calls Try.prog 9 #[v0] w (Gives (rt1 Ty.bool) O w r) := by
  obtain ⟨v0_1, v0_2, rfl, h0_1, h0_2⟩ := tGIpc_is.1 h0
  have hF := Fr.refl [] w
  have hO0 := hO
  have hS := Sub.refl O
  refine calls_of (args := [(.agg #[v0_1, v0_2])]) (N := 87) Try.func9 rfl rfl rfl ?_
  unfold r_Right at h
  refine wc_seq ?_
  refine wc_region (l := [0, 1]) rfl ?_
  refine wo_box rfl rfl rfl rfl rfl rfl [v0_1, v0_2] rfl hO (fun b2 w3 n4 => ?_)
  have h0_1 := h0_1.tr n4.tr
  have h0_2 := h0_2.tr n4.tr
  have hb2 := n4.blk
  have gb2 := n4.ge0 hF
  have ib2 : b2 ∈ b2 :: O := List.mem_cons_self
  have hO := n4.ob
  have hF := hF.trans n4.fr
  have hS := Sub.cons hS b2
  refine wo_seg Θ_ok [1] [(1, (bp b2))] rfl ⟨rfl, trivial⟩ ?_
  refine wo_nil ?_
  refine wq_seq ?_
  obtain ⟨k6, hk7, h⟩ := letk_some h
  refine wc_join (fun E W => ∃ (O10 : List Nat), E = [(1, (bp b2))] ∧ Tr (b2 :: O) w3 O10 W ∧ OB O10 W ∧ Sub O O10 ∧ Fr [] w W ∧ b2 ∈ O10 ∧ Blk W b2 25 [v0_1, v0_2] ∧ k6 = some r) ?_ (fun K8 hK9 => ?_)
  rotate_left
  · clear hk7
    have T5 := Tr.refl (b2 :: O) w3
    refine wc_seq ?_
    refine wc_region (l := [0, 1, 2, 3]) rfl ?_
    refine wo_seg Θ_ok [0] [(1, (bp b2)), (7, (bp b2))] rfl ⟨rfl, rfl, trivial⟩ ?_
    refine wo_load Θ_ok rfl rfl rfl rfl rfl rfl rfl hb2 [v0_1] rfl rfl (.inr rfl) v0_1 rfl ?_
    obtain ⟨A73, c74, rfl, hlc74, hmc74⟩ := slice_form h0_1
    refine wo_seg Θ_ok [2] [(1, (bp b2)), (8, (.slice A73 x0.fNames.length c74)), (9, (.int .i64 (x0.fNames.length : Int)))] rfl ⟨rfl, rfl, rfl, trivial⟩ ?_
    refine wo_seg Θ_ok [3] [(1, (bp b2)), (8, (.slice A73 x0.fNames.length c74)), (9, (.int .i64 (x0.fNames.length : Int))), (10, (.int .i64 0))] rfl ⟨rfl, rfl, rfl, rfl, trivial⟩ ?_
    refine wo_nil ?_
    refine wq_seq ?_
    refine wc_block ?_
    refine wc_loop (fun m E W => ∃ (rest77 : List GName) (i76 : Nat) (O80 : List Nat), rest77.length = m ∧ x0.fNames.drop i76 = rest77 ∧ E = [(1, (bp b2)), (8, (.slice A73 x0.fNames.length c74)), (9, (.int .i64 (x0.fNames.length : Int))), (10, (.int .i64 (i76 : Int)))] ∧ Tr (b2 :: O) w3 O80 W ∧ OB O80 W ∧ Sub O O80 ∧ Fr [] w W ∧ b2 ∈ O80 ∧ Blk W b2 25 [(.slice A73 x0.fNames.length c74), v0_2] ∧ r_Right_l2 x0 k6 fuel rest77 i76 = some r) _ [(1, (bp b2)), (8, (.slice A73 x0.fNames.length c74)), (9, (.int .i64 (x0.fNames.length : Int))), (10, (.int .i64 ((0 : Nat) : Int)))] ⟨rfl, rfl, rfl, rfl, trivial⟩ ⟨x0.fNames, 0, b2 :: O, rfl, rfl, rfl, Tr.refl _ _, hO, hS, hF, ib2, hb2, h⟩ ?_
    rintro m E w81 ⟨rest77, i76, O80, rfl, hd79, rfl, T75, hO, hS, hF, ib2, hb2, h⟩
    have T5 := T5.trans T75
    have h0_1 := h0_1.tr T75
    have h0_2 := h0_2.tr T75
    rcases rest77 with _ | ⟨z78, rest77⟩
    · rw [r_Right_l2] at h
      have hl85 := drop_nil hd79
      have hc82 : (decide ((i76 : Int) < (x0.fNames.length : Int))) = false := decide_eq_false (by omega)
      refine wc_seq ?_
      refine wc_region (l := [0]) rfl ?_
      refine wo_seg Θ_ok [0] [(1, (bp b2)), (8, (.slice A73 x0.fNames.length c74)), (9, (.int .i64 (x0.fNames.length : Int))), (10, (.int .i64 (i76 : Int))), (11, (.bool (decide ((i76 : Int) < (x0.fNames.length : Int)))))] rfl ⟨rfl, rfl, rfl, rfl, rfl, trivial⟩ ?_
      refine wo_nil ?_
      refine wq_seq ?_
      refine wc_seq ?_
      refine wc_known_false rfl hc82 ?_
      refine wc_exit ?_
      exact wq_then_exit (wq_then_exit (wq_block_exit (wq_join hK9 [(1, (bp b2))] ⟨rfl, trivial⟩ ⟨O80, rfl, T5, hO, hS, hF, ib2, hb2, h⟩)))
    rw [r_Right_l2] at h
    obtain ⟨hl86, hg84, hd79⟩ := drop_cons hd79
    have hc83 : (decide ((i76 : Int) < (x0.fNames.length : Int))) = true := decide_eq_true (by omega)
    refine wc_seq ?_
    refine wc_region (l := [0]) rfl ?_
    refine wo_seg Θ_ok [0] [(1, (bp b2)), (8, (.slice A73 x0.fNames.length c74)), (9, (.int .i64 (x0.fNames.length : Int))), (10, (.int .i64 (i76 : Int))), (11, (.bool (decide ((i76 : Int) < (x0.fNames.length : Int)))))] rfl ⟨rfl, rfl, rfl, rfl, rfl, trivial⟩ ?_
    refine wo_nil ?_
    refine wq_seq ?_
    refine wc_seq ?_
    refine wc_known_true rfl hc83 ?_
    refine wc_skip ?_
    refine wq_seq ?_
    refine wc_seq ?_
    refine wc_block ?_
    refine wc_seq ?_
    refine wc_region (l := [0, 1, 2, 3, 4, 5]) rfl ?_
    refine wo_seg Θ_ok [0] [(1, (bp b2)), (8, (.slice A73 x0.fNames.length c74)), (9, (.int .i64 (x0.fNames.length : Int))), (10, (.int .i64 (i76 : Int))), (12, (.int .i64 (i76 : Int)))] rfl ⟨rfl, rfl, rfl, rfl, rfl, trivial⟩ ?_
    refine wo_index Θ_ok rfl rfl rfl rfl rfl rfl rfl rfl rfl rfl h0_1 rfl (by omega) hg84 (fun p87 h88 => ?_)
    refine wo_loadp Θ_ok rfl rfl rfl rfl rfl rfl rfl h88 rfl rfl (fun v89 h90 => ?_)
    obtain rfl := tGName_is.1 h90
    refine wo_alloc Θ_ok rfl rfl rfl rfl rfl rfl [(.int .u64 0), (.int .u64 0)] rfl hO (fun b91 w92 n93 => ?_)
    have h0_1 := h0_1.tr n93.tr
    have h0_2 := h0_2.tr n93.tr
    have T5 := T5.trans n93.tr
    have T75 := T75.trans n93.tr
    have nb91b2 : b91 ≠ b2 := by have := hb2.lt; have := n93.ge; omega
    have hb2 := hb2.fr0 n93.fr
    have ib2 := List.mem_cons_of_mem b91 ib2
    have hb91 := n93.blk
    have gb91 := n93.ge0 hF
    have ib91 : b91 ∈ b91 :: O80 := List.mem_cons_self
    have hO := n93.ob
    have hF := hF.trans n93.fr
    have hS := Sub.cons hS b91
    refine wo_seg Θ_ok [4] [(1, (bp b2)), (3, (.int .i64 (i76 : Int))), (4, (bp b91)), (8, (.slice A73 x0.fNames.length c74)), (9, (.int .i64 (x0.fNames.length : Int))), (10, (.int .i64 (i76 : Int))), (14, (.agg #[(.int .u64 z78.fName), (.int .u64 z78.fPid)]))] rfl ⟨rfl, rfl, rfl, rfl, rfl, rfl, rfl, trivial⟩ ?_
    refine wo_store Θ_ok rfl rfl rfl rfl rfl rfl rfl hb91 [(.int .u64 z78.fName), (.int .u64 z78.fPid)] rfl rfl (by simp [Value.oneCell']) rfl [(.int .u64 z78.fName), (.int .u64 z78.fPid)] rfl (fun w94 hb91 f95 => ?_)
    have h0_1 := h0_1.tr (f95.tr (one_in ib91))
    have h0_2 := h0_2.tr (f95.tr (one_in ib91))
    have T5 := T5.trans (f95.tr (one_in ib91))
    have T75 := T75.trans (f95.tr (one_in ib91))
    have hb2 := hb2.fr f95 (nin nb91b2.symm)
    have hO := f95.ob hO
    have hF := hF.own f95 gb91
    refine wo_nil ?_
    refine wq_seq ?_
    refine wc_seq ?_
    obtain ⟨y96, hy97, h⟩ := bind_some h
    rcases bif_some h with ⟨hc98, h⟩ | ⟨hc98, h⟩
    · refine wc_draw mixed [⟨15, [], [4]⟩, ⟨16, [0], []⟩, ⟨17, [1], []⟩, ⟨18, [2], []⟩, ⟨19, [3], []⟩, ⟨20, [4], [4]⟩, ⟨21, [4, 5], []⟩, ⟨22, [4, 6], []⟩, ⟨23, [4, 7], []⟩, ⟨24, [4, 8], []⟩, ⟨25, [9], []⟩, ⟨26, [10], [3]⟩, ⟨27, [10, 11], []⟩, ⟨28, [10, 12], []⟩, ⟨29, [13], [1]⟩, ⟨30, [13, 14], []⟩, ⟨31, [13], [3]⟩, ⟨32, [13, 16], []⟩, ⟨33, [13, 15, 17], []⟩, ⟨34, [13, 18], []⟩, ⟨35, [13, 19], []⟩, ⟨36, [13], [4]⟩, ⟨37, [13, 21], []⟩, ⟨38, [13, 20, 22], []⟩, ⟨39, [10, 13, 23], []⟩, ⟨40, [10, 24], []⟩] [SP.eq (bp b91), SP.eq (.int .u64 z78.fName), SP.eq (.bool y96), SP.eq (.bool (!y96)), SP.eq (.bool (!y96)), SP.eq undef, SP.eq undef, SP.eq undef, SP.eq undef, SP.eq (.bool true), SP.eq (.bool true), SP.eq undef, SP.eq undef, SP.eq undef, SP.eq undef, SP.eq undef, SP.eq undef, SP.eq undef, SP.eq undef, SP.eq undef, SP.eq undef, SP.eq undef, SP.eq undef, SP.eq undef, SP.eq undef, SP.eq (.bool true)] rfl rfl rfl ⟨?_, ?_, ?_, ?_, ?_, ?_, ?_, ?_, ?_, ?_, ?_, ?_, ?_, ?_, ?_, ?_, ?_, ?_, ?_, ?_, ?_, ?_, ?_, ?_, ?_, ?_, trivial⟩ ?_
      · intro a w2 hfr hN hds hb hd
        exact op_plain Θ_ok ⟨hN, hds, rows_get (E := [(4, (bp b91))]) ⟨hb 4 rfl _ rfl, trivial⟩⟩ rfl rfl rfl rfl rfl
      · intro a w2 hfr hN hds hb hd
        have hb91 := hb91.fr0 hfr
        exact op_load Θ_ok ⟨hN, hds, rows_get (E := [(15, (bp b91))]) ⟨(hd 0 rfl _ _ rfl rfl), trivial⟩⟩ rfl rfl rfl rfl rfl rfl hb91 [(.int .u64 z78.fName)] rfl rfl (.inr rfl) (.int .u64 z78.fName) rfl
      · intro a w2 hfr hN hds hb hd
        exact (op_call ⟨hN, hds, rows_get (E := [(16, (.int .u64 z78.fName))]) ⟨(hd 1 rfl _ _ rfl rfl), trivial⟩⟩ rfl rfl rfl rfl ent32 rfl (r_Is_c (hfr.ob hO) (int_is.2 rfl) hy97)).weaken (fun u w3 ⟨hu, hf⟩ => ⟨bool_is.1 hu, hf⟩)
      · intro a w2 hfr hN hds hb hd
        exact op_plain Θ_ok ⟨hN, hds, rows_get (E := [(17, (.bool y96))]) ⟨(hd 2 rfl _ _ rfl rfl), trivial⟩⟩ rfl rfl rfl rfl rfl
      · intro a w2 hfr hN hds hb hd
        exact op_plain Θ_ok ⟨hN, hds, rows_get (E := [(18, (.bool (!y96)))]) ⟨(hd 3 rfl _ _ rfl rfl), trivial⟩⟩ rfl rfl rfl rfl rfl
      · intro a w2 hfr hN hds hb hd
        exact op_skip ⟨hN, hds, rows_get (E := [(4, (bp b91)), (19, (.bool true))]) ⟨hb 4 rfl _ rfl, ((hd 4 rfl _ _ rfl rfl).trans (congrArg _ hc98)), trivial⟩⟩ rfl rfl rfl
      · intro a w2 hfr hN hds hb hd
        exact op_skip ⟨hN, hds, rows_get (E := [(19, (.bool true)), (20, undef)]) ⟨((hd 4 rfl _ _ rfl rfl).trans (congrArg _ hc98)), (hd 5 rfl _ _ rfl rfl), trivial⟩⟩ rfl rfl rfl
      · intro a w2 hfr hN hds hb hd
        exact op_skip ⟨hN, hds, rows_get (E := [(19, (.bool true)), (21, undef)]) ⟨((hd 4 rfl _ _ rfl rfl).trans (congrArg _ hc98)), (hd 6 rfl _ _ rfl rfl), trivial⟩⟩ rfl rfl rfl
      · intro a w2 hfr hN hds hb hd
        exact op_skip ⟨hN, hds, rows_get (E := [(19, (.bool true)), (22, undef)]) ⟨((hd 4 rfl _ _ rfl rfl).trans (congrArg _ hc98)), (hd 7 rfl _ _ rfl rfl), trivial⟩⟩ rfl rfl rfl
      · intro a w2 hfr hN hds hb hd
        exact op_plain Θ_ok ⟨hN, hds, rows_get (E := [(19, (.bool true)), (23, undef)]) ⟨((hd 4 rfl _ _ rfl rfl).trans (congrArg _ hc98)), (hd 8 rfl _ _ rfl rfl), trivial⟩⟩ rfl rfl rfl rfl rfl
      · intro a w2 hfr hN hds hb hd
        exact op_plain Θ_ok ⟨hN, hds, rows_get (E := [(24, (.bool true))]) ⟨(hd 9 rfl _ _ rfl rfl), trivial⟩⟩ rfl rfl rfl rfl rfl
      · intro a w2 hfr hN hds hb hd
        exact op_skip ⟨hN, hds, rows_get (E := [(3, (.int .i64 (i76 : Int))), (25, (.bool true))]) ⟨hb 3 rfl _ rfl, (hd 10 rfl _ _ rfl rfl), trivial⟩⟩ rfl rfl rfl
      · intro a w2 hfr hN hds hb hd
        exact op_skip ⟨hN, hds, rows_get (E := [(25, (.bool true)), (26, undef)]) ⟨(hd 10 rfl _ _ rfl rfl), (hd 11 rfl _ _ rfl rfl), trivial⟩⟩ rfl rfl rfl
      · intro a w2 hfr hN hds hb hd
        exact op_skip ⟨hN, hds, rows_get (E := [(25, (.bool true)), (27, undef)]) ⟨(hd 10 rfl _ _ rfl rfl), (hd 12 rfl _ _ rfl rfl), trivial⟩⟩ rfl rfl rfl
      · intro a w2 hfr hN hds hb hd
        exact op_skip ⟨hN, hds, rows_get (E := [(1, (bp b2)), (28, undef)]) ⟨hb 1 rfl _ rfl, (hd 13 rfl _ _ rfl rfl), trivial⟩⟩ rfl rfl rfl
      · intro a w2 hfr hN hds hb hd
        exact op_skip ⟨hN, hds, rows_get (E := [(28, undef), (29, undef)]) ⟨(hd 13 rfl _ _ rfl rfl), (hd 14 rfl _ _ rfl rfl), trivial⟩⟩ rfl rfl rfl
      · intro a w2 hfr hN hds hb hd
        exact op_skip ⟨hN, hds, rows_get (E := [(3, (.int .i64 (i76 : Int))), (28, undef)]) ⟨hb 3 rfl _ rfl, (hd 13 rfl _ _ rfl rfl), trivial⟩⟩ rfl rfl rfl
      · intro a w2 hfr hN hds hb hd
        exact op_skip ⟨hN, hds, rows_get (E := [(28, undef), (31, undef)]) ⟨(hd 13 rfl _ _ rfl rfl), (hd 16 rfl _ _ rfl rfl), trivial⟩⟩ rfl rfl rfl
      · intro a w2 hfr hN hds hb hd
        exact op_skip ⟨hN, hds, rows_get (E := [(28, undef), (30, undef), (32, undef)]) ⟨(hd 13 rfl _ _ rfl rfl), (hd 15 rfl _ _ rfl rfl), (hd 17 rfl _ _ rfl rfl), trivial⟩⟩ rfl rfl rfl
      · intro a w2 hfr hN hds hb hd
        exact op_skip ⟨hN, hds, rows_get (E := [(28, undef), (33, undef)]) ⟨(hd 13 rfl _ _ rfl rfl), (hd 18 rfl _ _ rfl rfl), trivial⟩⟩ rfl rfl rfl
      · intro a w2 hfr hN hds hb hd
        exact op_skip ⟨hN, hds, rows_get (E := [(28, undef), (34, undef)]) ⟨(hd 13 rfl _ _ rfl rfl), (hd 19 rfl _ _ rfl rfl), trivial⟩⟩ rfl rfl rfl
      · intro a w2 hfr hN hds hb hd
        exact op_skip ⟨hN, hds, rows_get (E := [(4, (bp b91)), (28, undef)]) ⟨hb 4 rfl _ rfl, (hd 13 rfl _ _ rfl rfl), trivial⟩⟩ rfl rfl rfl
      · intro a w2 hfr hN hds hb hd
        exact op_skip ⟨hN, hds, rows_get (E := [(28, undef), (36, undef)]) ⟨(hd 13 rfl _ _ rfl rfl), (hd 21 rfl _ _ rfl rfl), trivial⟩⟩ rfl rfl rfl
      · intro a w2 hfr hN hds hb hd
        exact op_skip ⟨hN, hds, rows_get (E := [(28, undef), (35, undef), (37, undef)]) ⟨(hd 13 rfl _ _ rfl rfl), (hd 20 rfl _ _ rfl rfl), (hd 22 rfl _ _ rfl rfl), trivial⟩⟩ rfl rfl rfl
      · intro a w2 hfr hN hds hb hd
        exact op_skip ⟨hN, hds, rows_get (E := [(25, (.bool true)), (28, undef), (38, undef)]) ⟨(hd 10 rfl _ _ rfl rfl), (hd 13 rfl _ _ rfl rfl), (hd 23 rfl _ _ rfl rfl), trivial⟩⟩ rfl rfl rfl
      · intro a w2 hfr hN hds hb hd
        exact op_plain Θ_ok ⟨hN, hds, rows_get (E := [(25, (.bool true)), (39, undef)]) ⟨(hd 10 rfl _ _ rfl rfl), (hd 24 rfl _ _ rfl rfl), trivial⟩⟩ rfl rfl rfl rfl rfl
      intro a w100 f99 hN hds hb hr
      have h0_1 := h0_1.tr f99.tr0
      have h0_2 := h0_2.tr f99.tr0
      have hb2 := hb2.fr0 f99
      have T5 := T5.trans f99.tr0
      have T75 := T75.trans f99.tr0
      have hO := f99.ob hO
      have hF := hF.trans f99
      refine wq_go (E := [(1, (bp b2)), (8, (.slice A73 x0.fNames.length c74)), (9, (.int .i64 (x0.fNames.length : Int))), (10, (.int .i64 (i76 : Int))), (40, (.bool true))]) hN hds ⟨hb 1 _ rfl rfl, hb 8 _ rfl rfl, hb 9 _ rfl rfl, hb 10 _ rfl rfl, (hr 25 _ _ rfl rfl), trivial⟩ ?_
      refine wq_seq ?_
      refine wc_true rfl ?_
      refine wc_seq ?_
      refine wc_region (l := [0]) rfl ?_
      refine wo_seg Θ_ok [0] [(2, (.bool false))] rfl ⟨rfl, trivial⟩ ?_
      refine wo_nil ?_
      refine wq_seq ?_
      refine wc_ret ?_
      cases h
      exact wq_block_ret (wq_then_ret (wq_then_ret (wq_block_ret (wq_then_ret (wq_ret rfl ⟨_, rfl, (bool_is.2 rfl), hF⟩)))))
    rcases bif_some h with ⟨hc101, h⟩ | ⟨hc101, h⟩
    · refine wc_draw mixed [⟨15, [], [4]⟩, ⟨16, [0], []⟩, ⟨17, [1], []⟩, ⟨18, [2], []⟩, ⟨19, [3], []⟩, ⟨20, [4], [4]⟩, ⟨21, [4, 5], []⟩, ⟨22, [4, 6], []⟩, ⟨23, [4, 7], []⟩, ⟨24, [4, 8], []⟩, ⟨25, [9], []⟩, ⟨26, [10], [3]⟩, ⟨27, [10, 11], []⟩, ⟨28, [10, 12], []⟩, ⟨29, [13], [1]⟩, ⟨30, [13, 14], []⟩, ⟨31, [13], [3]⟩, ⟨32, [13, 16], []⟩, ⟨33, [13, 15, 17], []⟩, ⟨34, [13, 18], []⟩, ⟨35, [13, 19], []⟩, ⟨36, [13], [4]⟩, ⟨37, [13, 21], []⟩, ⟨38, [13, 20, 22], []⟩, ⟨39, [10, 13, 23], []⟩, ⟨40, [10, 24], []⟩] [SP.eq (bp b91), SP.eq (.int .u64 z78.fName), SP.eq (.bool y96), SP.eq (.bool (!y96)), SP.eq (.bool (!y96)), SP.eq (.pointer (some ⟨b91, 1, none⟩)), SP.eq (.int .u64 z78.fPid), SP.eq (.bool ((r_Pid z78.fPid))), SP.eq (.bool (!(r_Pid z78.fPid))), SP.eq (.bool (!(r_Pid z78.fPid))), SP.eq (.bool (!(r_Pid z78.fPid))), SP.eq undef, SP.eq undef, SP.eq undef, SP.eq undef, SP.eq undef, SP.eq undef, SP.eq undef, SP.eq undef, SP.eq undef, SP.eq undef, SP.eq undef, SP.eq undef, SP.eq undef, SP.eq undef, SP.eq (.bool true)] rfl rfl rfl ⟨?_, ?_, ?_, ?_, ?_, ?_, ?_, ?_, ?_, ?_, ?_, ?_, ?_, ?_, ?_, ?_, ?_, ?_, ?_, ?_, ?_, ?_, ?_, ?_, ?_, ?_, trivial⟩ ?_
      · intro a w2 hfr hN hds hb hd
        exact op_plain Θ_ok ⟨hN, hds, rows_get (E := [(4, (bp b91))]) ⟨hb 4 rfl _ rfl, trivial⟩⟩ rfl rfl rfl rfl rfl
      · intro a w2 hfr hN hds hb hd
        have hb91 := hb91.fr0 hfr
        exact op_load Θ_ok ⟨hN, hds, rows_get (E := [(15, (bp b91))]) ⟨(hd 0 rfl _ _ rfl rfl), trivial⟩⟩ rfl rfl rfl rfl rfl rfl hb91 [(.int .u64 z78.fName)] rfl rfl (.inr rfl) (.int .u64 z78.fName) rfl
      · intro a w2 hfr hN hds hb hd
        exact (op_call ⟨hN, hds, rows_get (E := [(16, (.int .u64 z78.fName))]) ⟨(hd 1 rfl _ _ rfl rfl), trivial⟩⟩ rfl rfl rfl rfl ent32 rfl (r_Is_c (hfr.ob hO) (int_is.2 rfl) hy97)).weaken (fun u w3 ⟨hu, hf⟩ => ⟨bool_is.1 hu, hf⟩)
      · intro a w2 hfr hN hds hb hd
        exact op_plain Θ_ok ⟨hN, hds, rows_get (E := [(17, (.bool y96))]) ⟨(hd 2 rfl _ _ rfl rfl), trivial⟩⟩ rfl rfl rfl rfl rfl
      · intro a w2 hfr hN hds hb hd
        exact op_plain Θ_ok ⟨hN, hds, rows_get (E := [(18, (.bool (!y96)))]) ⟨(hd 3 rfl _ _ rfl rfl), trivial⟩⟩ rfl rfl rfl rfl rfl
      · intro a w2 hfr hN hds hb hd
        exact op_plain Θ_ok ⟨hN, hds, rows_get (E := [(4, (bp b91)), (19, (.bool false))]) ⟨hb 4 rfl _ rfl, ((hd 4 rfl _ _ rfl rfl).trans (congrArg _ hc98)), trivial⟩⟩ rfl rfl rfl rfl rfl
      · intro a w2 hfr hN hds hb hd
        have hb91 := hb91.fr0 hfr
        exact op_load Θ_ok ⟨hN, hds, rows_get (E := [(19, (.bool false)), (20, (.pointer (some ⟨b91, 1, none⟩)))]) ⟨((hd 4 rfl _ _ rfl rfl).trans (congrArg _ hc98)), (hd 5 rfl _ _ rfl rfl), trivial⟩⟩ rfl rfl rfl rfl rfl rfl hb91 [(.int .u64 z78.fPid)] rfl rfl (.inr rfl) (.int .u64 z78.fPid) rfl
      · intro a w2 hfr hN hds hb hd
        exact (op_call ⟨hN, hds, rows_get (E := [(19, (.bool false)), (21, (.int .u64 z78.fPid))]) ⟨((hd 4 rfl _ _ rfl rfl).trans (congrArg _ hc98)), (hd 6 rfl _ _ rfl rfl), trivial⟩⟩ rfl rfl rfl rfl ent26 rfl (r_Pid_c (hfr.ob hO) (int_is.2 rfl))).weaken (fun u w3 ⟨hu, hf⟩ => ⟨bool_is.1 hu, hf⟩)
      · intro a w2 hfr hN hds hb hd
        exact op_plain Θ_ok ⟨hN, hds, rows_get (E := [(19, (.bool false)), (22, (.bool ((r_Pid z78.fPid))))]) ⟨((hd 4 rfl _ _ rfl rfl).trans (congrArg _ hc98)), (hd 7 rfl _ _ rfl rfl), trivial⟩⟩ rfl rfl rfl rfl rfl
      · intro a w2 hfr hN hds hb hd
        exact op_plain Θ_ok ⟨hN, hds, rows_get (E := [(19, (.bool false)), (23, (.bool (!(r_Pid z78.fPid))))]) ⟨((hd 4 rfl _ _ rfl rfl).trans (congrArg _ hc98)), (hd 8 rfl _ _ rfl rfl), trivial⟩⟩ rfl rfl rfl rfl rfl
      · intro a w2 hfr hN hds hb hd
        exact op_plain Θ_ok ⟨hN, hds, rows_get (E := [(24, (.bool (!(r_Pid z78.fPid))))]) ⟨(hd 9 rfl _ _ rfl rfl), trivial⟩⟩ rfl rfl rfl rfl rfl
      · intro a w2 hfr hN hds hb hd
        exact op_skip ⟨hN, hds, rows_get (E := [(3, (.int .i64 (i76 : Int))), (25, (.bool true))]) ⟨hb 3 rfl _ rfl, ((hd 10 rfl _ _ rfl rfl).trans (congrArg _ hc101)), trivial⟩⟩ rfl rfl rfl
      · intro a w2 hfr hN hds hb hd
        exact op_skip ⟨hN, hds, rows_get (E := [(25, (.bool true)), (26, undef)]) ⟨((hd 10 rfl _ _ rfl rfl).trans (congrArg _ hc101)), (hd 11 rfl _ _ rfl rfl), trivial⟩⟩ rfl rfl rfl
      · intro a w2 hfr hN hds hb hd
        exact op_skip ⟨hN, hds, rows_get (E := [(25, (.bool true)), (27, undef)]) ⟨((hd 10 rfl _ _ rfl rfl).trans (congrArg _ hc101)), (hd 12 rfl _ _ rfl rfl), trivial⟩⟩ rfl rfl rfl
      · intro a w2 hfr hN hds hb hd
        exact op_skip ⟨hN, hds, rows_get (E := [(1, (bp b2)), (28, undef)]) ⟨hb 1 rfl _ rfl, (hd 13 rfl _ _ rfl rfl), trivial⟩⟩ rfl rfl rfl
      · intro a w2 hfr hN hds hb hd
        exact op_skip ⟨hN, hds, rows_get (E := [(28, undef), (29, undef)]) ⟨(hd 13 rfl _ _ rfl rfl), (hd 14 rfl _ _ rfl rfl), trivial⟩⟩ rfl rfl rfl
      · intro a w2 hfr hN hds hb hd
        exact op_skip ⟨hN, hds, rows_get (E := [(3, (.int .i64 (i76 : Int))), (28, undef)]) ⟨hb 3 rfl _ rfl, (hd 13 rfl _ _ rfl rfl), trivial⟩⟩ rfl rfl rfl
      · intro a w2 hfr hN hds hb hd
        exact op_skip ⟨hN, hds, rows_get (E := [(28, undef), (31, undef)]) ⟨(hd 13 rfl _ _ rfl rfl), (hd 16 rfl _ _ rfl rfl), trivial⟩⟩ rfl rfl rfl
      · intro a w2 hfr hN hds hb hd
        exact op_skip ⟨hN, hds, rows_get (E := [(28, undef), (30, undef), (32, undef)]) ⟨(hd 13 rfl _ _ rfl rfl), (hd 15 rfl _ _ rfl rfl), (hd 17 rfl _ _ rfl rfl), trivial⟩⟩ rfl rfl rfl
      · intro a w2 hfr hN hds hb hd
        exact op_skip ⟨hN, hds, rows_get (E := [(28, undef), (33, undef)]) ⟨(hd 13 rfl _ _ rfl rfl), (hd 18 rfl _ _ rfl rfl), trivial⟩⟩ rfl rfl rfl
      · intro a w2 hfr hN hds hb hd
        exact op_skip ⟨hN, hds, rows_get (E := [(28, undef), (34, undef)]) ⟨(hd 13 rfl _ _ rfl rfl), (hd 19 rfl _ _ rfl rfl), trivial⟩⟩ rfl rfl rfl
      · intro a w2 hfr hN hds hb hd
        exact op_skip ⟨hN, hds, rows_get (E := [(4, (bp b91)), (28, undef)]) ⟨hb 4 rfl _ rfl, (hd 13 rfl _ _ rfl rfl), trivial⟩⟩ rfl rfl rfl
      · intro a w2 hfr hN hds hb hd
        exact op_skip ⟨hN, hds, rows_get (E := [(28, undef), (36, undef)]) ⟨(hd 13 rfl _ _ rfl rfl), (hd 21 rfl _ _ rfl rfl), trivial⟩⟩ rfl rfl rfl
      · intro a w2 hfr hN hds hb hd
        exact op_skip ⟨hN, hds, rows_get (E := [(28, undef), (35, undef), (37, undef)]) ⟨(hd 13 rfl _ _ rfl rfl), (hd 20 rfl _ _ rfl rfl), (hd 22 rfl _ _ rfl rfl), trivial⟩⟩ rfl rfl rfl
      · intro a w2 hfr hN hds hb hd
        exact op_skip ⟨hN, hds, rows_get (E := [(25, (.bool true)), (28, undef), (38, undef)]) ⟨((hd 10 rfl _ _ rfl rfl).trans (congrArg _ hc101)), (hd 13 rfl _ _ rfl rfl), (hd 23 rfl _ _ rfl rfl), trivial⟩⟩ rfl rfl rfl
      · intro a w2 hfr hN hds hb hd
        exact op_plain Θ_ok ⟨hN, hds, rows_get (E := [(25, (.bool true)), (39, undef)]) ⟨((hd 10 rfl _ _ rfl rfl).trans (congrArg _ hc101)), (hd 24 rfl _ _ rfl rfl), trivial⟩⟩ rfl rfl rfl rfl rfl
      intro a w103 f102 hN hds hb hr
      have h0_1 := h0_1.tr f102.tr0
      have h0_2 := h0_2.tr f102.tr0
      have hb2 := hb2.fr0 f102
      have T5 := T5.trans f102.tr0
      have T75 := T75.trans f102.tr0
      have hO := f102.ob hO
      have hF := hF.trans f102
      refine wq_go (E := [(1, (bp b2)), (8, (.slice A73 x0.fNames.length c74)), (9, (.int .i64 (x0.fNames.length : Int))), (10, (.int .i64 (i76 : Int))), (40, (.bool true))]) hN hds ⟨hb 1 _ rfl rfl, hb 8 _ rfl rfl, hb 9 _ rfl rfl, hb 10 _ rfl rfl, (hr 25 _ _ rfl rfl), trivial⟩ ?_
      refine wq_seq ?_
      refine wc_true rfl ?_
      refine wc_seq ?_
      refine wc_region (l := [0]) rfl ?_
      refine wo_seg Θ_ok [0] [(2, (.bool false))] rfl ⟨rfl, trivial⟩ ?_
      refine wo_nil ?_
      refine wq_seq ?_
      refine wc_ret ?_
      cases h
      exact wq_block_ret (wq_then_ret (wq_then_ret (wq_block_ret (wq_then_ret (wq_ret rfl ⟨_, rfl, (bool_is.2 rfl), hF⟩)))))
    rcases bif_some h with ⟨hc104, h⟩ | ⟨hc104, h⟩
    rotate_left
    · refine wc_draw mixed [⟨15, [], [4]⟩, ⟨16, [0], []⟩, ⟨17, [1], []⟩, ⟨18, [2], []⟩, ⟨19, [3], []⟩, ⟨20, [4], [4]⟩, ⟨21, [4, 5], []⟩, ⟨22, [4, 6], []⟩, ⟨23, [4, 7], []⟩, ⟨24, [4, 8], []⟩, ⟨25, [9], []⟩, ⟨26, [10], [3]⟩, ⟨27, [10, 11], []⟩, ⟨28, [10, 12], []⟩, ⟨29, [13], [1]⟩, ⟨30, [13, 14], []⟩, ⟨31, [13], [3]⟩, ⟨32, [13, 16], []⟩, ⟨33, [13, 15, 17], []⟩, ⟨34, [13, 18], []⟩, ⟨35, [13, 19], []⟩, ⟨36, [13], [4]⟩, ⟨37, [13, 21], []⟩, ⟨38, [13, 20, 22], []⟩, ⟨39, [10, 13, 23], []⟩, ⟨40, [10, 24], []⟩] [SP.eq (bp b91), SP.eq (.int .u64 z78.fName), SP.eq (.bool y96), SP.eq (.bool (!y96)), SP.eq (.bool (!y96)), SP.eq (.pointer (some ⟨b91, 1, none⟩)), SP.eq (.int .u64 z78.fPid), SP.eq (.bool ((r_Pid z78.fPid))), SP.eq (.bool (!(r_Pid z78.fPid))), SP.eq (.bool (!(r_Pid z78.fPid))), SP.eq (.bool (!(r_Pid z78.fPid))), SP.eq (.int .i64 (i76 : Int)), SP.eq (.bool (decide ((i76 : Int) > (0 : Int)))), SP.eq (.bool (decide ((i76 : Int) > (0 : Int)))), SP.eq undef, SP.eq undef, SP.eq undef, SP.eq undef, SP.eq undef, SP.eq undef, SP.eq undef, SP.eq undef, SP.eq undef, SP.eq undef, SP.eq (.bool false), SP.eq (.bool false)] rfl rfl rfl ⟨?_, ?_, ?_, ?_, ?_, ?_, ?_, ?_, ?_, ?_, ?_, ?_, ?_, ?_, ?_, ?_, ?_, ?_, ?_, ?_, ?_, ?_, ?_, ?_, ?_, ?_, trivial⟩ ?_
      · intro a w2 hfr hN hds hb hd
        exact op_plain Θ_ok ⟨hN, hds, rows_get (E := [(4, (bp b91))]) ⟨hb 4 rfl _ rfl, trivial⟩⟩ rfl rfl rfl rfl rfl
      · intro a w2 hfr hN hds hb hd
        have hb91 := hb91.fr0 hfr
        exact op_load Θ_ok ⟨hN, hds, rows_get (E := [(15, (bp b91))]) ⟨(hd 0 rfl _ _ rfl rfl), trivial⟩⟩ rfl rfl rfl rfl rfl rfl hb91 [(.int .u64 z78.fName)] rfl rfl (.inr rfl) (.int .u64 z78.fName) rfl
      · intro a w2 hfr hN hds hb hd
        exact (op_call ⟨hN, hds, rows_get (E := [(16, (.int .u64 z78.fName))]) ⟨(hd 1 rfl _ _ rfl rfl), trivial⟩⟩ rfl rfl rfl rfl ent32 rfl (r_Is_c (hfr.ob hO) (int_is.2 rfl) hy97)).weaken (fun u w3 ⟨hu, hf⟩ => ⟨bool_is.1 hu, hf⟩)
      · intro a w2 hfr hN hds hb hd
        exact op_plain Θ_ok ⟨hN, hds, rows_get (E := [(17, (.bool y96))]) ⟨(hd 2 rfl _ _ rfl rfl), trivial⟩⟩ rfl rfl rfl rfl rfl
      · intro a w2 hfr hN hds hb hd
        exact op_plain Θ_ok ⟨hN, hds, rows_get (E := [(18, (.bool (!y96)))]) ⟨(hd 3 rfl _ _ rfl rfl), trivial⟩⟩ rfl rfl rfl rfl rfl
      · intro a w2 hfr hN hds hb hd
        exact op_plain Θ_ok ⟨hN, hds, rows_get (E := [(4, (bp b91)), (19, (.bool false))]) ⟨hb 4 rfl _ rfl, ((hd 4 rfl _ _ rfl rfl).trans (congrArg _ hc98)), trivial⟩⟩ rfl rfl rfl rfl rfl
      · intro a w2 hfr hN hds hb hd
        have hb91 := hb91.fr0 hfr
        exact op_load Θ_ok ⟨hN, hds, rows_get (E := [(19, (.bool false)), (20, (.pointer (some ⟨b91, 1, none⟩)))]) ⟨((hd 4 rfl _ _ rfl rfl).trans (congrArg _ hc98)), (hd 5 rfl _ _ rfl rfl), trivial⟩⟩ rfl rfl rfl rfl rfl rfl hb91 [(.int .u64 z78.fPid)] rfl rfl (.inr rfl) (.int .u64 z78.fPid) rfl
      · intro a w2 hfr hN hds hb hd
        exact (op_call ⟨hN, hds, rows_get (E := [(19, (.bool false)), (21, (.int .u64 z78.fPid))]) ⟨((hd 4 rfl _ _ rfl rfl).trans (congrArg _ hc98)), (hd 6 rfl _ _ rfl rfl), trivial⟩⟩ rfl rfl rfl rfl ent26 rfl (r_Pid_c (hfr.ob hO) (int_is.2 rfl))).weaken (fun u w3 ⟨hu, hf⟩ => ⟨bool_is.1 hu, hf⟩)
      · intro a w2 hfr hN hds hb hd
        exact op_plain Θ_ok ⟨hN, hds, rows_get (E := [(19, (.bool false)), (22, (.bool ((r_Pid z78.fPid))))]) ⟨((hd 4 rfl _ _ rfl rfl).trans (congrArg _ hc98)), (hd 7 rfl _ _ rfl rfl), trivial⟩⟩ rfl rfl rfl rfl rfl
      · intro a w2 hfr hN hds hb hd
        exact op_plain Θ_ok ⟨hN, hds, rows_get (E := [(19, (.bool false)), (23, (.bool (!(r_Pid z78.fPid))))]) ⟨((hd 4 rfl _ _ rfl rfl).trans (congrArg _ hc98)), (hd 8 rfl _ _ rfl rfl), trivial⟩⟩ rfl rfl rfl rfl rfl
      · intro a w2 hfr hN hds hb hd
        exact op_plain Θ_ok ⟨hN, hds, rows_get (E := [(24, (.bool (!(r_Pid z78.fPid))))]) ⟨(hd 9 rfl _ _ rfl rfl), trivial⟩⟩ rfl rfl rfl rfl rfl
      · intro a w2 hfr hN hds hb hd
        exact op_plain Θ_ok ⟨hN, hds, rows_get (E := [(3, (.int .i64 (i76 : Int))), (25, (.bool false))]) ⟨hb 3 rfl _ rfl, ((hd 10 rfl _ _ rfl rfl).trans (congrArg _ hc101)), trivial⟩⟩ rfl rfl rfl rfl rfl
      · intro a w2 hfr hN hds hb hd
        exact op_plain Θ_ok ⟨hN, hds, rows_get (E := [(25, (.bool false)), (26, (.int .i64 (i76 : Int)))]) ⟨((hd 10 rfl _ _ rfl rfl).trans (congrArg _ hc101)), (hd 11 rfl _ _ rfl rfl), trivial⟩⟩ rfl rfl rfl rfl rfl
      · intro a w2 hfr hN hds hb hd
        exact op_plain Θ_ok ⟨hN, hds, rows_get (E := [(25, (.bool false)), (27, (.bool (decide ((i76 : Int) > (0 : Int)))))]) ⟨((hd 10 rfl _ _ rfl rfl).trans (congrArg _ hc101)), (hd 12 rfl _ _ rfl rfl), trivial⟩⟩ rfl rfl rfl rfl rfl
      · intro a w2 hfr hN hds hb hd
        exact op_skip ⟨hN, hds, rows_get (E := [(1, (bp b2)), (28, (.bool false))]) ⟨hb 1 rfl _ rfl, ((hd 13 rfl _ _ rfl rfl).trans (congrArg _ hc104)), trivial⟩⟩ rfl rfl rfl
      · intro a w2 hfr hN hds hb hd
        exact op_skip ⟨hN, hds, rows_get (E := [(28, (.bool false)), (29, undef)]) ⟨((hd 13 rfl _ _ rfl rfl).trans (congrArg _ hc104)), (hd 14 rfl _ _ rfl rfl), trivial⟩⟩ rfl rfl rfl
      · intro a w2 hfr hN hds hb hd
        exact op_skip ⟨hN, hds, rows_get (E := [(3, (.int .i64 (i76 : Int))), (28, (.bool false))]) ⟨hb 3 rfl _ rfl, ((hd 13 rfl _ _ rfl rfl).trans (congrArg _ hc104)), trivial⟩⟩ rfl rfl rfl
      · intro a w2 hfr hN hds hb hd
        exact op_skip ⟨hN, hds, rows_get (E := [(28, (.bool false)), (31, undef)]) ⟨((hd 13 rfl _ _ rfl rfl).trans (congrArg _ hc104)), (hd 16 rfl _ _ rfl rfl), trivial⟩⟩ rfl rfl rfl
      · intro a w2 hfr hN hds hb hd
        exact op_skip ⟨hN, hds, rows_get (E := [(28, (.bool false)), (30, undef), (32, undef)]) ⟨((hd 13 rfl _ _ rfl rfl).trans (congrArg _ hc104)), (hd 15 rfl _ _ rfl rfl), (hd 17 rfl _ _ rfl rfl), trivial⟩⟩ rfl rfl rfl
      · intro a w2 hfr hN hds hb hd
        exact op_skip ⟨hN, hds, rows_get (E := [(28, (.bool false)), (33, undef)]) ⟨((hd 13 rfl _ _ rfl rfl).trans (congrArg _ hc104)), (hd 18 rfl _ _ rfl rfl), trivial⟩⟩ rfl rfl rfl
      · intro a w2 hfr hN hds hb hd
        exact op_skip ⟨hN, hds, rows_get (E := [(28, (.bool false)), (34, undef)]) ⟨((hd 13 rfl _ _ rfl rfl).trans (congrArg _ hc104)), (hd 19 rfl _ _ rfl rfl), trivial⟩⟩ rfl rfl rfl
      · intro a w2 hfr hN hds hb hd
        exact op_skip ⟨hN, hds, rows_get (E := [(4, (bp b91)), (28, (.bool false))]) ⟨hb 4 rfl _ rfl, ((hd 13 rfl _ _ rfl rfl).trans (congrArg _ hc104)), trivial⟩⟩ rfl rfl rfl
      · intro a w2 hfr hN hds hb hd
        exact op_skip ⟨hN, hds, rows_get (E := [(28, (.bool false)), (36, undef)]) ⟨((hd 13 rfl _ _ rfl rfl).trans (congrArg _ hc104)), (hd 21 rfl _ _ rfl rfl), trivial⟩⟩ rfl rfl rfl
      · intro a w2 hfr hN hds hb hd
        exact op_skip ⟨hN, hds, rows_get (E := [(28, (.bool false)), (35, undef), (37, undef)]) ⟨((hd 13 rfl _ _ rfl rfl).trans (congrArg _ hc104)), (hd 20 rfl _ _ rfl rfl), (hd 22 rfl _ _ rfl rfl), trivial⟩⟩ rfl rfl rfl
      · intro a w2 hfr hN hds hb hd
        exact op_plain Θ_ok ⟨hN, hds, rows_get (E := [(25, (.bool false)), (28, (.bool false)), (38, undef)]) ⟨((hd 10 rfl _ _ rfl rfl).trans (congrArg _ hc101)), ((hd 13 rfl _ _ rfl rfl).trans (congrArg _ hc104)), (hd 23 rfl _ _ rfl rfl), trivial⟩⟩ rfl rfl rfl rfl rfl
      · intro a w2 hfr hN hds hb hd
        exact op_plain Θ_ok ⟨hN, hds, rows_get (E := [(25, (.bool false)), (39, (.bool false))]) ⟨((hd 10 rfl _ _ rfl rfl).trans (congrArg _ hc101)), (hd 24 rfl _ _ rfl rfl), trivial⟩⟩ rfl rfl rfl rfl rfl
      intro a w119 f118 hN hds hb hr
      have h0_1 := h0_1.tr f118.tr0
      have h0_2 := h0_2.tr f118.tr0
      have hb2 := hb2.fr0 f118
      have T5 := T5.trans f118.tr0
      have T75 := T75.trans f118.tr0
      have hO := f118.ob hO
      have hF := hF.trans f118
      refine wq_go (E := [(1, (bp b2)), (8, (.slice A73 x0.fNames.length c74)), (9, (.int .i64 (x0.fNames.length : Int))), (10, (.int .i64 (i76 : Int))), (40, (.bool false))]) hN hds ⟨hb 1 _ rfl rfl, hb 8 _ rfl rfl, hb 9 _ rfl rfl, hb 10 _ rfl rfl, (hr 25 _ _ rfl rfl), trivial⟩ ?_
      refine wq_seq ?_
      refine wc_false rfl ?_
      refine wc_skip ?_
      refine wq_block (wq_seq ?_)
      refine wc_region (l := [0, 1]) rfl ?_
      refine wo_seg Θ_ok [0, 1] [(1, (bp b2)), (8, (.slice A73 x0.fNames.length c74)), (9, (.int .i64 (x0.fNames.length : Int))), (10, (.int .i64 (IntKind.i64.wrap ((i76 : Int) + (1 : Int)))))] rfl ⟨rfl, rfl, rfl, rfl, trivial⟩ ?_
      refine wo_nil ?_
      exact wq_next rest77.length [(1, (bp b2)), (8, (.slice A73 x0.fNames.length c74)), (9, (.int .i64 (x0.fNames.length : Int))), (10, (.int .i64 ((i76 + 1 : Nat) : Int)))] (Nat.lt_succ_self _) ⟨rfl, rfl, rfl, congrArg (fun z => some (Value.int .i64 z)) (wrap_succ hl86 (Nat.le_trans hlc74 hmc74)), trivial⟩ ⟨rest77, i76 + 1, b91 :: O80, rfl, hd79, rfl, T75, hO, hS, hF, ib2, hb2, h⟩
    obtain ⟨y105, hz106, h⟩ := bind_some h
    refine wc_draw mixed [⟨15, [], [4]⟩, ⟨16, [0], []⟩, ⟨17, [1], []⟩, ⟨18, [2], []⟩, ⟨19, [3], []⟩, ⟨20, [4], [4]⟩, ⟨21, [4, 5], []⟩, ⟨22, [4, 6], []⟩, ⟨23, [4, 7], []⟩, ⟨24, [4, 8], []⟩, ⟨25, [9], []⟩, ⟨26, [10], [3]⟩, ⟨27, [10, 11], []⟩, ⟨28, [10, 12], []⟩, ⟨29, [13], [1]⟩, ⟨30, [13, 14], []⟩, ⟨31, [13], [3]⟩, ⟨32, [13, 16], []⟩, ⟨33, [13, 15, 17], []⟩, ⟨34, [13, 18], []⟩, ⟨35, [13, 19], []⟩, ⟨36, [13], [4]⟩, ⟨37, [13, 21], []⟩, ⟨38, [13, 20, 22], []⟩, ⟨39, [10, 13, 23], []⟩, ⟨40, [10, 24], []⟩] [SP.eq (bp b91), SP.eq (.int .u64 z78.fName), SP.eq (.bool y96), SP.eq (.bool (!y96)), SP.eq (.bool (!y96)), SP.eq (.pointer (some ⟨b91, 1, none⟩)), SP.eq (.int .u64 z78.fPid), SP.eq (.bool ((r_Pid z78.fPid))), SP.eq (.bool (!(r_Pid z78.fPid))), SP.eq (.bool (!(r_Pid z78.fPid))), SP.eq (.bool (!(r_Pid z78.fPid))), SP.eq (.int .i64 (i76 : Int)), SP.eq (.bool (decide ((i76 : Int) > (0 : Int)))), SP.eq (.bool (decide ((i76 : Int) > (0 : Int)))), SP.eq (bp b2), SP.eq (.slice A73 x0.fNames.length c74), SP.eq (.int .i64 (i76 : Int)), SP.eq (.int .i64 (IntKind.i64.wrap ((i76 : Int) - (1 : Int)))), SP.is (Ty.ptr tGName) (b91 :: O80) y105, SP.is (Ty.ptr (Ty.int .u64)) (b91 :: O80) y105.fName, SP.eq (.int .u64 y105.fName), SP.eq (bp b91), SP.eq (.int .u64 z78.fName), SP.eq (.bool (decide (y105.fName ≥ z78.fName))), SP.eq (.bool (decide (y105.fName ≥ z78.fName))), SP.eq (.bool (decide (y105.fName ≥ z78.fName)))] rfl rfl rfl ⟨?_, ?_, ?_, ?_, ?_, ?_, ?_, ?_, ?_, ?_, ?_, ?_, ?_, ?_, ?_, ?_, ?_, ?_, ?_, ?_, ?_, ?_, ?_, ?_, ?_, ?_, trivial⟩ ?_
    · intro a w2 hfr hN hds hb hd
      exact op_plain Θ_ok ⟨hN, hds, rows_get (E := [(4, (bp b91))]) ⟨hb 4 rfl _ rfl, trivial⟩⟩ rfl rfl rfl rfl rfl
    · intro a w2 hfr hN hds hb hd
      have hb91 := hb91.fr0 hfr
      exact op_load Θ_ok ⟨hN, hds, rows_get (E := [(15, (bp b91))]) ⟨(hd 0 rfl _ _ rfl rfl), trivial⟩⟩ rfl rfl rfl rfl rfl rfl hb91 [(.int .u64 z78.fName)] rfl rfl (.inr rfl) (.int .u64 z78.fName) rfl
    · intro a w2 hfr hN hds hb hd
      exact (op_call ⟨hN, hds, rows_get (E := [(16, (.int .u64 z78.fName))]) ⟨(hd 1 rfl _ _ rfl rfl), trivial⟩⟩ rfl rfl rfl rfl ent32 rfl (r_Is_c (hfr.ob hO) (int_is.2 rfl) hy97)).weaken (fun u w3 ⟨hu, hf⟩ => ⟨bool_is.1 hu, hf⟩)
    · intro a w2 hfr hN hds hb hd
      exact op_plain Θ_ok ⟨hN, hds, rows_get (E := [(17, (.bool y96))]) ⟨(hd 2 rfl _ _ rfl rfl), trivial⟩⟩ rfl rfl rfl rfl rfl
    · intro a w2 hfr hN hds hb hd
      exact op_plain Θ_ok ⟨hN, hds, rows_get (E := [(18, (.bool (!y96)))]) ⟨(hd 3 rfl _ _ rfl rfl), trivial⟩⟩ rfl rfl rfl rfl rfl
    · intro a w2 hfr hN hds hb hd
      exact op_plain Θ_ok ⟨hN, hds, rows_get (E := [(4, (bp b91)), (19, (.bool false))]) ⟨hb 4 rfl _ rfl, ((hd 4 rfl _ _ rfl rfl).trans (congrArg _ hc98)), trivial⟩⟩ rfl rfl rfl rfl rfl
    · intro a w2 hfr hN hds hb hd
      have hb91 := hb91.fr0 hfr
      exact op_load Θ_ok ⟨hN, hds, rows_get (E := [(19, (.bool false)), (20, (.pointer (some ⟨b91, 1, none⟩)))]) ⟨((hd 4 rfl _ _ rfl rfl).trans (congrArg _ hc98)), (hd 5 rfl _ _ rfl rfl), trivial⟩⟩ rfl rfl rfl rfl rfl rfl hb91 [(.int .u64 z78.fPid)] rfl rfl (.inr rfl) (.int .u64 z78.fPid) rfl
    · intro a w2 hfr hN hds hb hd
      exact (op_call ⟨hN, hds, rows_get (E := [(19, (.bool false)), (21, (.int .u64 z78.fPid))]) ⟨((hd 4 rfl _ _ rfl rfl).trans (congrArg _ hc98)), (hd 6 rfl _ _ rfl rfl), trivial⟩⟩ rfl rfl rfl rfl ent26 rfl (r_Pid_c (hfr.ob hO) (int_is.2 rfl))).weaken (fun u w3 ⟨hu, hf⟩ => ⟨bool_is.1 hu, hf⟩)
    · intro a w2 hfr hN hds hb hd
      exact op_plain Θ_ok ⟨hN, hds, rows_get (E := [(19, (.bool false)), (22, (.bool ((r_Pid z78.fPid))))]) ⟨((hd 4 rfl _ _ rfl rfl).trans (congrArg _ hc98)), (hd 7 rfl _ _ rfl rfl), trivial⟩⟩ rfl rfl rfl rfl rfl
    · intro a w2 hfr hN hds hb hd
      exact op_plain Θ_ok ⟨hN, hds, rows_get (E := [(19, (.bool false)), (23, (.bool (!(r_Pid z78.fPid))))]) ⟨((hd 4 rfl _ _ rfl rfl).trans (congrArg _ hc98)), (hd 8 rfl _ _ rfl rfl), trivial⟩⟩ rfl rfl rfl rfl rfl
    · intro a w2 hfr hN hds hb hd
      exact op_plain Θ_ok ⟨hN, hds, rows_get (E := [(24, (.bool (!(r_Pid z78.fPid))))]) ⟨(hd 9 rfl _ _ rfl rfl), trivial⟩⟩ rfl rfl rfl rfl rfl
    · intro a w2 hfr hN hds hb hd
      exact op_plain Θ_ok ⟨hN, hds, rows_get (E := [(3, (.int .i64 (i76 : Int))), (25, (.bool false))]) ⟨hb 3 rfl _ rfl, ((hd 10 rfl _ _ rfl rfl).trans (congrArg _ hc101)), trivial⟩⟩ rfl rfl rfl rfl rfl
    · intro a w2 hfr hN hds hb hd
      exact op_plain Θ_ok ⟨hN, hds, rows_get (E := [(25, (.bool false)), (26, (.int .i64 (i76 : Int)))]) ⟨((hd 10 rfl _ _ rfl rfl).trans (congrArg _ hc101)), (hd 11 rfl _ _ rfl rfl), trivial⟩⟩ rfl rfl rfl rfl rfl
    · intro a w2 hfr hN hds hb hd
      exact op_plain Θ_ok ⟨hN, hds, rows_get (E := [(25, (.bool false)), (27, (.bool (decide ((i76 : Int) > (0 : Int)))))]) ⟨((hd 10 rfl _ _ rfl rfl).trans (congrArg _ hc101)), (hd 12 rfl _ _ rfl rfl), trivial⟩⟩ rfl rfl rfl rfl rfl
    · intro a w2 hfr hN hds hb hd
      exact op_plain Θ_ok ⟨hN, hds, rows_get (E := [(1, (bp b2)), (28, (.bool true))]) ⟨hb 1 rfl _ rfl, ((hd 13 rfl _ _ rfl rfl).trans (congrArg _ hc104)), trivial⟩⟩ rfl rfl rfl rfl rfl
    · intro a w2 hfr hN hds hb hd
      have hb2 := hb2.fr0 hfr
      exact op_load Θ_ok ⟨hN, hds, rows_get (E := [(28, (.bool true)), (29, (bp b2))]) ⟨((hd 13 rfl _ _ rfl rfl).trans (congrArg _ hc104)), (hd 14 rfl _ _ rfl rfl), trivial⟩⟩ rfl rfl rfl rfl rfl rfl hb2 [(.slice A73 x0.fNames.length c74)] rfl rfl (.inr rfl) (.slice A73 x0.fNames.length c74) rfl
    · intro a w2 hfr hN hds hb hd
      exact op_plain Θ_ok ⟨hN, hds, rows_get (E := [(3, (.int .i64 (i76 : Int))), (28, (.bool true))]) ⟨hb 3 rfl _ rfl, ((hd 13 rfl _ _ rfl rfl).trans (congrArg _ hc104)), trivial⟩⟩ rfl rfl rfl rfl rfl
    · intro a w2 hfr hN hds hb hd
      exact op_plain Θ_ok ⟨hN, hds, rows_get (E := [(28, (.bool true)), (31, (.int .i64 (i76 : Int)))]) ⟨((hd 13 rfl _ _ rfl rfl).trans (congrArg _ hc104)), (hd 16 rfl _ _ rfl rfl), trivial⟩⟩ rfl rfl rfl rfl rfl
    · intro a w2 hfr hN hds hb hd
      have h0_1 := h0_1.tr hfr.tr0
      exact op_index (j := (IntKind.i64.wrap ((i76 : Int) - (1 : Int)))) Θ_ok ⟨hN, hds, rows_get (E := [(28, (.bool true)), (30, (.slice A73 x0.fNames.length c74)), (32, (.int .i64 (IntKind.i64.wrap ((i76 : Int) - (1 : Int)))))]) ⟨((hd 13 rfl _ _ rfl rfl).trans (congrArg _ hc104)), (hd 15 rfl _ _ rfl rfl), (hd 17 rfl _ _ rfl rfl), trivial⟩⟩ rfl rfl rfl rfl rfl rfl rfl rfl rfl h0_1 rfl (idx_some hz106).1 (idx_some hz106).2
    · intro a w2 hfr hN hds hb hd
      have d109 : (Ty.ptr tGName).is (b91 :: O80) w2 (a.tmps.getD 33 undef) y105 := hd 18 rfl _ _ rfl rfl
      obtain ⟨u107, e108⟩ : ∃ v, a.tmps.getD 33 undef = v := ⟨_, rfl⟩
      rw [e108] at d109
      obtain ⟨ad110, rfl⟩ := ptr_form d109
      have h111 := ptr_sub (S := (Ty.int .u64)) (off := 0) (y := y105.fName) d109 (fun cs hr => by obtain rfl := tGName_rep hr; exact rfl)
      exact (op_plain (v := (.pointer (some (ad110.add 0)))) Θ_ok ⟨hN, hds, rows_get (E := [(28, (.bool true)), (33, (.pointer (some ad110)))]) ⟨((hd 13 rfl _ _ rfl rfl).trans (congrArg _ hc104)), e108, trivial⟩⟩ rfl rfl rfl rfl rfl).weaken (fun u w3 ⟨hu, hf⟩ => by subst hu; exact ⟨h111.tr hf.tr0, hf⟩)
    · intro a w2 hfr hN hds hb hd
      have d114 : (Ty.ptr (Ty.int .u64)).is (b91 :: O80) w2 (a.tmps.getD 34 undef) y105.fName := hd 19 rfl _ _ rfl rfl
      obtain ⟨u112, e113⟩ : ∃ v, a.tmps.getD 34 undef = v := ⟨_, rfl⟩
      rw [e113] at d114
      exact (op_loadp Θ_ok ⟨hN, hds, rows_get (E := [(28, (.bool true)), (34, u112)]) ⟨((hd 13 rfl _ _ rfl rfl).trans (congrArg _ hc104)), e113, trivial⟩⟩ rfl rfl rfl rfl rfl rfl d114 rfl rfl).weaken (fun u w3 ⟨hu, hf⟩ => ⟨int_is.1 hu, hf⟩)
    · intro a w2 hfr hN hds hb hd
      exact op_plain Θ_ok ⟨hN, hds, rows_get (E := [(4, (bp b91)), (28, (.bool true))]) ⟨hb 4 rfl _ rfl, ((hd 13 rfl _ _ rfl rfl).trans (congrArg _ hc104)), trivial⟩⟩ rfl rfl rfl rfl rfl
    · intro a w2 hfr hN hds hb hd
      have hb91 := hb91.fr0 hfr
      exact op_load Θ_ok ⟨hN, hds, rows_get (E := [(28, (.bool true)), (36, (bp b91))]) ⟨((hd 13 rfl _ _ rfl rfl).trans (congrArg _ hc104)), (hd 21 rfl _ _ rfl rfl), trivial⟩⟩ rfl rfl rfl rfl rfl rfl hb91 [(.int .u64 z78.fName)] rfl rfl (.inr rfl) (.int .u64 z78.fName) rfl
    · intro a w2 hfr hN hds hb hd
      exact op_plain Θ_ok ⟨hN, hds, rows_get (E := [(28, (.bool true)), (35, (.int .u64 y105.fName)), (37, (.int .u64 z78.fName))]) ⟨((hd 13 rfl _ _ rfl rfl).trans (congrArg _ hc104)), (hd 20 rfl _ _ rfl rfl), (hd 22 rfl _ _ rfl rfl), trivial⟩⟩ rfl rfl rfl rfl rfl
    · intro a w2 hfr hN hds hb hd
      exact op_plain Θ_ok ⟨hN, hds, rows_get (E := [(25, (.bool false)), (28, (.bool true)), (38, (.bool (decide (y105.fName ≥ z78.fName))))]) ⟨((hd 10 rfl _ _ rfl rfl).trans (congrArg _ hc101)), ((hd 13 rfl _ _ rfl rfl).trans (congrArg _ hc104)), (hd 23 rfl _ _ rfl rfl), trivial⟩⟩ rfl rfl rfl rfl rfl
    · intro a w2 hfr hN hds hb hd
      exact op_plain Θ_ok ⟨hN, hds, rows_get (E := [(25, (.bool false)), (39, (.bool (decide (y105.fName ≥ z78.fName))))]) ⟨((hd 10 rfl _ _ rfl rfl).trans (congrArg _ hc101)), (hd 24 rfl _ _ rfl rfl), trivial⟩⟩ rfl rfl rfl rfl rfl
    intro a w116 f115 hN hds hb hr
    have h0_1 := h0_1.tr f115.tr0
    have h0_2 := h0_2.tr f115.tr0
    have hb2 := hb2.fr0 f115
    have T5 := T5.trans f115.tr0
    have T75 := T75.trans f115.tr0
    have hO := f115.ob hO
    have hF := hF.trans f115
    refine wq_go (E := [(1, (bp b2)), (8, (.slice A73 x0.fNames.length c74)), (9, (.int .i64 (x0.fNames.length : Int))), (10, (.int .i64 (i76 : Int))), (40, (.bool (decide (y105.fName ≥ z78.fName))))]) hN hds ⟨hb 1 _ rfl rfl, hb 8 _ rfl rfl, hb 9 _ rfl rfl, hb 10 _ rfl rfl, (hr 25 _ _ rfl rfl), trivial⟩ ?_
    refine wq_seq ?_
    rcases bif_some h with ⟨hc117, h⟩ | ⟨hc117, h⟩
    rotate_left
    · refine wc_known_false rfl hc117 ?_
      refine wc_skip ?_
      refine wq_block (wq_seq ?_)
      refine wc_region (l := [0, 1]) rfl ?_
      refine wo_seg Θ_ok [0, 1] [(1, (bp b2)), (8, (.slice A73 x0.fNames.length c74)), (9, (.int .i64 (x0.fNames.length : Int))), (10, (.int .i64 (IntKind.i64.wrap ((i76 : Int) + (1 : Int)))))] rfl ⟨rfl, rfl, rfl, rfl, trivial⟩ ?_
      refine wo_nil ?_
      exact wq_next rest77.length [(1, (bp b2)), (8, (.slice A73 x0.fNames.length c74)), (9, (.int .i64 (x0.fNames.length : Int))), (10, (.int .i64 ((i76 + 1 : Nat) : Int)))] (Nat.lt_succ_self _) ⟨rfl, rfl, rfl, congrArg (fun z => some (Value.int .i64 z)) (wrap_succ hl86 (Nat.le_trans hlc74 hmc74)), trivial⟩ ⟨rest77, i76 + 1, b91 :: O80, rfl, hd79, rfl, T75, hO, hS, hF, ib2, hb2, h⟩
    refine wc_known_true rfl hc117 ?_
    refine wc_seq ?_
    refine wc_region (l := [0]) rfl ?_
    refine wo_seg Θ_ok [0] [(2, (.bool false))] rfl ⟨rfl, trivial⟩ ?_
    refine wo_nil ?_
    refine wq_seq ?_
    refine wc_ret ?_
    cases h
    exact wq_block_ret (wq_then_ret (wq_then_ret (wq_block_ret (wq_then_ret (wq_ret rfl ⟨_, rfl, (bool_is.2 rfl), hF⟩)))))
  rintro E w11 ⟨O10, rfl, T5, hO, hS, hF, ib2, hb2, h⟩
  have h0_1 := h0_1.tr T5
  have h0_2 := h0_2.tr T5
  subst hk7
  (try dsimp only at h)
  obtain ⟨k13, hk14, h⟩ := letk_some h
  refine wc_join (fun E W => ∃ (O17 : List Nat), E = [(1, (bp b2))] ∧ Tr O10 w11 O17 W ∧ OB O17 W ∧ Sub O O17 ∧ Fr [] w W ∧ b2 ∈ O17 ∧ Blk W b2 25 [v0_1, v0_2] ∧ k13 = some r) ?_ (fun K15 hK16 => ?_)
  · rintro E w18 ⟨O17, rfl, T12, hO, hS, hF, ib2, hb2, h⟩
    have h0_1 := h0_1.tr T12
    have h0_2 := h0_2.tr T12
    subst hk14
    (try dsimp only at h)
    refine wc_seq ?_
    refine wc_region (l := [0, 1, 2, 3, 4]) rfl ?_
    refine wo_seg Θ_ok [0] [(83, (bp b2))] rfl ⟨rfl, trivial⟩ ?_
    refine wo_load Θ_ok rfl rfl rfl rfl rfl rfl rfl hb2 [v0_1] rfl rfl (.inr rfl) v0_1 rfl ?_
    obtain ⟨A19, c20, rfl, hlc20, hmc20⟩ := slice_form h0_1
    refine wo_seg Θ_ok [2] [(85, (.int .i64 (x0.fNames.length : Int)))] rfl ⟨rfl, trivial⟩ ?_
    refine wo_seg Θ_ok [3, 4] [(2, (.bool (decide ((x0.fNames.length : Int) ≤ (16 : Int)))))] rfl ⟨rfl, trivial⟩ ?_
    refine wo_nil ?_
    refine wq_seq ?_
    refine wc_ret ?_
    cases h
    exact wq_ret rfl ⟨_, rfl, (bool_is.2 rfl), hF⟩
  clear hk14
  have T12 := Tr.refl O10 w11
  refine wc_seq ?_
  refine wc_region (l := [0, 1, 2, 3]) rfl ?_
  refine wo_seg Θ_ok [0] [(1, (bp b2)), (42, (.pointer (some ⟨b2, 1, none⟩)))] rfl ⟨rfl, rfl, trivial⟩ ?_
  refine wo_load Θ_ok rfl rfl rfl rfl rfl rfl rfl hb2 [v0_2] rfl rfl (.inr rfl) v0_2 rfl ?_
  obtain ⟨A21, c22, rfl, hlc22, hmc22⟩ := slice_form h0_2
  refine wo_seg Θ_ok [2] [(1, (bp b2)), (43, (.slice A21 x0.fBoxes.length c22)), (44, (.int .i64 (x0.fBoxes.length : Int)))] rfl ⟨rfl, rfl, rfl, trivial⟩ ?_
  refine wo_seg Θ_ok [3] [(1, (bp b2)), (43, (.slice A21 x0.fBoxes.length c22)), (44, (.int .i64 (x0.fBoxes.length : Int))), (45, (.int .i64 0))] rfl ⟨rfl, rfl, rfl, rfl, trivial⟩ ?_
  refine wo_nil ?_
  refine wq_seq ?_
  refine wc_block ?_
  refine wc_loop (fun m E W => ∃ (rest25 : List GBox) (i24 : Nat) (O28 : List Nat), rest25.length = m ∧ x0.fBoxes.drop i24 = rest25 ∧ E = [(1, (bp b2)), (43, (.slice A21 x0.fBoxes.length c22)), (44, (.int .i64 (x0.fBoxes.length : Int))), (45, (.int .i64 (i24 : Int)))] ∧ Tr O10 w11 O28 W ∧ OB O28 W ∧ Sub O O28 ∧ Fr [] w W ∧ b2 ∈ O28 ∧ Blk W b2 25 [v0_1, (.slice A21 x0.fBoxes.length c22)] ∧ r_Right_l1 x0 k13 rest25 i24 = some r) _ [(1, (bp b2)), (43, (.slice A21 x0.fBoxes.length c22)), (44, (.int .i64 (x0.fBoxes.length : Int))), (45, (.int .i64 ((0 : Nat) : Int)))] ⟨rfl, rfl, rfl, rfl, trivial⟩ ⟨x0.fBoxes, 0, O10, rfl, rfl, rfl, Tr.refl _ _, hO, hS, hF, ib2, hb2, h⟩ ?_
  rintro m E w29 ⟨rest25, i24, O28, rfl, hd27, rfl, T23, hO, hS, hF, ib2, hb2, h⟩
  have T12 := T12.trans T23
  have h0_2 := h0_2.tr T23
  have h0_1 := h0_1.tr T23
  rcases rest25 with _ | ⟨z26, rest25⟩
  · rw [r_Right_l1] at h
    have hl33 := drop_nil hd27
    have hc30 : (decide ((i24 : Int) < (x0.fBoxes.length : Int))) = false := decide_eq_false (by omega)
    refine wc_seq ?_
    refine wc_region (l := [0]) rfl ?_
    refine wo_seg Θ_ok [0] [(1, (bp b2)), (43, (.slice A21 x0.fBoxes.length c22)), (44, (.int .i64 (x0.fBoxes.length : Int))), (45, (.int .i64 (i24 : Int))), (46, (.bool (decide ((i24 : Int) < (x0.fBoxes.length : Int)))))] rfl ⟨rfl, rfl, rfl, rfl, rfl, trivial⟩ ?_
    refine wo_nil ?_
    refine wq_seq ?_
    refine wc_seq ?_
    refine wc_known_false rfl hc30 ?_
    refine wc_exit ?_
    exact wq_then_exit (wq_then_exit (wq_block_exit (wq_join hK16 [(1, (bp b2))] ⟨rfl, trivial⟩ ⟨O28, rfl, T12, hO, hS, hF, ib2, hb2, h⟩)))
  rw [r_Right_l1] at h
  obtain ⟨hl34, hg32, hd27⟩ := drop_cons hd27
  have hc31 : (decide ((i24 : Int) < (x0.fBoxes.length : Int))) = true := decide_eq_true (by omega)
  refine wc_seq ?_
  refine wc_region (l := [0]) rfl ?_
  refine wo_seg Θ_ok [0] [(1, (bp b2)), (43, (.slice A21 x0.fBoxes.length c22)), (44, (.int .i64 (x0.fBoxes.length : Int))), (45, (.int .i64 (i24 : Int))), (46, (.bool (decide ((i24 : Int) < (x0.fBoxes.length : Int)))))] rfl ⟨rfl, rfl, rfl, rfl, rfl, trivial⟩ ?_
  refine wo_nil ?_
  refine wq_seq ?_
  refine wc_seq ?_
  refine wc_known_true rfl hc31 ?_
  refine wc_skip ?_
  refine wq_seq ?_
  refine wc_seq ?_
  refine wc_block ?_
  refine wc_seq ?_
  refine wc_region (l := [0, 1, 2, 3, 4, 5]) rfl ?_
  refine wo_seg Θ_ok [0] [(1, (bp b2)), (43, (.slice A21 x0.fBoxes.length c22)), (44, (.int .i64 (x0.fBoxes.length : Int))), (45, (.int .i64 (i24 : Int))), (47, (.int .i64 (i24 : Int)))] rfl ⟨rfl, rfl, rfl, rfl, rfl, trivial⟩ ?_
  refine wo_index Θ_ok rfl rfl rfl rfl rfl rfl rfl rfl rfl rfl h0_2 rfl (by omega) hg32 (fun p35 h36 => ?_)
  refine wo_loadp Θ_ok rfl rfl rfl rfl rfl rfl rfl h36 rfl rfl (fun v37 h38 => ?_)
  obtain ⟨v39, rfl, h40⟩ := tGBox_is.1 h38
  refine wo_alloc Θ_ok rfl rfl rfl rfl rfl rfl [(.int .u64 0), (.slice none 0 0)] rfl hO (fun b41 w42 n43 => ?_)
  have h0_2 := h0_2.tr n43.tr
  have h40 := h40.tr n43.tr
  have h0_1 := h0_1.tr n43.tr
  have T12 := T12.trans n43.tr
  have T23 := T23.trans n43.tr
  have nb41b2 : b41 ≠ b2 := by have := hb2.lt; have := n43.ge; omega
  have hb2 := hb2.fr0 n43.fr
  have ib2 := List.mem_cons_of_mem b41 ib2
  have hb41 := n43.blk
  have gb41 := n43.ge0 hF
  have ib41 : b41 ∈ b41 :: O28 := List.mem_cons_self
  have hO := n43.ob
  have hF := hF.trans n43.fr
  have hS := Sub.cons hS b41
  refine wo_seg Θ_ok [4] [(1, (bp b2)), (5, (.int .i64 (i24 : Int))), (6, (bp b41)), (43, (.slice A21 x0.fBoxes.length c22)), (44, (.int .i64 (x0.fBoxes.length : Int))), (45, (.int .i64 (i24 : Int))), (49, (.agg #[(.int .u64 z26.fPid), v39]))] rfl ⟨rfl, rfl, rfl, rfl, rfl, rfl, rfl, trivial⟩ ?_
  obtain ⟨A44, c45, rfl, hlc45, hmc45⟩ := slice_form h40
  refine wo_store Θ_ok rfl rfl rfl rfl rfl rfl rfl hb41 [(.int .u64 z26.fPid), (.slice A44 z26.fWords.length c45)] rfl rfl (by simp [Value.oneCell']) rfl [(.int .u64 z26.fPid), (.slice A44 z26.fWords.length c45)] rfl (fun w46 hb41 f47 => ?_)
  have h0_2 := h0_2.tr (f47.tr (one_in ib41))
  have h0_1 := h0_1.tr (f47.tr (one_in ib41))
  have h40 := h40.tr (f47.tr (one_in ib41))
  have T12 := T12.trans (f47.tr (one_in ib41))
  have T23 := T23.trans (f47.tr (one_in ib41))
  have hb2 := hb2.fr f47 (nin nb41b2.symm)
  have hO := f47.ob hO
  have hF := hF.own f47 gb41
  refine wo_nil ?_
  refine wq_seq ?_
  refine wc_seq ?_
  rcases bif_some h with ⟨hc48, h⟩ | ⟨hc48, h⟩
  · refine wc_draw mixed [⟨50, [], [6]⟩, ⟨51, [0], []⟩, ⟨52, [1], []⟩, ⟨53, [2], []⟩, ⟨54, [3], []⟩, ⟨55, [4], [6]⟩, ⟨56, [4, 5], []⟩, ⟨57, [4, 6], []⟩, ⟨58, [4, 7], []⟩, ⟨59, [4, 8], []⟩, ⟨60, [9], []⟩, ⟨61, [10], [6]⟩, ⟨62, [10, 11], []⟩, ⟨63, [10, 12], []⟩, ⟨64, [10, 13], []⟩, ⟨65, [10, 14], []⟩, ⟨66, [15], []⟩, ⟨67, [16], [5]⟩, ⟨68, [16, 17], []⟩, ⟨69, [16, 18], []⟩, ⟨70, [19], [1]⟩, ⟨71, [19, 20], []⟩, ⟨72, [19], [5]⟩, ⟨73, [19, 22], []⟩, ⟨74, [19, 21, 23], []⟩, ⟨75, [19, 24], []⟩, ⟨76, [19, 25], []⟩, ⟨77, [19], [6]⟩, ⟨78, [19, 27], []⟩, ⟨79, [19, 26, 28], []⟩, ⟨80, [16, 19, 29], []⟩, ⟨81, [16, 30], []⟩] [SP.eq (bp b41), SP.eq (.int .u64 z26.fPid), SP.eq (.bool ((r_Pid z26.fPid))), SP.eq (.bool (!(r_Pid z26.fPid))), SP.eq (.bool (!(r_Pid z26.fPid))), SP.eq undef, SP.eq undef, SP.eq undef, SP.eq undef, SP.eq (.bool true), SP.eq (.bool true), SP.eq undef, SP.eq undef, SP.eq undef, SP.eq undef, SP.eq (.bool true), SP.eq (.bool true), SP.eq undef, SP.eq undef, SP.eq undef, SP.eq undef, SP.eq undef, SP.eq undef, SP.eq undef, SP.eq undef, SP.eq undef, SP.eq undef, SP.eq undef, SP.eq undef, SP.eq undef, SP.eq undef, SP.eq (.bool true)] rfl rfl rfl ⟨?_, ?_, ?_, ?_, ?_, ?_, ?_, ?_, ?_, ?_, ?_, ?_, ?_, ?_, ?_, ?_, ?_, ?_, ?_, ?_, ?_, ?_, ?_, ?_, ?_, ?_, ?_, ?_, ?_, ?_, ?_, ?_, trivial⟩ ?_
    · intro a w2 hfr hN hds hb hd
      exact op_plain Θ_ok ⟨hN, hds, rows_get (E := [(6, (bp b41))]) ⟨hb 6 rfl _ rfl, trivial⟩⟩ rfl rfl rfl rfl rfl
    · intro a w2 hfr hN hds hb hd
      have hb41 := hb41.fr0 hfr
      exact op_load Θ_ok ⟨hN, hds, rows_get (E := [(50, (bp b41))]) ⟨(hd 0 rfl _ _ rfl rfl), trivial⟩⟩ rfl rfl rfl rfl rfl rfl hb41 [(.int .u64 z26.fPid)] rfl rfl (.inr rfl) (.int .u64 z26.fPid) rfl
    · intro a w2 hfr hN hds hb hd
      exact (op_call ⟨hN, hds, rows_get (E := [(51, (.int .u64 z26.fPid))]) ⟨(hd 1 rfl _ _ rfl rfl), trivial⟩⟩ rfl rfl rfl rfl ent26 rfl (r_Pid_c (hfr.ob hO) (int_is.2 rfl))).weaken (fun u w3 ⟨hu, hf⟩ => ⟨bool_is.1 hu, hf⟩)
    · intro a w2 hfr hN hds hb hd
      exact op_plain Θ_ok ⟨hN, hds, rows_get (E := [(52, (.bool ((r_Pid z26.fPid))))]) ⟨(hd 2 rfl _ _ rfl rfl), trivial⟩⟩ rfl rfl rfl rfl rfl
    · intro a w2 hfr hN hds hb hd
      exact op_plain Θ_ok ⟨hN, hds, rows_get (E := [(53, (.bool (!(r_Pid z26.fPid))))]) ⟨(hd 3 rfl _ _ rfl rfl), trivial⟩⟩ rfl rfl rfl rfl rfl
    · intro a w2 hfr hN hds hb hd
      exact op_skip ⟨hN, hds, rows_get (E := [(6, (bp b41)), (54, (.bool true))]) ⟨hb 6 rfl _ rfl, ((hd 4 rfl _ _ rfl rfl).trans (congrArg _ hc48)), trivial⟩⟩ rfl rfl rfl
    · intro a w2 hfr hN hds hb hd
      exact op_skip ⟨hN, hds, rows_get (E := [(54, (.bool true)), (55, undef)]) ⟨((hd 4 rfl _ _ rfl rfl).trans (congrArg _ hc48)), (hd 5 rfl _ _ rfl rfl), trivial⟩⟩ rfl rfl rfl
    · intro a w2 hfr hN hds hb hd
      exact op_skip ⟨hN, hds, rows_get (E := [(54, (.bool true)), (56, undef)]) ⟨((hd 4 rfl _ _ rfl rfl).trans (congrArg _ hc48)), (hd 6 rfl _ _ rfl rfl), trivial⟩⟩ rfl rfl rfl
    · intro a w2 hfr hN hds hb hd
      exact op_skip ⟨hN, hds, rows_get (E := [(54, (.bool true)), (57, undef)]) ⟨((hd 4 rfl _ _ rfl rfl).trans (congrArg _ hc48)), (hd 7 rfl _ _ rfl rfl), trivial⟩⟩ rfl rfl rfl
    · intro a w2 hfr hN hds hb hd
      exact op_plain Θ_ok ⟨hN, hds, rows_get (E := [(54, (.bool true)), (58, undef)]) ⟨((hd 4 rfl _ _ rfl rfl).trans (congrArg _ hc48)), (hd 8 rfl _ _ rfl rfl), trivial⟩⟩ rfl rfl rfl rfl rfl
    · intro a w2 hfr hN hds hb hd
      exact op_plain Θ_ok ⟨hN, hds, rows_get (E := [(59, (.bool true))]) ⟨(hd 9 rfl _ _ rfl rfl), trivial⟩⟩ rfl rfl rfl rfl rfl
    · intro a w2 hfr hN hds hb hd
      exact op_skip ⟨hN, hds, rows_get (E := [(6, (bp b41)), (60, (.bool true))]) ⟨hb 6 rfl _ rfl, (hd 10 rfl _ _ rfl rfl), trivial⟩⟩ rfl rfl rfl
    · intro a w2 hfr hN hds hb hd
      exact op_skip ⟨hN, hds, rows_get (E := [(60, (.bool true)), (61, undef)]) ⟨(hd 10 rfl _ _ rfl rfl), (hd 11 rfl _ _ rfl rfl), trivial⟩⟩ rfl rfl rfl
    · intro a w2 hfr hN hds hb hd
      exact op_skip ⟨hN, hds, rows_get (E := [(60, (.bool true)), (62, undef)]) ⟨(hd 10 rfl _ _ rfl rfl), (hd 12 rfl _ _ rfl rfl), trivial⟩⟩ rfl rfl rfl
    · intro a w2 hfr hN hds hb hd
      exact op_skip ⟨hN, hds, rows_get (E := [(60, (.bool true)), (63, undef)]) ⟨(hd 10 rfl _ _ rfl rfl), (hd 13 rfl _ _ rfl rfl), trivial⟩⟩ rfl rfl rfl
    · intro a w2 hfr hN hds hb hd
      exact op_plain Θ_ok ⟨hN, hds, rows_get (E := [(60, (.bool true)), (64, undef)]) ⟨(hd 10 rfl _ _ rfl rfl), (hd 14 rfl _ _ rfl rfl), trivial⟩⟩ rfl rfl rfl rfl rfl
    · intro a w2 hfr hN hds hb hd
      exact op_plain Θ_ok ⟨hN, hds, rows_get (E := [(65, (.bool true))]) ⟨(hd 15 rfl _ _ rfl rfl), trivial⟩⟩ rfl rfl rfl rfl rfl
    · intro a w2 hfr hN hds hb hd
      exact op_skip ⟨hN, hds, rows_get (E := [(5, (.int .i64 (i24 : Int))), (66, (.bool true))]) ⟨hb 5 rfl _ rfl, (hd 16 rfl _ _ rfl rfl), trivial⟩⟩ rfl rfl rfl
    · intro a w2 hfr hN hds hb hd
      exact op_skip ⟨hN, hds, rows_get (E := [(66, (.bool true)), (67, undef)]) ⟨(hd 16 rfl _ _ rfl rfl), (hd 17 rfl _ _ rfl rfl), trivial⟩⟩ rfl rfl rfl
    · intro a w2 hfr hN hds hb hd
      exact op_skip ⟨hN, hds, rows_get (E := [(66, (.bool true)), (68, undef)]) ⟨(hd 16 rfl _ _ rfl rfl), (hd 18 rfl _ _ rfl rfl), trivial⟩⟩ rfl rfl rfl
    · intro a w2 hfr hN hds hb hd
      exact op_skip ⟨hN, hds, rows_get (E := [(1, (bp b2)), (69, undef)]) ⟨hb 1 rfl _ rfl, (hd 19 rfl _ _ rfl rfl), trivial⟩⟩ rfl rfl rfl
    · intro a w2 hfr hN hds hb hd
      exact op_skip ⟨hN, hds, rows_get (E := [(69, undef), (70, undef)]) ⟨(hd 19 rfl _ _ rfl rfl), (hd 20 rfl _ _ rfl rfl), trivial⟩⟩ rfl rfl rfl
    · intro a w2 hfr hN hds hb hd
      exact op_skip ⟨hN, hds, rows_get (E := [(5, (.int .i64 (i24 : Int))), (69, undef)]) ⟨hb 5 rfl _ rfl, (hd 19 rfl _ _ rfl rfl), trivial⟩⟩ rfl rfl rfl
    · intro a w2 hfr hN hds hb hd
      exact op_skip ⟨hN, hds, rows_get (E := [(69, undef), (72, undef)]) ⟨(hd 19 rfl _ _ rfl rfl), (hd 22 rfl _ _ rfl rfl), trivial⟩⟩ rfl rfl rfl
    · intro a w2 hfr hN hds hb hd
      exact op_skip ⟨hN, hds, rows_get (E := [(69, undef), (71, undef), (73, undef)]) ⟨(hd 19 rfl _ _ rfl rfl), (hd 21 rfl _ _ rfl rfl), (hd 23 rfl _ _ rfl rfl), trivial⟩⟩ rfl rfl rfl
    · intro a w2 hfr hN hds hb hd
      exact op_skip ⟨hN, hds, rows_get (E := [(69, undef), (74, undef)]) ⟨(hd 19 rfl _ _ rfl rfl), (hd 24 rfl _ _ rfl rfl), trivial⟩⟩ rfl rfl rfl
    · intro a w2 hfr hN hds hb hd
      exact op_skip ⟨hN, hds, rows_get (E := [(69, undef), (75, undef)]) ⟨(hd 19 rfl _ _ rfl rfl), (hd 25 rfl _ _ rfl rfl), trivial⟩⟩ rfl rfl rfl
    · intro a w2 hfr hN hds hb hd
      exact op_skip ⟨hN, hds, rows_get (E := [(6, (bp b41)), (69, undef)]) ⟨hb 6 rfl _ rfl, (hd 19 rfl _ _ rfl rfl), trivial⟩⟩ rfl rfl rfl
    · intro a w2 hfr hN hds hb hd
      exact op_skip ⟨hN, hds, rows_get (E := [(69, undef), (77, undef)]) ⟨(hd 19 rfl _ _ rfl rfl), (hd 27 rfl _ _ rfl rfl), trivial⟩⟩ rfl rfl rfl
    · intro a w2 hfr hN hds hb hd
      exact op_skip ⟨hN, hds, rows_get (E := [(69, undef), (76, undef), (78, undef)]) ⟨(hd 19 rfl _ _ rfl rfl), (hd 26 rfl _ _ rfl rfl), (hd 28 rfl _ _ rfl rfl), trivial⟩⟩ rfl rfl rfl
    · intro a w2 hfr hN hds hb hd
      exact op_skip ⟨hN, hds, rows_get (E := [(66, (.bool true)), (69, undef), (79, undef)]) ⟨(hd 16 rfl _ _ rfl rfl), (hd 19 rfl _ _ rfl rfl), (hd 29 rfl _ _ rfl rfl), trivial⟩⟩ rfl rfl rfl
    · intro a w2 hfr hN hds hb hd
      exact op_plain Θ_ok ⟨hN, hds, rows_get (E := [(66, (.bool true)), (80, undef)]) ⟨(hd 16 rfl _ _ rfl rfl), (hd 30 rfl _ _ rfl rfl), trivial⟩⟩ rfl rfl rfl rfl rfl
    intro a w50 f49 hN hds hb hr
    have h0_2 := h0_2.tr f49.tr0
    have h0_1 := h0_1.tr f49.tr0
    have hb2 := hb2.fr0 f49
    have T12 := T12.trans f49.tr0
    have T23 := T23.trans f49.tr0
    have hO := f49.ob hO
    have hF := hF.trans f49
    refine wq_go (E := [(1, (bp b2)), (43, (.slice A21 x0.fBoxes.length c22)), (44, (.int .i64 (x0.fBoxes.length : Int))), (45, (.int .i64 (i24 : Int))), (81, (.bool true))]) hN hds ⟨hb 1 _ rfl rfl, hb 43 _ rfl rfl, hb 44 _ rfl rfl, hb 45 _ rfl rfl, (hr 31 _ _ rfl rfl), trivial⟩ ?_
    refine wq_seq ?_
    refine wc_true rfl ?_
    refine wc_seq ?_
    refine wc_region (l := [0]) rfl ?_
    refine wo_seg Θ_ok [0] [(2, (.bool false))] rfl ⟨rfl, trivial⟩ ?_
    refine wo_nil ?_
    refine wq_seq ?_
    refine wc_ret ?_
    cases h
    exact wq_block_ret (wq_then_ret (wq_then_ret (wq_block_ret (wq_then_ret (wq_ret rfl ⟨_, rfl, (bool_is.2 rfl), hF⟩)))))
  rcases bif_some h with ⟨hc51, h⟩ | ⟨hc51, h⟩
  · refine wc_draw mixed [⟨50, [], [6]⟩, ⟨51, [0], []⟩, ⟨52, [1], []⟩, ⟨53, [2], []⟩, ⟨54, [3], []⟩, ⟨55, [4], [6]⟩, ⟨56, [4, 5], []⟩, ⟨57, [4, 6], []⟩, ⟨58, [4, 7], []⟩, ⟨59, [4, 8], []⟩, ⟨60, [9], []⟩, ⟨61, [10], [6]⟩, ⟨62, [10, 11], []⟩, ⟨63, [10, 12], []⟩, ⟨64, [10, 13], []⟩, ⟨65, [10, 14], []⟩, ⟨66, [15], []⟩, ⟨67, [16], [5]⟩, ⟨68, [16, 17], []⟩, ⟨69, [16, 18], []⟩, ⟨70, [19], [1]⟩, ⟨71, [19, 20], []⟩, ⟨72, [19], [5]⟩, ⟨73, [19, 22], []⟩, ⟨74, [19, 21, 23], []⟩, ⟨75, [19, 24], []⟩, ⟨76, [19, 25], []⟩, ⟨77, [19], [6]⟩, ⟨78, [19, 27], []⟩, ⟨79, [19, 26, 28], []⟩, ⟨80, [16, 19, 29], []⟩, ⟨81, [16, 30], []⟩] [SP.eq (bp b41), SP.eq (.int .u64 z26.fPid), SP.eq (.bool ((r_Pid z26.fPid))), SP.eq (.bool (!(r_Pid z26.fPid))), SP.eq (.bool (!(r_Pid z26.fPid))), SP.eq (.pointer (some ⟨b41, 1, none⟩)), SP.eq (.slice A44 z26.fWords.length c45), SP.eq (.int .i64 (z26.fWords.length : Int)), SP.eq (.bool ((z26.fWords.length : Int) == (0 : Int))), SP.eq (.bool ((z26.fWords.length : Int) == (0 : Int))), SP.eq (.bool ((z26.fWords.length : Int) == (0 : Int))), SP.eq undef, SP.eq undef, SP.eq undef, SP.eq undef, SP.eq (.bool true), SP.eq (.bool true), SP.eq undef, SP.eq undef, SP.eq undef, SP.eq undef, SP.eq undef, SP.eq undef, SP.eq undef, SP.eq undef, SP.eq undef, SP.eq undef, SP.eq undef, SP.eq undef, SP.eq undef, SP.eq undef, SP.eq (.bool true)] rfl rfl rfl ⟨?_, ?_, ?_, ?_, ?_, ?_, ?_, ?_, ?_, ?_, ?_, ?_, ?_, ?_, ?_, ?_, ?_, ?_, ?_, ?_, ?_, ?_, ?_, ?_, ?_, ?_, ?_, ?_, ?_, ?_, ?_, ?_, trivial⟩ ?_
    · intro a w2 hfr hN hds hb hd
      exact op_plain Θ_ok ⟨hN, hds, rows_get (E := [(6, (bp b41))]) ⟨hb 6 rfl _ rfl, trivial⟩⟩ rfl rfl rfl rfl rfl
    · intro a w2 hfr hN hds hb hd
      have hb41 := hb41.fr0 hfr
      exact op_load Θ_ok ⟨hN, hds, rows_get (E := [(50, (bp b41))]) ⟨(hd 0 rfl _ _ rfl rfl), trivial⟩⟩ rfl rfl rfl rfl rfl rfl hb41 [(.int .u64 z26.fPid)] rfl rfl (.inr rfl) (.int .u64 z26.fPid) rfl
    · intro a w2 hfr hN hds hb hd
      exact (op_call ⟨hN, hds, rows_get (E := [(51, (.int .u64 z26.fPid))]) ⟨(hd 1 rfl _ _ rfl rfl), trivial⟩⟩ rfl rfl rfl rfl ent26 rfl (r_Pid_c (hfr.ob hO) (int_is.2 rfl))).weaken (fun u w3 ⟨hu, hf⟩ => ⟨bool_is.1 hu, hf⟩)
    · intro a w2 hfr hN hds hb hd
      exact op_plain Θ_ok ⟨hN, hds, rows_get (E := [(52, (.bool ((r_Pid z26.fPid))))]) ⟨(hd 2 rfl _ _ rfl rfl), trivial⟩⟩ rfl rfl rfl rfl rfl
    · intro a w2 hfr hN hds hb hd
      exact op_plain Θ_ok ⟨hN, hds, rows_get (E := [(53, (.bool (!(r_Pid z26.fPid))))]) ⟨(hd 3 rfl _ _ rfl rfl), trivial⟩⟩ rfl rfl rfl rfl rfl
    · intro a w2 hfr hN hds hb hd
      exact op_plain Θ_ok ⟨hN, hds, rows_get (E := [(6, (bp b41)), (54, (.bool false))]) ⟨hb 6 rfl _ rfl, ((hd 4 rfl _ _ rfl rfl).trans (congrArg _ hc48)), trivial⟩⟩ rfl rfl rfl rfl rfl
    · intro a w2 hfr hN hds hb hd
      have hb41 := hb41.fr0 hfr
      exact op_load Θ_ok ⟨hN, hds, rows_get (E := [(54, (.bool false)), (55, (.pointer (some ⟨b41, 1, none⟩)))]) ⟨((hd 4 rfl _ _ rfl rfl).trans (congrArg _ hc48)), (hd 5 rfl _ _ rfl rfl), trivial⟩⟩ rfl rfl rfl rfl rfl rfl hb41 [(.slice A44 z26.fWords.length c45)] rfl rfl (.inr rfl) (.slice A44 z26.fWords.length c45) rfl
    · intro a w2 hfr hN hds hb hd
      have h40 := h40.tr hfr.tr0
      exact op_plain Θ_ok ⟨hN, hds, rows_get (E := [(54, (.bool false)), (56, (.slice A44 z26.fWords.length c45))]) ⟨((hd 4 rfl _ _ rfl rfl).trans (congrArg _ hc48)), (hd 6 rfl _ _ rfl rfl), trivial⟩⟩ rfl rfl rfl rfl rfl
    · intro a w2 hfr hN hds hb hd
      exact op_plain Θ_ok ⟨hN, hds, rows_get (E := [(54, (.bool false)), (57, (.int .i64 (z26.fWords.length : Int)))]) ⟨((hd 4 rfl _ _ rfl rfl).trans (congrArg _ hc48)), (hd 7 rfl _ _ rfl rfl), trivial⟩⟩ rfl rfl rfl rfl rfl
    · intro a w2 hfr hN hds hb hd
      exact op_plain Θ_ok ⟨hN, hds, rows_get (E := [(54, (.bool false)), (58, (.bool ((z26.fWords.length : Int) == (0 : Int))))]) ⟨((hd 4 rfl _ _ rfl rfl).trans (congrArg _ hc48)), (hd 8 rfl _ _ rfl rfl), trivial⟩⟩ rfl rfl rfl rfl rfl
    · intro a w2 hfr hN hds hb hd
      exact op_plain Θ_ok ⟨hN, hds, rows_get (E := [(59, (.bool ((z26.fWords.length : Int) == (0 : Int))))]) ⟨(hd 9 rfl _ _ rfl rfl), trivial⟩⟩ rfl rfl rfl rfl rfl
    · intro a w2 hfr hN hds hb hd
      exact op_skip ⟨hN, hds, rows_get (E := [(6, (bp b41)), (60, (.bool true))]) ⟨hb 6 rfl _ rfl, ((hd 10 rfl _ _ rfl rfl).trans (congrArg _ hc51)), trivial⟩⟩ rfl rfl rfl
    · intro a w2 hfr hN hds hb hd
      exact op_skip ⟨hN, hds, rows_get (E := [(60, (.bool true)), (61, undef)]) ⟨((hd 10 rfl _ _ rfl rfl).trans (congrArg _ hc51)), (hd 11 rfl _ _ rfl rfl), trivial⟩⟩ rfl rfl rfl
    · intro a w2 hfr hN hds hb hd
      exact op_skip ⟨hN, hds, rows_get (E := [(60, (.bool true)), (62, undef)]) ⟨((hd 10 rfl _ _ rfl rfl).trans (congrArg _ hc51)), (hd 12 rfl _ _ rfl rfl), trivial⟩⟩ rfl rfl rfl
    · intro a w2 hfr hN hds hb hd
      exact op_skip ⟨hN, hds, rows_get (E := [(60, (.bool true)), (63, undef)]) ⟨((hd 10 rfl _ _ rfl rfl).trans (congrArg _ hc51)), (hd 13 rfl _ _ rfl rfl), trivial⟩⟩ rfl rfl rfl
    · intro a w2 hfr hN hds hb hd
      exact op_plain Θ_ok ⟨hN, hds, rows_get (E := [(60, (.bool true)), (64, undef)]) ⟨((hd 10 rfl _ _ rfl rfl).trans (congrArg _ hc51)), (hd 14 rfl _ _ rfl rfl), trivial⟩⟩ rfl rfl rfl rfl rfl
    · intro a w2 hfr hN hds hb hd
      exact op_plain Θ_ok ⟨hN, hds, rows_get (E := [(65, (.bool true))]) ⟨(hd 15 rfl _ _ rfl rfl), trivial⟩⟩ rfl rfl rfl rfl rfl
    · intro a w2 hfr hN hds hb hd
      exact op_skip ⟨hN, hds, rows_get (E := [(5, (.int .i64 (i24 : Int))), (66, (.bool true))]) ⟨hb 5 rfl _ rfl, (hd 16 rfl _ _ rfl rfl), trivial⟩⟩ rfl rfl rfl
    · intro a w2 hfr hN hds hb hd
      exact op_skip ⟨hN, hds, rows_get (E := [(66, (.bool true)), (67, undef)]) ⟨(hd 16 rfl _ _ rfl rfl), (hd 17 rfl _ _ rfl rfl), trivial⟩⟩ rfl rfl rfl
    · intro a w2 hfr hN hds hb hd
      exact op_skip ⟨hN, hds, rows_get (E := [(66, (.bool true)), (68, undef)]) ⟨(hd 16 rfl _ _ rfl rfl), (hd 18 rfl _ _ rfl rfl), trivial⟩⟩ rfl rfl rfl
    · intro a w2 hfr hN hds hb hd
      exact op_skip ⟨hN, hds, rows_get (E := [(1, (bp b2)), (69, undef)]) ⟨hb 1 rfl _ rfl, (hd 19 rfl _ _ rfl rfl), trivial⟩⟩ rfl rfl rfl
    · intro a w2 hfr hN hds hb hd
      exact op_skip ⟨hN, hds, rows_get (E := [(69, undef), (70, undef)]) ⟨(hd 19 rfl _ _ rfl rfl), (hd 20 rfl _ _ rfl rfl), trivial⟩⟩ rfl rfl rfl
    · intro a w2 hfr hN hds hb hd
      exact op_skip ⟨hN, hds, rows_get (E := [(5, (.int .i64 (i24 : Int))), (69, undef)]) ⟨hb 5 rfl _ rfl, (hd 19 rfl _ _ rfl rfl), trivial⟩⟩ rfl rfl rfl
    · intro a w2 hfr hN hds hb hd
      exact op_skip ⟨hN, hds, rows_get (E := [(69, undef), (72, undef)]) ⟨(hd 19 rfl _ _ rfl rfl), (hd 22 rfl _ _ rfl rfl), trivial⟩⟩ rfl rfl rfl
    · intro a w2 hfr hN hds hb hd
      exact op_skip ⟨hN, hds, rows_get (E := [(69, undef), (71, undef), (73, undef)]) ⟨(hd 19 rfl _ _ rfl rfl), (hd 21 rfl _ _ rfl rfl), (hd 23 rfl _ _ rfl rfl), trivial⟩⟩ rfl rfl rfl
    · intro a w2 hfr hN hds hb hd
      exact op_skip ⟨hN, hds, rows_get (E := [(69, undef), (74, undef)]) ⟨(hd 19 rfl _ _ rfl rfl), (hd 24 rfl _ _ rfl rfl), trivial⟩⟩ rfl rfl rfl
    · intro a w2 hfr hN hds hb hd
      exact op_skip ⟨hN, hds, rows_get (E := [(69, undef), (75, undef)]) ⟨(hd 19 rfl _ _ rfl rfl), (hd 25 rfl _ _ rfl rfl), trivial⟩⟩ rfl rfl rfl
    · intro a w2 hfr hN hds hb hd
      exact op_skip ⟨hN, hds, rows_get (E := [(6, (bp b41)), (69, undef)]) ⟨hb 6 rfl _ rfl, (hd 19 rfl _ _ rfl rfl), trivial⟩⟩ rfl rfl rfl
    · intro a w2 hfr hN hds hb hd
      exact op_skip ⟨hN, hds, rows_get (E := [(69, undef), (77, undef)]) ⟨(hd 19 rfl _ _ rfl rfl), (hd 27 rfl _ _ rfl rfl), trivial⟩⟩ rfl rfl rfl
    · intro a w2 hfr hN hds hb hd
      exact op_skip ⟨hN, hds, rows_get (E := [(69, undef), (76, undef), (78, undef)]) ⟨(hd 19 rfl _ _ rfl rfl), (hd 26 rfl _ _ rfl rfl), (hd 28 rfl _ _ rfl rfl), trivial⟩⟩ rfl rfl rfl
    · intro a w2 hfr hN hds hb hd
      exact op_skip ⟨hN, hds, rows_get (E := [(66, (.bool true)), (69, undef), (79, undef)]) ⟨(hd 16 rfl _ _ rfl rfl), (hd 19 rfl _ _ rfl rfl), (hd 29 rfl _ _ rfl rfl), trivial⟩⟩ rfl rfl rfl
    · intro a w2 hfr hN hds hb hd
      exact op_plain Θ_ok ⟨hN, hds, rows_get (E := [(66, (.bool true)), (80, undef)]) ⟨(hd 16 rfl _ _ rfl rfl), (hd 30 rfl _ _ rfl rfl), trivial⟩⟩ rfl rfl rfl rfl rfl
    intro a w53 f52 hN hds hb hr
    have h0_2 := h0_2.tr f52.tr0
    have h0_1 := h0_1.tr f52.tr0
    have hb2 := hb2.fr0 f52
    have T12 := T12.trans f52.tr0
    have T23 := T23.trans f52.tr0
    have hO := f52.ob hO
    have hF := hF.trans f52
    refine wq_go (E := [(1, (bp b2)), (43, (.slice A21 x0.fBoxes.length c22)), (44, (.int .i64 (x0.fBoxes.length : Int))), (45, (.int .i64 (i24 : Int))), (81, (.bool true))]) hN hds ⟨hb 1 _ rfl rfl, hb 43 _ rfl rfl, hb 44 _ rfl rfl, hb 45 _ rfl rfl, (hr 31 _ _ rfl rfl), trivial⟩ ?_
    refine wq_seq ?_
    refine wc_true rfl ?_
    refine wc_seq ?_
    refine wc_region (l := [0]) rfl ?_
    refine wo_seg Θ_ok [0] [(2, (.bool false))] rfl ⟨rfl, trivial⟩ ?_
    refine wo_nil ?_
    refine wq_seq ?_
    refine wc_ret ?_
    cases h
    exact wq_block_ret (wq_then_ret (wq_then_ret (wq_block_ret (wq_then_ret (wq_ret rfl ⟨_, rfl, (bool_is.2 rfl), hF⟩)))))
  rcases bif_some h with ⟨hc54, h⟩ | ⟨hc54, h⟩
  · refine wc_draw mixed [⟨50, [], [6]⟩, ⟨51, [0], []⟩, ⟨52, [1], []⟩, ⟨53, [2], []⟩, ⟨54, [3], []⟩, ⟨55, [4], [6]⟩, ⟨56, [4, 5], []⟩, ⟨57, [4, 6], []⟩, ⟨58, [4, 7], []⟩, ⟨59, [4, 8], []⟩, ⟨60, [9], []⟩, ⟨61, [10], [6]⟩, ⟨62, [10, 11], []⟩, ⟨63, [10, 12], []⟩, ⟨64, [10, 13], []⟩, ⟨65, [10, 14], []⟩, ⟨66, [15], []⟩, ⟨67, [16], [5]⟩, ⟨68, [16, 17], []⟩, ⟨69, [16, 18], []⟩, ⟨70, [19], [1]⟩, ⟨71, [19, 20], []⟩, ⟨72, [19], [5]⟩, ⟨73, [19, 22], []⟩, ⟨74, [19, 21, 23], []⟩, ⟨75, [19, 24], []⟩, ⟨76, [19, 25], []⟩, ⟨77, [19], [6]⟩, ⟨78, [19, 27], []⟩, ⟨79, [19, 26, 28], []⟩, ⟨80, [16, 19, 29], []⟩, ⟨81, [16, 30], []⟩] [SP.eq (bp b41), SP.eq (.int .u64 z26.fPid), SP.eq (.bool ((r_Pid z26.fPid))), SP.eq (.bool (!(r_Pid z26.fPid))), SP.eq (.bool (!(r_Pid z26.fPid))), SP.eq (.pointer (some ⟨b41, 1, none⟩)), SP.eq (.slice A44 z26.fWords.length c45), SP.eq (.int .i64 (z26.fWords.length : Int)), SP.eq (.bool ((z26.fWords.length : Int) == (0 : Int))), SP.eq (.bool ((z26.fWords.length : Int) == (0 : Int))), SP.eq (.bool ((z26.fWords.length : Int) == (0 : Int))), SP.eq (.pointer (some ⟨b41, 1, none⟩)), SP.eq (.slice A44 z26.fWords.length c45), SP.eq (.int .i64 (z26.fWords.length : Int)), SP.eq (.bool (decide ((z26.fWords.length : Int) > (4 : Int)))), SP.eq (.bool (decide ((z26.fWords.length : Int) > (4 : Int)))), SP.eq (.bool (decide ((z26.fWords.length : Int) > (4 : Int)))), SP.eq undef, SP.eq undef, SP.eq undef, SP.eq undef, SP.eq undef, SP.eq undef, SP.eq undef, SP.eq undef, SP.eq undef, SP.eq undef, SP.eq undef, SP.eq undef, SP.eq undef, SP.eq undef, SP.eq (.bool true)] rfl rfl rfl ⟨?_, ?_, ?_, ?_, ?_, ?_, ?_, ?_, ?_, ?_, ?_, ?_, ?_, ?_, ?_, ?_, ?_, ?_, ?_, ?_, ?_, ?_, ?_, ?_, ?_, ?_, ?_, ?_, ?_, ?_, ?_, ?_, trivial⟩ ?_
    · intro a w2 hfr hN hds hb hd
      exact op_plain Θ_ok ⟨hN, hds, rows_get (E := [(6, (bp b41))]) ⟨hb 6 rfl _ rfl, trivial⟩⟩ rfl rfl rfl rfl rfl
    · intro a w2 hfr hN hds hb hd
      have hb41 := hb41.fr0 hfr
      exact op_load Θ_ok ⟨hN, hds, rows_get (E := [(50, (bp b41))]) ⟨(hd 0 rfl _ _ rfl rfl), trivial⟩⟩ rfl rfl rfl rfl rfl rfl hb41 [(.int .u64 z26.fPid)] rfl rfl (.inr rfl) (.int .u64 z26.fPid) rfl
    · intro a w2 hfr hN hds hb hd
      exact (op_call ⟨hN, hds, rows_get (E := [(51, (.int .u64 z26.fPid))]) ⟨(hd 1 rfl _ _ rfl rfl), trivial⟩⟩ rfl rfl rfl rfl ent26 rfl (r_Pid_c (hfr.ob hO) (int_is.2 rfl))).weaken (fun u w3 ⟨hu, hf⟩ => ⟨bool_is.1 hu, hf⟩)
    · intro a w2 hfr hN hds hb hd
      exact op_plain Θ_ok ⟨hN, hds, rows_get (E := [(52, (.bool ((r_Pid z26.fPid))))]) ⟨(hd 2 rfl _ _ rfl rfl), trivial⟩⟩ rfl rfl rfl rfl rfl
    · intro a w2 hfr hN hds hb hd
      exact op_plain Θ_ok ⟨hN, hds, rows_get (E := [(53, (.bool (!(r_Pid z26.fPid))))]) ⟨(hd 3 rfl _ _ rfl rfl), trivial⟩⟩ rfl rfl rfl rfl rfl
    · intro a w2 hfr hN hds hb hd
      exact op_plain Θ_ok ⟨hN, hds, rows_get (E := [(6, (bp b41)), (54, (.bool false))]) ⟨hb 6 rfl _ rfl, ((hd 4 rfl _ _ rfl rfl).trans (congrArg _ hc48)), trivial⟩⟩ rfl rfl rfl rfl rfl
    · intro a w2 hfr hN hds hb hd
      have hb41 := hb41.fr0 hfr
      exact op_load Θ_ok ⟨hN, hds, rows_get (E := [(54, (.bool false)), (55, (.pointer (some ⟨b41, 1, none⟩)))]) ⟨((hd 4 rfl _ _ rfl rfl).trans (congrArg _ hc48)), (hd 5 rfl _ _ rfl rfl), trivial⟩⟩ rfl rfl rfl rfl rfl rfl hb41 [(.slice A44 z26.fWords.length c45)] rfl rfl (.inr rfl) (.slice A44 z26.fWords.length c45) rfl
    · intro a w2 hfr hN hds hb hd
      have h40 := h40.tr hfr.tr0
      exact op_plain Θ_ok ⟨hN, hds, rows_get (E := [(54, (.bool false)), (56, (.slice A44 z26.fWords.length c45))]) ⟨((hd 4 rfl _ _ rfl rfl).trans (congrArg _ hc48)), (hd 6 rfl _ _ rfl rfl), trivial⟩⟩ rfl rfl rfl rfl rfl
    · intro a w2 hfr hN hds hb hd
      exact op_plain Θ_ok ⟨hN, hds, rows_get (E := [(54, (.bool false)), (57, (.int .i64 (z26.fWords.length : Int)))]) ⟨((hd 4 rfl _ _ rfl rfl).trans (congrArg _ hc48)), (hd 7 rfl _ _ rfl rfl), trivial⟩⟩ rfl rfl rfl rfl rfl
    · intro a w2 hfr hN hds hb hd
      exact op_plain Θ_ok ⟨hN, hds, rows_get (E := [(54, (.bool false)), (58, (.bool ((z26.fWords.length : Int) == (0 : Int))))]) ⟨((hd 4 rfl _ _ rfl rfl).trans (congrArg _ hc48)), (hd 8 rfl _ _ rfl rfl), trivial⟩⟩ rfl rfl rfl rfl rfl
    · intro a w2 hfr hN hds hb hd
      exact op_plain Θ_ok ⟨hN, hds, rows_get (E := [(59, (.bool ((z26.fWords.length : Int) == (0 : Int))))]) ⟨(hd 9 rfl _ _ rfl rfl), trivial⟩⟩ rfl rfl rfl rfl rfl
    · intro a w2 hfr hN hds hb hd
      exact op_plain Θ_ok ⟨hN, hds, rows_get (E := [(6, (bp b41)), (60, (.bool false))]) ⟨hb 6 rfl _ rfl, ((hd 10 rfl _ _ rfl rfl).trans (congrArg _ hc51)), trivial⟩⟩ rfl rfl rfl rfl rfl
    · intro a w2 hfr hN hds hb hd
      have hb41 := hb41.fr0 hfr
      exact op_load Θ_ok ⟨hN, hds, rows_get (E := [(60, (.bool false)), (61, (.pointer (some ⟨b41, 1, none⟩)))]) ⟨((hd 10 rfl _ _ rfl rfl).trans (congrArg _ hc51)), (hd 11 rfl _ _ rfl rfl), trivial⟩⟩ rfl rfl rfl rfl rfl rfl hb41 [(.slice A44 z26.fWords.length c45)] rfl rfl (.inr rfl) (.slice A44 z26.fWords.length c45) rfl
    · intro a w2 hfr hN hds hb hd
      have h40 := h40.tr hfr.tr0
      exact op_plain Θ_ok ⟨hN, hds, rows_get (E := [(60, (.bool false)), (62, (.slice A44 z26.fWords.length c45))]) ⟨((hd 10 rfl _ _ rfl rfl).trans (congrArg _ hc51)), (hd 12 rfl _ _ rfl rfl), trivial⟩⟩ rfl rfl rfl rfl rfl
    · intro a w2 hfr hN hds hb hd
      exact op_plain Θ_ok ⟨hN, hds, rows_get (E := [(60, (.bool false)), (63, (.int .i64 (z26.fWords.length : Int)))]) ⟨((hd 10 rfl _ _ rfl rfl).trans (congrArg _ hc51)), (hd 13 rfl _ _ rfl rfl), trivial⟩⟩ rfl rfl rfl rfl rfl
    · intro a w2 hfr hN hds hb hd
      exact op_plain Θ_ok ⟨hN, hds, rows_get (E := [(60, (.bool false)), (64, (.bool (decide ((z26.fWords.length : Int) > (4 : Int)))))]) ⟨((hd 10 rfl _ _ rfl rfl).trans (congrArg _ hc51)), (hd 14 rfl _ _ rfl rfl), trivial⟩⟩ rfl rfl rfl rfl rfl
    · intro a w2 hfr hN hds hb hd
      exact op_plain Θ_ok ⟨hN, hds, rows_get (E := [(65, (.bool (decide ((z26.fWords.length : Int) > (4 : Int)))))]) ⟨(hd 15 rfl _ _ rfl rfl), trivial⟩⟩ rfl rfl rfl rfl rfl
    · intro a w2 hfr hN hds hb hd
      exact op_skip ⟨hN, hds, rows_get (E := [(5, (.int .i64 (i24 : Int))), (66, (.bool true))]) ⟨hb 5 rfl _ rfl, ((hd 16 rfl _ _ rfl rfl).trans (congrArg _ hc54)), trivial⟩⟩ rfl rfl rfl
    · intro a w2 hfr hN hds hb hd
      exact op_skip ⟨hN, hds, rows_get (E := [(66, (.bool true)), (67, undef)]) ⟨((hd 16 rfl _ _ rfl rfl).trans (congrArg _ hc54)), (hd 17 rfl _ _ rfl rfl), trivial⟩⟩ rfl rfl rfl
    · intro a w2 hfr hN hds hb hd
      exact op_skip ⟨hN, hds, rows_get (E := [(66, (.bool true)), (68, undef)]) ⟨((hd 16 rfl _ _ rfl rfl).trans (congrArg _ hc54)), (hd 18 rfl _ _ rfl rfl), trivial⟩⟩ rfl rfl rfl
    · intro a w2 hfr hN hds hb hd
      exact op_skip ⟨hN, hds, rows_get (E := [(1, (bp b2)), (69, undef)]) ⟨hb 1 rfl _ rfl, (hd 19 rfl _ _ rfl rfl), trivial⟩⟩ rfl rfl rfl
    · intro a w2 hfr hN hds hb hd
      exact op_skip ⟨hN, hds, rows_get (E := [(69, undef), (70, undef)]) ⟨(hd 19 rfl _ _ rfl rfl), (hd 20 rfl _ _ rfl rfl), trivial⟩⟩ rfl rfl rfl
    · intro a w2 hfr hN hds hb hd
      exact op_skip ⟨hN, hds, rows_get (E := [(5, (.int .i64 (i24 : Int))), (69, undef)]) ⟨hb 5 rfl _ rfl, (hd 19 rfl _ _ rfl rfl), trivial⟩⟩ rfl rfl rfl
    · intro a w2 hfr hN hds hb hd
      exact op_skip ⟨hN, hds, rows_get (E := [(69, undef), (72, undef)]) ⟨(hd 19 rfl _ _ rfl rfl), (hd 22 rfl _ _ rfl rfl), trivial⟩⟩ rfl rfl rfl
    · intro a w2 hfr hN hds hb hd
      exact op_skip ⟨hN, hds, rows_get (E := [(69, undef), (71, undef), (73, undef)]) ⟨(hd 19 rfl _ _ rfl rfl), (hd 21 rfl _ _ rfl rfl), (hd 23 rfl _ _ rfl rfl), trivial⟩⟩ rfl rfl rfl
    · intro a w2 hfr hN hds hb hd
      exact op_skip ⟨hN, hds, rows_get (E := [(69, undef), (74, undef)]) ⟨(hd 19 rfl _ _ rfl rfl), (hd 24 rfl _ _ rfl rfl), trivial⟩⟩ rfl rfl rfl
    · intro a w2 hfr hN hds hb hd
      exact op_skip ⟨hN, hds, rows_get (E := [(69, undef), (75, undef)]) ⟨(hd 19 rfl _ _ rfl rfl), (hd 25 rfl _ _ rfl rfl), trivial⟩⟩ rfl rfl rfl
    · intro a w2 hfr hN hds hb hd
      exact op_skip ⟨hN, hds, rows_get (E := [(6, (bp b41)), (69, undef)]) ⟨hb 6 rfl _ rfl, (hd 19 rfl _ _ rfl rfl), trivial⟩⟩ rfl rfl rfl
    · intro a w2 hfr hN hds hb hd
      exact op_skip ⟨hN, hds, rows_get (E := [(69, undef), (77, undef)]) ⟨(hd 19 rfl _ _ rfl rfl), (hd 27 rfl _ _ rfl rfl), trivial⟩⟩ rfl rfl rfl
    · intro a w2 hfr hN hds hb hd
      exact op_skip ⟨hN, hds, rows_get (E := [(69, undef), (76, undef), (78, undef)]) ⟨(hd 19 rfl _ _ rfl rfl), (hd 26 rfl _ _ rfl rfl), (hd 28 rfl _ _ rfl rfl), trivial⟩⟩ rfl rfl rfl
    · intro a w2 hfr hN hds hb hd
      exact op_skip ⟨hN, hds, rows_get (E := [(66, (.bool true)), (69, undef), (79, undef)]) ⟨((hd 16 rfl _ _ rfl rfl).trans (congrArg _ hc54)), (hd 19 rfl _ _ rfl rfl), (hd 29 rfl _ _ rfl rfl), trivial⟩⟩ rfl rfl rfl
    · intro a w2 hfr hN hds hb hd
      exact op_plain Θ_ok ⟨hN, hds, rows_get (E := [(66, (.bool true)), (80, undef)]) ⟨((hd 16 rfl _ _ rfl rfl).trans (congrArg _ hc54)), (hd 30 rfl _ _ rfl rfl), trivial⟩⟩ rfl rfl rfl rfl rfl
    intro a w56 f55 hN hds hb hr
    have h0_2 := h0_2.tr f55.tr0
    have h0_1 := h0_1.tr f55.tr0
    have hb2 := hb2.fr0 f55
    have T12 := T12.trans f55.tr0
    have T23 := T23.trans f55.tr0
    have hO := f55.ob hO
    have hF := hF.trans f55
    refine wq_go (E := [(1, (bp b2)), (43, (.slice A21 x0.fBoxes.length c22)), (44, (.int .i64 (x0.fBoxes.length : Int))), (45, (.int .i64 (i24 : Int))), (81, (.bool true))]) hN hds ⟨hb 1 _ rfl rfl, hb 43 _ rfl rfl, hb 44 _ rfl rfl, hb 45 _ rfl rfl, (hr 31 _ _ rfl rfl), trivial⟩ ?_
    refine wq_seq ?_
    refine wc_true rfl ?_
    refine wc_seq ?_
    refine wc_region (l := [0]) rfl ?_
    refine wo_seg Θ_ok [0] [(2, (.bool false))] rfl ⟨rfl, trivial⟩ ?_
    refine wo_nil ?_
    refine wq_seq ?_
    refine wc_ret ?_
    cases h
    exact wq_block_ret (wq_then_ret (wq_then_ret (wq_block_ret (wq_then_ret (wq_ret rfl ⟨_, rfl, (bool_is.2 rfl), hF⟩)))))
  rcases bif_some h with ⟨hc57, h⟩ | ⟨hc57, h⟩
  rotate_left
  · refine wc_draw mixed [⟨50, [], [6]⟩, ⟨51, [0], []⟩, ⟨52, [1], []⟩, ⟨53, [2], []⟩, ⟨54, [3], []⟩, ⟨55, [4], [6]⟩, ⟨56, [4, 5], []⟩, ⟨57, [4, 6], []⟩, ⟨58, [4, 7], []⟩, ⟨59, [4, 8], []⟩, ⟨60, [9], []⟩, ⟨61, [10], [6]⟩, ⟨62, [10, 11], []⟩, ⟨63, [10, 12], []⟩, ⟨64, [10, 13], []⟩, ⟨65, [10, 14], []⟩, ⟨66, [15], []⟩, ⟨67, [16], [5]⟩, ⟨68, [16, 17], []⟩, ⟨69, [16, 18], []⟩, ⟨70, [19], [1]⟩, ⟨71, [19, 20], []⟩, ⟨72, [19], [5]⟩, ⟨73, [19, 22], []⟩, ⟨74, [19, 21, 23], []⟩, ⟨75, [19, 24], []⟩, ⟨76, [19, 25], []⟩, ⟨77, [19], [6]⟩, ⟨78, [19, 27], []⟩, ⟨79, [19, 26, 28], []⟩, ⟨80, [16, 19, 29], []⟩, ⟨81, [16, 30], []⟩] [SP.eq (bp b41), SP.eq (.int .u64 z26.fPid), SP.eq (.bool ((r_Pid z26.fPid))), SP.eq (.bool (!(r_Pid z26.fPid))), SP.eq (.bool (!(r_Pid z26.fPid))), SP.eq (.pointer (some ⟨b41, 1, none⟩)), SP.eq (.slice A44 z26.fWords.length c45), SP.eq (.int .i64 (z26.fWords.length : Int)), SP.eq (.bool ((z26.fWords.length : Int) == (0 : Int))), SP.eq (.bool ((z26.fWords.length : Int) == (0 : Int))), SP.eq (.bool ((z26.fWords.length : Int) == (0 : Int))), SP.eq (.pointer (some ⟨b41, 1, none⟩)), SP.eq (.slice A44 z26.fWords.length c45), SP.eq (.int .i64 (z26.fWords.length : Int)), SP.eq (.bool (decide ((z26.fWords.length : Int) > (4 : Int)))), SP.eq (.bool (decide ((z26.fWords.length : Int) > (4 : Int)))), SP.eq (.bool (decide ((z26.fWords.length : Int) > (4 : Int)))), SP.eq (.int .i64 (i24 : Int)), SP.eq (.bool (decide ((i24 : Int) > (0 : Int)))), SP.eq (.bool (decide ((i24 : Int) > (0 : Int)))), SP.eq undef, SP.eq undef, SP.eq undef, SP.eq undef, SP.eq undef, SP.eq undef, SP.eq undef, SP.eq undef, SP.eq undef, SP.eq undef, SP.eq (.bool false), SP.eq (.bool false)] rfl rfl rfl ⟨?_, ?_, ?_, ?_, ?_, ?_, ?_, ?_, ?_, ?_, ?_, ?_, ?_, ?_, ?_, ?_, ?_, ?_, ?_, ?_, ?_, ?_, ?_, ?_, ?_, ?_, ?_, ?_, ?_, ?_, ?_, ?_, trivial⟩ ?_
    · intro a w2 hfr hN hds hb hd
      exact op_plain Θ_ok ⟨hN, hds, rows_get (E := [(6, (bp b41))]) ⟨hb 6 rfl _ rfl, trivial⟩⟩ rfl rfl rfl rfl rfl
    · intro a w2 hfr hN hds hb hd
      have hb41 := hb41.fr0 hfr
      exact op_load Θ_ok ⟨hN, hds, rows_get (E := [(50, (bp b41))]) ⟨(hd 0 rfl _ _ rfl rfl), trivial⟩⟩ rfl rfl rfl rfl rfl rfl hb41 [(.int .u64 z26.fPid)] rfl rfl (.inr rfl) (.int .u64 z26.fPid) rfl
    · intro a w2 hfr hN hds hb hd
      exact (op_call ⟨hN, hds, rows_get (E := [(51, (.int .u64 z26.fPid))]) ⟨(hd 1 rfl _ _ rfl rfl), trivial⟩⟩ rfl rfl rfl rfl ent26 rfl (r_Pid_c (hfr.ob hO) (int_is.2 rfl))).weaken (fun u w3 ⟨hu, hf⟩ => ⟨bool_is.1 hu, hf⟩)
    · intro a w2 hfr hN hds hb hd
      exact op_plain Θ_ok ⟨hN, hds, rows_get (E := [(52, (.bool ((r_Pid z26.fPid))))]) ⟨(hd 2 rfl _ _ rfl rfl), trivial⟩⟩ rfl rfl rfl rfl rfl
    · intro a w2 hfr hN hds hb hd
      exact op_plain Θ_ok ⟨hN, hds, rows_get (E := [(53, (.bool (!(r_Pid z26.fPid))))]) ⟨(hd 3 rfl _ _ rfl rfl), trivial⟩⟩ rfl rfl rfl rfl rfl
    · intro a w2 hfr hN hds hb hd
      exact op_plain Θ_ok ⟨hN, hds, rows_get (E := [(6, (bp b41)), (54, (.bool false))]) ⟨hb 6 rfl _ rfl, ((hd 4 rfl _ _ rfl rfl).trans (congrArg _ hc48)), trivial⟩⟩ rfl rfl rfl rfl rfl
    · intro a w2 hfr hN hds hb hd
      have hb41 := hb41.fr0 hfr
      exact op_load Θ_ok ⟨hN, hds, rows_get (E := [(54, (.bool false)), (55, (.pointer (some ⟨b41, 1, none⟩)))]) ⟨((hd 4 rfl _ _ rfl rfl).trans (congrArg _ hc48)), (hd 5 rfl _ _ rfl rfl), trivial⟩⟩ rfl rfl rfl rfl rfl rfl hb41 [(.slice A44 z26.fWords.length c45)] rfl rfl (.inr rfl) (.slice A44 z26.fWords.length c45) rfl
    · intro a w2 hfr hN hds hb hd
      have h40 := h40.tr hfr.tr0
      exact op_plain Θ_ok ⟨hN, hds, rows_get (E := [(54, (.bool false)), (56, (.slice A44 z26.fWords.length c45))]) ⟨((hd 4 rfl _ _ rfl rfl).trans (congrArg _ hc48)), (hd 6 rfl _ _ rfl rfl), trivial⟩⟩ rfl rfl rfl rfl rfl
    · intro a w2 hfr hN hds hb hd
      exact op_plain Θ_ok ⟨hN, hds, rows_get (E := [(54, (.bool false)), (57, (.int .i64 (z26.fWords.length : Int)))]) ⟨((hd 4 rfl _ _ rfl rfl).trans (congrArg _ hc48)), (hd 7 rfl _ _ rfl rfl), trivial⟩⟩ rfl rfl rfl rfl rfl
    · intro a w2 hfr hN hds hb hd
      exact op_plain Θ_ok ⟨hN, hds, rows_get (E := [(54, (.bool false)), (58, (.bool ((z26.fWords.length : Int) == (0 : Int))))]) ⟨((hd 4 rfl _ _ rfl rfl).trans (congrArg _ hc48)), (hd 8 rfl _ _ rfl rfl), trivial⟩⟩ rfl rfl rfl rfl rfl
    · intro a w2 hfr hN hds hb hd
      exact op_plain Θ_ok ⟨hN, hds, rows_get (E := [(59, (.bool ((z26.fWords.length : Int) == (0 : Int))))]) ⟨(hd 9 rfl _ _ rfl rfl), trivial⟩⟩ rfl rfl rfl rfl rfl
    · intro a w2 hfr hN hds hb hd
      exact op_plain Θ_ok ⟨hN, hds, rows_get (E := [(6, (bp b41)), (60, (.bool false))]) ⟨hb 6 rfl _ rfl, ((hd 10 rfl _ _ rfl rfl).trans (congrArg _ hc51)), trivial⟩⟩ rfl rfl rfl rfl rfl
    · intro a w2 hfr hN hds hb hd
      have hb41 := hb41.fr0 hfr
      exact op_load Θ_ok ⟨hN, hds, rows_get (E := [(60, (.bool false)), (61, (.pointer (some ⟨b41, 1, none⟩)))]) ⟨((hd 10 rfl _ _ rfl rfl).trans (congrArg _ hc51)), (hd 11 rfl _ _ rfl rfl), trivial⟩⟩ rfl rfl rfl rfl rfl rfl hb41 [(.slice A44 z26.fWords.length c45)] rfl rfl (.inr rfl) (.slice A44 z26.fWords.length c45) rfl
    · intro a w2 hfr hN hds hb hd
      have h40 := h40.tr hfr.tr0
      exact op_plain Θ_ok ⟨hN, hds, rows_get (E := [(60, (.bool false)), (62, (.slice A44 z26.fWords.length c45))]) ⟨((hd 10 rfl _ _ rfl rfl).trans (congrArg _ hc51)), (hd 12 rfl _ _ rfl rfl), trivial⟩⟩ rfl rfl rfl rfl rfl
    · intro a w2 hfr hN hds hb hd
      exact op_plain Θ_ok ⟨hN, hds, rows_get (E := [(60, (.bool false)), (63, (.int .i64 (z26.fWords.length : Int)))]) ⟨((hd 10 rfl _ _ rfl rfl).trans (congrArg _ hc51)), (hd 13 rfl _ _ rfl rfl), trivial⟩⟩ rfl rfl rfl rfl rfl
    · intro a w2 hfr hN hds hb hd
      exact op_plain Θ_ok ⟨hN, hds, rows_get (E := [(60, (.bool false)), (64, (.bool (decide ((z26.fWords.length : Int) > (4 : Int)))))]) ⟨((hd 10 rfl _ _ rfl rfl).trans (congrArg _ hc51)), (hd 14 rfl _ _ rfl rfl), trivial⟩⟩ rfl rfl rfl rfl rfl
    · intro a w2 hfr hN hds hb hd
      exact op_plain Θ_ok ⟨hN, hds, rows_get (E := [(65, (.bool (decide ((z26.fWords.length : Int) > (4 : Int)))))]) ⟨(hd 15 rfl _ _ rfl rfl), trivial⟩⟩ rfl rfl rfl rfl rfl
    · intro a w2 hfr hN hds hb hd
      exact op_plain Θ_ok ⟨hN, hds, rows_get (E := [(5, (.int .i64 (i24 : Int))), (66, (.bool false))]) ⟨hb 5 rfl _ rfl, ((hd 16 rfl _ _ rfl rfl).trans (congrArg _ hc54)), trivial⟩⟩ rfl rfl rfl rfl rfl
    · intro a w2 hfr hN hds hb hd
      exact op_plain Θ_ok ⟨hN, hds, rows_get (E := [(66, (.bool false)), (67, (.int .i64 (i24 : Int)))]) ⟨((hd 16 rfl _ _ rfl rfl).trans (congrArg _ hc54)), (hd 17 rfl _ _ rfl rfl), trivial⟩⟩ rfl rfl rfl rfl rfl
    · intro a w2 hfr hN hds hb hd
      exact op_plain Θ_ok ⟨hN, hds, rows_get (E := [(66, (.bool false)), (68, (.bool (decide ((i24 : Int) > (0 : Int)))))]) ⟨((hd 16 rfl _ _ rfl rfl).trans (congrArg _ hc54)), (hd 18 rfl _ _ rfl rfl), trivial⟩⟩ rfl rfl rfl rfl rfl
    · intro a w2 hfr hN hds hb hd
      exact op_skip ⟨hN, hds, rows_get (E := [(1, (bp b2)), (69, (.bool false))]) ⟨hb 1 rfl _ rfl, ((hd 19 rfl _ _ rfl rfl).trans (congrArg _ hc57)), trivial⟩⟩ rfl rfl rfl
    · intro a w2 hfr hN hds hb hd
      exact op_skip ⟨hN, hds, rows_get (E := [(69, (.bool false)), (70, undef)]) ⟨((hd 19 rfl _ _ rfl rfl).trans (congrArg _ hc57)), (hd 20 rfl _ _ rfl rfl), trivial⟩⟩ rfl rfl rfl
    · intro a w2 hfr hN hds hb hd
      exact op_skip ⟨hN, hds, rows_get (E := [(5, (.int .i64 (i24 : Int))), (69, (.bool false))]) ⟨hb 5 rfl _ rfl, ((hd 19 rfl _ _ rfl rfl).trans (congrArg _ hc57)), trivial⟩⟩ rfl rfl rfl
    · intro a w2 hfr hN hds hb hd
      exact op_skip ⟨hN, hds, rows_get (E := [(69, (.bool false)), (72, undef)]) ⟨((hd 19 rfl _ _ rfl rfl).trans (congrArg _ hc57)), (hd 22 rfl _ _ rfl rfl), trivial⟩⟩ rfl rfl rfl
    · intro a w2 hfr hN hds hb hd
      exact op_skip ⟨hN, hds, rows_get (E := [(69, (.bool false)), (71, undef), (73, undef)]) ⟨((hd 19 rfl _ _ rfl rfl).trans (congrArg _ hc57)), (hd 21 rfl _ _ rfl rfl), (hd 23 rfl _ _ rfl rfl), trivial⟩⟩ rfl rfl rfl
    · intro a w2 hfr hN hds hb hd
      exact op_skip ⟨hN, hds, rows_get (E := [(69, (.bool false)), (74, undef)]) ⟨((hd 19 rfl _ _ rfl rfl).trans (congrArg _ hc57)), (hd 24 rfl _ _ rfl rfl), trivial⟩⟩ rfl rfl rfl
    · intro a w2 hfr hN hds hb hd
      exact op_skip ⟨hN, hds, rows_get (E := [(69, (.bool false)), (75, undef)]) ⟨((hd 19 rfl _ _ rfl rfl).trans (congrArg _ hc57)), (hd 25 rfl _ _ rfl rfl), trivial⟩⟩ rfl rfl rfl
    · intro a w2 hfr hN hds hb hd
      exact op_skip ⟨hN, hds, rows_get (E := [(6, (bp b41)), (69, (.bool false))]) ⟨hb 6 rfl _ rfl, ((hd 19 rfl _ _ rfl rfl).trans (congrArg _ hc57)), trivial⟩⟩ rfl rfl rfl
    · intro a w2 hfr hN hds hb hd
      exact op_skip ⟨hN, hds, rows_get (E := [(69, (.bool false)), (77, undef)]) ⟨((hd 19 rfl _ _ rfl rfl).trans (congrArg _ hc57)), (hd 27 rfl _ _ rfl rfl), trivial⟩⟩ rfl rfl rfl
    · intro a w2 hfr hN hds hb hd
      exact op_skip ⟨hN, hds, rows_get (E := [(69, (.bool false)), (76, undef), (78, undef)]) ⟨((hd 19 rfl _ _ rfl rfl).trans (congrArg _ hc57)), (hd 26 rfl _ _ rfl rfl), (hd 28 rfl _ _ rfl rfl), trivial⟩⟩ rfl rfl rfl
    · intro a w2 hfr hN hds hb hd
      exact op_plain Θ_ok ⟨hN, hds, rows_get (E := [(66, (.bool false)), (69, (.bool false)), (79, undef)]) ⟨((hd 16 rfl _ _ rfl rfl).trans (congrArg _ hc54)), ((hd 19 rfl _ _ rfl rfl).trans (congrArg _ hc57)), (hd 29 rfl _ _ rfl rfl), trivial⟩⟩ rfl rfl rfl rfl rfl
    · intro a w2 hfr hN hds hb hd
      exact op_plain Θ_ok ⟨hN, hds, rows_get (E := [(66, (.bool false)), (80, (.bool false))]) ⟨((hd 16 rfl _ _ rfl rfl).trans (congrArg _ hc54)), (hd 30 rfl _ _ rfl rfl), trivial⟩⟩ rfl rfl rfl rfl rfl
    intro a w72 f71 hN hds hb hr
    have h0_2 := h0_2.tr f71.tr0
    have h0_1 := h0_1.tr f71.tr0
    have hb2 := hb2.fr0 f71
    have T12 := T12.trans f71.tr0
    have T23 := T23.trans f71.tr0
    have hO := f71.ob hO
    have hF := hF.trans f71
    refine wq_go (E := [(1, (bp b2)), (43, (.slice A21 x0.fBoxes.length c22)), (44, (.int .i64 (x0.fBoxes.length : Int))), (45, (.int .i64 (i24 : Int))), (81, (.bool false))]) hN hds ⟨hb 1 _ rfl rfl, hb 43 _ rfl rfl, hb 44 _ rfl rfl, hb 45 _ rfl rfl, (hr 31 _ _ rfl rfl), trivial⟩ ?_
    refine wq_seq ?_
    refine wc_false rfl ?_
    refine wc_skip ?_
    refine wq_block (wq_seq ?_)
    refine wc_region (l := [0, 1]) rfl ?_
    refine wo_seg Θ_ok [0, 1] [(1, (bp b2)), (43, (.slice A21 x0.fBoxes.length c22)), (44, (.int .i64 (x0.fBoxes.length : Int))), (45, (.int .i64 (IntKind.i64.wrap ((i24 : Int) + (1 : Int)))))] rfl ⟨rfl, rfl, rfl, rfl, trivial⟩ ?_
    refine wo_nil ?_
    exact wq_next rest25.length [(1, (bp b2)), (43, (.slice A21 x0.fBoxes.length c22)), (44, (.int .i64 (x0.fBoxes.length : Int))), (45, (.int .i64 ((i24 + 1 : Nat) : Int)))] (Nat.lt_succ_self _) ⟨rfl, rfl, rfl, congrArg (fun z => some (Value.int .i64 z)) (wrap_succ hl34 (Nat.le_trans hlc22 hmc22)), trivial⟩ ⟨rest25, i24 + 1, b41 :: O28, rfl, hd27, rfl, T23, hO, hS, hF, ib2, hb2, h⟩
  obtain ⟨y58, hz59, h⟩ := bind_some h
  refine wc_draw mixed [⟨50, [], [6]⟩, ⟨51, [0], []⟩, ⟨52, [1], []⟩, ⟨53, [2], []⟩, ⟨54, [3], []⟩, ⟨55, [4], [6]⟩, ⟨56, [4, 5], []⟩, ⟨57, [4, 6], []⟩, ⟨58, [4, 7], []⟩, ⟨59, [4, 8], []⟩, ⟨60, [9], []⟩, ⟨61, [10], [6]⟩, ⟨62, [10, 11], []⟩, ⟨63, [10, 12], []⟩, ⟨64, [10, 13], []⟩, ⟨65, [10, 14], []⟩, ⟨66, [15], []⟩, ⟨67, [16], [5]⟩, ⟨68, [16, 17], []⟩, ⟨69, [16, 18], []⟩, ⟨70, [19], [1]⟩, ⟨71, [19, 20], []⟩, ⟨72, [19], [5]⟩, ⟨73, [19, 22], []⟩, ⟨74, [19, 21, 23], []⟩, ⟨75, [19, 24], []⟩, ⟨76, [19, 25], []⟩, ⟨77, [19], [6]⟩, ⟨78, [19, 27], []⟩, ⟨79, [19, 26, 28], []⟩, ⟨80, [16, 19, 29], []⟩, ⟨81, [16, 30], []⟩] [SP.eq (bp b41), SP.eq (.int .u64 z26.fPid), SP.eq (.bool ((r_Pid z26.fPid))), SP.eq (.bool (!(r_Pid z26.fPid))), SP.eq (.bool (!(r_Pid z26.fPid))), SP.eq (.pointer (some ⟨b41, 1, none⟩)), SP.eq (.slice A44 z26.fWords.length c45), SP.eq (.int .i64 (z26.fWords.length : Int)), SP.eq (.bool ((z26.fWords.length : Int) == (0 : Int))), SP.eq (.bool ((z26.fWords.length : Int) == (0 : Int))), SP.eq (.bool ((z26.fWords.length : Int) == (0 : Int))), SP.eq (.pointer (some ⟨b41, 1, none⟩)), SP.eq (.slice A44 z26.fWords.length c45), SP.eq (.int .i64 (z26.fWords.length : Int)), SP.eq (.bool (decide ((z26.fWords.length : Int) > (4 : Int)))), SP.eq (.bool (decide ((z26.fWords.length : Int) > (4 : Int)))), SP.eq (.bool (decide ((z26.fWords.length : Int) > (4 : Int)))), SP.eq (.int .i64 (i24 : Int)), SP.eq (.bool (decide ((i24 : Int) > (0 : Int)))), SP.eq (.bool (decide ((i24 : Int) > (0 : Int)))), SP.eq (.pointer (some ⟨b2, 1, none⟩)), SP.eq (.slice A21 x0.fBoxes.length c22), SP.eq (.int .i64 (i24 : Int)), SP.eq (.int .i64 (IntKind.i64.wrap ((i24 : Int) - (1 : Int)))), SP.is (Ty.ptr tGBox) (b41 :: O28) y58, SP.is (Ty.ptr (Ty.int .u64)) (b41 :: O28) y58.fPid, SP.eq (.int .u64 y58.fPid), SP.eq (bp b41), SP.eq (.int .u64 z26.fPid), SP.eq (.bool (decide (y58.fPid ≥ z26.fPid))), SP.eq (.bool (decide (y58.fPid ≥ z26.fPid))), SP.eq (.bool (decide (y58.fPid ≥ z26.fPid)))] rfl rfl rfl ⟨?_, ?_, ?_, ?_, ?_, ?_, ?_, ?_, ?_, ?_, ?_, ?_, ?_, ?_, ?_, ?_, ?_, ?_, ?_, ?_, ?_, ?_, ?_, ?_, ?_, ?_, ?_, ?_, ?_, ?_, ?_, ?_, trivial⟩ ?_
  · intro a w2 hfr hN hds hb hd
    exact op_plain Θ_ok ⟨hN, hds, rows_get (E := [(6, (bp b41))]) ⟨hb 6 rfl _ rfl, trivial⟩⟩ rfl rfl rfl rfl rfl
  · intro a w2 hfr hN hds hb hd
    have hb41 := hb41.fr0 hfr
    exact op_load Θ_ok ⟨hN, hds, rows_get (E := [(50, (bp b41))]) ⟨(hd 0 rfl _ _ rfl rfl), trivial⟩⟩ rfl rfl rfl rfl rfl rfl hb41 [(.int .u64 z26.fPid)] rfl rfl (.inr rfl) (.int .u64 z26.fPid) rfl
  · intro a w2 hfr hN hds hb hd
    exact (op_call ⟨hN, hds, rows_get (E := [(51, (.int .u64 z26.fPid))]) ⟨(hd 1 rfl _ _ rfl rfl), trivial⟩⟩ rfl rfl rfl rfl ent26 rfl (r_Pid_c (hfr.ob hO) (int_is.2 rfl))).weaken (fun u w3 ⟨hu, hf⟩ => ⟨bool_is.1 hu, hf⟩)
  · intro a w2 hfr hN hds hb hd
    exact op_plain Θ_ok ⟨hN, hds, rows_get (E := [(52, (.bool ((r_Pid z26.fPid))))]) ⟨(hd 2 rfl _ _ rfl rfl), trivial⟩⟩ rfl rfl rfl rfl rfl
  · intro a w2 hfr hN hds hb hd
    exact op_plain Θ_ok ⟨hN, hds, rows_get (E := [(53, (.bool (!(r_Pid z26.fPid))))]) ⟨(hd 3 rfl _ _ rfl rfl), trivial⟩⟩ rfl rfl rfl rfl rfl
  · intro a w2 hfr hN hds hb hd
    exact op_plain Θ_ok ⟨hN, hds, rows_get (E := [(6, (bp b41)), (54, (.bool false))]) ⟨hb 6 rfl _ rfl, ((hd 4 rfl _ _ rfl rfl).trans (congrArg _ hc48)), trivial⟩⟩ rfl rfl rfl rfl rfl
  · intro a w2 hfr hN hds hb hd
    have hb41 := hb41.fr0 hfr
    exact op_load Θ_ok ⟨hN, hds, rows_get (E := [(54, (.bool false)), (55, (.pointer (some ⟨b41, 1, none⟩)))]) ⟨((hd 4 rfl _ _ rfl rfl).trans (congrArg _ hc48)), (hd 5 rfl _ _ rfl rfl), trivial⟩⟩ rfl rfl rfl rfl rfl rfl hb41 [(.slice A44 z26.fWords.length c45)] rfl rfl (.inr rfl) (.slice A44 z26.fWords.length c45) rfl
  · intro a w2 hfr hN hds hb hd
    have h40 := h40.tr hfr.tr0
    exact op_plain Θ_ok ⟨hN, hds, rows_get (E := [(54, (.bool false)), (56, (.slice A44 z26.fWords.length c45))]) ⟨((hd 4 rfl _ _ rfl rfl).trans (congrArg _ hc48)), (hd 6 rfl _ _ rfl rfl), trivial⟩⟩ rfl rfl rfl rfl rfl
  · intro a w2 hfr hN hds hb hd
    exact op_plain Θ_ok ⟨hN, hds, rows_get (E := [(54, (.bool false)), (57, (.int .i64 (z26.fWords.length : Int)))]) ⟨((hd 4 rfl _ _ rfl rfl).trans (congrArg _ hc48)), (hd 7 rfl _ _ rfl rfl), trivial⟩⟩ rfl rfl rfl rfl rfl
  · intro a w2 hfr hN hds hb hd
    exact op_plain Θ_ok ⟨hN, hds, rows_get (E := [(54, (.bool false)), (58, (.bool ((z26.fWords.length : Int) == (0 : Int))))]) ⟨((hd 4 rfl _ _ rfl rfl).trans (congrArg _ hc48)), (hd 8 rfl _ _ rfl rfl), trivial⟩⟩ rfl rfl rfl rfl rfl
  · intro a w2 hfr hN hds hb hd
    exact op_plain Θ_ok ⟨hN, hds, rows_get (E := [(59, (.bool ((z26.fWords.length : Int) == (0 : Int))))]) ⟨(hd 9 rfl _ _ rfl rfl), trivial⟩⟩ rfl rfl rfl rfl rfl
  · intro a w2 hfr hN hds hb hd
    exact op_plain Θ_ok ⟨hN, hds, rows_get (E := [(6, (bp b41)), (60, (.bool false))]) ⟨hb 6 rfl _ rfl, ((hd 10 rfl _ _ rfl rfl).trans (congrArg _ hc51)), trivial⟩⟩ rfl rfl rfl rfl rfl
  · intro a w2 hfr hN hds hb hd
    have hb41 := hb41.fr0 hfr
    exact op_load Θ_ok ⟨hN, hds, rows_get (E := [(60, (.bool false)), (61, (.pointer (some ⟨b41, 1, none⟩)))]) ⟨((hd 10 rfl _ _ rfl rfl).trans (congrArg _ hc51)), (hd 11 rfl _ _ rfl rfl), trivial⟩⟩ rfl rfl rfl rfl rfl rfl hb41 [(.slice A44 z26.fWords.length c45)] rfl rfl (.inr rfl) (.slice A44 z26.fWords.length c45) rfl
  · intro a w2 hfr hN hds hb hd
    have h40 := h40.tr hfr.tr0
    exact op_plain Θ_ok ⟨hN, hds, rows_get (E := [(60, (.bool false)), (62, (.slice A44 z26.fWords.length c45))]) ⟨((hd 10 rfl _ _ rfl rfl).trans (congrArg _ hc51)), (hd 12 rfl _ _ rfl rfl), trivial⟩⟩ rfl rfl rfl rfl rfl
  · intro a w2 hfr hN hds hb hd
    exact op_plain Θ_ok ⟨hN, hds, rows_get (E := [(60, (.bool false)), (63, (.int .i64 (z26.fWords.length : Int)))]) ⟨((hd 10 rfl _ _ rfl rfl).trans (congrArg _ hc51)), (hd 13 rfl _ _ rfl rfl), trivial⟩⟩ rfl rfl rfl rfl rfl
  · intro a w2 hfr hN hds hb hd
    exact op_plain Θ_ok ⟨hN, hds, rows_get (E := [(60, (.bool false)), (64, (.bool (decide ((z26.fWords.length : Int) > (4 : Int)))))]) ⟨((hd 10 rfl _ _ rfl rfl).trans (congrArg _ hc51)), (hd 14 rfl _ _ rfl rfl), trivial⟩⟩ rfl rfl rfl rfl rfl
  · intro a w2 hfr hN hds hb hd
    exact op_plain Θ_ok ⟨hN, hds, rows_get (E := [(65, (.bool (decide ((z26.fWords.length : Int) > (4 : Int)))))]) ⟨(hd 15 rfl _ _ rfl rfl), trivial⟩⟩ rfl rfl rfl rfl rfl
  · intro a w2 hfr hN hds hb hd
    exact op_plain Θ_ok ⟨hN, hds, rows_get (E := [(5, (.int .i64 (i24 : Int))), (66, (.bool false))]) ⟨hb 5 rfl _ rfl, ((hd 16 rfl _ _ rfl rfl).trans (congrArg _ hc54)), trivial⟩⟩ rfl rfl rfl rfl rfl
  · intro a w2 hfr hN hds hb hd
    exact op_plain Θ_ok ⟨hN, hds, rows_get (E := [(66, (.bool false)), (67, (.int .i64 (i24 : Int)))]) ⟨((hd 16 rfl _ _ rfl rfl).trans (congrArg _ hc54)), (hd 17 rfl _ _ rfl rfl), trivial⟩⟩ rfl rfl rfl rfl rfl
  · intro a w2 hfr hN hds hb hd
    exact op_plain Θ_ok ⟨hN, hds, rows_get (E := [(66, (.bool false)), (68, (.bool (decide ((i24 : Int) > (0 : Int)))))]) ⟨((hd 16 rfl _ _ rfl rfl).trans (congrArg _ hc54)), (hd 18 rfl _ _ rfl rfl), trivial⟩⟩ rfl rfl rfl rfl rfl
  · intro a w2 hfr hN hds hb hd
    exact op_plain Θ_ok ⟨hN, hds, rows_get (E := [(1, (bp b2)), (69, (.bool true))]) ⟨hb 1 rfl _ rfl, ((hd 19 rfl _ _ rfl rfl).trans (congrArg _ hc57)), trivial⟩⟩ rfl rfl rfl rfl rfl
  · intro a w2 hfr hN hds hb hd
    have hb2 := hb2.fr0 hfr
    exact op_load Θ_ok ⟨hN, hds, rows_get (E := [(69, (.bool true)), (70, (.pointer (some ⟨b2, 1, none⟩)))]) ⟨((hd 19 rfl _ _ rfl rfl).trans (congrArg _ hc57)), (hd 20 rfl _ _ rfl rfl), trivial⟩⟩ rfl rfl rfl rfl rfl rfl hb2 [(.slice A21 x0.fBoxes.length c22)] rfl rfl (.inr rfl) (.slice A21 x0.fBoxes.length c22) rfl
  · intro a w2 hfr hN hds hb hd
    exact op_plain Θ_ok ⟨hN, hds, rows_get (E := [(5, (.int .i64 (i24 : Int))), (69, (.bool true))]) ⟨hb 5 rfl _ rfl, ((hd 19 rfl _ _ rfl rfl).trans (congrArg _ hc57)), trivial⟩⟩ rfl rfl rfl rfl rfl
  · intro a w2 hfr hN hds hb hd
    exact op_plain Θ_ok ⟨hN, hds, rows_get (E := [(69, (.bool true)), (72, (.int .i64 (i24 : Int)))]) ⟨((hd 19 rfl _ _ rfl rfl).trans (congrArg _ hc57)), (hd 22 rfl _ _ rfl rfl), trivial⟩⟩ rfl rfl rfl rfl rfl
  · intro a w2 hfr hN hds hb hd
    have h0_2 := h0_2.tr hfr.tr0
    exact op_index (j := (IntKind.i64.wrap ((i24 : Int) - (1 : Int)))) Θ_ok ⟨hN, hds, rows_get (E := [(69, (.bool true)), (71, (.slice A21 x0.fBoxes.length c22)), (73, (.int .i64 (IntKind.i64.wrap ((i24 : Int) - (1 : Int)))))]) ⟨((hd 19 rfl _ _ rfl rfl).trans (congrArg _ hc57)), (hd 21 rfl _ _ rfl rfl), (hd 23 rfl _ _ rfl rfl), trivial⟩⟩ rfl rfl rfl rfl rfl rfl rfl rfl rfl h0_2 rfl (idx_some hz59).1 (idx_some hz59).2
  · intro a w2 hfr hN hds hb hd
    have d62 : (Ty.ptr tGBox).is (b41 :: O28) w2 (a.tmps.getD 74 undef) y58 := hd 24 rfl _ _ rfl rfl
    obtain ⟨u60, e61⟩ : ∃ v, a.tmps.getD 74 undef = v := ⟨_, rfl⟩
    rw [e61] at d62
    obtain ⟨ad63, rfl⟩ := ptr_form d62
    have h64 := ptr_sub (S := (Ty.int .u64)) (off := 0) (y := y58.fPid) d62 (fun cs hr => by obtain ⟨z0, rfl, y0⟩ := tGBox_rep hr; exact rfl)
    exact (op_plain (v := (.pointer (some (ad63.add 0)))) Θ_ok ⟨hN, hds, rows_get (E := [(69, (.bool true)), (74, (.pointer (some ad63)))]) ⟨((hd 19 rfl _ _ rfl rfl).trans (congrArg _ hc57)), e61, trivial⟩⟩ rfl rfl rfl rfl rfl).weaken (fun u w3 ⟨hu, hf⟩ => by subst hu; exact ⟨h64.tr hf.tr0, hf⟩)
  · intro a w2 hfr hN hds hb hd
    have d67 : (Ty.ptr (Ty.int .u64)).is (b41 :: O28) w2 (a.tmps.getD 75 undef) y58.fPid := hd 25 rfl _ _ rfl rfl
    obtain ⟨u65, e66⟩ : ∃ v, a.tmps.getD 75 undef = v := ⟨_, rfl⟩
    rw [e66] at d67
    exact (op_loadp Θ_ok ⟨hN, hds, rows_get (E := [(69, (.bool true)), (75, u65)]) ⟨((hd 19 rfl _ _ rfl rfl).trans (congrArg _ hc57)), e66, trivial⟩⟩ rfl rfl rfl rfl rfl rfl d67 rfl rfl).weaken (fun u w3 ⟨hu, hf⟩ => ⟨int_is.1 hu, hf⟩)
  · intro a w2 hfr hN hds hb hd
    exact op_plain Θ_ok ⟨hN, hds, rows_get (E := [(6, (bp b41)), (69, (.bool true))]) ⟨hb 6 rfl _ rfl, ((hd 19 rfl _ _ rfl rfl).trans (congrArg _ hc57)), trivial⟩⟩ rfl rfl rfl rfl rfl
  · intro a w2 hfr hN hds hb hd
    have hb41 := hb41.fr0 hfr
    exact op_load Θ_ok ⟨hN, hds, rows_get (E := [(69, (.bool true)), (77, (bp b41))]) ⟨((hd 19 rfl _ _ rfl rfl).trans (congrArg _ hc57)), (hd 27 rfl _ _ rfl rfl), trivial⟩⟩ rfl rfl rfl rfl rfl rfl hb41 [(.int .u64 z26.fPid)] rfl rfl (.inr rfl) (.int .u64 z26.fPid) rfl
  · intro a w2 hfr hN hds hb hd
    exact op_plain Θ_ok ⟨hN, hds, rows_get (E := [(69, (.bool true)), (76, (.int .u64 y58.fPid)), (78, (.int .u64 z26.fPid))]) ⟨((hd 19 rfl _ _ rfl rfl).trans (congrArg _ hc57)), (hd 26 rfl _ _ rfl rfl), (hd 28 rfl _ _ rfl rfl), trivial⟩⟩ rfl rfl rfl rfl rfl
  · intro a w2 hfr hN hds hb hd
    exact op_plain Θ_ok ⟨hN, hds, rows_get (E := [(66, (.bool false)), (69, (.bool true)), (79, (.bool (decide (y58.fPid ≥ z26.fPid))))]) ⟨((hd 16 rfl _ _ rfl rfl).trans (congrArg _ hc54)), ((hd 19 rfl _ _ rfl rfl).trans (congrArg _ hc57)), (hd 29 rfl _ _ rfl rfl), trivial⟩⟩ rfl rfl rfl rfl rfl
  · intro a w2 hfr hN hds hb hd
    exact op_plain Θ_ok ⟨hN, hds, rows_get (E := [(66, (.bool false)), (80, (.bool (decide (y58.fPid ≥ z26.fPid))))]) ⟨((hd 16 rfl _ _ rfl rfl).trans (congrArg _ hc54)), (hd 30 rfl _ _ rfl rfl), trivial⟩⟩ rfl rfl rfl rfl rfl
  intro a w69 f68 hN hds hb hr
  have h0_2 := h0_2.tr f68.tr0
  have h0_1 := h0_1.tr f68.tr0
  have hb2 := hb2.fr0 f68
  have T12 := T12.trans f68.tr0
  have T23 := T23.trans f68.tr0
  have hO := f68.ob hO
  have hF := hF.trans f68
  refine wq_go (E := [(1, (bp b2)), (43, (.slice A21 x0.fBoxes.length c22)), (44, (.int .i64 (x0.fBoxes.length : Int))), (45, (.int .i64 (i24 : Int))), (81, (.bool (decide (y58.fPid ≥ z26.fPid))))]) hN hds ⟨hb 1 _ rfl rfl, hb 43 _ rfl rfl, hb 44 _ rfl rfl, hb 45 _ rfl rfl, (hr 31 _ _ rfl rfl), trivial⟩ ?_
  refine wq_seq ?_
  rcases bif_some h with ⟨hc70, h⟩ | ⟨hc70, h⟩
  rotate_left
  · refine wc_known_false rfl hc70 ?_
    refine wc_skip ?_
    refine wq_block (wq_seq ?_)
    refine wc_region (l := [0, 1]) rfl ?_
    refine wo_seg Θ_ok [0, 1] [(1, (bp b2)), (43, (.slice A21 x0.fBoxes.length c22)), (44, (.int .i64 (x0.fBoxes.length : Int))), (45, (.int .i64 (IntKind.i64.wrap ((i24 : Int) + (1 : Int)))))] rfl ⟨rfl, rfl, rfl, rfl, trivial⟩ ?_
    refine wo_nil ?_
    exact wq_next rest25.length [(1, (bp b2)), (43, (.slice A21 x0.fBoxes.length c22)), (44, (.int .i64 (x0.fBoxes.length : Int))), (45, (.int .i64 ((i24 + 1 : Nat) : Int)))] (Nat.lt_succ_self _) ⟨rfl, rfl, rfl, congrArg (fun z => some (Value.int .i64 z)) (wrap_succ hl34 (Nat.le_trans hlc22 hmc22)), trivial⟩ ⟨rest25, i24 + 1, b41 :: O28, rfl, hd27, rfl, T23, hO, hS, hF, ib2, hb2, h⟩
  refine wc_known_true rfl hc70 ?_
  refine wc_seq ?_
  refine wc_region (l := [0]) rfl ?_
  refine wo_seg Θ_ok [0] [(2, (.bool false))] rfl ⟨rfl, trivial⟩ ?_
  refine wo_nil ?_
  refine wq_seq ?_
  refine wc_ret ?_
  cases h
  exact wq_block_ret (wq_then_ret (wq_then_ret (wq_block_ret (wq_then_ret (wq_ret rfl ⟨_, rfl, (bool_is.2 rfl), hF⟩)))))
set_option maxRecDepth 100000 in
set_option maxHeartbeats 4000000 in
theorem l_Words_c {O : List Nat} {w : World} (hO : OB O w) {fuel : Nat} {v0 : Value} {x0 : GIpc} (h0 : tGIpc.is O w v0 x0) {v1 : Value} {x1 : List Int} (h1 : (Ty.slice (Ty.int .u64)).is O w v1 x1) {v2 : Value} {x2 : List Int} (h2 : (Ty.slice (Ty.int .u64)).is O w v2 x2) {r : Bool} (h : l_Words fuel x0 x1 x2 = some r) : Calls Try.prog 6 #[v0, v1, v2] w (Gives (rt1 Ty.bool) O w r) := by
  obtain ⟨v0_1, v0_2, rfl, h0_1, h0_2⟩ := tGIpc_is.1 h0
  have hF := Fr.refl [] w
  have hO0 := hO
  have hS := Sub.refl O
  refine calls_of (args := [(.agg #[v0_1, v0_2]), v1, v2]) (N := 161) Try.func6 rfl rfl rfl ?_
  unfold l_Words at h
  refine wc_seq ?_
  refine wc_region (l := [0, 1]) rfl ?_
  refine wo_box rfl rfl rfl rfl rfl rfl [v0_1, v0_2] rfl hO (fun b4 w5 n6 => ?_)
  have h1 := h1.tr n6.tr
  have h2 := h2.tr n6.tr
  have h0_1 := h0_1.tr n6.tr
  have h0_2 := h0_2.tr n6.tr
  have hb4 := n6.blk
  have gb4 := n6.ge0 hF
  have ib4 : b4 ∈ b4 :: O := List.mem_cons_self
  have hO := n6.ob
  have hF := hF.trans n6.fr
  have hS := Sub.cons hS b4
  refine wo_seg Θ_ok [1] [(1, v1), (2, v2), (3, (bp b4))] rfl ⟨rfl, rfl, rfl, trivial⟩ ?_
  refine wo_nil ?_
  refine wq_seq ?_
  refine wc_seq ?_
  refine wc_seq ?_
  refine wc_region (l := [0, 1]) rfl ?_
  obtain ⟨y11, hy12, h⟩ := bind_some h
  refine wo_gives rfl rfl rfl rfl rfl ent7 rfl (wakes_c hO hy12) (fun v7 w8 h9 f10 => ?_)
  have h1 := h1.tr f10.tr0
  have h2 := h2.tr f10.tr0
  have h0_1 := h0_1.tr f10.tr0
  have h0_2 := h0_2.tr f10.tr0
  have hb4 := hb4.fr0 f10
  have hO := f10.ob hO
  have hF := hF.trans f10
  obtain rfl := bool_is.1 h9
  refine wo_seg Θ_ok [1] [(1, v1), (2, v2), (3, (bp b4)), (29, (.bool (!y11)))] rfl ⟨rfl, rfl, rfl, rfl, trivial⟩ ?_
  refine wo_nil ?_
  refine wq_seq ?_
  rcases bif_some h with ⟨hc13, h⟩ | ⟨hc13, h⟩
  · refine wc_known_true rfl hc13 ?_
    refine wc_seq ?_
    refine wc_region (l := [0]) rfl ?_
    refine wo_seg Θ_ok [0] [(6, (.bool false))] rfl ⟨rfl, trivial⟩ ?_
    refine wo_nil ?_
    refine wq_seq ?_
    refine wc_ret ?_
    cases h
    exact wq_then_ret (wq_ret rfl ⟨_, rfl, (bool_is.2 rfl), hF⟩)
  refine wc_known_false rfl hc13 ?_
  refine wc_skip ?_
  refine wq_seq ?_
  refine wc_seq ?_
  refine wc_region (l := [0, 1, 2, 3]) rfl ?_
  refine wo_load Θ_ok rfl rfl rfl rfl rfl rfl rfl hb4 [v0_1, v0_2] rfl rfl (.inl rfl) (.agg #[v0_1, v0_2]) rfl ?_
  obtain ⟨y18, hy19, h⟩ := bind_some h
  refine wo_gives rfl rfl rfl rfl rfl ent8 rfl (own_c hO ((tGIpc_is (x := x0)).2 ⟨_, _, rfl, h0_1, h0_2⟩) hy19) (fun v14 w15 h16 f17 => ?_)
  have h1 := h1.tr f17.tr0
  have h2 := h2.tr f17.tr0
  have h0_1 := h0_1.tr f17.tr0
  have h0_2 := h0_2.tr f17.tr0
  have hb4 := hb4.fr0 f17
  have hO := f17.ob hO
  have hF := hF.trans f17
  obtain ⟨v20, v22, rfl, h21, h23⟩ := tGIpc_is.1 h16
  refine wo_alloc Θ_ok rfl rfl rfl rfl rfl rfl [(.slice none 0 0), (.slice none 0 0)] rfl hO (fun b24 w25 n26 => ?_)
  have h1 := h1.tr n26.tr
  have h2 := h2.tr n26.tr
  have h21 := h21.tr n26.tr
  have h23 := h23.tr n26.tr
  have h0_1 := h0_1.tr n26.tr
  have h0_2 := h0_2.tr n26.tr
  have nb24b4 : b24 ≠ b4 := by have := hb4.lt; have := n26.ge; omega
  have hb4 := hb4.fr0 n26.fr
  have ib4 := List.mem_cons_of_mem b24 ib4
  have hb24 := n26.blk
  have gb24 := n26.ge0 hF
  have ib24 : b24 ∈ b24 :: (b4 :: O) := List.mem_cons_self
  have hO := n26.ob
  have hF := hF.trans n26.fr
  have hS := Sub.cons hS b24
  obtain ⟨A27, c28, rfl, hlc28, hmc28⟩ := slice_form h21
  obtain ⟨A29, c30, rfl, hlc30, hmc30⟩ := slice_form h23
  refine wo_store Θ_ok rfl rfl rfl rfl rfl rfl rfl hb24 [(.slice A27 y18.fNames.length c28), (.slice A29 y18.fBoxes.length c30)] rfl rfl (by simp [Value.oneCell']) rfl [(.slice A27 y18.fNames.length c28), (.slice A29 y18.fBoxes.length c30)] rfl (fun w31 hb24 f32 => ?_)
  have h1 := h1.tr (f32.tr (one_in ib24))
  have h2 := h2.tr (f32.tr (one_in ib24))
  have h0_1 := h0_1.tr (f32.tr (one_in ib24))
  have h0_2 := h0_2.tr (f32.tr (one_in ib24))
  have h21 := h21.tr (f32.tr (one_in ib24))
  have h23 := h23.tr (f32.tr (one_in ib24))
  have hb4 := hb4.fr f32 (nin nb24b4.symm)
  have hO := f32.ob hO
  have hF := hF.own f32 gb24
  refine wo_nil ?_
  refine wq_seq ?_
  refine wc_seq ?_
  refine wc_region (l := [0, 1, 2]) rfl ?_
  refine wo_load Θ_ok rfl rfl rfl rfl rfl rfl rfl hb24 [(.slice A27 y18.fNames.length c28), (.slice A29 y18.fBoxes.length c30)] rfl rfl (.inl rfl) (.agg #[(.slice A27 y18.fNames.length c28), (.slice A29 y18.fBoxes.length c30)]) rfl ?_
  obtain ⟨y37, hy38, h⟩ := bind_some h
  refine wo_gives rfl rfl rfl rfl rfl ent9 rfl (r_Right_c hO ((tGIpc_is (x := y18)).2 ⟨_, _, rfl, h21, h23⟩) hy38) (fun v33 w34 h35 f36 => ?_)
  have h1 := h1.tr f36.tr0
  have h2 := h2.tr f36.tr0
  have h0_1 := h0_1.tr f36.tr0
  have h0_2 := h0_2.tr f36.tr0
  have h21 := h21.tr f36.tr0
  have h23 := h23.tr f36.tr0
  have hb4 := hb4.fr0 f36
  have hb24 := hb24.fr0 f36
  have hO := f36.ob hO
  have hF := hF.trans f36
  obtain rfl := bool_is.1 h35
  refine wo_seg Θ_ok [2] [(1, v1), (2, v2), (3, (bp b4)), (7, (bp b24)), (8, (.bool y37))] rfl ⟨rfl, rfl, rfl, rfl, rfl, trivial⟩ ?_
  refine wo_nil ?_
  refine wq_seq ?_
  refine wc_seq ?_
  refine wc_region (l := [0, 1, 2, 3, 4, 5, 6]) rfl ?_
  refine wo_seg Θ_ok [0, 1] [(1, v1), (3, (bp b4)), (7, (bp b24)), (8, (.bool y37)), (34, v2), (35, v2)] rfl ⟨rfl, rfl, rfl, rfl, rfl, rfl, trivial⟩ ?_
  obtain ⟨A39, c40, rfl, hlc40, hmc40⟩ := slice_form h2
  refine wo_seg Θ_ok [2] [(1, v1), (3, (bp b4)), (7, (bp b24)), (8, (.bool y37)), (34, (.slice A39 x2.length c40)), (36, (.int .i64 (x2.length : Int)))] rfl ⟨rfl, rfl, rfl, rfl, rfl, rfl, trivial⟩ ?_
  refine wo_seg Θ_ok [3] [(1, v1), (3, (bp b4)), (7, (bp b24)), (8, (.bool y37)), (34, (.slice A39 x2.length c40)), (37, (.int .i64 (if (6 : Int) < (x2.length : Int) then (6 : Int) else (x2.length : Int))))] rfl ⟨rfl, rfl, rfl, rfl, rfl, rfl, trivial⟩ ?_
  obtain ⟨y41, hz42, h⟩ := bind_some h
  refine wo_cut (l' := none) (h' := some (.i64, (if (6 : Int) < (x2.length : Int) then (6 : Int) else (x2.length : Int)))) (m' := none) Θ_ok rfl rfl rfl rfl rfl rfl rfl rfl rfl rfl rfl rfl rfl h2 hz42 (fun v43 h44 => ?_)
  obtain ⟨y49, hy50, h⟩ := bind_some h
  refine wo_gives rfl rfl rfl rfl rfl ent25 rfl (s_Clone_c hO h44 hy50) (fun v45 w46 h47 f48 => ?_)
  have h1 := h1.tr f48.tr0
  have h0_1 := h0_1.tr f48.tr0
  have h0_2 := h0_2.tr f48.tr0
  have h21 := h21.tr f48.tr0
  have h23 := h23.tr f48.tr0
  have hb4 := hb4.fr0 f48
  have hb24 := hb24.fr0 f48
  have hO := f48.ob hO
  have hF := hF.trans f48
  refine wo_seg Θ_ok [6] [(1, v1), (2, v45), (3, (bp b4)), (7, (bp b24)), (8, (.bool y37))] rfl ⟨rfl, rfl, rfl, rfl, rfl, trivial⟩ ?_
  refine wo_nil ?_
  refine wq_seq ?_
  obtain ⟨k52, hk53, h⟩ := letk_some h
  refine wc_join (fun E W => ∃ (O56 : List Nat), E = [(3, (bp b4)), (7, (bp b24))] ∧ Tr (b24 :: b4 :: O) w46 O56 W ∧ OB O56 W ∧ Sub O O56 ∧ Fr [] w W ∧ b4 ∈ O56 ∧ Blk W b4 25 [v0_1, v0_2] ∧ b24 ∈ O56 ∧ Blk W b24 25 [(.slice A27 y18.fNames.length c28), (.slice A29 y18.fBoxes.length c30)] ∧ k52 = some r) ?_ (fun K54 hK55 => ?_)
  · rintro E w57 ⟨O56, rfl, T51, hO, hS, hF, ib4, hb4, ib24, hb24, h⟩
    have h0_1 := h0_1.tr T51
    have h0_2 := h0_2.tr T51
    have h21 := h21.tr T51
    have h23 := h23.tr T51
    subst hk53
    (try dsimp only at h)
    refine wc_seq ?_
    obtain ⟨y58, hy59, h⟩ := bind_some h
    obtain ⟨y60, hy61, h⟩ := bind_some h
    refine wc_draw mixed [⟨157, [], [7]⟩, ⟨158, [], [3]⟩, ⟨159, [1], []⟩, ⟨160, [0, 2], []⟩, ⟨6, [3], []⟩] [SP.eq (.agg #[(.slice A27 y18.fNames.length c28), (.slice A29 y18.fBoxes.length c30)]), SP.eq (.agg #[v0_1, v0_2]), SP.is tGIpc O56 y58, SP.eq (.bool y60), SP.eq (.bool y60)] rfl rfl rfl ⟨?_, ?_, ?_, ?_, ?_, trivial⟩ ?_
    · intro a w2 hfr hN hds hb hd
      have hb24 := hb24.fr0 hfr
      exact op_load Θ_ok ⟨hN, hds, rows_get (E := [(7, (bp b24))]) ⟨hb 7 rfl _ rfl, trivial⟩⟩ rfl rfl rfl rfl rfl rfl hb24 [(.slice A27 y18.fNames.length c28), (.slice A29 y18.fBoxes.length c30)] rfl rfl (.inl rfl) (.agg #[(.slice A27 y18.fNames.length c28), (.slice A29 y18.fBoxes.length c30)]) rfl
    · intro a w2 hfr hN hds hb hd
      have hb4 := hb4.fr0 hfr
      exact op_load Θ_ok ⟨hN, hds, rows_get (E := [(3, (bp b4))]) ⟨hb 3 rfl _ rfl, trivial⟩⟩ rfl rfl rfl rfl rfl rfl hb4 [v0_1, v0_2] rfl rfl (.inl rfl) (.agg #[v0_1, v0_2]) rfl
    · intro a w2 hfr hN hds hb hd
      have h0_1 := h0_1.tr hfr.tr0
      have h0_2 := h0_2.tr hfr.tr0
      exact (op_call ⟨hN, hds, rows_get (E := [(158, (.agg #[v0_1, v0_2]))]) ⟨(hd 1 rfl _ _ rfl rfl), trivial⟩⟩ rfl rfl rfl rfl ent8 rfl (own_c (hfr.ob hO) ((tGIpc_is (x := x0)).2 ⟨_, _, rfl, h0_1, h0_2⟩) hy59)).weaken (fun u w3 ⟨hu, hf⟩ => ⟨hu, hf⟩)
    · intro a w2 hfr hN hds hb hd
      have h21 := h21.tr hfr.tr0
      have h23 := h23.tr hfr.tr0
      have d64 : tGIpc.is O56 w2 (a.tmps.getD 159 undef) y58 := hd 2 rfl _ _ rfl rfl
      obtain ⟨u62, e63⟩ : ∃ v, a.tmps.getD 159 undef = v := ⟨_, rfl⟩
      rw [e63] at d64
      obtain ⟨v65, v67, rfl, h66, h68⟩ := tGIpc_is.1 d64
      exact (op_call ⟨hN, hds, rows_get (E := [(157, (.agg #[(.slice A27 y18.fNames.length c28), (.slice A29 y18.fBoxes.length c30)])), (159, (.agg #[v65, v67]))]) ⟨(hd 0 rfl _ _ rfl rfl), e63, trivial⟩⟩ rfl rfl rfl rfl ent14 rfl (r_Same_c (hfr.ob hO) ((tGIpc_is (x := y18)).2 ⟨_, _, rfl, h21, h23⟩) ((tGIpc_is (x := y58)).2 ⟨_, _, rfl, h66, h68⟩) hy61)).weaken (fun u w3 ⟨hu, hf⟩ => ⟨bool_is.1 hu, hf⟩)
    · intro a w2 hfr hN hds hb hd
      exact op_plain Θ_ok ⟨hN, hds, rows_get (E := [(160, (.bool y60))]) ⟨(hd 3 rfl _ _ rfl rfl), trivial⟩⟩ rfl rfl rfl rfl rfl
    intro a w70 f69 hN hds hb hr
    have hO := f69.ob hO
    have hF := hF.trans f69
    refine wq_go (E := [(6, (.bool y60))]) hN hds ⟨(hr 4 _ _ rfl rfl), trivial⟩ ?_
    refine wq_seq ?_
    refine wc_ret ?_
    cases h
    exact wq_ret rfl ⟨_, rfl, (bool_is.2 rfl), hF⟩
  clear hk53
  have T51 := Tr.refl (b24 :: b4 :: O) w46
  refine wc_seq ?_
  refine wc_region (l := [0, 1, 2]) rfl ?_
  refine wo_seg Θ_ok [0] [(2, v45), (3, (bp b4)), (7, (bp b24)), (8, (.bool y37)), (40, v1)] rfl ⟨rfl, rfl, rfl, rfl, rfl, trivial⟩ ?_
  obtain ⟨A71, c72, rfl, hlc72, hmc72⟩ := slice_form h1
  refine wo_seg Θ_ok [1] [(2, v45), (3, (bp b4)), (7, (bp b24)), (8, (.bool y37)), (40, (.slice A71 x1.length c72)), (41, (.int .i64 (x1.length : Int)))] rfl ⟨rfl, rfl, rfl, rfl, rfl, rfl, trivial⟩ ?_
  refine wo_seg Θ_ok [2] [(2, v45), (3, (bp b4)), (7, (bp b24)), (8, (.bool y37)), (40, (.slice A71 x1.length c72)), (41, (.int .i64 (x1.length : Int))), (42, (.int .i64 0))] rfl ⟨rfl, rfl, rfl, rfl, rfl, rfl, rfl, trivial⟩ ?_
  refine wo_nil ?_
  refine wq_seq ?_
  refine wc_block ?_
  refine wc_loop (fun m E W => ∃ (rest75 : List Int) (i74 : Nat) (O78 : List Nat), rest75.length = m ∧ x1.drop i74 = rest75 ∧ E = [(2, v45), (3, (bp b4)), (7, (bp b24)), (8, (.bool y37)), (40, (.slice A71 x1.length c72)), (41, (.int .i64 (x1.length : Int))), (42, (.int .i64 (i74 : Int)))] ∧ Tr (b24 :: b4 :: O) w46 O78 W ∧ OB O78 W ∧ Sub O O78 ∧ Fr [] w W ∧ b4 ∈ O78 ∧ Blk W b4 25 [v0_1, v0_2] ∧ b24 ∈ O78 ∧ Blk W b24 25 [(.slice A27 y18.fNames.length c28), (.slice A29 y18.fBoxes.length c30)] ∧ l_Words_l1 y18 y37 y49 k52 fuel rest75 i74 = some r) _ [(2, v45), (3, (bp b4)), (7, (bp b24)), (8, (.bool y37)), (40, (.slice A71 x1.length c72)), (41, (.int .i64 (x1.length : Int))), (42, (.int .i64 ((0 : Nat) : Int)))] ⟨rfl, rfl, rfl, rfl, rfl, rfl, rfl, trivial⟩ ⟨x1, 0, b24 :: b4 :: O, rfl, rfl, rfl, Tr.refl _ _, hO, hS, hF, ib4, hb4, ib24, hb24, h⟩ ?_
  rintro m E w79 ⟨rest75, i74, O78, rfl, hd77, rfl, T73, hO, hS, hF, ib4, hb4, ib24, hb24, h⟩
  have T51 := T51.trans T73
  have h47 := h47.tr T73
  have h1 := h1.tr T73
  have h0_1 := h0_1.tr T73
  have h0_2 := h0_2.tr T73
  have h21 := h21.tr T73
  have h23 := h23.tr T73
  rcases rest75 with _ | ⟨z76, rest75⟩
  · rw [l_Words_l1] at h
    have hl83 := drop_nil hd77
    have hc80 : (decide ((i74 : Int) < (x1.length : Int))) = false := decide_eq_false (by omega)
    refine wc_seq ?_
    refine wc_region (l := [0]) rfl ?_
    refine wo_seg Θ_ok [0] [(2, v45), (3, (bp b4)), (7, (bp b24)), (8, (.bool y37)), (40, (.slice A71 x1.length c72)), (41, (.int .i64 (x1.length : Int))), (42, (.int .i64 (i74 : Int))), (43, (.bool (decide ((i74 : Int) < (x1.length : Int)))))] rfl ⟨rfl, rfl, rfl, rfl, rfl, rfl, rfl, rfl, trivial⟩ ?_
    refine wo_nil ?_
    refine wq_seq ?_
    refine wc_seq ?_
    refine wc_known_false rfl hc80 ?_
    refine wc_exit ?_
    exact wq_then_exit (wq_then_exit (wq_block_exit (wq_join hK55 [(3, (bp b4)), (7, (bp b24))] ⟨rfl, rfl, trivial⟩ ⟨O78, rfl, T51, hO, hS, hF, ib4, hb4, ib24, hb24, h⟩)))
  rw [l_Words_l1] at h
  obtain ⟨hl84, hg82, hd77⟩ := drop_cons hd77
  have hc81 : (decide ((i74 : Int) < (x1.length : Int))) = true := decide_eq_true (by omega)
  refine wc_seq ?_
  refine wc_region (l := [0]) rfl ?_
  refine wo_seg Θ_ok [0] [(2, v45), (3, (bp b4)), (7, (bp b24)), (8, (.bool y37)), (40, (.slice A71 x1.length c72)), (41, (.int .i64 (x1.length : Int))), (42, (.int .i64 (i74 : Int))), (43, (.bool (decide ((i74 : Int) < (x1.length : Int)))))] rfl ⟨rfl, rfl, rfl, rfl, rfl, rfl, rfl, rfl, trivial⟩ ?_
  refine wo_nil ?_
  refine wq_seq ?_
  refine wc_seq ?_
  refine wc_known_true rfl hc81 ?_
  refine wc_skip ?_
  refine wq_seq ?_
  refine wc_seq ?_
  refine wc_block ?_
  refine wc_seq ?_
  refine wc_region (l := [0, 1, 2, 3, 4]) rfl ?_
  refine wo_seg Θ_ok [0] [(2, v45), (3, (bp b4)), (7, (bp b24)), (8, (.bool y37)), (40, (.slice A71 x1.length c72)), (41, (.int .i64 (x1.length : Int))), (42, (.int .i64 (i74 : Int))), (44, (.int .i64 (i74 : Int)))] rfl ⟨rfl, rfl, rfl, rfl, rfl, rfl, rfl, rfl, trivial⟩ ?_
  refine wo_index Θ_ok rfl rfl rfl rfl rfl rfl rfl rfl rfl rfl h1 rfl (by omega) hg82 (fun p85 h86 => ?_)
  refine wo_loadp Θ_ok rfl rfl rfl rfl rfl rfl rfl h86 rfl rfl (fun v87 h88 => ?_)
  obtain rfl := int_is.1 h88
  refine wo_seg Θ_ok [3, 4] [(2, v45), (3, (bp b4)), (7, (bp b24)), (8, (.bool y37)), (9, (.int .i64 (i74 : Int))), (10, (.int .u64 z76)), (40, (.slice A71 x1.length c72)), (41, (.int .i64 (x1.length : Int))), (42, (.int .i64 (i74 : Int)))] rfl ⟨rfl, rfl, rfl, rfl, rfl, rfl, rfl, rfl, rfl, trivial⟩ ?_
  refine wo_nil ?_
  refine wq_seq ?_
  refine wc_seq ?_
  refine wc_seq ?_
  refine wc_region (l := [0, 1]) rfl ?_
  refine wo_seg Θ_ok [0, 1] [(2, v45), (3, (bp b4)), (7, (bp b24)), (8, (.bool y37)), (10, (.int .u64 z76)), (40, (.slice A71 x1.length c72)), (41, (.int .i64 (x1.length : Int))), (42, (.int .i64 (i74 : Int))), (48, (.bool ((i74 : Int) == (6 : Int))))] rfl ⟨rfl, rfl, rfl, rfl, rfl, rfl, rfl, rfl, rfl, trivial⟩ ?_
  refine wo_nil ?_
  refine wq_seq ?_
  rcases bif_some h with ⟨hc89, h⟩ | ⟨hc89, h⟩
  · refine wc_known_true rfl hc89 ?_
    refine wc_exit ?_
    exact wq_then_exit (wq_block_past rfl (wq_then_exit (wq_then_exit (wq_block_exit (wq_join hK55 [(3, (bp b4)), (7, (bp b24))] ⟨rfl, rfl, trivial⟩ ⟨O78, rfl, T51, hO, hS, hF, ib4, hb4, ib24, hb24, h⟩)))))
  refine wc_known_false rfl hc89 ?_
  refine wc_skip ?_
  refine wq_seq ?_
  refine wc_seq ?_
  refine wc_region (l := [0, 1, 2, 3, 4, 5, 6, 7, 8, 9]) rfl ?_
  refine wo_load Θ_ok rfl rfl rfl rfl rfl rfl rfl hb24 [(.slice A27 y18.fNames.length c28), (.slice A29 y18.fBoxes.length c30)] rfl rfl (.inl rfl) (.agg #[(.slice A27 y18.fNames.length c28), (.slice A29 y18.fBoxes.length c30)]) rfl ?_
  refine wo_seg Θ_ok [1, 2] [(2, v45), (3, (bp b4)), (7, (bp b24)), (8, (.bool y37)), (10, (.int .u64 z76)), (40, (.slice A71 x1.length c72)), (41, (.int .i64 (x1.length : Int))), (42, (.int .i64 (i74 : Int))), (50, (.agg #[(.slice A27 y18.fNames.length c28), (.slice A29 y18.fBoxes.length c30)])), (51, (.int .u64 z76)), (52, v45)] rfl ⟨rfl, rfl, rfl, rfl, rfl, rfl, rfl, rfl, rfl, rfl, rfl, trivial⟩ ?_
  obtain ⟨y94, hy95, h⟩ := bind_some h
  have h47_K96 := h47
  have h1_K96 := h1
  have h0_1_K96 := h0_1
  have h0_2_K96 := h0_2
  have h21_K96 := h21
  have h23_K96 := h23
  have hb4_K96 := hb4
  have hb24_K96 := hb24
  have T51_K96 := T51
  have T73_K96 := T73
  have hF_K96 := hF
  have hO_K96 := hO
  have TTK96 := Tr.refl O78 w79
  refine wo_gives rfl rfl rfl rfl rfl ent20 rfl (i_Send_n (ob_range _) ((tGIpc_is (x := y18)).2 ⟨_, _, rfl, (h21.tr (Tr.less (sub_nil _))), (h23.tr (Tr.less (sub_nil _)))⟩) (int_is.2 rfl) (h47.tr (Tr.less (sub_nil _))) hy95) (fun v90 w91 h92 f93 => ?_)
  have h47 := h47.tr f93.tr0
  have h1 := h1.tr f93.tr0
  have h0_1 := h0_1.tr f93.tr0
  have h0_2 := h0_2.tr f93.tr0
  have h21 := h21.tr f93.tr0
  have h23 := h23.tr f93.tr0
  have hb4 := hb4.fr0 f93
  have hb24 := hb24.fr0 f93
  have T51 := T51.trans f93.tr0
  have T73 := T73.trans f93.tr0
  have TTK96 := TTK96.trans f93.tr0
  have hO := f93.ob hO
  have hF := hF.trans f93
  obtain ⟨u97, u99, rfl, h98, h100⟩ := h92
  obtain ⟨v101, v103, rfl, h102, h104⟩ := tGIpc_is.1 h98
  obtain rfl := int_is.1 h100
  have TLK96 := TL.refl hO_K96 w91
  have h102N := h102
  have h102M := h102
  have h102 := h102.tr (Tr.less (sub_range hO_K96))
  have h104N := h104
  have h104M := h104
  have h104 := h104.tr (Tr.less (sub_range hO_K96))
  refine wo_seg Θ_ok [4, 5, 6] [(2, v45), (3, (bp b4)), (7, (bp b24)), (8, (.bool y37)), (10, (.int .u64 z76)), (40, (.slice A71 x1.length c72)), (41, (.int .i64 (x1.length : Int))), (42, (.int .i64 (i74 : Int))), (54, (.agg #[v101, v103])), (55, (.int .i64 y94.2))] rfl ⟨rfl, rfl, rfl, rfl, rfl, rfl, rfl, rfl, rfl, rfl, trivial⟩ ?_
  refine wo_alloc Θ_ok rfl rfl rfl rfl rfl rfl [(.slice none 0 0), (.slice none 0 0)] rfl hO (fun b105 w106 n107 => ?_)
  have h47 := h47.tr n107.tr
  have h1 := h1.tr n107.tr
  have h102 := h102.tr n107.tr
  have h104 := h104.tr n107.tr
  have h0_1 := h0_1.tr n107.tr
  have h0_2 := h0_2.tr n107.tr
  have h21 := h21.tr n107.tr
  have h23 := h23.tr n107.tr
  have T51 := T51.trans n107.tr
  have T73 := T73.trans n107.tr
  have TTK96 := TTK96.trans n107.tr
  have TLK96 := TLK96.trans n107.tr
  have nb105b4 : b105 ≠ b4 := by have := hb4.lt; have := n107.ge; omega
  have hb4 := hb4.fr0 n107.fr
  have ib4 := List.mem_cons_of_mem b105 ib4
  have nb105b24 : b105 ≠ b24 := by have := hb24.lt; have := n107.ge; omega
  have hb24 := hb24.fr0 n107.fr
  have ib24 := List.mem_cons_of_mem b105 ib24
  have hb105 := n107.blk
  have gb105 := n107.ge0 hF
  have ib105 : b105 ∈ b105 :: O78 := List.mem_cons_self
  have hO := n107.ob
  have hF := hF.trans n107.fr
  have hS := Sub.cons hS b105
  obtain ⟨A108, c109, rfl, hlc109, hmc109⟩ := slice_form h102
  obtain ⟨A110, c111, rfl, hlc111, hmc111⟩ := slice_form h104
  refine wo_store Θ_ok rfl rfl rfl rfl rfl rfl rfl hb105 [(.slice A108 y94.1.fNames.length c109), (.slice A110 y94.1.fBoxes.length c111)] rfl rfl (by simp [Value.oneCell']) rfl [(.slice A108 y94.1.fNames.length c109), (.slice A110 y94.1.fBoxes.length c111)] rfl (fun w112 hb105 f113 => ?_)
  have h47 := h47.tr (f113.tr (one_in ib105))
  have h1 := h1.tr (f113.tr (one_in ib105))
  have h0_1 := h0_1.tr (f113.tr (one_in ib105))
  have h0_2 := h0_2.tr (f113.tr (one_in ib105))
  have h21 := h21.tr (f113.tr (one_in ib105))
  have h23 := h23.tr (f113.tr (one_in ib105))
  have h102 := h102.tr (f113.tr (one_in ib105))
  have h104 := h104.tr (f113.tr (one_in ib105))
  have T51 := T51.trans (f113.tr (one_in ib105))
  have T73 := T73.trans (f113.tr (one_in ib105))
  have TTK96 := TTK96.trans (f113.tr (one_in ib105))
  have TLK96 := TLK96.trans (f113.tr (one_in ib105))
  have hb4 := hb4.fr f113 (nin nb105b4.symm)
  have hb24 := hb24.fr f113 (nin nb105b24.symm)
  have hO := f113.ob hO
  have hF := hF.own f113 gb105
  refine wo_seg Θ_ok [9] [(2, v45), (3, (bp b4)), (7, (bp b24)), (8, (.bool y37)), (10, (.int .u64 z76)), (11, (bp b105)), (12, (.int .i64 y94.2)), (40, (.slice A71 x1.length c72)), (41, (.int .i64 (x1.length : Int))), (42, (.int .i64 (i74 : Int)))] rfl ⟨rfl, rfl, rfl, rfl, rfl, rfl, rfl, rfl, rfl, rfl, trivial⟩ ?_
  refine wo_nil ?_
  refine wq_seq ?_
  refine wc_seq ?_
  refine wc_region (l := [0, 1, 2, 3, 4, 5, 6, 7, 8, 9, 10]) rfl ?_
  refine wo_load Θ_ok rfl rfl rfl rfl rfl rfl rfl hb24 [(.slice A27 y18.fNames.length c28), (.slice A29 y18.fBoxes.length c30)] rfl rfl (.inl rfl) (.agg #[(.slice A27 y18.fNames.length c28), (.slice A29 y18.fBoxes.length c30)]) rfl ?_
  refine wo_seg Θ_ok [1] [(2, v45), (3, (bp b4)), (7, (bp b24)), (8, (.bool y37)), (10, (.int .u64 z76)), (11, (bp b105)), (12, (.int .i64 y94.2)), (40, (.slice A71 x1.length c72)), (41, (.int .i64 (x1.length : Int))), (42, (.int .i64 (i74 : Int))), (57, (.agg #[(.slice A27 y18.fNames.length c28), (.slice A29 y18.fBoxes.length c30)])), (58, (.int .u64 z76))] rfl ⟨rfl, rfl, rfl, rfl, rfl, rfl, rfl, rfl, rfl, rfl, rfl, rfl, trivial⟩ ?_
  obtain ⟨y118, hy119, h⟩ := bind_some h
  have h47_K120 := h47
  have h1_K120 := h1
  have h0_1_K120 := h0_1
  have h0_2_K120 := h0_2
  have h21_K120 := h21
  have h23_K120 := h23
  have h102_K120 := h102
  have h104_K120 := h104
  have hb4_K120 := hb4
  have hb24_K120 := hb24
  have hb105_K120 := hb105
  have T51_K120 := T51
  have T73_K120 := T73
  have TTK96_K120 := TTK96
  have TLK96_K120 := TLK96
  have hF_K120 := hF
  have hO_K120 := hO
  have TTK120 := Tr.refl (b105 :: O78) w112
  refine wo_gives rfl rfl rfl rfl rfl ent19 rfl (i_Receive_n (ob_range _) ((tGIpc_is (x := y18)).2 ⟨_, _, rfl, (h21.tr (Tr.less (sub_nil _))), (h23.tr (Tr.less (sub_nil _)))⟩) (int_is.2 rfl) hy119) (fun v114 w115 h116 f117 => ?_)
  have h47 := h47.tr f117.tr0
  have h1 := h1.tr f117.tr0
  have h0_1 := h0_1.tr f117.tr0
  have h0_2 := h0_2.tr f117.tr0
  have h21 := h21.tr f117.tr0
  have h23 := h23.tr f117.tr0
  have h102 := h102.tr f117.tr0
  have h104 := h104.tr f117.tr0
  have hb4 := hb4.fr0 f117
  have hb24 := hb24.fr0 f117
  have hb105 := hb105.fr0 f117
  have T51 := T51.trans f117.tr0
  have T73 := T73.trans f117.tr0
  have TTK96 := TTK96.trans f117.tr0
  have TLK96 := TLK96.trans f117.tr0
  have TTK120 := TTK120.trans f117.tr0
  have hO := f117.ob hO
  have hF := hF.trans f117
  obtain ⟨u121, u123, u125, rfl, h122, h124, h126⟩ := h116
  obtain ⟨v127, v129, rfl, h128, h130⟩ := tGIpc_is.1 h122
  obtain rfl := int_is.1 h124
  obtain rfl := int_is.1 h126
  have TLK120 := TL.refl hO_K120 w115
  have h128N := h128
  have h128M := h128
  have h128 := h128.tr (Tr.less (sub_range hO_K120))
  have h130N := h130
  have h130M := h130
  have h130 := h130.tr (Tr.less (sub_range hO_K120))
  refine wo_seg Θ_ok [3, 4, 5, 6] [(2, v45), (3, (bp b4)), (7, (bp b24)), (8, (.bool y37)), (10, (.int .u64 z76)), (11, (bp b105)), (12, (.int .i64 y94.2)), (40, (.slice A71 x1.length c72)), (41, (.int .i64 (x1.length : Int))), (42, (.int .i64 (i74 : Int))), (60, (.agg #[v127, v129])), (61, (.int .u64 y118.2.1)), (62, (.int .i64 y118.2.2))] rfl ⟨rfl, rfl, rfl, rfl, rfl, rfl, rfl, rfl, rfl, rfl, rfl, rfl, rfl, trivial⟩ ?_
  refine wo_alloc Θ_ok rfl rfl rfl rfl rfl rfl [(.slice none 0 0), (.slice none 0 0)] rfl hO (fun b131 w132 n133 => ?_)
  have h47 := h47.tr n133.tr
  have h1 := h1.tr n133.tr
  have h128 := h128.tr n133.tr
  have h130 := h130.tr n133.tr
  have h0_1 := h0_1.tr n133.tr
  have h0_2 := h0_2.tr n133.tr
  have h21 := h21.tr n133.tr
  have h23 := h23.tr n133.tr
  have h102 := h102.tr n133.tr
  have h104 := h104.tr n133.tr
  have T51 := T51.trans n133.tr
  have T73 := T73.trans n133.tr
  have TTK96 := TTK96.trans n133.tr
  have TLK96 := TLK96.trans n133.tr
  have TTK120 := TTK120.trans n133.tr
  have TLK120 := TLK120.trans n133.tr
  have nb131b4 : b131 ≠ b4 := by have := hb4.lt; have := n133.ge; omega
  have hb4 := hb4.fr0 n133.fr
  have ib4 := List.mem_cons_of_mem b131 ib4
  have nb131b24 : b131 ≠ b24 := by have := hb24.lt; have := n133.ge; omega
  have hb24 := hb24.fr0 n133.fr
  have ib24 := List.mem_cons_of_mem b131 ib24
  have nb131b105 : b131 ≠ b105 := by have := hb105.lt; have := n133.ge; omega
  have hb105 := hb105.fr0 n133.fr
  have ib105 := List.mem_cons_of_mem b131 ib105
  have hb131 := n133.blk
  have gb131 := n133.ge0 hF
  have ib131 : b131 ∈ b131 :: (b105 :: O78) := List.mem_cons_self
  have hO := n133.ob
  have hF := hF.trans n133.fr
  have hS := Sub.cons hS b131
  obtain ⟨A134, c135, rfl, hlc135, hmc135⟩ := slice_form h128
  obtain ⟨A136, c137, rfl, hlc137, hmc137⟩ := slice_form h130
  refine wo_store Θ_ok rfl rfl rfl rfl rfl rfl rfl hb131 [(.slice A134 y118.1.fNames.length c135), (.slice A136 y118.1.fBoxes.length c137)] rfl rfl (by simp [Value.oneCell']) rfl [(.slice A134 y118.1.fNames.length c135), (.slice A136 y118.1.fBoxes.length c137)] rfl (fun w138 hb131 f139 => ?_)
  have h47 := h47.tr (f139.tr (one_in ib131))
  have h1 := h1.tr (f139.tr (one_in ib131))
  have h0_1 := h0_1.tr (f139.tr (one_in ib131))
  have h0_2 := h0_2.tr (f139.tr (one_in ib131))
  have h21 := h21.tr (f139.tr (one_in ib131))
  have h23 := h23.tr (f139.tr (one_in ib131))
  have h102 := h102.tr (f139.tr (one_in ib131))
  have h104 := h104.tr (f139.tr (one_in ib131))
  have h128 := h128.tr (f139.tr (one_in ib131))
  have h130 := h130.tr (f139.tr (one_in ib131))
  have T51 := T51.trans (f139.tr (one_in ib131))
  have T73 := T73.trans (f139.tr (one_in ib131))
  have TTK96 := TTK96.trans (f139.tr (one_in ib131))
  have TLK96 := TLK96.trans (f139.tr (one_in ib131))
  have TTK120 := TTK120.trans (f139.tr (one_in ib131))
  have TLK120 := TLK120.trans (f139.tr (one_in ib131))
  have hb4 := hb4.fr f139 (nin nb131b4.symm)
  have hb24 := hb24.fr f139 (nin nb131b24.symm)
  have hb105 := hb105.fr f139 (nin nb131b105.symm)
  have hO := f139.ob hO
  have hF := hF.own f139 gb131
  refine wo_seg Θ_ok [9, 10] [(2, v45), (3, (bp b4)), (7, (bp b24)), (8, (.bool y37)), (10, (.int .u64 z76)), (11, (bp b105)), (12, (.int .i64 y94.2)), (13, (bp b131)), (14, (.int .u64 y118.2.1)), (15, (.int .i64 y118.2.2)), (40, (.slice A71 x1.length c72)), (41, (.int .i64 (x1.length : Int))), (42, (.int .i64 (i74 : Int)))] rfl ⟨rfl, rfl, rfl, rfl, rfl, rfl, rfl, rfl, rfl, rfl, rfl, rfl, rfl, trivial⟩ ?_
  refine wo_nil ?_
  refine wq_seq ?_
  refine wc_seq ?_
  refine wc_region (l := [0, 1, 2, 3, 4, 5, 6, 7, 8, 9, 10]) rfl ?_
  refine wo_load Θ_ok rfl rfl rfl rfl rfl rfl rfl hb24 [(.slice A27 y18.fNames.length c28), (.slice A29 y18.fBoxes.length c30)] rfl rfl (.inl rfl) (.agg #[(.slice A27 y18.fNames.length c28), (.slice A29 y18.fBoxes.length c30)]) rfl ?_
  refine wo_seg Θ_ok [1] [(2, v45), (3, (bp b4)), (7, (bp b24)), (8, (.bool y37)), (10, (.int .u64 z76)), (11, (bp b105)), (12, (.int .i64 y94.2)), (13, (bp b131)), (14, (.int .u64 y118.2.1)), (15, (.int .i64 y118.2.2)), (40, (.slice A71 x1.length c72)), (41, (.int .i64 (x1.length : Int))), (42, (.int .i64 (i74 : Int))), (64, (.agg #[(.slice A27 y18.fNames.length c28), (.slice A29 y18.fBoxes.length c30)])), (65, (.int .u64 z76))] rfl ⟨rfl, rfl, rfl, rfl, rfl, rfl, rfl, rfl, rfl, rfl, rfl, rfl, rfl, rfl, rfl, trivial⟩ ?_
  obtain ⟨y144, hy145, h⟩ := bind_some h
  have h47_K146 := h47
  have h1_K146 := h1
  have h0_1_K146 := h0_1
  have h0_2_K146 := h0_2
  have h21_K146 := h21
  have h23_K146 := h23
  have h102_K146 := h102
  have h104_K146 := h104
  have h128_K146 := h128
  have h130_K146 := h130
  have hb4_K146 := hb4
  have hb24_K146 := hb24
  have hb105_K146 := hb105
  have hb131_K146 := hb131
  have T51_K146 := T51
  have T73_K146 := T73
  have TTK96_K146 := TTK96
  have TLK96_K146 := TLK96
  have TTK120_K146 := TTK120
  have TLK120_K146 := TLK120
  have hF_K146 := hF
  have hO_K146 := hO
  have TTK146 := Tr.refl (b131 :: b105 :: O78) w138
  refine wo_gives rfl rfl rfl rfl rfl ent17 rfl (i_Clear_n (ob_range _) ((tGIpc_is (x := y18)).2 ⟨_, _, rfl, (h21.tr (Tr.less (sub_nil _))), (h23.tr (Tr.less (sub_nil _)))⟩) (int_is.2 rfl) hy145) (fun v140 w141 h142 f143 => ?_)
  have h47 := h47.tr f143.tr0
  have h1 := h1.tr f143.tr0
  have h0_1 := h0_1.tr f143.tr0
  have h0_2 := h0_2.tr f143.tr0
  have h21 := h21.tr f143.tr0
  have h23 := h23.tr f143.tr0
  have h102 := h102.tr f143.tr0
  have h104 := h104.tr f143.tr0
  have h128 := h128.tr f143.tr0
  have h130 := h130.tr f143.tr0
  have hb4 := hb4.fr0 f143
  have hb24 := hb24.fr0 f143
  have hb105 := hb105.fr0 f143
  have hb131 := hb131.fr0 f143
  have T51 := T51.trans f143.tr0
  have T73 := T73.trans f143.tr0
  have TTK96 := TTK96.trans f143.tr0
  have TLK96 := TLK96.trans f143.tr0
  have TTK120 := TTK120.trans f143.tr0
  have TLK120 := TLK120.trans f143.tr0
  have TTK146 := TTK146.trans f143.tr0
  have hO := f143.ob hO
  have hF := hF.trans f143
  obtain ⟨u147, u149, u151, rfl, h148, h150, h152⟩ := h142
  obtain ⟨v153, v155, rfl, h154, h156⟩ := tGIpc_is.1 h148
  obtain rfl := int_is.1 h150
  obtain rfl := int_is.1 h152
  have TLK146 := TL.refl hO_K146 w141
  have h154N := h154
  have h154M := h154
  have h154 := h154.tr (Tr.less (sub_range hO_K146))
  have h156N := h156
  have h156M := h156
  have h156 := h156.tr (Tr.less (sub_range hO_K146))
  refine wo_seg Θ_ok [3, 4, 5, 6] [(2, v45), (3, (bp b4)), (7, (bp b24)), (8, (.bool y37)), (10, (.int .u64 z76)), (11, (bp b105)), (12, (.int .i64 y94.2)), (13, (bp b131)), (14, (.int .u64 y118.2.1)), (15, (.int .i64 y118.2.2)), (40, (.slice A71 x1.length c72)), (41, (.int .i64 (x1.length : Int))), (42, (.int .i64 (i74 : Int))), (67, (.agg #[v153, v155])), (68, (.int .i64 y144.2.1)), (69, (.int .i64 y144.2.2))] rfl ⟨rfl, rfl, rfl, rfl, rfl, rfl, rfl, rfl, rfl, rfl, rfl, rfl, rfl, rfl, rfl, rfl, trivial⟩ ?_
  refine wo_alloc Θ_ok rfl rfl rfl rfl rfl rfl [(.slice none 0 0), (.slice none 0 0)] rfl hO (fun b157 w158 n159 => ?_)
  have h47 := h47.tr n159.tr
  have h1 := h1.tr n159.tr
  have h154 := h154.tr n159.tr
  have h156 := h156.tr n159.tr
  have h0_1 := h0_1.tr n159.tr
  have h0_2 := h0_2.tr n159.tr
  have h21 := h21.tr n159.tr
  have h23 := h23.tr n159.tr
  have h102 := h102.tr n159.tr
  have h104 := h104.tr n159.tr
  have h128 := h128.tr n159.tr
  have h130 := h130.tr n159.tr
  have T51 := T51.trans n159.tr
  have T73 := T73.trans n159.tr
  have TTK96 := TTK96.trans n159.tr
  have TLK96 := TLK96.trans n159.tr
  have TTK120 := TTK120.trans n159.tr
  have TLK120 := TLK120.trans n159.tr
  have TTK146 := TTK146.trans n159.tr
  have TLK146 := TLK146.trans n159.tr
  have nb157b4 : b157 ≠ b4 := by have := hb4.lt; have := n159.ge; omega
  have hb4 := hb4.fr0 n159.fr
  have ib4 := List.mem_cons_of_mem b157 ib4
  have nb157b24 : b157 ≠ b24 := by have := hb24.lt; have := n159.ge; omega
  have hb24 := hb24.fr0 n159.fr
  have ib24 := List.mem_cons_of_mem b157 ib24
  have nb157b105 : b157 ≠ b105 := by have := hb105.lt; have := n159.ge; omega
  have hb105 := hb105.fr0 n159.fr
  have ib105 := List.mem_cons_of_mem b157 ib105
  have nb157b131 : b157 ≠ b131 := by have := hb131.lt; have := n159.ge; omega
  have hb131 := hb131.fr0 n159.fr
  have ib131 := List.mem_cons_of_mem b157 ib131
  have hb157 := n159.blk
  have gb157 := n159.ge0 hF
  have ib157 : b157 ∈ b157 :: (b131 :: b105 :: O78) := List.mem_cons_self
  have hO := n159.ob
  have hF := hF.trans n159.fr
  have hS := Sub.cons hS b157
  obtain ⟨A160, c161, rfl, hlc161, hmc161⟩ := slice_form h154
  obtain ⟨A162, c163, rfl, hlc163, hmc163⟩ := slice_form h156
  refine wo_store Θ_ok rfl rfl rfl rfl rfl rfl rfl hb157 [(.slice A160 y144.1.fNames.length c161), (.slice A162 y144.1.fBoxes.length c163)] rfl rfl (by simp [Value.oneCell']) rfl [(.slice A160 y144.1.fNames.length c161), (.slice A162 y144.1.fBoxes.length c163)] rfl (fun w164 hb157 f165 => ?_)
  have h47 := h47.tr (f165.tr (one_in ib157))
  have h1 := h1.tr (f165.tr (one_in ib157))
  have h0_1 := h0_1.tr (f165.tr (one_in ib157))
  have h0_2 := h0_2.tr (f165.tr (one_in ib157))
  have h21 := h21.tr (f165.tr (one_in ib157))
  have h23 := h23.tr (f165.tr (one_in ib157))
  have h102 := h102.tr (f165.tr (one_in ib157))
  have h104 := h104.tr (f165.tr (one_in ib157))
  have h128 := h128.tr (f165.tr (one_in ib157))
  have h130 := h130.tr (f165.tr (one_in ib157))
  have h154 := h154.tr (f165.tr (one_in ib157))
  have h156 := h156.tr (f165.tr (one_in ib157))
  have T51 := T51.trans (f165.tr (one_in ib157))
  have T73 := T73.trans (f165.tr (one_in ib157))
  have TTK96 := TTK96.trans (f165.tr (one_in ib157))
  have TLK96 := TLK96.trans (f165.tr (one_in ib157))
  have TTK120 := TTK120.trans (f165.tr (one_in ib157))
  have TLK120 := TLK120.trans (f165.tr (one_in ib157))
  have TTK146 := TTK146.trans (f165.tr (one_in ib157))
  have TLK146 := TLK146.trans (f165.tr (one_in ib157))
  have hb4 := hb4.fr f165 (nin nb157b4.symm)
  have hb24 := hb24.fr f165 (nin nb157b24.symm)
  have hb105 := hb105.fr f165 (nin nb157b105.symm)
  have hb131 := hb131.fr f165 (nin nb157b131.symm)
  have hO := f165.ob hO
  have hF := hF.own f165 gb157
  refine wo_seg Θ_ok [9, 10] [(2, v45), (3, (bp b4)), (7, (bp b24)), (8, (.bool y37)), (10, (.int .u64 z76)), (11, (bp b105)), (12, (.int .i64 y94.2)), (13, (bp b131)), (14, (.int .u64 y118.2.1)), (15, (.int .i64 y118.2.2)), (16, (bp b157)), (17, (.int .i64 y144.2.1)), (18, (.int .i64 y144.2.2)), (40, (.slice A71 x1.length c72)), (41, (.int .i64 (x1.length : Int))), (42, (.int .i64 (i74 : Int)))] rfl ⟨rfl, rfl, rfl, rfl, rfl, rfl, rfl, rfl, rfl, rfl, rfl, rfl, rfl, rfl, rfl, rfl, trivial⟩ ?_
  refine wo_nil ?_
  refine wq_seq ?_
  refine wc_seq ?_
  refine wc_region (l := [0, 1, 2, 3, 4, 5, 6, 7, 8, 9, 10]) rfl ?_
  refine wo_seg Θ_ok [0, 1, 2] [(2, v45), (3, (bp b4)), (7, (bp b24)), (8, (.bool y37)), (10, (.int .u64 z76)), (11, (bp b105)), (12, (.int .i64 y94.2)), (13, (bp b131)), (14, (.int .u64 y118.2.1)), (15, (.int .i64 y118.2.2)), (16, (bp b157)), (17, (.int .i64 y144.2.1)), (18, (.int .i64 y144.2.2)), (40, (.slice A71 x1.length c72)), (41, (.int .i64 (x1.length : Int))), (42, (.int .i64 (i74 : Int))), (70, (.agg #[(.slice none 0 0), (.slice none 0 0)])), (71, (.agg #[(.slice none 0 0), (.slice none 0 0)])), (72, (.agg #[(.slice none 0 0), (.slice none 0 0)]))] rfl ⟨rfl, rfl, rfl, rfl, rfl, rfl, rfl, rfl, rfl, rfl, rfl, rfl, rfl, rfl, rfl, rfl, rfl, rfl, rfl, trivial⟩ ?_
  refine wo_alloc Θ_ok rfl rfl rfl rfl rfl rfl [(.slice none 0 0), (.slice none 0 0)] rfl hO (fun b166 w167 n168 => ?_)
  have h47 := h47.tr n168.tr
  have h1 := h1.tr n168.tr
  have h0_1 := h0_1.tr n168.tr
  have h0_2 := h0_2.tr n168.tr
  have h21 := h21.tr n168.tr
  have h23 := h23.tr n168.tr
  have h102 := h102.tr n168.tr
  have h104 := h104.tr n168.tr
  have h128 := h128.tr n168.tr
  have h130 := h130.tr n168.tr
  have h154 := h154.tr n168.tr
  have h156 := h156.tr n168.tr
  have T51 := T51.trans n168.tr
  have T73 := T73.trans n168.tr
  have TTK96 := TTK96.trans n168.tr
  have TLK96 := TLK96.trans n168.tr
  have TTK120 := TTK120.trans n168.tr
  have TLK120 := TLK120.trans n168.tr
  have TTK146 := TTK146.trans n168.tr
  have TLK146 := TLK146.trans n168.tr
  have nb166b4 : b166 ≠ b4 := by have := hb4.lt; have := n168.ge; omega
  have hb4 := hb4.fr0 n168.fr
  have ib4 := List.mem_cons_of_mem b166 ib4
  have nb166b24 : b166 ≠ b24 := by have := hb24.lt; have := n168.ge; omega
  have hb24 := hb24.fr0 n168.fr
  have ib24 := List.mem_cons_of_mem b166 ib24
  have nb166b105 : b166 ≠ b105 := by have := hb105.lt; have := n168.ge; omega
  have hb105 := hb105.fr0 n168.fr
  have ib105 := List.mem_cons_of_mem b166 ib105
  have nb166b131 : b166 ≠ b131 := by have := hb131.lt; have := n168.ge; omega
  have hb131 := hb131.fr0 n168.fr
  have ib131 := List.mem_cons_of_mem b166 ib131
  have nb166b157 : b166 ≠ b157 := by have := hb157.lt; have := n168.ge; omega
  have hb157 := hb157.fr0 n168.fr
  have ib157 := List.mem_cons_of_mem b166 ib157
  have hb166 := n168.blk
  have gb166 := n168.ge0 hF
  have ib166 : b166 ∈ b166 :: (b157 :: b131 :: b105 :: O78) := List.mem_cons_self
  have hO := n168.ob
  have hF := hF.trans n168.fr
  have hS := Sub.cons hS b166
  refine wo_alloc Θ_ok rfl rfl rfl rfl rfl rfl [(.slice none 0 0), (.slice none 0 0)] rfl hO (fun b169 w170 n171 => ?_)
  have h47 := h47.tr n171.tr
  have h1 := h1.tr n171.tr
  have h0_1 := h0_1.tr n171.tr
  have h0_2 := h0_2.tr n171.tr
  have h21 := h21.tr n171.tr
  have h23 := h23.tr n171.tr
  have h102 := h102.tr n171.tr
  have h104 := h104.tr n171.tr
  have h128 := h128.tr n171.tr
  have h130 := h130.tr n171.tr
  have h154 := h154.tr n171.tr
  have h156 := h156.tr n171.tr
  have T51 := T51.trans n171.tr
  have T73 := T73.trans n171.tr
  have TTK96 := TTK96.trans n171.tr
  have TLK96 := TLK96.trans n171.tr
  have TTK120 := TTK120.trans n171.tr
  have TLK120 := TLK120.trans n171.tr
  have TTK146 := TTK146.trans n171.tr
  have TLK146 := TLK146.trans n171.tr
  have nb169b4 : b169 ≠ b4 := by have := hb4.lt; have := n171.ge; omega
  have hb4 := hb4.fr0 n171.fr
  have ib4 := List.mem_cons_of_mem b169 ib4
  have nb169b24 : b169 ≠ b24 := by have := hb24.lt; have := n171.ge; omega
  have hb24 := hb24.fr0 n171.fr
  have ib24 := List.mem_cons_of_mem b169 ib24
  have nb169b105 : b169 ≠ b105 := by have := hb105.lt; have := n171.ge; omega
  have hb105 := hb105.fr0 n171.fr
  have ib105 := List.mem_cons_of_mem b169 ib105
  have nb169b131 : b169 ≠ b131 := by have := hb131.lt; have := n171.ge; omega
  have hb131 := hb131.fr0 n171.fr
  have ib131 := List.mem_cons_of_mem b169 ib131
  have nb169b157 : b169 ≠ b157 := by have := hb157.lt; have := n171.ge; omega
  have hb157 := hb157.fr0 n171.fr
  have ib157 := List.mem_cons_of_mem b169 ib157
  have nb169b166 : b169 ≠ b166 := by have := hb166.lt; have := n171.ge; omega
  have hb166 := hb166.fr0 n171.fr
  have ib166 := List.mem_cons_of_mem b169 ib166
  have hb169 := n171.blk
  have gb169 := n171.ge0 hF
  have ib169 : b169 ∈ b169 :: (b166 :: b157 :: b131 :: b105 :: O78) := List.mem_cons_self
  have hO := n171.ob
  have hF := hF.trans n171.fr
  have hS := Sub.cons hS b169
  refine wo_alloc Θ_ok rfl rfl rfl rfl rfl rfl [(.slice none 0 0), (.slice none 0 0)] rfl hO (fun b172 w173 n174 => ?_)
  have h47 := h47.tr n174.tr
  have h1 := h1.tr n174.tr
  have h0_1 := h0_1.tr n174.tr
  have h0_2 := h0_2.tr n174.tr
  have h21 := h21.tr n174.tr
  have h23 := h23.tr n174.tr
  have h102 := h102.tr n174.tr
  have h104 := h104.tr n174.tr
  have h128 := h128.tr n174.tr
  have h130 := h130.tr n174.tr
  have h154 := h154.tr n174.tr
  have h156 := h156.tr n174.tr
  have T51 := T51.trans n174.tr
  have T73 := T73.trans n174.tr
  have TTK96 := TTK96.trans n174.tr
  have TLK96 := TLK96.trans n174.tr
  have TTK120 := TTK120.trans n174.tr
  have TLK120 := TLK120.trans n174.tr
  have TTK146 := TTK146.trans n174.tr
  have TLK146 := TLK146.trans n174.tr
  have nb172b4 : b172 ≠ b4 := by have := hb4.lt; have := n174.ge; omega
  have hb4 := hb4.fr0 n174.fr
  have ib4 := List.mem_cons_of_mem b172 ib4
  have nb172b24 : b172 ≠ b24 := by have := hb24.lt; have := n174.ge; omega
  have hb24 := hb24.fr0 n174.fr
  have ib24 := List.mem_cons_of_mem b172 ib24
  have nb172b105 : b172 ≠ b105 := by have := hb105.lt; have := n174.ge; omega
  have hb105 := hb105.fr0 n174.fr
  have ib105 := List.mem_cons_of_mem b172 ib105
  have nb172b131 : b172 ≠ b131 := by have := hb131.lt; have := n174.ge; omega
  have hb131 := hb131.fr0 n174.fr
  have ib131 := List.mem_cons_of_mem b172 ib131
  have nb172b157 : b172 ≠ b157 := by have := hb157.lt; have := n174.ge; omega
  have hb157 := hb157.fr0 n174.fr
  have ib157 := List.mem_cons_of_mem b172 ib157
  have nb172b166 : b172 ≠ b166 := by have := hb166.lt; have := n174.ge; omega
  have hb166 := hb166.fr0 n174.fr
  have ib166 := List.mem_cons_of_mem b172 ib166
  have nb172b169 : b172 ≠ b169 := by have := hb169.lt; have := n174.ge; omega
  have hb169 := hb169.fr0 n174.fr
  have ib169 := List.mem_cons_of_mem b172 ib169
  have hb172 := n174.blk
  have gb172 := n174.ge0 hF
  have ib172 : b172 ∈ b172 :: (b169 :: b166 :: b157 :: b131 :: b105 :: O78) := List.mem_cons_self
  have hO := n174.ob
  have hF := hF.trans n174.fr
  have hS := Sub.cons hS b172
  refine wo_store Θ_ok rfl rfl rfl rfl rfl rfl rfl hb166 [(.slice none 0 0), (.slice none 0 0)] rfl rfl (by simp [Value.oneCell']) rfl [(.slice none 0 0), (.slice none 0 0)] rfl (fun w175 hb166 f176 => ?_)
  have h47 := h47.tr (f176.tr (one_in ib166))
  have h1 := h1.tr (f176.tr (one_in ib166))
  have h0_1 := h0_1.tr (f176.tr (one_in ib166))
  have h0_2 := h0_2.tr (f176.tr (one_in ib166))
  have h21 := h21.tr (f176.tr (one_in ib166))
  have h23 := h23.tr (f176.tr (one_in ib166))
  have h102 := h102.tr (f176.tr (one_in ib166))
  have h104 := h104.tr (f176.tr (one_in ib166))
  have h128 := h128.tr (f176.tr (one_in ib166))
  have h130 := h130.tr (f176.tr (one_in ib166))
  have h154 := h154.tr (f176.tr (one_in ib166))
  have h156 := h156.tr (f176.tr (one_in ib166))
  have T51 := T51.trans (f176.tr (one_in ib166))
  have T73 := T73.trans (f176.tr (one_in ib166))
  have TTK96 := TTK96.trans (f176.tr (one_in ib166))
  have TLK96 := TLK96.trans (f176.tr (one_in ib166))
  have TTK120 := TTK120.trans (f176.tr (one_in ib166))
  have TLK120 := TLK120.trans (f176.tr (one_in ib166))
  have TTK146 := TTK146.trans (f176.tr (one_in ib166))
  have TLK146 := TLK146.trans (f176.tr (one_in ib166))
  have hb4 := hb4.fr f176 (nin nb166b4.symm)
  have hb24 := hb24.fr f176 (nin nb166b24.symm)
  have hb105 := hb105.fr f176 (nin nb166b105.symm)
  have hb131 := hb131.fr f176 (nin nb166b131.symm)
  have hb157 := hb157.fr f176 (nin nb166b157.symm)
  have hb169 := hb169.fr f176 (nin nb169b166)
  have hb172 := hb172.fr f176 (nin nb172b166)
  have hO := f176.ob hO
  have hF := hF.own f176 gb166
  refine wo_store Θ_ok rfl rfl rfl rfl rfl rfl rfl hb169 [(.slice none 0 0), (.slice none 0 0)] rfl rfl (by simp [Value.oneCell']) rfl [(.slice none 0 0), (.slice none 0 0)] rfl (fun w177 hb169 f178 => ?_)
  have h47 := h47.tr (f178.tr (one_in ib169))
  have h1 := h1.tr (f178.tr (one_in ib169))
  have h0_1 := h0_1.tr (f178.tr (one_in ib169))
  have h0_2 := h0_2.tr (f178.tr (one_in ib169))
  have h21 := h21.tr (f178.tr (one_in ib169))
  have h23 := h23.tr (f178.tr (one_in ib169))
  have h102 := h102.tr (f178.tr (one_in ib169))
  have h104 := h104.tr (f178.tr (one_in ib169))
  have h128 := h128.tr (f178.tr (one_in ib169))
  have h130 := h130.tr (f178.tr (one_in ib169))
  have h154 := h154.tr (f178.tr (one_in ib169))
  have h156 := h156.tr (f178.tr (one_in ib169))
  have T51 := T51.trans (f178.tr (one_in ib169))
  have T73 := T73.trans (f178.tr (one_in ib169))
  have TTK96 := TTK96.trans (f178.tr (one_in ib169))
  have TLK96 := TLK96.trans (f178.tr (one_in ib169))
  have TTK120 := TTK120.trans (f178.tr (one_in ib169))
  have TLK120 := TLK120.trans (f178.tr (one_in ib169))
  have TTK146 := TTK146.trans (f178.tr (one_in ib169))
  have TLK146 := TLK146.trans (f178.tr (one_in ib169))
  have hb4 := hb4.fr f178 (nin nb169b4.symm)
  have hb24 := hb24.fr f178 (nin nb169b24.symm)
  have hb105 := hb105.fr f178 (nin nb169b105.symm)
  have hb131 := hb131.fr f178 (nin nb169b131.symm)
  have hb157 := hb157.fr f178 (nin nb169b157.symm)
  have hb166 := hb166.fr f178 (nin nb169b166.symm)
  have hb172 := hb172.fr f178 (nin nb172b169)
  have hO := f178.ob hO
  have hF := hF.own f178 gb169
  refine wo_store Θ_ok rfl rfl rfl rfl rfl rfl rfl hb172 [(.slice none 0 0), (.slice none 0 0)] rfl rfl (by simp [Value.oneCell']) rfl [(.slice none 0 0), (.slice none 0 0)] rfl (fun w179 hb172 f180 => ?_)
  have h47 := h47.tr (f180.tr (one_in ib172))
  have h1 := h1.tr (f180.tr (one_in ib172))
  have h0_1 := h0_1.tr (f180.tr (one_in ib172))
  have h0_2 := h0_2.tr (f180.tr (one_in ib172))
  have h21 := h21.tr (f180.tr (one_in ib172))
  have h23 := h23.tr (f180.tr (one_in ib172))
  have h102 := h102.tr (f180.tr (one_in ib172))
  have h104 := h104.tr (f180.tr (one_in ib172))
  have h128 := h128.tr (f180.tr (one_in ib172))
  have h130 := h130.tr (f180.tr (one_in ib172))
  have h154 := h154.tr (f180.tr (one_in ib172))
  have h156 := h156.tr (f180.tr (one_in ib172))
  have T51 := T51.trans (f180.tr (one_in ib172))
  have T73 := T73.trans (f180.tr (one_in ib172))
  have TTK96 := TTK96.trans (f180.tr (one_in ib172))
  have TLK96 := TLK96.trans (f180.tr (one_in ib172))
  have TTK120 := TTK120.trans (f180.tr (one_in ib172))
  have TLK120 := TLK120.trans (f180.tr (one_in ib172))
  have TTK146 := TTK146.trans (f180.tr (one_in ib172))
  have TLK146 := TLK146.trans (f180.tr (one_in ib172))
  have hb4 := hb4.fr f180 (nin nb172b4.symm)
  have hb24 := hb24.fr f180 (nin nb172b24.symm)
  have hb105 := hb105.fr f180 (nin nb172b105.symm)
  have hb131 := hb131.fr f180 (nin nb172b131.symm)
  have hb157 := hb157.fr f180 (nin nb172b157.symm)
  have hb166 := hb166.fr f180 (nin nb172b166.symm)
  have hb169 := hb169.fr f180 (nin nb172b169.symm)
  have hO := f180.ob hO
  have hF := hF.own f180 gb172
  refine wo_seg Θ_ok [9, 10] [(2, v45), (3, (bp b4)), (7, (bp b24)), (8, (.bool y37)), (10, (.int .u64 z76)), (11, (bp b105)), (12, (.int .i64 y94.2)), (13, (bp b131)), (14, (.int .u64 y118.2.1)), (15, (.int .i64 y118.2.2)), (16, (bp b157)), (17, (.int .i64 y144.2.1)), (18, (.int .i64 y144.2.2)), (19, (bp b166)), (20, (bp b169)), (21, (bp b172)), (22, (.int .u64 0)), (23, (.int .i64 0)), (40, (.slice A71 x1.length c72)), (41, (.int .i64 (x1.length : Int))), (42, (.int .i64 (i74 : Int)))] rfl ⟨rfl, rfl, rfl, rfl, rfl, rfl, rfl, rfl, rfl, rfl, rfl, rfl, rfl, rfl, rfl, rfl, rfl, rfl, rfl, rfl, rfl, trivial⟩ ?_
  refine wo_nil ?_
  refine wq_seq ?_
  refine wc_seq ?_
  refine wc_region (l := [0, 1, 2]) rfl ?_
  refine wo_seg Θ_ok [0, 1, 2] [(2, v45), (3, (bp b4)), (7, (bp b24)), (8, (.bool y37)), (10, (.int .u64 z76)), (11, (bp b105)), (12, (.int .i64 y94.2)), (13, (bp b131)), (14, (.int .u64 y118.2.1)), (15, (.int .i64 y118.2.2)), (16, (bp b157)), (17, (.int .i64 y144.2.1)), (18, (.int .i64 y144.2.2)), (19, (bp b166)), (20, (bp b169)), (21, (bp b172)), (22, (.int .u64 0)), (23, (.int .i64 0)), (24, (.int .i64 350)), (25, (.int .i64 350)), (26, (.int .i64 350)), (40, (.slice A71 x1.length c72)), (41, (.int .i64 (x1.length : Int))), (42, (.int .i64 (i74 : Int)))] rfl ⟨rfl, rfl, rfl, rfl, rfl, rfl, rfl, rfl, rfl, rfl, rfl, rfl, rfl, rfl, rfl, rfl, rfl, rfl, rfl, rfl, rfl, rfl, rfl, rfl, trivial⟩ ?_
  refine wo_nil ?_
  refine wq_seq ?_
  obtain ⟨k182, hk183, h⟩ := letk_some h
  refine wc_join (fun E W => ∃ (O189 : List Nat) (p186 : Int) (p187 : Int) (p188 : Int), E = [(2, v45), (3, (bp b4)), (7, (bp b24)), (8, (.bool y37)), (10, (.int .u64 z76)), (11, (bp b105)), (12, (.int .i64 y94.2)), (13, (bp b131)), (14, (.int .u64 y118.2.1)), (15, (.int .i64 y118.2.2)), (16, (bp b157)), (17, (.int .i64 y144.2.1)), (18, (.int .i64 y144.2.2)), (19, (bp b166)), (20, (bp b169)), (21, (bp b172)), (22, (.int .u64 0)), (23, (.int .i64 0)), (24, (.int .i64 p186)), (25, (.int .i64 p187)), (26, (.int .i64 p188)), (40, (.slice A71 x1.length c72)), (41, (.int .i64 (x1.length : Int))), (42, (.int .i64 (i74 : Int)))] ∧ Tr (b172 :: b169 :: b166 :: b157 :: b131 :: b105 :: O78) w179 O189 W ∧ OB O189 W ∧ Sub O O189 ∧ Fr [] w W ∧ b4 ∈ O189 ∧ Blk W b4 25 [v0_1, v0_2] ∧ b24 ∈ O189 ∧ Blk W b24 25 [(.slice A27 y18.fNames.length c28), (.slice A29 y18.fBoxes.length c30)] ∧ b105 ∈ O189 ∧ Blk W b105 25 [(.slice A108 y94.1.fNames.length c109), (.slice A110 y94.1.fBoxes.length c111)] ∧ b131 ∈ O189 ∧ Blk W b131 25 [(.slice A134 y118.1.fNames.length c135), (.slice A136 y118.1.fBoxes.length c137)] ∧ b157 ∈ O189 ∧ Blk W b157 25 [(.slice A160 y144.1.fNames.length c161), (.slice A162 y144.1.fBoxes.length c163)] ∧ b166 ∈ O189 ∧ Blk W b166 25 [(.slice none 0 0), (.slice none 0 0)] ∧ b169 ∈ O189 ∧ Blk W b169 25 [(.slice none 0 0), (.slice none 0 0)] ∧ b172 ∈ O189 ∧ Blk W b172 25 [(.slice none 0 0), (.slice none 0 0)] ∧ k182 p186 p187 p188 = some r) ?_ (fun K184 hK185 => ?_)
  rotate_left
  · clear hk183
    have T181 := Tr.refl (b172 :: b169 :: b166 :: b157 :: b131 :: b105 :: O78) w179
    refine wc_seq ?_
    refine wc_region (l := [0]) rfl ?_
    refine wo_seg Θ_ok [0] [(2, v45), (3, (bp b4)), (7, (bp b24)), (8, (.bool y37)), (10, (.int .u64 z76)), (11, (bp b105)), (12, (.int .i64 y94.2)), (13, (bp b131)), (14, (.int .u64 y118.2.1)), (15, (.int .i64 y118.2.2)), (16, (bp b157)), (17, (.int .i64 y144.2.1)), (18, (.int .i64 y144.2.2)), (19, (bp b166)), (20, (bp b169)), (21, (bp b172)), (22, (.int .u64 0)), (23, (.int .i64 0)), (24, (.int .i64 350)), (25, (.int .i64 350)), (26, (.int .i64 350)), (40, (.slice A71 x1.length c72)), (41, (.int .i64 (x1.length : Int))), (42, (.int .i64 (i74 : Int))), (73, (.bool y37))] rfl ⟨rfl, rfl, rfl, rfl, rfl, rfl, rfl, rfl, rfl, rfl, rfl, rfl, rfl, rfl, rfl, rfl, rfl, rfl, rfl, rfl, rfl, rfl, rfl, rfl, rfl, trivial⟩ ?_
    refine wo_nil ?_
    refine wq_seq ?_
    rcases bif_some h with ⟨hc379, h⟩ | ⟨hc379, h⟩
    rotate_left
    · refine wc_known_false rfl hc379 ?_
      refine wc_skip ?_
      exact wq_join hK185 [(2, v45), (3, (bp b4)), (7, (bp b24)), (8, (.bool y37)), (10, (.int .u64 z76)), (11, (bp b105)), (12, (.int .i64 y94.2)), (13, (bp b131)), (14, (.int .u64 y118.2.1)), (15, (.int .i64 y118.2.2)), (16, (bp b157)), (17, (.int .i64 y144.2.1)), (18, (.int .i64 y144.2.2)), (19, (bp b166)), (20, (bp b169)), (21, (bp b172)), (22, (.int .u64 0)), (23, (.int .i64 0)), (24, (.int .i64 350)), (25, (.int .i64 350)), (26, (.int .i64 350)), (40, (.slice A71 x1.length c72)), (41, (.int .i64 (x1.length : Int))), (42, (.int .i64 (i74 : Int)))] ⟨rfl, rfl, rfl, rfl, rfl, rfl, rfl, rfl, rfl, rfl, rfl, rfl, rfl, rfl, rfl, rfl, rfl, rfl, rfl, rfl, rfl, rfl, rfl, rfl, trivial⟩ ⟨b172 :: b169 :: b166 :: b157 :: b131 :: b105 :: O78, (350 : Int), (350 : Int), (350 : Int), rfl, T181, hO, hS, hF, ib4, hb4, ib24, hb24, ib105, hb105, ib131, hb131, ib157, hb157, ib166, hb166, ib169, hb169, ib172, hb172, h⟩
    refine wc_known_true rfl hc379 ?_
    refine wc_region (l := [0, 1, 2]) rfl ?_
    refine wo_seg Θ_ok [0, 1, 2] [(2, v45), (3, (bp b4)), (7, (bp b24)), (8, (.bool y37)), (10, (.int .u64 z76)), (11, (bp b105)), (12, (.int .i64 y94.2)), (13, (bp b131)), (14, (.int .u64 y118.2.1)), (15, (.int .i64 y118.2.2)), (16, (bp b157)), (17, (.int .i64 y144.2.1)), (18, (.int .i64 y144.2.2)), (19, (bp b166)), (20, (bp b169)), (21, (bp b172)), (22, (.int .u64 0)), (23, (.int .i64 0)), (24, (.int .i64 2)), (25, (.int .i64 2)), (26, (.int .i64 2)), (40, (.slice A71 x1.length c72)), (41, (.int .i64 (x1.length : Int))), (42, (.int .i64 (i74 : Int)))] rfl ⟨rfl, rfl, rfl, rfl, rfl, rfl, rfl, rfl, rfl, rfl, rfl, rfl, rfl, rfl, rfl, rfl, rfl, rfl, rfl, rfl, rfl, rfl, rfl, rfl, trivial⟩ ?_
    refine wo_nil ?_
    exact wq_join hK185 [(2, v45), (3, (bp b4)), (7, (bp b24)), (8, (.bool y37)), (10, (.int .u64 z76)), (11, (bp b105)), (12, (.int .i64 y94.2)), (13, (bp b131)), (14, (.int .u64 y118.2.1)), (15, (.int .i64 y118.2.2)), (16, (bp b157)), (17, (.int .i64 y144.2.1)), (18, (.int .i64 y144.2.2)), (19, (bp b166)), (20, (bp b169)), (21, (bp b172)), (22, (.int .u64 0)), (23, (.int .i64 0)), (24, (.int .i64 2)), (25, (.int .i64 2)), (26, (.int .i64 2)), (40, (.slice A71 x1.length c72)), (41, (.int .i64 (x1.length : Int))), (42, (.int .i64 (i74 : Int)))] ⟨rfl, rfl, rfl, rfl, rfl, rfl, rfl, rfl, rfl, rfl, rfl, rfl, rfl, rfl, rfl, rfl, rfl, rfl, rfl, rfl, rfl, rfl, rfl, rfl, trivial⟩ ⟨b172 :: b169 :: b166 :: b157 :: b131 :: b105 :: O78, (2 : Int), (2 : Int), (2 : Int), rfl, T181, hO, hS, hF, ib4, hb4, ib24, hb24, ib105, hb105, ib131, hb131, ib157, hb157, ib166, hb166, ib169, hb169, ib172, hb172, h⟩
  rintro E w190 ⟨O189, p186, p187, p188, rfl, T181, hO, hS, hF, ib4, hb4, ib24, hb24, ib105, hb105, ib131, hb131, ib157, hb157, ib166, hb166, ib169, hb169, ib172, hb172, h⟩
  have T51 := T51.trans T181
  have T73 := T73.trans T181
  have TTK96 := TTK96.trans T181
  have TLK96 := TLK96.trans T181
  have TTK120 := TTK120.trans T181
  have TLK120 := TLK120.trans T181
  have TTK146 := TTK146.trans T181
  have TLK146 := TLK146.trans T181
  have h47 := h47.tr T181
  have h1 := h1.tr T181
  have h0_1 := h0_1.tr T181
  have h0_2 := h0_2.tr T181
  have h21 := h21.tr T181
  have h23 := h23.tr T181
  have h102 := h102.tr T181
  have h104 := h104.tr T181
  have h128 := h128.tr T181
  have h130 := h130.tr T181
  have h154 := h154.tr T181
  have h156 := h156.tr T181
  subst hk183
  (try dsimp only at h)
  obtain ⟨k192, hk193, h⟩ := letk_some h
  refine wc_join (fun E W => ∃ (O216 : List Nat) (p196 : Int) (p197 : Int) (p198 : Int) (p199 : Int) (p200 : Int) (p201 : GIpc) (p206 : GIpc) (p211 : GIpc) (v202 : Value) (v204 : Value) (v207 : Value) (v209 : Value) (v212 : Value) (v214 : Value), E = [(2, v45), (3, (bp b4)), (7, (bp b24)), (8, (.bool y37)), (11, (bp b105)), (12, (.int .i64 y94.2)), (13, (bp b131)), (14, (.int .u64 y118.2.1)), (15, (.int .i64 y118.2.2)), (16, (bp b157)), (17, (.int .i64 y144.2.1)), (18, (.int .i64 y144.2.2)), (19, (bp b166)), (20, (bp b169)), (21, (bp b172)), (22, (.int .u64 p196)), (23, (.int .i64 p197)), (24, (.int .i64 p198)), (25, (.int .i64 p199)), (26, (.int .i64 p200)), (40, (.slice A71 x1.length c72)), (41, (.int .i64 (x1.length : Int))), (42, (.int .i64 (i74 : Int)))] ∧ Tr O189 w190 O216 W ∧ OB O216 W ∧ Sub O O216 ∧ Fr [] w W ∧ b4 ∈ O216 ∧ Blk W b4 25 [v0_1, v0_2] ∧ b24 ∈ O216 ∧ Blk W b24 25 [(.slice A27 y18.fNames.length c28), (.slice A29 y18.fBoxes.length c30)] ∧ b105 ∈ O216 ∧ Blk W b105 25 [(.slice A108 y94.1.fNames.length c109), (.slice A110 y94.1.fBoxes.length c111)] ∧ b131 ∈ O216 ∧ Blk W b131 25 [(.slice A134 y118.1.fNames.length c135), (.slice A136 y118.1.fBoxes.length c137)] ∧ b157 ∈ O216 ∧ Blk W b157 25 [(.slice A160 y144.1.fNames.length c161), (.slice A162 y144.1.fBoxes.length c163)] ∧ b166 ∈ O216 ∧ Blk W b166 25 [v202, v204] ∧ b169 ∈ O216 ∧ Blk W b169 25 [v207, v209] ∧ b172 ∈ O216 ∧ Blk W b172 25 [v212, v214] ∧ (Ty.slice tGName).is O216 W v202 p201.fNames ∧ (Ty.slice tGBox).is O216 W v204 p201.fBoxes ∧ (Ty.slice tGName).is O216 W v207 p206.fNames ∧ (Ty.slice tGBox).is O216 W v209 p206.fBoxes ∧ (Ty.slice tGName).is O216 W v212 p211.fNames ∧ (Ty.slice tGBox).is O216 W v214 p211.fBoxes ∧ k192 p196 p197 p198 p199 p200 p201 p206 p211 = some r) ?_ (fun K194 hK195 => ?_)
  · rintro E w217 ⟨O216, p196, p197, p198, p199, p200, p201, p206, p211, v202, v204, v207, v209, v212, v214, rfl, T191, hO, hS, hF, ib4, hb4, ib24, hb24, ib105, hb105, ib131, hb131, ib157, hb157, ib166, hb166, ib169, hb169, ib172, hb172, h203, h205, h208, h210, h213, h215, h⟩
    have T51 := T51.trans T191
    have T73 := T73.trans T191
    have TTK96 := TTK96.trans T191
    have TLK96 := TLK96.trans T191
    have TTK120 := TTK120.trans T191
    have TLK120 := TLK120.trans T191
    have TTK146 := TTK146.trans T191
    have TLK146 := TLK146.trans T191
    have h47 := h47.tr T191
    have h1 := h1.tr T191
    have h0_1 := h0_1.tr T191
    have h0_2 := h0_2.tr T191
    have h21 := h21.tr T191
    have h23 := h23.tr T191
    have h102 := h102.tr T191
    have h104 := h104.tr T191
    have h128 := h128.tr T191
    have h130 := h130.tr T191
    have h154 := h154.tr T191
    have h156 := h156.tr T191
    subst hk193
    (try dsimp only at h)
    refine wc_seq ?_
    refine wc_seq ?_
    refine wc_region (l := [0, 1, 2, 3, 4, 5, 6, 7, 8, 9, 10, 11, 12, 13, 14, 15, 16, 17, 18, 19, 20, 21, 22]) rfl ?_
    refine wo_seg Θ_ok [0, 1, 2, 3] [(2, v45), (3, (bp b4)), (7, (bp b24)), (8, (.bool y37)), (11, (bp b105)), (13, (bp b131)), (14, (.int .u64 y118.2.1)), (15, (.int .i64 y118.2.2)), (16, (bp b157)), (17, (.int .i64 y144.2.1)), (18, (.int .i64 y144.2.2)), (19, (bp b166)), (20, (bp b169)), (21, (bp b172)), (22, (.int .u64 p196)), (23, (.int .i64 p197)), (25, (.int .i64 p199)), (26, (.int .i64 p200)), (40, (.slice A71 x1.length c72)), (41, (.int .i64 (x1.length : Int))), (42, (.int .i64 (i74 : Int))), (114, (.bool (y94.2 != p198)))] rfl ⟨rfl, rfl, rfl, rfl, rfl, rfl, rfl, rfl, rfl, rfl, rfl, rfl, rfl, rfl, rfl, rfl, rfl, rfl, rfl, rfl, rfl, rfl, trivial⟩ ?_
    rcases bif_some h with ⟨hc218, h⟩ | ⟨hc218, h⟩
    · refine wo_know 114 true rfl hc218 ?_
      refine wo_seg Θ_ok [4, 5, 6, 7, 8, 9, 10, 11, 12, 13, 14, 15, 16, 17, 18, 19, 20, 21, 22] [(2, v45), (3, (bp b4)), (7, (bp b24)), (8, (.bool y37)), (11, (bp b105)), (13, (bp b131)), (16, (bp b157)), (19, (bp b166)), (20, (bp b169)), (21, (bp b172)), (40, (.slice A71 x1.length c72)), (41, (.int .i64 (x1.length : Int))), (42, (.int .i64 (i74 : Int))), (133, (.bool true))] rfl ⟨rfl, rfl, rfl, rfl, rfl, rfl, rfl, rfl, rfl, rfl, rfl, rfl, rfl, rfl, trivial⟩ ?_
      refine wo_nil ?_
      refine wq_seq ?_
      refine wc_true rfl ?_
      refine wc_seq ?_
      refine wc_region (l := [0]) rfl ?_
      refine wo_seg Θ_ok [0] [(6, (.bool false))] rfl ⟨rfl, trivial⟩ ?_
      refine wo_nil ?_
      refine wq_seq ?_
      refine wc_ret ?_
      cases h
      exact wq_then_ret (wq_block_ret (wq_then_ret (wq_then_ret (wq_block_ret (wq_then_ret (wq_ret rfl ⟨_, rfl, (bool_is.2 rfl), hF⟩))))))
    refine wo_know 114 false rfl hc218 ?_
    refine wo_seg Θ_ok [4, 5, 6, 7, 8] [(2, v45), (3, (bp b4)), (7, (bp b24)), (8, (.bool y37)), (11, (bp b105)), (13, (bp b131)), (14, (.int .u64 y118.2.1)), (16, (bp b157)), (17, (.int .i64 y144.2.1)), (18, (.int .i64 y144.2.2)), (19, (bp b166)), (20, (bp b169)), (21, (bp b172)), (22, (.int .u64 p196)), (23, (.int .i64 p197)), (26, (.int .i64 p200)), (40, (.slice A71 x1.length c72)), (41, (.int .i64 (x1.length : Int))), (42, (.int .i64 (i74 : Int))), (119, (.bool (y118.2.2 != p199)))] rfl ⟨rfl, rfl, rfl, rfl, rfl, rfl, rfl, rfl, rfl, rfl, rfl, rfl, rfl, rfl, rfl, rfl, rfl, rfl, rfl, rfl, trivial⟩ ?_
    rcases bif_some h with ⟨hc219, h⟩ | ⟨hc219, h⟩
    · refine wo_know 119 true rfl hc219 ?_
      refine wo_seg Θ_ok [9, 10, 11, 12, 13, 14, 15, 16, 17, 18, 19, 20, 21, 22] [(2, v45), (3, (bp b4)), (7, (bp b24)), (8, (.bool y37)), (11, (bp b105)), (13, (bp b131)), (16, (bp b157)), (19, (bp b166)), (20, (bp b169)), (21, (bp b172)), (40, (.slice A71 x1.length c72)), (41, (.int .i64 (x1.length : Int))), (42, (.int .i64 (i74 : Int))), (133, (.bool true))] rfl ⟨rfl, rfl, rfl, rfl, rfl, rfl, rfl, rfl, rfl, rfl, rfl, rfl, rfl, rfl, trivial⟩ ?_
      refine wo_nil ?_
      refine wq_seq ?_
      refine wc_true rfl ?_
      refine wc_seq ?_
      refine wc_region (l := [0]) rfl ?_
      refine wo_seg Θ_ok [0] [(6, (.bool false))] rfl ⟨rfl, trivial⟩ ?_
      refine wo_nil ?_
      refine wq_seq ?_
      refine wc_ret ?_
      cases h
      exact wq_then_ret (wq_block_ret (wq_then_ret (wq_then_ret (wq_block_ret (wq_then_ret (wq_ret rfl ⟨_, rfl, (bool_is.2 rfl), hF⟩))))))
    refine wo_know 119 false rfl hc219 ?_
    refine wo_seg Θ_ok [9, 10, 11, 12, 13] [(2, v45), (3, (bp b4)), (7, (bp b24)), (8, (.bool y37)), (11, (bp b105)), (13, (bp b131)), (14, (.int .u64 y118.2.1)), (16, (bp b157)), (17, (.int .i64 y144.2.1)), (19, (bp b166)), (20, (bp b169)), (21, (bp b172)), (22, (.int .u64 p196)), (23, (.int .i64 p197)), (40, (.slice A71 x1.length c72)), (41, (.int .i64 (x1.length : Int))), (42, (.int .i64 (i74 : Int))), (124, (.bool (y144.2.2 != p200)))] rfl ⟨rfl, rfl, rfl, rfl, rfl, rfl, rfl, rfl, rfl, rfl, rfl, rfl, rfl, rfl, rfl, rfl, rfl, rfl, trivial⟩ ?_
    rcases bif_some h with ⟨hc220, h⟩ | ⟨hc220, h⟩
    · refine wo_know 124 true rfl hc220 ?_
      refine wo_seg Θ_ok [14, 15, 16, 17, 18, 19, 20, 21, 22] [(2, v45), (3, (bp b4)), (7, (bp b24)), (8, (.bool y37)), (11, (bp b105)), (13, (bp b131)), (16, (bp b157)), (19, (bp b166)), (20, (bp b169)), (21, (bp b172)), (40, (.slice A71 x1.length c72)), (41, (.int .i64 (x1.length : Int))), (42, (.int .i64 (i74 : Int))), (133, (.bool true))] rfl ⟨rfl, rfl, rfl, rfl, rfl, rfl, rfl, rfl, rfl, rfl, rfl, rfl, rfl, rfl, trivial⟩ ?_
      refine wo_nil ?_
      refine wq_seq ?_
      refine wc_true rfl ?_
      refine wc_seq ?_
      refine wc_region (l := [0]) rfl ?_
      refine wo_seg Θ_ok [0] [(6, (.bool false))] rfl ⟨rfl, trivial⟩ ?_
      refine wo_nil ?_
      refine wq_seq ?_
      refine wc_ret ?_
      cases h
      exact wq_then_ret (wq_block_ret (wq_then_ret (wq_then_ret (wq_block_ret (wq_then_ret (wq_ret rfl ⟨_, rfl, (bool_is.2 rfl), hF⟩))))))
    refine wo_know 124 false rfl hc220 ?_
    refine wo_seg Θ_ok [14, 15, 16, 17, 18] [(2, v45), (3, (bp b4)), (7, (bp b24)), (8, (.bool y37)), (11, (bp b105)), (13, (bp b131)), (16, (bp b157)), (17, (.int .i64 y144.2.1)), (19, (bp b166)), (20, (bp b169)), (21, (bp b172)), (23, (.int .i64 p197)), (40, (.slice A71 x1.length c72)), (41, (.int .i64 (x1.length : Int))), (42, (.int .i64 (i74 : Int))), (129, (.bool (y118.2.1 != p196)))] rfl ⟨rfl, rfl, rfl, rfl, rfl, rfl, rfl, rfl, rfl, rfl, rfl, rfl, rfl, rfl, rfl, rfl, trivial⟩ ?_
    rcases bif_some h with ⟨hc221, h⟩ | ⟨hc221, h⟩
    · refine wo_know 129 true rfl hc221 ?_
      refine wo_seg Θ_ok [19, 20, 21, 22] [(2, v45), (3, (bp b4)), (7, (bp b24)), (8, (.bool y37)), (11, (bp b105)), (13, (bp b131)), (16, (bp b157)), (19, (bp b166)), (20, (bp b169)), (21, (bp b172)), (40, (.slice A71 x1.length c72)), (41, (.int .i64 (x1.length : Int))), (42, (.int .i64 (i74 : Int))), (133, (.bool true))] rfl ⟨rfl, rfl, rfl, rfl, rfl, rfl, rfl, rfl, rfl, rfl, rfl, rfl, rfl, rfl, trivial⟩ ?_
      refine wo_nil ?_
      refine wq_seq ?_
      refine wc_true rfl ?_
      refine wc_seq ?_
      refine wc_region (l := [0]) rfl ?_
      refine wo_seg Θ_ok [0] [(6, (.bool false))] rfl ⟨rfl, trivial⟩ ?_
      refine wo_nil ?_
      refine wq_seq ?_
      refine wc_ret ?_
      cases h
      exact wq_then_ret (wq_block_ret (wq_then_ret (wq_then_ret (wq_block_ret (wq_then_ret (wq_ret rfl ⟨_, rfl, (bool_is.2 rfl), hF⟩))))))
    refine wo_know 129 false rfl hc221 ?_
    refine wo_seg Θ_ok [19, 20, 21, 22] [(2, v45), (3, (bp b4)), (7, (bp b24)), (8, (.bool y37)), (11, (bp b105)), (13, (bp b131)), (16, (bp b157)), (19, (bp b166)), (20, (bp b169)), (21, (bp b172)), (40, (.slice A71 x1.length c72)), (41, (.int .i64 (x1.length : Int))), (42, (.int .i64 (i74 : Int))), (133, (.bool (y144.2.1 != p197)))] rfl ⟨rfl, rfl, rfl, rfl, rfl, rfl, rfl, rfl, rfl, rfl, rfl, rfl, rfl, rfl, trivial⟩ ?_
    refine wo_nil ?_
    refine wq_seq ?_
    rcases bif_some h with ⟨hc222, h⟩ | ⟨hc222, h⟩
    · refine wc_known_true rfl hc222 ?_
      refine wc_seq ?_
      refine wc_region (l := [0]) rfl ?_
      refine wo_seg Θ_ok [0] [(6, (.bool false))] rfl ⟨rfl, trivial⟩ ?_
      refine wo_nil ?_
      refine wq_seq ?_
      refine wc_ret ?_
      cases h
      exact wq_then_ret (wq_block_ret (wq_then_ret (wq_then_ret (wq_block_ret (wq_then_ret (wq_ret rfl ⟨_, rfl, (bool_is.2 rfl), hF⟩))))))
    refine wc_known_false rfl hc222 ?_
    refine wc_skip ?_
    refine wq_seq ?_
    refine wc_seq ?_
    refine wc_seq ?_
    refine wc_region (l := [0, 1, 2, 3, 4, 5, 6, 7, 8, 9, 10, 11, 12, 13, 14, 15]) rfl ?_
    refine wo_load Θ_ok rfl rfl rfl rfl rfl rfl rfl hb105 [(.slice A108 y94.1.fNames.length c109), (.slice A110 y94.1.fBoxes.length c111)] rfl rfl (.inl rfl) (.agg #[(.slice A108 y94.1.fNames.length c109), (.slice A110 y94.1.fBoxes.length c111)]) rfl ?_
    refine wo_load Θ_ok rfl rfl rfl rfl rfl rfl rfl hb166 [v202, v204] rfl rfl (.inl rfl) (.agg #[v202, v204]) rfl ?_
    obtain ⟨y227, hy228, h⟩ := bind_some h
    refine wo_gives rfl rfl rfl rfl rfl ent14 rfl (r_Same_c hO ((tGIpc_is (x := y94.1)).2 ⟨_, _, rfl, h102, h104⟩) ((tGIpc_is (x := p201)).2 ⟨_, _, rfl, h203, h205⟩) hy228) (fun v223 w224 h225 f226 => ?_)
    have h47 := h47.tr f226.tr0
    have h1 := h1.tr f226.tr0
    have h0_1 := h0_1.tr f226.tr0
    have h0_2 := h0_2.tr f226.tr0
    have h21 := h21.tr f226.tr0
    have h23 := h23.tr f226.tr0
    have h102 := h102.tr f226.tr0
    have h104 := h104.tr f226.tr0
    have h128 := h128.tr f226.tr0
    have h130 := h130.tr f226.tr0
    have h154 := h154.tr f226.tr0
    have h156 := h156.tr f226.tr0
    have h208 := h208.tr f226.tr0
    have h210 := h210.tr f226.tr0
    have h213 := h213.tr f226.tr0
    have h215 := h215.tr f226.tr0
    have hb4 := hb4.fr0 f226
    have hb24 := hb24.fr0 f226
    have hb105 := hb105.fr0 f226
    have hb131 := hb131.fr0 f226
    have hb157 := hb157.fr0 f226
    have hb169 := hb169.fr0 f226
    have hb172 := hb172.fr0 f226
    have T51 := T51.trans f226.tr0
    have T73 := T73.trans f226.tr0
    have TTK96 := TTK96.trans f226.tr0
    have TLK96 := TLK96.trans f226.tr0
    have TTK120 := TTK120.trans f226.tr0
    have TLK120 := TLK120.trans f226.tr0
    have TTK146 := TTK146.trans f226.tr0
    have TLK146 := TLK146.trans f226.tr0
    have hO := f226.ob hO
    have hF := hF.trans f226
    obtain rfl := bool_is.1 h225
    refine wo_seg Θ_ok [3, 4] [(2, v45), (3, (bp b4)), (7, (bp b24)), (8, (.bool y37)), (11, (bp b105)), (13, (bp b131)), (16, (bp b157)), (20, (bp b169)), (21, (bp b172)), (40, (.slice A71 x1.length c72)), (41, (.int .i64 (x1.length : Int))), (42, (.int .i64 (i74 : Int))), (138, (.bool (!y227)))] rfl ⟨rfl, rfl, rfl, rfl, rfl, rfl, rfl, rfl, rfl, rfl, rfl, rfl, rfl, trivial⟩ ?_
    rcases bif_some h with ⟨hc229, h⟩ | ⟨hc229, h⟩
    · refine wo_know 138 true rfl hc229 ?_
      refine wo_seg Θ_ok [5, 6, 7, 8, 9, 10, 11, 12, 13, 14, 15] [(2, v45), (3, (bp b4)), (7, (bp b24)), (8, (.bool y37)), (11, (bp b105)), (13, (bp b131)), (16, (bp b157)), (40, (.slice A71 x1.length c72)), (41, (.int .i64 (x1.length : Int))), (42, (.int .i64 (i74 : Int))), (149, (.bool true))] rfl ⟨rfl, rfl, rfl, rfl, rfl, rfl, rfl, rfl, rfl, rfl, rfl, trivial⟩ ?_
      refine wo_nil ?_
      refine wq_seq ?_
      refine wc_true rfl ?_
      refine wc_seq ?_
      refine wc_region (l := [0]) rfl ?_
      refine wo_seg Θ_ok [0] [(6, (.bool false))] rfl ⟨rfl, trivial⟩ ?_
      refine wo_nil ?_
      refine wq_seq ?_
      refine wc_ret ?_
      cases h
      exact wq_then_ret (wq_block_ret (wq_then_ret (wq_then_ret (wq_block_ret (wq_then_ret (wq_ret rfl ⟨_, rfl, (bool_is.2 rfl), hF⟩))))))
    refine wo_know 138 false rfl hc229 ?_
    refine wo_load Θ_ok rfl rfl rfl rfl rfl rfl rfl hb131 [(.slice A134 y118.1.fNames.length c135), (.slice A136 y118.1.fBoxes.length c137)] rfl rfl (.inl rfl) (.agg #[(.slice A134 y118.1.fNames.length c135), (.slice A136 y118.1.fBoxes.length c137)]) rfl ?_
    refine wo_load Θ_ok rfl rfl rfl rfl rfl rfl rfl hb169 [v207, v209] rfl rfl (.inl rfl) (.agg #[v207, v209]) rfl ?_
    obtain ⟨y234, hy235, h⟩ := bind_some h
    refine wo_gives rfl rfl rfl rfl rfl ent14 rfl (r_Same_c hO ((tGIpc_is (x := y118.1)).2 ⟨_, _, rfl, h128, h130⟩) ((tGIpc_is (x := p206)).2 ⟨_, _, rfl, h208, h210⟩) hy235) (fun v230 w231 h232 f233 => ?_)
    have h47 := h47.tr f233.tr0
    have h1 := h1.tr f233.tr0
    have h0_1 := h0_1.tr f233.tr0
    have h0_2 := h0_2.tr f233.tr0
    have h21 := h21.tr f233.tr0
    have h23 := h23.tr f233.tr0
    have h102 := h102.tr f233.tr0
    have h104 := h104.tr f233.tr0
    have h128 := h128.tr f233.tr0
    have h130 := h130.tr f233.tr0
    have h154 := h154.tr f233.tr0
    have h156 := h156.tr f233.tr0
    have h213 := h213.tr f233.tr0
    have h215 := h215.tr f233.tr0
    have hb4 := hb4.fr0 f233
    have hb24 := hb24.fr0 f233
    have hb105 := hb105.fr0 f233
    have hb131 := hb131.fr0 f233
    have hb157 := hb157.fr0 f233
    have hb172 := hb172.fr0 f233
    have T51 := T51.trans f233.tr0
    have T73 := T73.trans f233.tr0
    have TTK96 := TTK96.trans f233.tr0
    have TLK96 := TLK96.trans f233.tr0
    have TTK120 := TTK120.trans f233.tr0
    have TLK120 := TLK120.trans f233.tr0
    have TTK146 := TTK146.trans f233.tr0
    have TLK146 := TLK146.trans f233.tr0
    have hO := f233.ob hO
    have hF := hF.trans f233
    obtain rfl := bool_is.1 h232
    refine wo_seg Θ_ok [8, 9, 10] [(2, v45), (3, (bp b4)), (7, (bp b24)), (8, (.bool y37)), (11, (bp b105)), (13, (bp b131)), (16, (bp b157)), (21, (bp b172)), (40, (.slice A71 x1.length c72)), (41, (.int .i64 (x1.length : Int))), (42, (.int .i64 (i74 : Int))), (144, (.bool (!y234)))] rfl ⟨rfl, rfl, rfl, rfl, rfl, rfl, rfl, rfl, rfl, rfl, rfl, rfl, trivial⟩ ?_
    rcases bif_some h with ⟨hc236, h⟩ | ⟨hc236, h⟩
    · refine wo_know 144 true rfl hc236 ?_
      refine wo_seg Θ_ok [11, 12, 13, 14, 15] [(2, v45), (3, (bp b4)), (7, (bp b24)), (8, (.bool y37)), (11, (bp b105)), (13, (bp b131)), (16, (bp b157)), (40, (.slice A71 x1.length c72)), (41, (.int .i64 (x1.length : Int))), (42, (.int .i64 (i74 : Int))), (149, (.bool true))] rfl ⟨rfl, rfl, rfl, rfl, rfl, rfl, rfl, rfl, rfl, rfl, rfl, trivial⟩ ?_
      refine wo_nil ?_
      refine wq_seq ?_
      refine wc_true rfl ?_
      refine wc_seq ?_
      refine wc_region (l := [0]) rfl ?_
      refine wo_seg Θ_ok [0] [(6, (.bool false))] rfl ⟨rfl, trivial⟩ ?_
      refine wo_nil ?_
      refine wq_seq ?_
      refine wc_ret ?_
      cases h
      exact wq_then_ret (wq_block_ret (wq_then_ret (wq_then_ret (wq_block_ret (wq_then_ret (wq_ret rfl ⟨_, rfl, (bool_is.2 rfl), hF⟩))))))
    refine wo_know 144 false rfl hc236 ?_
    refine wo_load Θ_ok rfl rfl rfl rfl rfl rfl rfl hb157 [(.slice A160 y144.1.fNames.length c161), (.slice A162 y144.1.fBoxes.length c163)] rfl rfl (.inl rfl) (.agg #[(.slice A160 y144.1.fNames.length c161), (.slice A162 y144.1.fBoxes.length c163)]) rfl ?_
    refine wo_load Θ_ok rfl rfl rfl rfl rfl rfl rfl hb172 [v212, v214] rfl rfl (.inl rfl) (.agg #[v212, v214]) rfl ?_
    obtain ⟨y241, hy242, h⟩ := bind_some h
    refine wo_gives rfl rfl rfl rfl rfl ent14 rfl (r_Same_c hO ((tGIpc_is (x := y144.1)).2 ⟨_, _, rfl, h154, h156⟩) ((tGIpc_is (x := p211)).2 ⟨_, _, rfl, h213, h215⟩) hy242) (fun v237 w238 h239 f240 => ?_)
    have h47 := h47.tr f240.tr0
    have h1 := h1.tr f240.tr0
    have h0_1 := h0_1.tr f240.tr0
    have h0_2 := h0_2.tr f240.tr0
    have h21 := h21.tr f240.tr0
    have h23 := h23.tr f240.tr0
    have h102 := h102.tr f240.tr0
    have h104 := h104.tr f240.tr0
    have h128 := h128.tr f240.tr0
    have h130 := h130.tr f240.tr0
    have h154 := h154.tr f240.tr0
    have h156 := h156.tr f240.tr0
    have hb4 := hb4.fr0 f240
    have hb24 := hb24.fr0 f240
    have hb105 := hb105.fr0 f240
    have hb131 := hb131.fr0 f240
    have hb157 := hb157.fr0 f240
    have T51 := T51.trans f240.tr0
    have T73 := T73.trans f240.tr0
    have TTK96 := TTK96.trans f240.tr0
    have TLK96 := TLK96.trans f240.tr0
    have TTK120 := TTK120.trans f240.tr0
    have TLK120 := TLK120.trans f240.tr0
    have TTK146 := TTK146.trans f240.tr0
    have TLK146 := TLK146.trans f240.tr0
    have hO := f240.ob hO
    have hF := hF.trans f240
    obtain rfl := bool_is.1 h239
    refine wo_seg Θ_ok [14, 15] [(2, v45), (3, (bp b4)), (7, (bp b24)), (8, (.bool y37)), (11, (bp b105)), (13, (bp b131)), (16, (bp b157)), (40, (.slice A71 x1.length c72)), (41, (.int .i64 (x1.length : Int))), (42, (.int .i64 (i74 : Int))), (149, (.bool (!y241)))] rfl ⟨rfl, rfl, rfl, rfl, rfl, rfl, rfl, rfl, rfl, rfl, rfl, trivial⟩ ?_
    refine wo_nil ?_
    refine wq_seq ?_
    rcases bif_some h with ⟨hc243, h⟩ | ⟨hc243, h⟩
    · refine wc_known_true rfl hc243 ?_
      refine wc_seq ?_
      refine wc_region (l := [0]) rfl ?_
      refine wo_seg Θ_ok [0] [(6, (.bool false))] rfl ⟨rfl, trivial⟩ ?_
      refine wo_nil ?_
      refine wq_seq ?_
      refine wc_ret ?_
      cases h
      exact wq_then_ret (wq_block_ret (wq_then_ret (wq_then_ret (wq_block_ret (wq_then_ret (wq_ret rfl ⟨_, rfl, (bool_is.2 rfl), hF⟩))))))
    refine wc_known_false rfl hc243 ?_
    refine wc_skip ?_
    refine wq_seq ?_
    refine wc_seq ?_
    refine wc_region (l := [0, 1]) rfl ?_
    refine wo_load Θ_ok rfl rfl rfl rfl rfl rfl rfl hb105 [(.slice A108 y94.1.fNames.length c109), (.slice A110 y94.1.fBoxes.length c111)] rfl rfl (.inl rfl) (.agg #[(.slice A108 y94.1.fNames.length c109), (.slice A110 y94.1.fBoxes.length c111)]) rfl ?_
    obtain ⟨A244, c245, rfl, hlc245, hmc245⟩ := slice_form h0_1
    obtain ⟨A246, c247, rfl, hlc247, hmc247⟩ := slice_form h0_2
    refine wo_call rfl rfl rfl rfl rfl ent15 rfl (spoil_s h102N h104N TLK96) (fun _ w249 ⟨he, hC248⟩ => ⟨_, he, ?_⟩)
    have TTK96 := TTK96.chg hC248 (Nat.le_refl _)
    have h47 := h47_K96.tr TTK96
    have h1 := h1_K96.tr TTK96
    have h0_1 := h0_1_K96.tr TTK96
    have h0_2 := h0_2_K96.tr TTK96
    have h21 := h21_K96.tr TTK96
    have h23 := h23_K96.tr TTK96
    have hb4 := hb4.chg hC248 (Nat.lt_of_lt_of_le hb4_K96.lt (Nat.le_refl _))
    have hb24 := hb24.chg hC248 (Nat.lt_of_lt_of_le hb24_K96.lt (Nat.le_refl _))
    have hb131 := hb131.chgS hC248 (by simp)
    have hb157 := hb157.chgS hC248 (by simp)
    have T51 := T51_K96.trans TTK96
    have T73 := T73_K96.trans TTK96
    have TLK120 := TLK120.chg hC248 TLK96_K120.size
    have TLK146 := TLK146.chg hC248 TLK96_K146.size
    have h128 := TLK120.data h128M
    have h130 := TLK120.data h130M
    have h154 := TLK146.data h154M
    have h156 := TLK146.data h156M
    have hF := hC248.fr hF hF_K96.size
    have hO := hO.chg hC248
    refine wo_nil ?_
    refine wq_seq ?_
    refine wc_seq ?_
    refine wc_region (l := [0, 1]) rfl ?_
    refine wo_load Θ_ok rfl rfl rfl rfl rfl rfl rfl hb131 [(.slice A134 y118.1.fNames.length c135), (.slice A136 y118.1.fBoxes.length c137)] rfl rfl (.inl rfl) (.agg #[(.slice A134 y118.1.fNames.length c135), (.slice A136 y118.1.fBoxes.length c137)]) rfl ?_
    refine wo_call rfl rfl rfl rfl rfl ent15 rfl (spoil_s h128N h130N TLK120) (fun _ w251 ⟨he, hC250⟩ => ⟨_, he, ?_⟩)
    have TTK96 := TTK96.chg hC250 (TTK96_K120.size)
    have h47 := h47_K96.tr TTK96
    have h1 := h1_K96.tr TTK96
    have h0_1 := h0_1_K96.tr TTK96
    have h0_2 := h0_2_K96.tr TTK96
    have h21 := h21_K96.tr TTK96
    have h23 := h23_K96.tr TTK96
    have hb4 := hb4.chg hC250 (Nat.lt_of_lt_of_le hb4_K96.lt (TTK96_K120.size))
    have hb24 := hb24.chg hC250 (Nat.lt_of_lt_of_le hb24_K96.lt (TTK96_K120.size))
    have hb157 := hb157.chgS hC250 (by simp)
    have T51 := T51_K96.trans TTK96
    have T73 := T73_K96.trans TTK96
    have TLK146 := TLK146.chg hC250 TLK120_K146.size
    have h154 := TLK146.data h154M
    have h156 := TLK146.data h156M
    have hF := hC250.fr hF hF_K120.size
    have hO := hO.chg hC250
    refine wo_nil ?_
    refine wq_seq ?_
    refine wc_region (l := [0, 1]) rfl ?_
    refine wo_load Θ_ok rfl rfl rfl rfl rfl rfl rfl hb157 [(.slice A160 y144.1.fNames.length c161), (.slice A162 y144.1.fBoxes.length c163)] rfl rfl (.inl rfl) (.agg #[(.slice A160 y144.1.fNames.length c161), (.slice A162 y144.1.fBoxes.length c163)]) rfl ?_
    refine wo_call rfl rfl rfl rfl rfl ent15 rfl (spoil_s h154N h156N TLK146) (fun _ w253 ⟨he, hC252⟩ => ⟨_, he, ?_⟩)
    have TTK96 := TTK96.chg hC252 (TTK96_K146.size)
    have h47 := h47_K96.tr TTK96
    have h1 := h1_K96.tr TTK96
    have h0_1 := h0_1_K96.tr TTK96
    have h0_2 := h0_2_K96.tr TTK96
    have h21 := h21_K96.tr TTK96
    have h23 := h23_K96.tr TTK96
    have hb4 := hb4.chg hC252 (Nat.lt_of_lt_of_le hb4_K96.lt (TTK96_K146.size))
    have hb24 := hb24.chg hC252 (Nat.lt_of_lt_of_le hb24_K96.lt (TTK96_K146.size))
    have T51 := T51_K96.trans TTK96
    have T73 := T73_K96.trans TTK96
    have hF := hC252.fr hF hF_K146.size
    have hO := hO.chg hC252
    refine wo_nil ?_
    refine wq_block (wq_seq ?_)
    refine wc_region (l := [0, 1]) rfl ?_
    refine wo_seg Θ_ok [0, 1] [(2, v45), (3, (bp b4)), (7, (bp b24)), (8, (.bool y37)), (40, (.slice A71 x1.length c72)), (41, (.int .i64 (x1.length : Int))), (42, (.int .i64 (IntKind.i64.wrap ((i74 : Int) + (1 : Int)))))] rfl ⟨rfl, rfl, rfl, rfl, rfl, rfl, rfl, trivial⟩ ?_
    refine wo_nil ?_
    exact wq_next rest75.length [(2, v45), (3, (bp b4)), (7, (bp b24)), (8, (.bool y37)), (40, (.slice A71 x1.length c72)), (41, (.int .i64 (x1.length : Int))), (42, (.int .i64 ((i74 + 1 : Nat) : Int)))] (Nat.lt_succ_self _) ⟨rfl, rfl, rfl, rfl, rfl, rfl, congrArg (fun z => some (Value.int .i64 z)) (wrap_succ hl84 (Nat.le_trans hlc72 hmc72)), trivial⟩ ⟨rest75, i74 + 1, O216, rfl, hd77, rfl, T73, hO, hS, hF, ib4, hb4, ib24, hb24, h⟩
  clear hk193
  have T191 := Tr.refl O189 w190
  obtain ⟨k255, hk256, h⟩ := letk_some h
  refine wc_join (fun E W => ∃ (O260 : List Nat) (p259 : Bool), E = [(2, v45), (3, (bp b4)), (7, (bp b24)), (8, (.bool y37)), (10, (.int .u64 z76)), (11, (bp b105)), (12, (.int .i64 y94.2)), (13, (bp b131)), (14, (.int .u64 y118.2.1)), (15, (.int .i64 y118.2.2)), (16, (bp b157)), (17, (.int .i64 y144.2.1)), (18, (.int .i64 y144.2.2)), (19, (bp b166)), (20, (bp b169)), (21, (bp b172)), (22, (.int .u64 0)), (23, (.int .i64 0)), (24, (.int .i64 p186)), (25, (.int .i64 p187)), (26, (.int .i64 p188)), (40, (.slice A71 x1.length c72)), (41, (.int .i64 (x1.length : Int))), (42, (.int .i64 (i74 : Int))), (78, (.bool p259))] ∧ Tr O189 w190 O260 W ∧ OB O260 W ∧ Sub O O260 ∧ Fr [] w W ∧ b4 ∈ O260 ∧ Blk W b4 25 [v0_1, v0_2] ∧ b24 ∈ O260 ∧ Blk W b24 25 [(.slice A27 y18.fNames.length c28), (.slice A29 y18.fBoxes.length c30)] ∧ b105 ∈ O260 ∧ Blk W b105 25 [(.slice A108 y94.1.fNames.length c109), (.slice A110 y94.1.fBoxes.length c111)] ∧ b131 ∈ O260 ∧ Blk W b131 25 [(.slice A134 y118.1.fNames.length c135), (.slice A136 y118.1.fBoxes.length c137)] ∧ b157 ∈ O260 ∧ Blk W b157 25 [(.slice A160 y144.1.fNames.length c161), (.slice A162 y144.1.fBoxes.length c163)] ∧ b166 ∈ O260 ∧ Blk W b166 25 [(.slice none 0 0), (.slice none 0 0)] ∧ b169 ∈ O260 ∧ Blk W b169 25 [(.slice none 0 0), (.slice none 0 0)] ∧ b172 ∈ O260 ∧ Blk W b172 25 [(.slice none 0 0), (.slice none 0 0)] ∧ k255 p259 = some r) ?_ (fun K257 hK258 => ?_)
  rotate_left
  · clear hk256
    have T254 := Tr.refl O189 w190
    refine wc_region (l := [0, 1, 2, 3, 4]) rfl ?_
    refine wo_seg Θ_ok [0, 1] [(2, v45), (3, (bp b4)), (7, (bp b24)), (8, (.bool y37)), (10, (.int .u64 z76)), (11, (bp b105)), (12, (.int .i64 y94.2)), (13, (bp b131)), (14, (.int .u64 y118.2.1)), (15, (.int .i64 y118.2.2)), (16, (bp b157)), (17, (.int .i64 y144.2.1)), (18, (.int .i64 y144.2.2)), (19, (bp b166)), (20, (bp b169)), (21, (bp b172)), (22, (.int .u64 0)), (23, (.int .i64 0)), (24, (.int .i64 p186)), (25, (.int .i64 p187)), (26, (.int .i64 p188)), (40, (.slice A71 x1.length c72)), (41, (.int .i64 (x1.length : Int))), (42, (.int .i64 (i74 : Int))), (75, (.bool y37))] rfl ⟨rfl, rfl, rfl, rfl, rfl, rfl, rfl, rfl, rfl, rfl, rfl, rfl, rfl, rfl, rfl, rfl, rfl, rfl, rfl, rfl, rfl, rfl, rfl, rfl, rfl, trivial⟩ ?_
    rcases bif_some h with ⟨hc374, h⟩ | ⟨hc374, h⟩
    rotate_left
    · refine wo_know 75 false rfl hc374 ?_
      refine wo_seg Θ_ok [2, 3, 4] [(2, v45), (3, (bp b4)), (7, (bp b24)), (8, (.bool y37)), (10, (.int .u64 z76)), (11, (bp b105)), (12, (.int .i64 y94.2)), (13, (bp b131)), (14, (.int .u64 y118.2.1)), (15, (.int .i64 y118.2.2)), (16, (bp b157)), (17, (.int .i64 y144.2.1)), (18, (.int .i64 y144.2.2)), (19, (bp b166)), (20, (bp b169)), (21, (bp b172)), (22, (.int .u64 0)), (23, (.int .i64 0)), (24, (.int .i64 p186)), (25, (.int .i64 p187)), (26, (.int .i64 p188)), (40, (.slice A71 x1.length c72)), (41, (.int .i64 (x1.length : Int))), (42, (.int .i64 (i74 : Int))), (78, (.bool false))] rfl ⟨rfl, rfl, rfl, rfl, rfl, rfl, rfl, rfl, rfl, rfl, rfl, rfl, rfl, rfl, rfl, rfl, rfl, rfl, rfl, rfl, rfl, rfl, rfl, rfl, rfl, trivial⟩ ?_
      refine wo_nil ?_
      exact wq_join hK258 [(2, v45), (3, (bp b4)), (7, (bp b24)), (8, (.bool y37)), (10, (.int .u64 z76)), (11, (bp b105)), (12, (.int .i64 y94.2)), (13, (bp b131)), (14, (.int .u64 y118.2.1)), (15, (.int .i64 y118.2.2)), (16, (bp b157)), (17, (.int .i64 y144.2.1)), (18, (.int .i64 y144.2.2)), (19, (bp b166)), (20, (bp b169)), (21, (bp b172)), (22, (.int .u64 0)), (23, (.int .i64 0)), (24, (.int .i64 p186)), (25, (.int .i64 p187)), (26, (.int .i64 p188)), (40, (.slice A71 x1.length c72)), (41, (.int .i64 (x1.length : Int))), (42, (.int .i64 (i74 : Int))), (78, (.bool false))] ⟨rfl, rfl, rfl, rfl, rfl, rfl, rfl, rfl, rfl, rfl, rfl, rfl, rfl, rfl, rfl, rfl, rfl, rfl, rfl, rfl, rfl, rfl, rfl, rfl, rfl, trivial⟩ ⟨O189, false, rfl, T254, hO, hS, hF, ib4, hb4, ib24, hb24, ib105, hb105, ib131, hb131, ib157, hb157, ib166, hb166, ib169, hb169, ib172, hb172, h⟩
    refine wo_know 75 true rfl hc374 ?_
    refine wo_seg Θ_ok [2] [(2, v45), (3, (bp b4)), (7, (bp b24)), (8, (.bool y37)), (10, (.int .u64 z76)), (11, (bp b105)), (12, (.int .i64 y94.2)), (13, (bp b131)), (14, (.int .u64 y118.2.1)), (15, (.int .i64 y118.2.2)), (16, (bp b157)), (17, (.int .i64 y144.2.1)), (18, (.int .i64 y144.2.2)), (19, (bp b166)), (20, (bp b169)), (21, (bp b172)), (22, (.int .u64 0)), (23, (.int .i64 0)), (24, (.int .i64 p186)), (25, (.int .i64 p187)), (26, (.int .i64 p188)), (40, (.slice A71 x1.length c72)), (41, (.int .i64 (x1.length : Int))), (42, (.int .i64 (i74 : Int))), (75, (.bool true)), (76, (.int .u64 z76))] rfl ⟨rfl, rfl, rfl, rfl, rfl, rfl, rfl, rfl, rfl, rfl, rfl, rfl, rfl, rfl, rfl, rfl, rfl, rfl, rfl, rfl, rfl, rfl, rfl, rfl, rfl, rfl, trivial⟩ ?_
    refine wo_gives rfl rfl rfl rfl rfl ent26 rfl (r_Pid_c hO (int_is.2 rfl)) (fun v375 w376 h377 f378 => ?_)
    have h47 := h47.tr f378.tr0
    have h1 := h1.tr f378.tr0
    have h0_1 := h0_1.tr f378.tr0
    have h0_2 := h0_2.tr f378.tr0
    have h21 := h21.tr f378.tr0
    have h23 := h23.tr f378.tr0
    have h102 := h102.tr f378.tr0
    have h104 := h104.tr f378.tr0
    have h128 := h128.tr f378.tr0
    have h130 := h130.tr f378.tr0
    have h154 := h154.tr f378.tr0
    have h156 := h156.tr f378.tr0
    have hb4 := hb4.fr0 f378
    have hb24 := hb24.fr0 f378
    have hb105 := hb105.fr0 f378
    have hb131 := hb131.fr0 f378
    have hb157 := hb157.fr0 f378
    have hb166 := hb166.fr0 f378
    have hb169 := hb169.fr0 f378
    have hb172 := hb172.fr0 f378
    have T51 := T51.trans f378.tr0
    have T73 := T73.trans f378.tr0
    have TTK96 := TTK96.trans f378.tr0
    have TLK96 := TLK96.trans f378.tr0
    have TTK120 := TTK120.trans f378.tr0
    have TLK120 := TLK120.trans f378.tr0
    have TTK146 := TTK146.trans f378.tr0
    have TLK146 := TLK146.trans f378.tr0
    have T191 := T191.trans f378.tr0
    have T254 := T254.trans f378.tr0
    have hO := f378.ob hO
    have hF := hF.trans f378
    obtain rfl := bool_is.1 h377
    refine wo_seg Θ_ok [4] [(2, v45), (3, (bp b4)), (7, (bp b24)), (8, (.bool y37)), (10, (.int .u64 z76)), (11, (bp b105)), (12, (.int .i64 y94.2)), (13, (bp b131)), (14, (.int .u64 y118.2.1)), (15, (.int .i64 y118.2.2)), (16, (bp b157)), (17, (.int .i64 y144.2.1)), (18, (.int .i64 y144.2.2)), (19, (bp b166)), (20, (bp b169)), (21, (bp b172)), (22, (.int .u64 0)), (23, (.int .i64 0)), (24, (.int .i64 p186)), (25, (.int .i64 p187)), (26, (.int .i64 p188)), (40, (.slice A71 x1.length c72)), (41, (.int .i64 (x1.length : Int))), (42, (.int .i64 (i74 : Int))), (78, (.bool ((r_Pid z76))))] rfl ⟨rfl, rfl, rfl, rfl, rfl, rfl, rfl, rfl, rfl, rfl, rfl, rfl, rfl, rfl, rfl, rfl, rfl, rfl, rfl, rfl, rfl, rfl, rfl, rfl, rfl, trivial⟩ ?_
    refine wo_nil ?_
    exact wq_join hK258 [(2, v45), (3, (bp b4)), (7, (bp b24)), (8, (.bool y37)), (10, (.int .u64 z76)), (11, (bp b105)), (12, (.int .i64 y94.2)), (13, (bp b131)), (14, (.int .u64 y118.2.1)), (15, (.int .i64 y118.2.2)), (16, (bp b157)), (17, (.int .i64 y144.2.1)), (18, (.int .i64 y144.2.2)), (19, (bp b166)), (20, (bp b169)), (21, (bp b172)), (22, (.int .u64 0)), (23, (.int .i64 0)), (24, (.int .i64 p186)), (25, (.int .i64 p187)), (26, (.int .i64 p188)), (40, (.slice A71 x1.length c72)), (41, (.int .i64 (x1.length : Int))), (42, (.int .i64 (i74 : Int))), (78, (.bool ((r_Pid z76))))] ⟨rfl, rfl, rfl, rfl, rfl, rfl, rfl, rfl, rfl, rfl, rfl, rfl, rfl, rfl, rfl, rfl, rfl, rfl, rfl, rfl, rfl, rfl, rfl, rfl, rfl, trivial⟩ ⟨O189, (r_Pid z76), rfl, T254, hO, hS, hF, ib4, hb4, ib24, hb24, ib105, hb105, ib131, hb131, ib157, hb157, ib166, hb166, ib169, hb169, ib172, hb172, h⟩
  rintro E w261 ⟨O260, p259, rfl, T254, hO, hS, hF, ib4, hb4, ib24, hb24, ib105, hb105, ib131, hb131, ib157, hb157, ib166, hb166, ib169, hb169, ib172, hb172, h⟩
  have T51 := T51.trans T254
  have T73 := T73.trans T254
  have TTK96 := TTK96.trans T254
  have TLK96 := TLK96.trans T254
  have TTK120 := TTK120.trans T254
  have TLK120 := TLK120.trans T254
  have TTK146 := TTK146.trans T254
  have TLK146 := TLK146.trans T254
  have T191 := T191.trans T254
  have h47 := h47.tr T254
  have h1 := h1.tr T254
  have h0_1 := h0_1.tr T254
  have h0_2 := h0_2.tr T254
  have h21 := h21.tr T254
  have h23 := h23.tr T254
  have h102 := h102.tr T254
  have h104 := h104.tr T254
  have h128 := h128.tr T254
  have h130 := h130.tr T254
  have h154 := h154.tr T254
  have h156 := h156.tr T254
  subst hk256
  (try dsimp only at h)
  rcases bif_some h with ⟨hc262, h⟩ | ⟨hc262, h⟩
  rotate_left
  · refine wc_known_false rfl hc262 ?_
    refine wc_skip ?_
    exact wq_join hK195 [(2, v45), (3, (bp b4)), (7, (bp b24)), (8, (.bool y37)), (11, (bp b105)), (12, (.int .i64 y94.2)), (13, (bp b131)), (14, (.int .u64 y118.2.1)), (15, (.int .i64 y118.2.2)), (16, (bp b157)), (17, (.int .i64 y144.2.1)), (18, (.int .i64 y144.2.2)), (19, (bp b166)), (20, (bp b169)), (21, (bp b172)), (22, (.int .u64 0)), (23, (.int .i64 0)), (24, (.int .i64 p186)), (25, (.int .i64 p187)), (26, (.int .i64 p188)), (40, (.slice A71 x1.length c72)), (41, (.int .i64 (x1.length : Int))), (42, (.int .i64 (i74 : Int)))] ⟨rfl, rfl, rfl, rfl, rfl, rfl, rfl, rfl, rfl, rfl, rfl, rfl, rfl, rfl, rfl, rfl, rfl, rfl, rfl, rfl, rfl, rfl, rfl, trivial⟩ ⟨O260, (0 : Int), (0 : Int), p186, p187, p188, (GIpc.mk ([] : List GName) ([] : List GBox)), (GIpc.mk ([] : List GName) ([] : List GBox)), (GIpc.mk ([] : List GName) ([] : List GBox)), (.slice none 0 0), (.slice none 0 0), (.slice none 0 0), (.slice none 0 0), (.slice none 0 0), (.slice none 0 0), rfl, T191, hO, hS, hF, ib4, hb4, ib24, hb24, ib105, hb105, ib131, hb131, ib157, hb157, ib166, hb166, ib169, hb169, ib172, hb172, (slice_nil _ _ _), (slice_nil _ _ _), (slice_nil _ _ _), (slice_nil _ _ _), (slice_nil _ _ _), (slice_nil _ _ _), h⟩
  refine wc_known_true rfl hc262 ?_
  refine wc_seq ?_
  refine wc_region (l := [0, 1, 2, 3]) rfl ?_
  refine wo_load Θ_ok rfl rfl rfl rfl rfl rfl rfl hb24 [(.slice A27 y18.fNames.length c28), (.slice A29 y18.fBoxes.length c30)] rfl rfl (.inl rfl) (.agg #[(.slice A27 y18.fNames.length c28), (.slice A29 y18.fBoxes.length c30)]) rfl ?_
  refine wo_seg Θ_ok [1] [(2, v45), (3, (bp b4)), (7, (bp b24)), (8, (.bool y37)), (10, (.int .u64 z76)), (11, (bp b105)), (12, (.int .i64 y94.2)), (13, (bp b131)), (14, (.int .u64 y118.2.1)), (15, (.int .i64 y118.2.2)), (16, (bp b157)), (17, (.int .i64 y144.2.1)), (18, (.int .i64 y144.2.2)), (19, (bp b166)), (20, (bp b169)), (21, (bp b172)), (22, (.int .u64 0)), (40, (.slice A71 x1.length c72)), (41, (.int .i64 (x1.length : Int))), (42, (.int .i64 (i74 : Int))), (79, (.agg #[(.slice A27 y18.fNames.length c28), (.slice A29 y18.fBoxes.length c30)])), (80, (.int .u64 z76))] rfl ⟨rfl, rfl, rfl, rfl, rfl, rfl, rfl, rfl, rfl, rfl, rfl, rfl, rfl, rfl, rfl, rfl, rfl, rfl, rfl, rfl, rfl, rfl, trivial⟩ ?_
  refine wo_gives rfl rfl rfl rfl rfl ent27 rfl (r_Waits_c hO ((tGIpc_is (x := y18)).2 ⟨_, _, rfl, h21, h23⟩) (int_is.2 rfl)) (fun v263 w264 h265 f266 => ?_)
  have h47 := h47.tr f266.tr0
  have h1 := h1.tr f266.tr0
  have h0_1 := h0_1.tr f266.tr0
  have h0_2 := h0_2.tr f266.tr0
  have h21 := h21.tr f266.tr0
  have h23 := h23.tr f266.tr0
  have h102 := h102.tr f266.tr0
  have h104 := h104.tr f266.tr0
  have h128 := h128.tr f266.tr0
  have h130 := h130.tr f266.tr0
  have h154 := h154.tr f266.tr0
  have h156 := h156.tr f266.tr0
  have hb4 := hb4.fr0 f266
  have hb24 := hb24.fr0 f266
  have hb105 := hb105.fr0 f266
  have hb131 := hb131.fr0 f266
  have hb157 := hb157.fr0 f266
  have hb166 := hb166.fr0 f266
  have hb169 := hb169.fr0 f266
  have hb172 := hb172.fr0 f266
  have T51 := T51.trans f266.tr0
  have T73 := T73.trans f266.tr0
  have TTK96 := TTK96.trans f266.tr0
  have TLK96 := TLK96.trans f266.tr0
  have TTK120 := TTK120.trans f266.tr0
  have TLK120 := TLK120.trans f266.tr0
  have TTK146 := TTK146.trans f266.tr0
  have TLK146 := TLK146.trans f266.tr0
  have T191 := T191.trans f266.tr0
  have hO := f266.ob hO
  have hF := hF.trans f266
  refine wo_seg Θ_ok [3] [(2, v45), (3, (bp b4)), (7, (bp b24)), (8, (.bool y37)), (10, (.int .u64 z76)), (11, (bp b105)), (12, (.int .i64 y94.2)), (13, (bp b131)), (14, (.int .u64 y118.2.1)), (15, (.int .i64 y118.2.2)), (16, (bp b157)), (17, (.int .i64 y144.2.1)), (18, (.int .i64 y144.2.2)), (19, (bp b166)), (20, (bp b169)), (21, (bp b172)), (22, (.int .u64 0)), (27, v263), (40, (.slice A71 x1.length c72)), (41, (.int .i64 (x1.length : Int))), (42, (.int .i64 (i74 : Int)))] rfl ⟨rfl, rfl, rfl, rfl, rfl, rfl, rfl, rfl, rfl, rfl, rfl, rfl, rfl, rfl, rfl, rfl, rfl, rfl, rfl, rfl, rfl, trivial⟩ ?_
  refine wo_nil ?_
  refine wq_seq ?_
  obtain ⟨k268, hk269, h⟩ := letk_some h
  refine wc_join (fun E W => ∃ (O278 : List Nat) (p272 : Int) (p273 : GIpc) (v274 : Value) (v276 : Value), E = [(2, v45), (3, (bp b4)), (7, (bp b24)), (8, (.bool y37)), (10, (.int .u64 z76)), (11, (bp b105)), (12, (.int .i64 y94.2)), (13, (bp b131)), (14, (.int .u64 y118.2.1)), (15, (.int .i64 y118.2.2)), (16, (bp b157)), (17, (.int .i64 y144.2.1)), (18, (.int .i64 y144.2.2)), (19, (bp b166)), (20, (bp b169)), (21, (bp b172)), (22, (.int .u64 0)), (24, (.int .i64 p272)), (27, v263), (40, (.slice A71 x1.length c72)), (41, (.int .i64 (x1.length : Int))), (42, (.int .i64 (i74 : Int)))] ∧ Tr O260 w264 O278 W ∧ OB O278 W ∧ Sub O O278 ∧ Fr [] w W ∧ b4 ∈ O278 ∧ Blk W b4 25 [v0_1, v0_2] ∧ b24 ∈ O278 ∧ Blk W b24 25 [(.slice A27 y18.fNames.length c28), (.slice A29 y18.fBoxes.length c30)] ∧ b105 ∈ O278 ∧ Blk W b105 25 [(.slice A108 y94.1.fNames.length c109), (.slice A110 y94.1.fBoxes.length c111)] ∧ b131 ∈ O278 ∧ Blk W b131 25 [(.slice A134 y118.1.fNames.length c135), (.slice A136 y118.1.fBoxes.length c137)] ∧ b157 ∈ O278 ∧ Blk W b157 25 [(.slice A160 y144.1.fNames.length c161), (.slice A162 y144.1.fBoxes.length c163)] ∧ b166 ∈ O278 ∧ Blk W b166 25 [v274, v276] ∧ b169 ∈ O278 ∧ Blk W b169 25 [(.slice none 0 0), (.slice none 0 0)] ∧ b172 ∈ O278 ∧ Blk W b172 25 [(.slice none 0 0), (.slice none 0 0)] ∧ (Ty.slice tGName).is O278 W v274 p273.fNames ∧ (Ty.slice tGBox).is O278 W v276 p273.fBoxes ∧ k268 p272 p273 = some r) ?_ (fun K270 hK271 => ?_)
  rotate_left
  · clear hk269
    have T267 := Tr.refl O260 w264
    refine wc_seq ?_
    refine wc_region (l := [0]) rfl ?_
    refine wo_seg Θ_ok [0] [(2, v45), (3, (bp b4)), (7, (bp b24)), (8, (.bool y37)), (10, (.int .u64 z76)), (11, (bp b105)), (12, (.int .i64 y94.2)), (13, (bp b131)), (14, (.int .u64 y118.2.1)), (15, (.int .i64 y118.2.2)), (16, (bp b157)), (17, (.int .i64 y144.2.1)), (18, (.int .i64 y144.2.2)), (19, (bp b166)), (20, (bp b169)), (21, (bp b172)), (22, (.int .u64 0)), (24, (.int .i64 6)), (27, v263), (40, (.slice A71 x1.length c72)), (41, (.int .i64 (x1.length : Int))), (42, (.int .i64 (i74 : Int)))] rfl ⟨rfl, rfl, rfl, rfl, rfl, rfl, rfl, rfl, rfl, rfl, rfl, rfl, rfl, rfl, rfl, rfl, rfl, rfl, rfl, rfl, rfl, rfl, trivial⟩ ?_
    refine wo_nil ?_
    refine wq_seq ?_
    refine wc_seq ?_
    refine wc_region (l := [0, 1, 2, 3, 4, 5]) rfl ?_
    refine wo_seg Θ_ok [0] [(2, v45), (3, (bp b4)), (7, (bp b24)), (8, (.bool y37)), (10, (.int .u64 z76)), (11, (bp b105)), (12, (.int .i64 y94.2)), (13, (bp b131)), (14, (.int .u64 y118.2.1)), (15, (.int .i64 y118.2.2)), (16, (bp b157)), (17, (.int .i64 y144.2.1)), (18, (.int .i64 y144.2.2)), (19, (bp b166)), (20, (bp b169)), (21, (bp b172)), (22, (.int .u64 0)), (24, (.int .i64 6)), (27, v263), (40, (.slice A71 x1.length c72)), (41, (.int .i64 (x1.length : Int))), (42, (.int .i64 (i74 : Int))), (82, v263)] rfl ⟨rfl, rfl, rfl, rfl, rfl, rfl, rfl, rfl, rfl, rfl, rfl, rfl, rfl, rfl, rfl, rfl, rfl, rfl, rfl, rfl, rfl, rfl, rfl, trivial⟩ ?_
    obtain ⟨A343, c344, rfl, hlc344, hmc344⟩ := slice_form h265
    refine wo_seg Θ_ok [1] [(2, v45), (3, (bp b4)), (7, (bp b24)), (8, (.bool y37)), (10, (.int .u64 z76)), (11, (bp b105)), (12, (.int .i64 y94.2)), (13, (bp b131)), (14, (.int .u64 y118.2.1)), (15, (.int .i64 y118.2.2)), (16, (bp b157)), (17, (.int .i64 y144.2.1)), (18, (.int .i64 y144.2.2)), (19, (bp b166)), (20, (bp b169)), (21, (bp b172)), (22, (.int .u64 0)), (24, (.int .i64 6)), (27, (.slice A343 ((r_Waits y18 z76)).length c344)), (40, (.slice A71 x1.length c72)), (41, (.int .i64 (x1.length : Int))), (42, (.int .i64 (i74 : Int))), (83, (.int .i64 (((r_Waits y18 z76)).length : Int)))] rfl ⟨rfl, rfl, rfl, rfl, rfl, rfl, rfl, rfl, rfl, rfl, rfl, rfl, rfl, rfl, rfl, rfl, rfl, rfl, rfl, rfl, rfl, rfl, rfl, trivial⟩ ?_
    refine wo_seg Θ_ok [2] [(2, v45), (3, (bp b4)), (7, (bp b24)), (8, (.bool y37)), (10, (.int .u64 z76)), (11, (bp b105)), (12, (.int .i64 y94.2)), (13, (bp b131)), (14, (.int .u64 y118.2.1)), (15, (.int .i64 y118.2.2)), (16, (bp b157)), (17, (.int .i64 y144.2.1)), (18, (.int .i64 y144.2.2)), (19, (bp b166)), (20, (bp b169)), (21, (bp b172)), (22, (.int .u64 0)), (24, (.int .i64 6)), (27, (.slice A343 ((r_Waits y18 z76)).length c344)), (40, (.slice A71 x1.length c72)), (41, (.int .i64 (x1.length : Int))), (42, (.int .i64 (i74 : Int))), (83, (.int .i64 (((r_Waits y18 z76)).length : Int))), (84, v45)] rfl ⟨rfl, rfl, rfl, rfl, rfl, rfl, rfl, rfl, rfl, rfl, rfl, rfl, rfl, rfl, rfl, rfl, rfl, rfl, rfl, rfl, rfl, rfl, rfl, rfl, trivial⟩ ?_
    obtain ⟨A345, c346, rfl, hlc346, hmc346⟩ := slice_form h47
    refine wo_seg Θ_ok [3] [(2, (.slice A345 y49.length c346)), (3, (bp b4)), (7, (bp b24)), (8, (.bool y37)), (10, (.int .u64 z76)), (11, (bp b105)), (12, (.int .i64 y94.2)), (13, (bp b131)), (14, (.int .u64 y118.2.1)), (15, (.int .i64 y118.2.2)), (16, (bp b157)), (17, (.int .i64 y144.2.1)), (18, (.int .i64 y144.2.2)), (19, (bp b166)), (20, (bp b169)), (21, (bp b172)), (22, (.int .u64 0)), (24, (.int .i64 6)), (27, (.slice A343 ((r_Waits y18 z76)).length c344)), (40, (.slice A71 x1.length c72)), (41, (.int .i64 (x1.length : Int))), (42, (.int .i64 (i74 : Int))), (83, (.int .i64 (((r_Waits y18 z76)).length : Int))), (85, (.int .i64 (y49.length : Int)))] rfl ⟨rfl, rfl, rfl, rfl, rfl, rfl, rfl, rfl, rfl, rfl, rfl, rfl, rfl, rfl, rfl, rfl, rfl, rfl, rfl, rfl, rfl, rfl, rfl, rfl, trivial⟩ ?_
    refine wo_seg Θ_ok [4, 5] [(2, (.slice A345 y49.length c346)), (3, (bp b4)), (7, (bp b24)), (8, (.bool y37)), (10, (.int .u64 z76)), (11, (bp b105)), (12, (.int .i64 y94.2)), (13, (bp b131)), (14, (.int .u64 y118.2.1)), (15, (.int .i64 y118.2.2)), (16, (bp b157)), (17, (.int .i64 y144.2.1)), (18, (.int .i64 y144.2.2)), (19, (bp b166)), (20, (bp b169)), (21, (bp b172)), (22, (.int .u64 0)), (24, (.int .i64 6)), (27, (.slice A343 ((r_Waits y18 z76)).length c344)), (40, (.slice A71 x1.length c72)), (41, (.int .i64 (x1.length : Int))), (42, (.int .i64 (i74 : Int))), (87, (.bool (decide ((IntKind.i64.wrap ((((r_Waits y18 z76)).length : Int) + (y49.length : Int))) ≤ (4 : Int)))))] rfl ⟨rfl, rfl, rfl, rfl, rfl, rfl, rfl, rfl, rfl, rfl, rfl, rfl, rfl, rfl, rfl, rfl, rfl, rfl, rfl, rfl, rfl, rfl, rfl, trivial⟩ ?_
    refine wo_nil ?_
    refine wq_seq ?_
    rcases bif_some h with ⟨hc347, h⟩ | ⟨hc347, h⟩
    rotate_left
    · refine wc_known_false rfl hc347 ?_
      refine wc_skip ?_
      exact wq_join hK271 [(2, (.slice A345 y49.length c346)), (3, (bp b4)), (7, (bp b24)), (8, (.bool y37)), (10, (.int .u64 z76)), (11, (bp b105)), (12, (.int .i64 y94.2)), (13, (bp b131)), (14, (.int .u64 y118.2.1)), (15, (.int .i64 y118.2.2)), (16, (bp b157)), (17, (.int .i64 y144.2.1)), (18, (.int .i64 y144.2.2)), (19, (bp b166)), (20, (bp b169)), (21, (bp b172)), (22, (.int .u64 0)), (24, (.int .i64 6)), (27, (.slice A343 ((r_Waits y18 z76)).length c344)), (40, (.slice A71 x1.length c72)), (41, (.int .i64 (x1.length : Int))), (42, (.int .i64 (i74 : Int)))] ⟨rfl, rfl, rfl, rfl, rfl, rfl, rfl, rfl, rfl, rfl, rfl, rfl, rfl, rfl, rfl, rfl, rfl, rfl, rfl, rfl, rfl, rfl, trivial⟩ ⟨O260, (6 : Int), (GIpc.mk ([] : List GName) ([] : List GBox)), (.slice none 0 0), (.slice none 0 0), rfl, T267, hO, hS, hF, ib4, hb4, ib24, hb24, ib105, hb105, ib131, hb131, ib157, hb157, ib166, hb166, ib169, hb169, ib172, hb172, (slice_nil _ _ _), (slice_nil _ _ _), h⟩
    refine wc_known_true rfl hc347 ?_
    obtain ⟨y348, hy349, h⟩ := bind_some h
    refine wc_drawT mixed [⟨88, [], [7]⟩, ⟨89, [], [10]⟩, ⟨90, [], [27]⟩, ⟨91, [], [2]⟩, ⟨92, [2, 3], []⟩, ⟨93, [4], []⟩] [SP.eq (.agg #[(.slice A27 y18.fNames.length c28), (.slice A29 y18.fBoxes.length c30)]), SP.eq (.int .u64 z76), SP.eq (.slice A343 ((r_Waits y18 z76)).length c344), SP.eq (.slice A345 y49.length c346), SP.is (Ty.slice (Ty.slice (Ty.int .u64))) O260 (([(r_Waits y18 z76), y49] : List (List Int))), SP.is (Ty.slice (Ty.int .u64)) O260 y348] rfl rfl rfl rfl ⟨?_, ?_, ?_, ?_, ?_, ?_, trivial⟩ ?_
    · intro a w2 hfr hN hds hb hd
      have hb24 := hb24.fr0 hfr
      exact op_load Θ_ok ⟨hN, hds, rows_get (E := [(7, (bp b24))]) ⟨hb 7 rfl _ rfl, trivial⟩⟩ rfl rfl rfl rfl rfl rfl hb24 [(.slice A27 y18.fNames.length c28), (.slice A29 y18.fBoxes.length c30)] rfl rfl (.inl rfl) (.agg #[(.slice A27 y18.fNames.length c28), (.slice A29 y18.fBoxes.length c30)]) rfl
    · intro a w2 hfr hN hds hb hd
      exact op_plain Θ_ok ⟨hN, hds, rows_get (E := [(10, (.int .u64 z76))]) ⟨hb 10 rfl _ rfl, trivial⟩⟩ rfl rfl rfl rfl rfl
    · intro a w2 hfr hN hds hb hd
      have h265 := h265.tr hfr.tr0
      exact op_plain Θ_ok ⟨hN, hds, rows_get (E := [(27, (.slice A343 ((r_Waits y18 z76)).length c344))]) ⟨hb 27 rfl _ rfl, trivial⟩⟩ rfl rfl rfl rfl rfl
    · intro a w2 hfr hN hds hb hd
      have h47 := h47.tr hfr.tr0
      exact op_plain Θ_ok ⟨hN, hds, rows_get (E := [(2, (.slice A345 y49.length c346))]) ⟨hb 2 rfl _ rfl, trivial⟩⟩ rfl rfl rfl rfl rfl
    · intro a w2 hfr hN hds hb hd
      have h265 := h265.tr hfr.tr0
      have h47 := h47.tr hfr.tr0
      exact op_lit Θ_ok ⟨hN, hds, rows_get (E := [(90, (.slice A343 ((r_Waits y18 z76)).length c344)), (91, (.slice A345 y49.length c346))]) ⟨(hd 2 rfl _ _ rfl rfl), (hd 3 rfl _ _ rfl rfl), trivial⟩⟩ rfl rfl rfl rfl rfl rfl rfl rfl rfl (T := (Ty.slice (Ty.int .u64))) (xs := [(r_Waits y18 z76), y49]) (vs := [(.slice A343 ((r_Waits y18 z76)).length c344), (.slice A345 y49.length c346)]) rfl ⟨h265, h47, trivial⟩ rfl rfl rfl (hfr.ob hO)
    · intro a w2 hfr hN hds hb hd
      have d352 : (Ty.slice (Ty.slice (Ty.int .u64))).is O260 w2 (a.tmps.getD 92 undef) (([(r_Waits y18 z76), y49] : List (List Int))) := hd 4 rfl _ _ rfl rfl
      obtain ⟨u350, e351⟩ : ∃ v, a.tmps.getD 92 undef = v := ⟨_, rfl⟩
      rw [e351] at d352
      exact (op_call ⟨hN, hds, rows_get (E := [(92, u350)]) ⟨e351, trivial⟩⟩ rfl rfl rfl rfl ent29 rfl (s_Concat_c (hfr.ob hO) d352 hy349)).weaken (fun u w3 ⟨hu, hf⟩ => ⟨hu, hf⟩)
    intro a w354 f353 hN hds hb hr
    have h47 := h47.tr f353.tr0
    have h1 := h1.tr f353.tr0
    have h265 := h265.tr f353.tr0
    have h0_1 := h0_1.tr f353.tr0
    have h0_2 := h0_2.tr f353.tr0
    have h21 := h21.tr f353.tr0
    have h23 := h23.tr f353.tr0
    have h102 := h102.tr f353.tr0
    have h104 := h104.tr f353.tr0
    have h128 := h128.tr f353.tr0
    have h130 := h130.tr f353.tr0
    have h154 := h154.tr f353.tr0
    have h156 := h156.tr f353.tr0
    have hb4 := hb4.fr0 f353
    have hb24 := hb24.fr0 f353
    have hb105 := hb105.fr0 f353
    have hb131 := hb131.fr0 f353
    have hb157 := hb157.fr0 f353
    have hb166 := hb166.fr0 f353
    have hb169 := hb169.fr0 f353
    have hb172 := hb172.fr0 f353
    have T51 := T51.trans f353.tr0
    have T73 := T73.trans f353.tr0
    have TTK96 := TTK96.trans f353.tr0
    have TLK96 := TLK96.trans f353.tr0
    have TTK120 := TTK120.trans f353.tr0
    have TLK120 := TLK120.trans f353.tr0
    have TTK146 := TTK146.trans f353.tr0
    have TLK146 := TLK146.trans f353.tr0
    have T191 := T191.trans f353.tr0
    have T267 := T267.trans f353.tr0
    have hO := f353.ob hO
    have hF := hF.trans f353
    have h357 : (Ty.slice (Ty.int .u64)).is O260 w354 (a.tmps.getD 93 undef) y348 := hr 5 _ _ rfl rfl
    obtain ⟨v355, e356⟩ : ∃ v, a.tmps.getD 93 undef = v := ⟨_, rfl⟩
    rw [e356] at h357
    refine wo_go (E := [(2, (.slice A345 y49.length c346)), (3, (bp b4)), (7, (bp b24)), (8, (.bool y37)), (10, (.int .u64 z76)), (11, (bp b105)), (12, (.int .i64 y94.2)), (13, (bp b131)), (14, (.int .u64 y118.2.1)), (15, (.int .i64 y118.2.2)), (16, (bp b157)), (17, (.int .i64 y144.2.1)), (18, (.int .i64 y144.2.2)), (19, (bp b166)), (20, (bp b169)), (21, (bp b172)), (22, (.int .u64 0)), (27, (.slice A343 ((r_Waits y18 z76)).length c344)), (40, (.slice A71 x1.length c72)), (41, (.int .i64 (x1.length : Int))), (42, (.int .i64 (i74 : Int))), (88, (.agg #[(.slice A27 y18.fNames.length c28), (.slice A29 y18.fBoxes.length c30)])), (89, (.int .u64 z76)), (93, v355)]) (l := [6, 7, 8]) hN hds ⟨hb 2 _ rfl rfl, hb 3 _ rfl rfl, hb 7 _ rfl rfl, hb 8 _ rfl rfl, hb 10 _ rfl rfl, hb 11 _ rfl rfl, hb 12 _ rfl rfl, hb 13 _ rfl rfl, hb 14 _ rfl rfl, hb 15 _ rfl rfl, hb 16 _ rfl rfl, hb 17 _ rfl rfl, hb 18 _ rfl rfl, hb 19 _ rfl rfl, hb 20 _ rfl rfl, hb 21 _ rfl rfl, hb 22 _ rfl rfl, hb 27 _ rfl rfl, hb 40 _ rfl rfl, hb 41 _ rfl rfl, hb 42 _ rfl rfl, (hr 0 _ _ rfl rfl), (hr 1 _ _ rfl rfl), e356, trivial⟩ rfl ?_
    obtain ⟨y362, hy363, h⟩ := bind_some h
    refine wo_gives rfl rfl rfl rfl rfl ent28 rfl (r_With_c hO ((tGIpc_is (x := y18)).2 ⟨_, _, rfl, h21, h23⟩) (int_is.2 rfl) h357 hy363) (fun v358 w359 h360 f361 => ?_)
    have h47 := h47.tr f361.tr0
    have h1 := h1.tr f361.tr0
    have h265 := h265.tr f361.tr0
    have h0_1 := h0_1.tr f361.tr0
    have h0_2 := h0_2.tr f361.tr0
    have h21 := h21.tr f361.tr0
    have h23 := h23.tr f361.tr0
    have h102 := h102.tr f361.tr0
    have h104 := h104.tr f361.tr0
    have h128 := h128.tr f361.tr0
    have h130 := h130.tr f361.tr0
    have h154 := h154.tr f361.tr0
    have h156 := h156.tr f361.tr0
    have hb4 := hb4.fr0 f361
    have hb24 := hb24.fr0 f361
    have hb105 := hb105.fr0 f361
    have hb131 := hb131.fr0 f361
    have hb157 := hb157.fr0 f361
    have hb166 := hb166.fr0 f361
    have hb169 := hb169.fr0 f361
    have hb172 := hb172.fr0 f361
    have T51 := T51.trans f361.tr0
    have T73 := T73.trans f361.tr0
    have TTK96 := TTK96.trans f361.tr0
    have TLK96 := TLK96.trans f361.tr0
    have TTK120 := TTK120.trans f361.tr0
    have TLK120 := TLK120.trans f361.tr0
    have TTK146 := TTK146.trans f361.tr0
    have TLK146 := TLK146.trans f361.tr0
    have T191 := T191.trans f361.tr0
    have T267 := T267.trans f361.tr0
    have hO := f361.ob hO
    have hF := hF.trans f361
    obtain ⟨v364, v366, rfl, h365, h367⟩ := tGIpc_is.1 h360
    obtain ⟨A368, c369, rfl, hlc369, hmc369⟩ := slice_form h365
    obtain ⟨A370, c371, rfl, hlc371, hmc371⟩ := slice_form h367
    refine wo_store Θ_ok rfl rfl rfl rfl rfl rfl rfl hb166 [(.slice A368 y362.fNames.length c369), (.slice A370 y362.fBoxes.length c371)] rfl rfl (by simp [Value.oneCell']) rfl [(.slice A368 y362.fNames.length c369), (.slice A370 y362.fBoxes.length c371)] rfl (fun w372 hb166 f373 => ?_)
    have h47 := h47.tr (f373.tr (one_in ib166))
    have h1 := h1.tr (f373.tr (one_in ib166))
    have h265 := h265.tr (f373.tr (one_in ib166))
    have h0_1 := h0_1.tr (f373.tr (one_in ib166))
    have h0_2 := h0_2.tr (f373.tr (one_in ib166))
    have h21 := h21.tr (f373.tr (one_in ib166))
    have h23 := h23.tr (f373.tr (one_in ib166))
    have h102 := h102.tr (f373.tr (one_in ib166))
    have h104 := h104.tr (f373.tr (one_in ib166))
    have h128 := h128.tr (f373.tr (one_in ib166))
    have h130 := h130.tr (f373.tr (one_in ib166))
    have h154 := h154.tr (f373.tr (one_in ib166))
    have h156 := h156.tr (f373.tr (one_in ib166))
    have h365 := h365.tr (f373.tr (one_in ib166))
    have h367 := h367.tr (f373.tr (one_in ib166))
    have T51 := T51.trans (f373.tr (one_in ib166))
    have T73 := T73.trans (f373.tr (one_in ib166))
    have TTK96 := TTK96.trans (f373.tr (one_in ib166))
    have TLK96 := TLK96.trans (f373.tr (one_in ib166))
    have TTK120 := TTK120.trans (f373.tr (one_in ib166))
    have TLK120 := TLK120.trans (f373.tr (one_in ib166))
    have TTK146 := TTK146.trans (f373.tr (one_in ib166))
    have TLK146 := TLK146.trans (f373.tr (one_in ib166))
    have T191 := T191.trans (f373.tr (one_in ib166))
    have T267 := T267.trans (f373.tr (one_in ib166))
    have hb4 := hb4.fr f373 (nin nb166b4.symm)
    have hb24 := hb24.fr f373 (nin nb166b24.symm)
    have hb105 := hb105.fr f373 (nin nb166b105.symm)
    have hb131 := hb131.fr f373 (nin nb166b131.symm)
    have hb157 := hb157.fr f373 (nin nb166b157.symm)
    have hb169 := hb169.fr f373 (nin nb169b166)
    have hb172 := hb172.fr f373 (nin nb172b166)
    have hO := f373.ob hO
    have hF := hF.own f373 gb166
    refine wo_seg Θ_ok [8] [(2, (.slice A345 y49.length c346)), (3, (bp b4)), (7, (bp b24)), (8, (.bool y37)), (10, (.int .u64 z76)), (11, (bp b105)), (12, (.int .i64 y94.2)), (13, (bp b131)), (14, (.int .u64 y118.2.1)), (15, (.int .i64 y118.2.2)), (16, (bp b157)), (17, (.int .i64 y144.2.1)), (18, (.int .i64 y144.2.2)), (19, (bp b166)), (20, (bp b169)), (21, (bp b172)), (22, (.int .u64 0)), (24, (.int .i64 0)), (27, (.slice A343 ((r_Waits y18 z76)).length c344)), (40, (.slice A71 x1.length c72)), (41, (.int .i64 (x1.length : Int))), (42, (.int .i64 (i74 : Int)))] rfl ⟨rfl, rfl, rfl, rfl, rfl, rfl, rfl, rfl, rfl, rfl, rfl, rfl, rfl, rfl, rfl, rfl, rfl, rfl, rfl, rfl, rfl, rfl, trivial⟩ ?_
    refine wo_nil ?_
    exact wq_join hK271 [(2, (.slice A345 y49.length c346)), (3, (bp b4)), (7, (bp b24)), (8, (.bool y37)), (10, (.int .u64 z76)), (11, (bp b105)), (12, (.int .i64 y94.2)), (13, (bp b131)), (14, (.int .u64 y118.2.1)), (15, (.int .i64 y118.2.2)), (16, (bp b157)), (17, (.int .i64 y144.2.1)), (18, (.int .i64 y144.2.2)), (19, (bp b166)), (20, (bp b169)), (21, (bp b172)), (22, (.int .u64 0)), (24, (.int .i64 0)), (27, (.slice A343 ((r_Waits y18 z76)).length c344)), (40, (.slice A71 x1.length c72)), (41, (.int .i64 (x1.length : Int))), (42, (.int .i64 (i74 : Int)))] ⟨rfl, rfl, rfl, rfl, rfl, rfl, rfl, rfl, rfl, rfl, rfl, rfl, rfl, rfl, rfl, rfl, rfl, rfl, rfl, rfl, rfl, rfl, trivial⟩ ⟨O260, (0 : Int), y362, (.slice A368 y362.fNames.length c369), (.slice A370 y362.fBoxes.length c371), rfl, T267, hO, hS, hF, ib4, hb4, ib24, hb24, ib105, hb105, ib131, hb131, ib157, hb157, ib166, hb166, ib169, hb169, ib172, hb172, h365, h367, h⟩
  rintro E w279 ⟨O278, p272, p273, v274, v276, rfl, T267, hO, hS, hF, ib4, hb4, ib24, hb24, ib105, hb105, ib131, hb131, ib157, hb157, ib166, hb166, ib169, hb169, ib172, hb172, h275, h277, h⟩
  have T51 := T51.trans T267
  have T73 := T73.trans T267
  have TTK96 := TTK96.trans T267
  have TLK96 := TLK96.trans T267
  have TTK120 := TTK120.trans T267
  have TLK120 := TLK120.trans T267
  have TTK146 := TTK146.trans T267
  have TLK146 := TLK146.trans T267
  have T191 := T191.trans T267
  have h47 := h47.tr T267
  have h265 := h265.tr T267
  have h1 := h1.tr T267
  have h0_1 := h0_1.tr T267
  have h0_2 := h0_2.tr T267
  have h21 := h21.tr T267
  have h23 := h23.tr T267
  have h102 := h102.tr T267
  have h104 := h104.tr T267
  have h128 := h128.tr T267
  have h130 := h130.tr T267
  have h154 := h154.tr T267
  have h156 := h156.tr T267
  subst hk269
  (try dsimp only at h)
  obtain ⟨k281, hk282, h⟩ := letk_some h
  refine wc_join (fun E W => ∃ (O292 : List Nat) (p285 : Int) (p286 : Int) (p287 : GIpc) (v288 : Value) (v290 : Value), E = [(2, v45), (3, (bp b4)), (7, (bp b24)), (8, (.bool y37)), (10, (.int .u64 z76)), (11, (bp b105)), (12, (.int .i64 y94.2)), (13, (bp b131)), (14, (.int .u64 y118.2.1)), (15, (.int .i64 y118.2.2)), (16, (bp b157)), (17, (.int .i64 y144.2.1)), (18, (.int .i64 y144.2.2)), (19, (bp b166)), (20, (bp b169)), (21, (bp b172)), (22, (.int .u64 p285)), (24, (.int .i64 p272)), (25, (.int .i64 p286)), (27, v263), (40, (.slice A71 x1.length c72)), (41, (.int .i64 (x1.length : Int))), (42, (.int .i64 (i74 : Int)))] ∧ Tr O278 w279 O292 W ∧ OB O292 W ∧ Sub O O292 ∧ Fr [] w W ∧ b4 ∈ O292 ∧ Blk W b4 25 [v0_1, v0_2] ∧ b24 ∈ O292 ∧ Blk W b24 25 [(.slice A27 y18.fNames.length c28), (.slice A29 y18.fBoxes.length c30)] ∧ b105 ∈ O292 ∧ Blk W b105 25 [(.slice A108 y94.1.fNames.length c109), (.slice A110 y94.1.fBoxes.length c111)] ∧ b131 ∈ O292 ∧ Blk W b131 25 [(.slice A134 y118.1.fNames.length c135), (.slice A136 y118.1.fBoxes.length c137)] ∧ b157 ∈ O292 ∧ Blk W b157 25 [(.slice A160 y144.1.fNames.length c161), (.slice A162 y144.1.fBoxes.length c163)] ∧ b166 ∈ O292 ∧ Blk W b166 25 [v274, v276] ∧ b169 ∈ O292 ∧ Blk W b169 25 [v288, v290] ∧ b172 ∈ O292 ∧ Blk W b172 25 [(.slice none 0 0), (.slice none 0 0)] ∧ (Ty.slice tGName).is O292 W v288 p287.fNames ∧ (Ty.slice tGBox).is O292 W v290 p287.fBoxes ∧ k281 p285 p286 p287 = some r) ?_ (fun K283 hK284 => ?_)
  rotate_left
  · clear hk282
    have T280 := Tr.refl O278 w279
    refine wc_seq ?_
    refine wc_region (l := [0]) rfl ?_
    refine wo_seg Θ_ok [0] [(2, v45), (3, (bp b4)), (7, (bp b24)), (8, (.bool y37)), (10, (.int .u64 z76)), (11, (bp b105)), (12, (.int .i64 y94.2)), (13, (bp b131)), (14, (.int .u64 y118.2.1)), (15, (.int .i64 y118.2.2)), (16, (bp b157)), (17, (.int .i64 y144.2.1)), (18, (.int .i64 y144.2.2)), (19, (bp b166)), (20, (bp b169)), (21, (bp b172)), (22, (.int .u64 0)), (24, (.int .i64 p272)), (25, (.int .i64 4)), (27, v263), (40, (.slice A71 x1.length c72)), (41, (.int .i64 (x1.length : Int))), (42, (.int .i64 (i74 : Int)))] rfl ⟨rfl, rfl, rfl, rfl, rfl, rfl, rfl, rfl, rfl, rfl, rfl, rfl, rfl, rfl, rfl, rfl, rfl, rfl, rfl, rfl, rfl, rfl, rfl, trivial⟩ ?_
    refine wo_nil ?_
    refine wq_seq ?_
    refine wc_seq ?_
    refine wc_region (l := [0, 1, 2]) rfl ?_
    refine wo_seg Θ_ok [0] [(2, v45), (3, (bp b4)), (7, (bp b24)), (8, (.bool y37)), (10, (.int .u64 z76)), (11, (bp b105)), (12, (.int .i64 y94.2)), (13, (bp b131)), (14, (.int .u64 y118.2.1)), (15, (.int .i64 y118.2.2)), (16, (bp b157)), (17, (.int .i64 y144.2.1)), (18, (.int .i64 y144.2.2)), (19, (bp b166)), (20, (bp b169)), (21, (bp b172)), (22, (.int .u64 0)), (24, (.int .i64 p272)), (25, (.int .i64 4)), (27, v263), (40, (.slice A71 x1.length c72)), (41, (.int .i64 (x1.length : Int))), (42, (.int .i64 (i74 : Int))), (95, v263)] rfl ⟨rfl, rfl, rfl, rfl, rfl, rfl, rfl, rfl, rfl, rfl, rfl, rfl, rfl, rfl, rfl, rfl, rfl, rfl, rfl, rfl, rfl, rfl, rfl, rfl, trivial⟩ ?_
    obtain ⟨A312, c313, rfl, hlc313, hmc313⟩ := slice_form h265
    refine wo_seg Θ_ok [1] [(2, v45), (3, (bp b4)), (7, (bp b24)), (8, (.bool y37)), (10, (.int .u64 z76)), (11, (bp b105)), (12, (.int .i64 y94.2)), (13, (bp b131)), (14, (.int .u64 y118.2.1)), (15, (.int .i64 y118.2.2)), (16, (bp b157)), (17, (.int .i64 y144.2.1)), (18, (.int .i64 y144.2.2)), (19, (bp b166)), (20, (bp b169)), (21, (bp b172)), (22, (.int .u64 0)), (24, (.int .i64 p272)), (25, (.int .i64 4)), (27, (.slice A312 ((r_Waits y18 z76)).length c313)), (40, (.slice A71 x1.length c72)), (41, (.int .i64 (x1.length : Int))), (42, (.int .i64 (i74 : Int))), (96, (.int .i64 (((r_Waits y18 z76)).length : Int)))] rfl ⟨rfl, rfl, rfl, rfl, rfl, rfl, rfl, rfl, rfl, rfl, rfl, rfl, rfl, rfl, rfl, rfl, rfl, rfl, rfl, rfl, rfl, rfl, rfl, rfl, trivial⟩ ?_
    refine wo_seg Θ_ok [2] [(2, v45), (3, (bp b4)), (7, (bp b24)), (8, (.bool y37)), (10, (.int .u64 z76)), (11, (bp b105)), (12, (.int .i64 y94.2)), (13, (bp b131)), (14, (.int .u64 y118.2.1)), (15, (.int .i64 y118.2.2)), (16, (bp b157)), (17, (.int .i64 y144.2.1)), (18, (.int .i64 y144.2.2)), (19, (bp b166)), (20, (bp b169)), (21, (bp b172)), (22, (.int .u64 0)), (24, (.int .i64 p272)), (25, (.int .i64 4)), (27, (.slice A312 ((r_Waits y18 z76)).length c313)), (40, (.slice A71 x1.length c72)), (41, (.int .i64 (x1.length : Int))), (42, (.int .i64 (i74 : Int))), (97, (.bool (decide ((((r_Waits y18 z76)).length : Int) > (0 : Int)))))] rfl ⟨rfl, rfl, rfl, rfl, rfl, rfl, rfl, rfl, rfl, rfl, rfl, rfl, rfl, rfl, rfl, rfl, rfl, rfl, rfl, rfl, rfl, rfl, rfl, rfl, trivial⟩ ?_
    refine wo_nil ?_
    refine wq_seq ?_
    rcases bif_some h with ⟨hc314, h⟩ | ⟨hc314, h⟩
    rotate_left
    · refine wc_known_false rfl hc314 ?_
      refine wc_skip ?_
      exact wq_join hK284 [(2, v45), (3, (bp b4)), (7, (bp b24)), (8, (.bool y37)), (10, (.int .u64 z76)), (11, (bp b105)), (12, (.int .i64 y94.2)), (13, (bp b131)), (14, (.int .u64 y118.2.1)), (15, (.int .i64 y118.2.2)), (16, (bp b157)), (17, (.int .i64 y144.2.1)), (18, (.int .i64 y144.2.2)), (19, (bp b166)), (20, (bp b169)), (21, (bp b172)), (22, (.int .u64 0)), (24, (.int .i64 p272)), (25, (.int .i64 4)), (27, (.slice A312 ((r_Waits y18 z76)).length c313)), (40, (.slice A71 x1.length c72)), (41, (.int .i64 (x1.length : Int))), (42, (.int .i64 (i74 : Int)))] ⟨rfl, rfl, rfl, rfl, rfl, rfl, rfl, rfl, rfl, rfl, rfl, rfl, rfl, rfl, rfl, rfl, rfl, rfl, rfl, rfl, rfl, rfl, rfl, trivial⟩ ⟨O278, (0 : Int), (4 : Int), (GIpc.mk ([] : List GName) ([] : List GBox)), (.slice none 0 0), (.slice none 0 0), rfl, T280, hO, hS, hF, ib4, hb4, ib24, hb24, ib105, hb105, ib131, hb131, ib157, hb157, ib166, hb166, ib169, hb169, ib172, hb172, (slice_nil _ _ _), (slice_nil _ _ _), h⟩
    refine wc_known_true rfl hc314 ?_
    obtain ⟨y315, hz316, h⟩ := bind_some h
    obtain ⟨y317, hy318, h⟩ := bind_some h
    obtain ⟨y319, hz320, h⟩ := bind_some h
    refine wc_drawS mixed (b := b169) [⟨98, [], [7]⟩, ⟨99, [], [10]⟩, ⟨100, [], [27]⟩, ⟨101, [2], []⟩, ⟨102, [0, 1, 3], []⟩, ⟨103, [], [27]⟩, ⟨104, [5], []⟩, ⟨105, [6], []⟩, ⟨161, [4], [20]⟩] [SB.eq b169 (.agg #[(.slice A27 y18.fNames.length c28), (.slice A29 y18.fBoxes.length c30)]), SB.eq b169 (.int .u64 z76), SB.eq b169 (.slice A312 ((r_Waits y18 z76)).length c313), SB.is (Ty.slice (Ty.int .u64)) ib169 y315, SB.is tGIpc ib169 y317, SB.eq b169 (.slice A312 ((r_Waits y18 z76)).length c313), SB.is (Ty.ptr (Ty.int .u64)) ib169 y319, SB.eq b169 (.int .u64 y319), SB.none b169] 8 hb169 tGIpc ib169 y317 rfl rfl rfl rfl rfl (fun p hp => by cases hp; rfl) rfl rfl ⟨?_, ?_, ?_, ?_, ?_, ?_, ?_, ?_, ?_, trivial⟩ ?_
    · intro a w2 hfr hN hds hb hd
      have hb24 := hb24.fr hfr (nin nb169b24.symm)
      exact op_load Θ_ok ⟨hN, hds, rows_get (E := [(7, (bp b24))]) ⟨hb 7 rfl _ rfl, trivial⟩⟩ rfl rfl rfl rfl rfl rfl hb24 [(.slice A27 y18.fNames.length c28), (.slice A29 y18.fBoxes.length c30)] rfl rfl (.inl rfl) (.agg #[(.slice A27 y18.fNames.length c28), (.slice A29 y18.fBoxes.length c30)]) rfl
    · intro a w2 hfr hN hds hb hd
      exact op_plain Θ_ok ⟨hN, hds, rows_get (E := [(10, (.int .u64 z76))]) ⟨hb 10 rfl _ rfl, trivial⟩⟩ rfl rfl rfl rfl rfl
    · intro a w2 hfr hN hds hb hd
      have h265 := h265.tr (hfr.tr (one_in ib169))
      exact op_plain Θ_ok ⟨hN, hds, rows_get (E := [(27, (.slice A312 ((r_Waits y18 z76)).length c313))]) ⟨hb 27 rfl _ rfl, trivial⟩⟩ rfl rfl rfl rfl rfl
    · intro a w2 hfr hN hds hb hd
      have h265 := h265.tr (hfr.tr (one_in ib169))
      exact op_cut (l' := some (.i64, (1 : Int))) (h' := none) (m' := none) Θ_ok ⟨hN, hds, rows_get (E := [(100, (.slice A312 ((r_Waits y18 z76)).length c313))]) ⟨(hd 2 rfl _ _ rfl rfl), trivial⟩⟩ rfl rfl rfl rfl rfl rfl rfl rfl rfl rfl rfl rfl h265 hz316
    · intro a w2 hfr hN hds hb hd
      have h21 := h21.tr (hfr.tr (one_in ib169))
      have h23 := h23.tr (hfr.tr (one_in ib169))
      have d323 : (Ty.slice (Ty.int .u64)).is O278 w2 (a.tmps.getD 101 undef) y315 := hd 3 rfl _ _ rfl rfl
      obtain ⟨u321, e322⟩ : ∃ v, a.tmps.getD 101 undef = v := ⟨_, rfl⟩
      rw [e322] at d323
      exact (op_call ⟨hN, hds, rows_get (E := [(98, (.agg #[(.slice A27 y18.fNames.length c28), (.slice A29 y18.fBoxes.length c30)])), (99, (.int .u64 z76)), (101, u321)]) ⟨(hd 0 rfl _ _ rfl rfl), (hd 1 rfl _ _ rfl rfl), e322, trivial⟩⟩ rfl rfl rfl rfl ent28 rfl (r_With_c (hfr.ob hO) ((tGIpc_is (x := y18)).2 ⟨_, _, rfl, h21, h23⟩) (int_is.2 rfl) d323 hy318)).weaken (fun u w3 ⟨hu, hf⟩ => ⟨hu, hf⟩)
    · intro a w2 hfr hN hds hb hd
      have h265 := h265.tr (hfr.tr (one_in ib169))
      exact op_plain Θ_ok ⟨hN, hds, rows_get (E := [(27, (.slice A312 ((r_Waits y18 z76)).length c313))]) ⟨hb 27 rfl _ rfl, trivial⟩⟩ rfl rfl rfl rfl rfl
    · intro a w2 hfr hN hds hb hd
      have h265 := h265.tr (hfr.tr (one_in ib169))
      exact op_index (j := (0 : Int)) Θ_ok ⟨hN, hds, rows_get (E := [(103, (.slice A312 ((r_Waits y18 z76)).length c313))]) ⟨(hd 5 rfl _ _ rfl rfl), trivial⟩⟩ rfl rfl rfl rfl rfl rfl rfl rfl rfl h265 rfl (idx_some hz320).1 (idx_some hz320).2
    · intro a w2 hfr hN hds hb hd
      have d326 : (Ty.ptr (Ty.int .u64)).is O278 w2 (a.tmps.getD 104 undef) y319 := hd 6 rfl _ _ rfl rfl
      obtain ⟨u324, e325⟩ : ∃ v, a.tmps.getD 104 undef = v := ⟨_, rfl⟩
      rw [e325] at d326
      exact (op_loadp Θ_ok ⟨hN, hds, rows_get (E := [(104, u324)]) ⟨e325, trivial⟩⟩ rfl rfl rfl rfl rfl rfl d326 rfl rfl).weaken (fun u w3 ⟨hu, hf⟩ => ⟨int_is.1 hu, hf⟩)
    · intro a w2 hfr hN hds hb hd
      have d329 : tGIpc.is O278 w2 (a.tmps.getD 102 undef) y317 := hd 4 rfl _ _ rfl rfl
      obtain ⟨u327, e328⟩ : ∃ v, a.tmps.getD 102 undef = v := ⟨_, rfl⟩
      rw [e328] at d329
      obtain ⟨v330, v332, rfl, h331, h333⟩ := tGIpc_is.1 d329
      exact fun hbs => op_storeS Θ_ok ⟨hN, hds, rows_get (E := [(20, (bp b169)), (102, (.agg #[v330, v332]))]) ⟨hb 20 rfl _ rfl, e328, trivial⟩⟩ rfl rfl rfl rfl rfl rfl rfl hbs ib169 ((tGIpc_is (x := y317)).2 ⟨_, _, rfl, h331, h333⟩) rfl rfl
    intro a w335 cs f334 hcs hbk hN hds hb hr
    have h47 := h47.tr (f334.tr (one_in ib169))
    have h265 := h265.tr (f334.tr (one_in ib169))
    have h1 := h1.tr (f334.tr (one_in ib169))
    have h0_1 := h0_1.tr (f334.tr (one_in ib169))
    have h0_2 := h0_2.tr (f334.tr (one_in ib169))
    have h21 := h21.tr (f334.tr (one_in ib169))
    have h23 := h23.tr (f334.tr (one_in ib169))
    have h102 := h102.tr (f334.tr (one_in ib169))
    have h104 := h104.tr (f334.tr (one_in ib169))
    have h128 := h128.tr (f334.tr (one_in ib169))
    have h130 := h130.tr (f334.tr (one_in ib169))
    have h154 := h154.tr (f334.tr (one_in ib169))
    have h156 := h156.tr (f334.tr (one_in ib169))
    have h275 := h275.tr (f334.tr (one_in ib169))
    have h277 := h277.tr (f334.tr (one_in ib169))
    have T51 := T51.trans (f334.tr (one_in ib169))
    have T73 := T73.trans (f334.tr (one_in ib169))
    have TTK96 := TTK96.trans (f334.tr (one_in ib169))
    have TLK96 := TLK96.trans (f334.tr (one_in ib169))
    have TTK120 := TTK120.trans (f334.tr (one_in ib169))
    have TLK120 := TLK120.trans (f334.tr (one_in ib169))
    have TTK146 := TTK146.trans (f334.tr (one_in ib169))
    have TLK146 := TLK146.trans (f334.tr (one_in ib169))
    have T191 := T191.trans (f334.tr (one_in ib169))
    have T280 := T280.trans (f334.tr (one_in ib169))
    have hb4 := hb4.fr f334 (nin nb169b4.symm)
    have hb24 := hb24.fr f334 (nin nb169b24.symm)
    have hb105 := hb105.fr f334 (nin nb169b105.symm)
    have hb131 := hb131.fr f334 (nin nb169b131.symm)
    have hb157 := hb157.fr f334 (nin nb169b157.symm)
    have hb166 := hb166.fr f334 (nin nb169b166.symm)
    have hb172 := hb172.fr f334 (nin nb172b169)
    have hO := f334.ob hO
    have hF := hF.own f334 gb169
    have hb169 := hbk
    obtain ⟨z336, e337⟩ : ∃ z, Ty.mk' tGIpc cs = z := ⟨_, rfl⟩
    have h338 : tGIpc.is O278 w335 z336 y317 := ⟨cs, hcs, e337.symm⟩
    obtain ⟨v339, v341, rfl, h340, h342⟩ := tGIpc_is.1 h338
    obtain rfl := mk_agg (us := [v339, v341]) e337
    refine wo_go (E := [(2, v45), (3, (bp b4)), (7, (bp b24)), (8, (.bool y37)), (10, (.int .u64 z76)), (11, (bp b105)), (12, (.int .i64 y94.2)), (13, (bp b131)), (14, (.int .u64 y118.2.1)), (15, (.int .i64 y118.2.2)), (16, (bp b157)), (17, (.int .i64 y144.2.1)), (18, (.int .i64 y144.2.2)), (19, (bp b166)), (20, (bp b169)), (21, (bp b172)), (24, (.int .i64 p272)), (27, (.slice A312 ((r_Waits y18 z76)).length c313)), (40, (.slice A71 x1.length c72)), (41, (.int .i64 (x1.length : Int))), (42, (.int .i64 (i74 : Int))), (105, (.int .u64 y319))]) (l := [9, 10]) hN hds ⟨hb 2 _ rfl rfl, hb 3 _ rfl rfl, hb 7 _ rfl rfl, hb 8 _ rfl rfl, hb 10 _ rfl rfl, hb 11 _ rfl rfl, hb 12 _ rfl rfl, hb 13 _ rfl rfl, hb 14 _ rfl rfl, hb 15 _ rfl rfl, hb 16 _ rfl rfl, hb 17 _ rfl rfl, hb 18 _ rfl rfl, hb 19 _ rfl rfl, hb 20 _ rfl rfl, hb 21 _ rfl rfl, hb 24 _ rfl rfl, hb 27 _ rfl rfl, hb 40 _ rfl rfl, hb 41 _ rfl rfl, hb 42 _ rfl rfl, (hr 7 _ _ rfl rfl), trivial⟩ rfl ?_
    refine wo_seg Θ_ok [9, 10] [(2, v45), (3, (bp b4)), (7, (bp b24)), (8, (.bool y37)), (10, (.int .u64 z76)), (11, (bp b105)), (12, (.int .i64 y94.2)), (13, (bp b131)), (14, (.int .u64 y118.2.1)), (15, (.int .i64 y118.2.2)), (16, (bp b157)), (17, (.int .i64 y144.2.1)), (18, (.int .i64 y144.2.2)), (19, (bp b166)), (20, (bp b169)), (21, (bp b172)), (22, (.int .u64 y319)), (24, (.int .i64 p272)), (25, (.int .i64 0)), (27, (.slice A312 ((r_Waits y18 z76)).length c313)), (40, (.slice A71 x1.length c72)), (41, (.int .i64 (x1.length : Int))), (42, (.int .i64 (i74 : Int)))] rfl ⟨rfl, rfl, rfl, rfl, rfl, rfl, rfl, rfl, rfl, rfl, rfl, rfl, rfl, rfl, rfl, rfl, rfl, rfl, rfl, rfl, rfl, rfl, rfl, trivial⟩ ?_
    refine wo_nil ?_
    exact wq_join hK284 [(2, v45), (3, (bp b4)), (7, (bp b24)), (8, (.bool y37)), (10, (.int .u64 z76)), (11, (bp b105)), (12, (.int .i64 y94.2)), (13, (bp b131)), (14, (.int .u64 y118.2.1)), (15, (.int .i64 y118.2.2)), (16, (bp b157)), (17, (.int .i64 y144.2.1)), (18, (.int .i64 y144.2.2)), (19, (bp b166)), (20, (bp b169)), (21, (bp b172)), (22, (.int .u64 y319)), (24, (.int .i64 p272)), (25, (.int .i64 0)), (27, (.slice A312 ((r_Waits y18 z76)).length c313)), (40, (.slice A71 x1.length c72)), (41, (.int .i64 (x1.length : Int))), (42, (.int .i64 (i74 : Int)))] ⟨rfl, rfl, rfl, rfl, rfl, rfl, rfl, rfl, rfl, rfl, rfl, rfl, rfl, rfl, rfl, rfl, rfl, rfl, rfl, rfl, rfl, rfl, rfl, trivial⟩ ⟨O278, y319, (0 : Int), y317, v339, v341, rfl, T280, hO, hS, hF, ib4, hb4, ib24, hb24, ib105, hb105, ib131, hb131, ib157, hb157, ib166, hb166, ib169, hb169, ib172, hb172, h340, h342, h⟩
  rintro E w293 ⟨O292, p285, p286, p287, v288, v290, rfl, T280, hO, hS, hF, ib4, hb4, ib24, hb24, ib105, hb105, ib131, hb131, ib157, hb157, ib166, hb166, ib169, hb169, ib172, hb172, h289, h291, h⟩
  have T51 := T51.trans T280
  have T73 := T73.trans T280
  have TTK96 := TTK96.trans T280
  have TLK96 := TLK96.trans T280
  have TTK120 := TTK120.trans T280
  have TLK120 := TLK120.trans T280
  have TTK146 := TTK146.trans T280
  have TLK146 := TLK146.trans T280
  have T191 := T191.trans T280
  have h47 := h47.tr T280
  have h265 := h265.tr T280
  have h1 := h1.tr T280
  have h0_1 := h0_1.tr T280
  have h0_2 := h0_2.tr T280
  have h21 := h21.tr T280
  have h23 := h23.tr T280
  have h102 := h102.tr T280
  have h104 := h104.tr T280
  have h128 := h128.tr T280
  have h130 := h130.tr T280
  have h154 := h154.tr T280
  have h156 := h156.tr T280
  have h275 := h275.tr T280
  have h277 := h277.tr T280
  subst hk282
  (try dsimp only at h)
  refine wc_region (l := [0, 1, 2, 3, 4, 5, 6, 7]) rfl ?_
  refine wo_load Θ_ok rfl rfl rfl rfl rfl rfl rfl hb24 [(.slice A27 y18.fNames.length c28), (.slice A29 y18.fBoxes.length c30)] rfl rfl (.inl rfl) (.agg #[(.slice A27 y18.fNames.length c28), (.slice A29 y18.fBoxes.length c30)]) rfl ?_
  refine wo_seg Θ_ok [1] [(2, v45), (3, (bp b4)), (7, (bp b24)), (8, (.bool y37)), (11, (bp b105)), (12, (.int .i64 y94.2)), (13, (bp b131)), (14, (.int .u64 y118.2.1)), (15, (.int .i64 y118.2.2)), (16, (bp b157)), (17, (.int .i64 y144.2.1)), (18, (.int .i64 y144.2.2)), (19, (bp b166)), (20, (bp b169)), (21, (bp b172)), (22, (.int .u64 p285)), (24, (.int .i64 p272)), (25, (.int .i64 p286)), (27, v263), (40, (.slice A71 x1.length c72)), (41, (.int .i64 (x1.length : Int))), (42, (.int .i64 (i74 : Int))), (106, (.agg #[(.slice A27 y18.fNames.length c28), (.slice A29 y18.fBoxes.length c30)])), (107, (.int .u64 z76))] rfl ⟨rfl, rfl, rfl, rfl, rfl, rfl, rfl, rfl, rfl, rfl, rfl, rfl, rfl, rfl, rfl, rfl, rfl, rfl, rfl, rfl, rfl, rfl, rfl, rfl, trivial⟩ ?_
  obtain ⟨y298, hy299, h⟩ := bind_some h
  refine wo_gives rfl rfl rfl rfl rfl ent28 rfl (r_With_c hO ((tGIpc_is (x := y18)).2 ⟨_, _, rfl, h21, h23⟩) (int_is.2 rfl) (slice_nil _ _ _) hy299) (fun v294 w295 h296 f297 => ?_)
  have h47 := h47.tr f297.tr0
  have h265 := h265.tr f297.tr0
  have h1 := h1.tr f297.tr0
  have h0_1 := h0_1.tr f297.tr0
  have h0_2 := h0_2.tr f297.tr0
  have h21 := h21.tr f297.tr0
  have h23 := h23.tr f297.tr0
  have h102 := h102.tr f297.tr0
  have h104 := h104.tr f297.tr0
  have h128 := h128.tr f297.tr0
  have h130 := h130.tr f297.tr0
  have h154 := h154.tr f297.tr0
  have h156 := h156.tr f297.tr0
  have h275 := h275.tr f297.tr0
  have h277 := h277.tr f297.tr0
  have h289 := h289.tr f297.tr0
  have h291 := h291.tr f297.tr0
  have hb4 := hb4.fr0 f297
  have hb24 := hb24.fr0 f297
  have hb105 := hb105.fr0 f297
  have hb131 := hb131.fr0 f297
  have hb157 := hb157.fr0 f297
  have hb166 := hb166.fr0 f297
  have hb169 := hb169.fr0 f297
  have hb172 := hb172.fr0 f297
  have T51 := T51.trans f297.tr0
  have T73 := T73.trans f297.tr0
  have TTK96 := TTK96.trans f297.tr0
  have TLK96 := TLK96.trans f297.tr0
  have TTK120 := TTK120.trans f297.tr0
  have TLK120 := TLK120.trans f297.tr0
  have TTK146 := TTK146.trans f297.tr0
  have TLK146 := TLK146.trans f297.tr0
  have T191 := T191.trans f297.tr0
  have hO := f297.ob hO
  have hF := hF.trans f297
  obtain ⟨v300, v302, rfl, h301, h303⟩ := tGIpc_is.1 h296
  refine wo_seg Θ_ok [3] [(2, v45), (3, (bp b4)), (7, (bp b24)), (8, (.bool y37)), (11, (bp b105)), (12, (.int .i64 y94.2)), (13, (bp b131)), (14, (.int .u64 y118.2.1)), (15, (.int .i64 y118.2.2)), (16, (bp b157)), (17, (.int .i64 y144.2.1)), (18, (.int .i64 y144.2.2)), (19, (bp b166)), (20, (bp b169)), (21, (bp b172)), (22, (.int .u64 p285)), (24, (.int .i64 p272)), (25, (.int .i64 p286)), (40, (.slice A71 x1.length c72)), (41, (.int .i64 (x1.length : Int))), (42, (.int .i64 (i74 : Int))), (108, (.agg #[v300, v302])), (109, v263)] rfl ⟨rfl, rfl, rfl, rfl, rfl, rfl, rfl, rfl, rfl, rfl, rfl, rfl, rfl, rfl, rfl, rfl, rfl, rfl, rfl, rfl, rfl, rfl, rfl, trivial⟩ ?_
  obtain ⟨A304, c305, rfl, hlc305, hmc305⟩ := slice_form h265
  refine wo_seg Θ_ok [4] [(2, v45), (3, (bp b4)), (7, (bp b24)), (8, (.bool y37)), (11, (bp b105)), (12, (.int .i64 y94.2)), (13, (bp b131)), (14, (.int .u64 y118.2.1)), (15, (.int .i64 y118.2.2)), (16, (bp b157)), (17, (.int .i64 y144.2.1)), (18, (.int .i64 y144.2.2)), (19, (bp b166)), (20, (bp b169)), (21, (bp b172)), (22, (.int .u64 p285)), (24, (.int .i64 p272)), (25, (.int .i64 p286)), (40, (.slice A71 x1.length c72)), (41, (.int .i64 (x1.length : Int))), (42, (.int .i64 (i74 : Int))), (108, (.agg #[v300, v302])), (110, (.int .i64 (((r_Waits y18 z76)).length : Int)))] rfl ⟨rfl, rfl, rfl, rfl, rfl, rfl, rfl, rfl, rfl, rfl, rfl, rfl, rfl, rfl, rfl, rfl, rfl, rfl, rfl, rfl, rfl, rfl, rfl, trivial⟩ ?_
  obtain ⟨A306, c307, rfl, hlc307, hmc307⟩ := slice_form h301
  obtain ⟨A308, c309, rfl, hlc309, hmc309⟩ := slice_form h303
  refine wo_store Θ_ok rfl rfl rfl rfl rfl rfl rfl hb172 [(.slice A306 y298.fNames.length c307), (.slice A308 y298.fBoxes.length c309)] rfl rfl (by simp [Value.oneCell']) rfl [(.slice A306 y298.fNames.length c307), (.slice A308 y298.fBoxes.length c309)] rfl (fun w310 hb172 f311 => ?_)
  have h47 := h47.tr (f311.tr (one_in ib172))
  have h1 := h1.tr (f311.tr (one_in ib172))
  have h0_1 := h0_1.tr (f311.tr (one_in ib172))
  have h0_2 := h0_2.tr (f311.tr (one_in ib172))
  have h21 := h21.tr (f311.tr (one_in ib172))
  have h23 := h23.tr (f311.tr (one_in ib172))
  have h102 := h102.tr (f311.tr (one_in ib172))
  have h104 := h104.tr (f311.tr (one_in ib172))
  have h128 := h128.tr (f311.tr (one_in ib172))
  have h130 := h130.tr (f311.tr (one_in ib172))
  have h154 := h154.tr (f311.tr (one_in ib172))
  have h156 := h156.tr (f311.tr (one_in ib172))
  have h275 := h275.tr (f311.tr (one_in ib172))
  have h277 := h277.tr (f311.tr (one_in ib172))
  have h289 := h289.tr (f311.tr (one_in ib172))
  have h291 := h291.tr (f311.tr (one_in ib172))
  have h301 := h301.tr (f311.tr (one_in ib172))
  have h303 := h303.tr (f311.tr (one_in ib172))
  have T51 := T51.trans (f311.tr (one_in ib172))
  have T73 := T73.trans (f311.tr (one_in ib172))
  have TTK96 := TTK96.trans (f311.tr (one_in ib172))
  have TLK96 := TLK96.trans (f311.tr (one_in ib172))
  have TTK120 := TTK120.trans (f311.tr (one_in ib172))
  have TLK120 := TLK120.trans (f311.tr (one_in ib172))
  have TTK146 := TTK146.trans (f311.tr (one_in ib172))
  have TLK146 := TLK146.trans (f311.tr (one_in ib172))
  have T191 := T191.trans (f311.tr (one_in ib172))
  have hb4 := hb4.fr f311 (nin nb172b4.symm)
  have hb24 := hb24.fr f311 (nin nb172b24.symm)
  have hb105 := hb105.fr f311 (nin nb172b105.symm)
  have hb131 := hb131.fr f311 (nin nb172b131.symm)
  have hb157 := hb157.fr f311 (nin nb172b157.symm)
  have hb166 := hb166.fr f311 (nin nb172b166.symm)
  have hb169 := hb169.fr f311 (nin nb172b169.symm)
  have hO := f311.ob hO
  have hF := hF.own f311 gb172
  refine wo_seg Θ_ok [6, 7] [(2, v45), (3, (bp b4)), (7, (bp b24)), (8, (.bool y37)), (11, (bp b105)), (12, (.int .i64 y94.2)), (13, (bp b131)), (14, (.int .u64 y118.2.1)), (15, (.int .i64 y118.2.2)), (16, (bp b157)), (17, (.int .i64 y144.2.1)), (18, (.int .i64 y144.2.2)), (19, (bp b166)), (20, (bp b169)), (21, (bp b172)), (22, (.int .u64 p285)), (23, (.int .i64 (((r_Waits y18 z76)).length : Int))), (24, (.int .i64 p272)), (25, (.int .i64 p286)), (26, (.int .i64 0)), (40, (.slice A71 x1.length c72)), (41, (.int .i64 (x1.length : Int))), (42, (.int .i64 (i74 : Int)))] rfl ⟨rfl, rfl, rfl, rfl, rfl, rfl, rfl, rfl, rfl, rfl, rfl, rfl, rfl, rfl, rfl, rfl, rfl, rfl, rfl, rfl, rfl, rfl, rfl, trivial⟩ ?_
  refine wo_nil ?_
  exact wq_join hK195 [(2, v45), (3, (bp b4)), (7, (bp b24)), (8, (.bool y37)), (11, (bp b105)), (12, (.int .i64 y94.2)), (13, (bp b131)), (14, (.int .u64 y118.2.1)), (15, (.int .i64 y118.2.2)), (16, (bp b157)), (17, (.int .i64 y144.2.1)), (18, (.int .i64 y144.2.2)), (19, (bp b166)), (20, (bp b169)), (21, (bp b172)), (22, (.int .u64 p285)), (23, (.int .i64 (((r_Waits y18 z76)).length : Int))), (24, (.int .i64 p272)), (25, (.int .i64 p286)), (26, (.int .i64 0)), (40, (.slice A71 x1.length c72)), (41, (.int .i64 (x1.length : Int))), (42, (.int .i64 (i74 : Int)))] ⟨rfl, rfl, rfl, rfl, rfl, rfl, rfl, rfl, rfl, rfl, rfl, rfl, rfl, rfl, rfl, rfl, rfl, rfl, rfl, rfl, rfl, rfl, rfl, trivial⟩ ⟨O292, p285, (((r_Waits y18 z76)).length : Int), p272, p286, (0 : Int), p273, p287, y298, v274, v276, v288, v290, (.slice A306 y298.fNames.length c307), (.slice A308 y298.fBoxes.length c309), rfl, T191, hO, hS, hF, ib4, hb4, ib24, hb24, ib105, hb105, ib131, hb131, ib157, hb157, ib166, hb166, ib169, hb169, ib172, hb172, h275, h277, h289, h291, h301, h303, h⟩
end Go.Proofs.Ytjdeaihnpgkphaa
