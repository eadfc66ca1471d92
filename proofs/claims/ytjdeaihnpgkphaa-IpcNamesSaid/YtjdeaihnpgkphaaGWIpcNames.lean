/-
  The program's functions compute the plain ones (printed by a tool of the prover's).
-/
import Derived.Test.YtjdeaihnpgkphaaGWIpcNamesP2
namespace Go.Proofs.Ytjdeaihnpgkphaa
open Go.RowKit Go.Dc Go.Shelf
set_option maxRecDepth 100000 in
set_option maxHeartbeats 4000000 in
theorem r_Right_c {O : List Nat} {w : World} (hO : OB O w) {fuel : Nat} {v0 : Value} {x0 : GIpc} (h0 : tGIpc.is O w v0 x0) {r : Bool} (h : r_Right fuel x0 = some r) : Calls Try.prog 9 #[v0] w (Gives (rt1 Ty.bool) O w r) := by
  obtain ⟨v0_1, v0_2, rfl, h0_1, h0_2⟩ := tGIpc_is.1 h0
  have hF := Fr.refl [] w
  have hO0 := hO
  have hS := Sub.refl O
  refine calls_of (args := [(.agg #[v0_1, v0_2])]) (N := 87) Try.func9 rfl rfl rfl ?_
  unfold r_Right at h
  refine wc_seq ?_
  refine wc_region (l := [0, 1]) rfl ?_
  refine wo_box rfl rfl rfl rfl rfl rfl [v0_1, v0_2] rfl hO (fun b2 w3 n4 => ?_)
  have h0_1 := h0_1.tr n4.tr
  have h0_2 := h0_2.tr n4.tr
  have hb2 := n4.blk
  have gb2 := n4.ge0 hF
  have ib2 : b2 ∈ b2 :: O := List.mem_cons_self
  have hO := n4.ob
  have hF := hF.trans n4.fr
  have hS := Sub.cons hS b2
  refine wo_seg Θ_ok [1] [(1, (.pointer (some ⟨b2, 0, none⟩)))] rfl ⟨rfl, trivial⟩ ?_
  refine wo_nil ?_
  refine wq_seq ?_
  obtain ⟨k6, hk7, h⟩ := letk_some h
  refine wc_join (fun E W => ∃ (O10 : List Nat), E = [(1, (.pointer (some ⟨b2, 0, none⟩)))] ∧ Tr (b2 :: O) w3 O10 W ∧ OB O10 W ∧ Sub O O10 ∧ Fr [] w W ∧ b2 ∈ O10 ∧ Blk W b2 25 [v0_1, v0_2] ∧ k6 = some r) ?_ (fun K8 hK9 => ?_)
  rotate_left
  · clear hk7
    have T5 := Tr.refl (b2 :: O) w3
    refine wc_seq ?_
    refine wc_region (l := [0, 1, 2, 3]) rfl ?_
    refine wo_seg Θ_ok [0] [(1, (.pointer (some ⟨b2, 0, none⟩))), (7, (.pointer (some ⟨b2, 0, none⟩)))] rfl ⟨rfl, rfl, trivial⟩ ?_
    refine wo_load Θ_ok rfl rfl rfl rfl rfl rfl rfl hb2 [v0_1] rfl rfl (.inr rfl) v0_1 rfl ?_
    obtain ⟨A73, c74, rfl, hlc74, hmc74⟩ := slice_form h0_1
    refine wo_seg Θ_ok [2] [(1, (.pointer (some ⟨b2, 0, none⟩))), (8, (.slice A73 x0.fNames.length c74)), (9, (.int .i64 (x0.fNames.length : Int)))] rfl ⟨rfl, rfl, rfl, trivial⟩ ?_
    refine wo_seg Θ_ok [3] [(1, (.pointer (some ⟨b2, 0, none⟩))), (8, (.slice A73 x0.fNames.length c74)), (9, (.int .i64 (x0.fNames.length : Int))), (10, (.int .i64 0))] rfl ⟨rfl, rfl, rfl, rfl, trivial⟩ ?_
    refine wo_nil ?_
    refine wq_seq ?_
    refine wc_block ?_
    refine wc_loop (fun m E W => ∃ (rest77 : List GName) (i76 : Nat) (O80 : List Nat), rest77.length = m ∧ x0.fNames.drop i76 = rest77 ∧ E = [(1, (.pointer (some ⟨b2, 0, none⟩))), (8, (.slice A73 x0.fNames.length c74)), (9, (.int .i64 (x0.fNames.length : Int))), (10, (.int .i64 (i76 : Int)))] ∧ Tr (b2 :: O) w3 O80 W ∧ OB O80 W ∧ Sub O O80 ∧ Fr [] w W ∧ b2 ∈ O80 ∧ Blk W b2 25 [(.slice A73 x0.fNames.length c74), v0_2] ∧ r_Right_l2 x0 k6 fuel rest77 i76 = some r) _ [(1, (.pointer (some ⟨b2, 0, none⟩))), (8, (.slice A73 x0.fNames.length c74)), (9, (.int .i64 (x0.fNames.length : Int))), (10, (.int .i64 ((0 : Nat) : Int)))] ⟨rfl, rfl, rfl, rfl, trivial⟩ ⟨x0.fNames, 0, b2 :: O, rfl, rfl, rfl, Tr.refl _ _, hO, hS, hF, ib2, hb2, h⟩ ?_
    rintro m E w81 ⟨rest77, i76, O80, rfl, hd79, rfl, T75, hO, hS, hF, ib2, hb2, h⟩
    have T5 := T5.trans T75
    have h0_1 := h0_1.tr T75
    have h0_2 := h0_2.tr T75
    rcases rest77 with _ | ⟨z78, rest77⟩
    · rw [r_Right_l2] at h
      have hl85 := drop_nil hd79
      have hc82 : (decide ((i76 : Int) < (x0.fNames.length : Int))) = false := decide_eq_false (by omega)
      refine wc_seq ?_
      refine wc_region (l := [0]) rfl ?_
      refine wo_seg Θ_ok [0] [(1, (.pointer (some ⟨b2, 0, none⟩))), (8, (.slice A73 x0.fNames.length c74)), (9, (.int .i64 (x0.fNames.length : Int))), (10, (.int .i64 (i76 : Int))), (11, (.bool (decide ((i76 : Int) < (x0.fNames.length : Int)))))] rfl ⟨rfl, rfl, rfl, rfl, rfl, trivial⟩ ?_
      refine wo_nil ?_
      refine wq_seq ?_
      refine wc_seq ?_
      refine wc_known_false rfl hc82 ?_
      refine wc_exit ?_
      exact wq_then_exit (wq_then_exit (wq_block_exit (wq_join hK9 [(1, (.pointer (some ⟨b2, 0, none⟩)))] ⟨rfl, trivial⟩ ⟨O80, rfl, T5, hO, hS, hF, ib2, hb2, h⟩)))
    rw [r_Right_l2] at h
    obtain ⟨hl86, hg84, hd79⟩ := drop_cons hd79
    have hc83 : (decide ((i76 : Int) < (x0.fNames.length : Int))) = true := decide_eq_true (by omega)
    refine wc_seq ?_
    refine wc_region (l := [0]) rfl ?_
    refine wo_seg Θ_ok [0] [(1, (.pointer (some ⟨b2, 0, none⟩))), (8, (.slice A73 x0.fNames.length c74)), (9, (.int .i64 (x0.fNames.length : Int))), (10, (.int .i64 (i76 : Int))), (11, (.bool (decide ((i76 : Int) < (x0.fNames.length : Int)))))] rfl ⟨rfl, rfl, rfl, rfl, rfl, trivial⟩ ?_
    refine wo_nil ?_
    refine wq_seq ?_
    refine wc_seq ?_
    refine wc_known_true rfl hc83 ?_
    refine wc_skip ?_
    refine wq_seq ?_
    refine wc_seq ?_
    refine wc_block ?_
    refine wc_seq ?_
    refine wc_region (l := [0, 1, 2, 3, 4, 5]) rfl ?_
    refine wo_seg Θ_ok [0] [(1, (.pointer (some ⟨b2, 0, none⟩))), (8, (.slice A73 x0.fNames.length c74)), (9, (.int .i64 (x0.fNames.length : Int))), (10, (.int .i64 (i76 : Int))), (12, (.int .i64 (i76 : Int)))] rfl ⟨rfl, rfl, rfl, rfl, rfl, trivial⟩ ?_
    refine wo_index Θ_ok rfl rfl rfl rfl rfl rfl rfl rfl rfl rfl h0_1 rfl (by omega) hg84 (fun p87 h88 => ?_)
    refine wo_loadp Θ_ok rfl rfl rfl rfl rfl rfl rfl h88 rfl rfl (fun v89 h90 => ?_)
    obtain rfl := tGName_is.1 h90
    refine wo_alloc Θ_ok rfl rfl rfl rfl rfl rfl [(.int .u64 0), (.int .u64 0)] rfl hO (fun b91 w92 n93 => ?_)
    have h0_1 := h0_1.tr n93.tr
    have h0_2 := h0_2.tr n93.tr
    have T5 := T5.trans n93.tr
    have T75 := T75.trans n93.tr
    have nb91b2 : b91 ≠ b2 := by have := hb2.lt; have := n93.ge; omega
    have hb2 := hb2.fr0 n93.fr
    have ib2 := List.mem_cons_of_mem b91 ib2
    have hb91 := n93.blk
    have gb91 := n93.ge0 hF
    have ib91 : b91 ∈ b91 :: O80 := List.mem_cons_self
    have hO := n93.ob
    have hF := hF.trans n93.fr
    have hS := Sub.cons hS b91
    refine wo_seg Θ_ok [4] [(1, (.pointer (some ⟨b2, 0, none⟩))), (3, (.int .i64 (i76 : Int))), (4, (.pointer (some ⟨b91, 0, none⟩))), (8, (.slice A73 x0.fNames.length c74)), (9, (.int .i64 (x0.fNames.length : Int))), (10, (.int .i64 (i76 : Int))), (14, (.agg #[(.int .u64 z78.fName), (.int .u64 z78.fPid)]))] rfl ⟨rfl, rfl, rfl, rfl, rfl, rfl, rfl, trivial⟩ ?_
    refine wo_store Θ_ok rfl rfl rfl rfl rfl rfl rfl hb91 [(.int .u64 z78.fName), (.int .u64 z78.fPid)] rfl rfl (by simp [Value.oneCell']) rfl [(.int .u64 z78.fName), (.int .u64 z78.fPid)] rfl (fun w94 hb91 f95 => ?_)
    have h0_1 := h0_1.tr (f95.tr (one_in ib91))
    have h0_2 := h0_2.tr (f95.tr (one_in ib91))
    have T5 := T5.trans (f95.tr (one_in ib91))
    have T75 := T75.trans (f95.tr (one_in ib91))
    have hb2 := hb2.fr f95 (nin nb91b2.symm)
    have hO := f95.ob hO
    have hF := hF.own f95 gb91
    refine wo_nil ?_
    refine wq_seq ?_
    refine wc_seq ?_
    obtain ⟨y96, hy97, h⟩ := bind_some h
    rcases bif_some h with ⟨hc98, h⟩ | ⟨hc98, h⟩
    · refine wc_draw mixed [⟨15, [], [4]⟩, ⟨16, [0], []⟩, ⟨17, [1], []⟩, ⟨18, [2], []⟩, ⟨19, [3], []⟩, ⟨20, [4], [4]⟩, ⟨21, [4, 5], []⟩, ⟨22, [4, 6], []⟩, ⟨23, [4, 7], []⟩, ⟨24, [4, 8], []⟩, ⟨25, [9], []⟩, ⟨26, [10], [3]⟩, ⟨27, [10, 11], []⟩, ⟨28, [10, 12], []⟩, ⟨29, [13], [1]⟩, ⟨30, [13, 14], []⟩, ⟨31, [13], [3]⟩, ⟨32, [13, 16], []⟩, ⟨33, [13, 15, 17], []⟩, ⟨34, [13, 18], []⟩, ⟨35, [13, 19], []⟩, ⟨36, [13], [4]⟩, ⟨37, [13, 21], []⟩, ⟨38, [13, 20, 22], []⟩, ⟨39, [10, 13, 23], []⟩, ⟨40, [10, 24], []⟩] [SP.eq (.pointer (some ⟨b91, 0, none⟩)), SP.eq (.int .u64 z78.fName), SP.eq (.bool y96), SP.eq (.bool (!y96)), SP.eq (.bool (!y96)), SP.eq undef, SP.eq undef, SP.eq undef, SP.eq undef, SP.eq (.bool true), SP.eq (.bool true), SP.eq undef, SP.eq undef, SP.eq undef, SP.eq undef, SP.eq undef, SP.eq undef, SP.eq undef, SP.eq undef, SP.eq undef, SP.eq undef, SP.eq undef, SP.eq undef, SP.eq undef, SP.eq undef, SP.eq (.bool true)] rfl rfl rfl ⟨?_, ?_, ?_, ?_, ?_, ?_, ?_, ?_, ?_, ?_, ?_, ?_, ?_, ?_, ?_, ?_, ?_, ?_, ?_, ?_, ?_, ?_, ?_, ?_, ?_, ?_, trivial⟩ ?_
      · intro a w2 hfr hN hds hb hd
        exact op_plain Θ_ok ⟨hN, hds, rows_get (E := [(4, (.pointer (some ⟨b91, 0, none⟩)))]) ⟨hb 4 rfl _ rfl, trivial⟩⟩ rfl rfl rfl rfl rfl
      · intro a w2 hfr hN hds hb hd
        have hb91 := hb91.fr0 hfr
        exact op_load Θ_ok ⟨hN, hds, rows_get (E := [(15, (.pointer (some ⟨b91, 0, none⟩)))]) ⟨(hd 0 rfl _ _ rfl rfl), trivial⟩⟩ rfl rfl rfl rfl rfl rfl hb91 [(.int .u64 z78.fName)] rfl rfl (.inr rfl) (.int .u64 z78.fName) rfl
      · intro a w2 hfr hN hds hb hd
        exact (op_call ⟨hN, hds, rows_get (E := [(16, (.int .u64 z78.fName))]) ⟨(hd 1 rfl _ _ rfl rfl), trivial⟩⟩ rfl rfl rfl rfl ent32 rfl (r_Is_c (hfr.ob hO) (int_is.2 rfl) hy97)).weaken (fun u w3 ⟨hu, hf⟩ => ⟨bool_is.1 hu, hf⟩)
      · intro a w2 hfr hN hds hb hd
        exact op_plain Θ_ok ⟨hN, hds, rows_get (E := [(17, (.bool y96))]) ⟨(hd 2 rfl _ _ rfl rfl), trivial⟩⟩ rfl rfl rfl rfl rfl
      · intro a w2 hfr hN hds hb hd
        exact op_plain Θ_ok ⟨hN, hds, rows_get (E := [(18, (.bool (!y96)))]) ⟨(hd 3 rfl _ _ rfl rfl), trivial⟩⟩ rfl rfl rfl rfl rfl
      · intro a w2 hfr hN hds hb hd
        exact op_skip ⟨hN, hds, rows_get (E := [(4, (.pointer (some ⟨b91, 0, none⟩))), (19, (.bool true))]) ⟨hb 4 rfl _ rfl, ((hd 4 rfl _ _ rfl rfl).trans (congrArg _ hc98)), trivial⟩⟩ rfl rfl rfl
      · intro a w2 hfr hN hds hb hd
        exact op_skip ⟨hN, hds, rows_get (E := [(19, (.bool true)), (20, undef)]) ⟨((hd 4 rfl _ _ rfl rfl).trans (congrArg _ hc98)), (hd 5 rfl _ _ rfl rfl), trivial⟩⟩ rfl rfl rfl
      · intro a w2 hfr hN hds hb hd
        exact op_skip ⟨hN, hds, rows_get (E := [(19, (.bool true)), (21, undef)]) ⟨((hd 4 rfl _ _ rfl rfl).trans (congrArg _ hc98)), (hd 6 rfl _ _ rfl rfl), trivial⟩⟩ rfl rfl rfl
      · intro a w2 hfr hN hds hb hd
        exact op_skip ⟨hN, hds, rows_get (E := [(19, (.bool true)), (22, undef)]) ⟨((hd 4 rfl _ _ rfl rfl).trans (congrArg _ hc98)), (hd 7 rfl _ _ rfl rfl), trivial⟩⟩ rfl rfl rfl
      · intro a w2 hfr hN hds hb hd
        exact op_plain Θ_ok ⟨hN, hds, rows_get (E := [(19, (.bool true)), (23, undef)]) ⟨((hd 4 rfl _ _ rfl rfl).trans (congrArg _ hc98)), (hd 8 rfl _ _ rfl rfl), trivial⟩⟩ rfl rfl rfl rfl rfl
      · intro a w2 hfr hN hds hb hd
        exact op_plain Θ_ok ⟨hN, hds, rows_get (E := [(24, (.bool true))]) ⟨(hd 9 rfl _ _ rfl rfl), trivial⟩⟩ rfl rfl rfl rfl rfl
      · intro a w2 hfr hN hds hb hd
        exact op_skip ⟨hN, hds, rows_get (E := [(3, (.int .i64 (i76 : Int))), (25, (.bool true))]) ⟨hb 3 rfl _ rfl, (hd 10 rfl _ _ rfl rfl), trivial⟩⟩ rfl rfl rfl
      · intro a w2 hfr hN hds hb hd
        exact op_skip ⟨hN, hds, rows_get (E := [(25, (.bool true)), (26, undef)]) ⟨(hd 10 rfl _ _ rfl rfl), (hd 11 rfl _ _ rfl rfl), trivial⟩⟩ rfl rfl rfl
      · intro a w2 hfr hN hds hb hd
        exact op_skip ⟨hN, hds, rows_get (E := [(25, (.bool true)), (27, undef)]) ⟨(hd 10 rfl _ _ rfl rfl), (hd 12 rfl _ _ rfl rfl), trivial⟩⟩ rfl rfl rfl
      · intro a w2 hfr hN hds hb hd
        exact op_skip ⟨hN, hds, rows_get (E := [(1, (.pointer (some ⟨b2, 0, none⟩))), (28, undef)]) ⟨hb 1 rfl _ rfl, (hd 13 rfl _ _ rfl rfl), trivial⟩⟩ rfl rfl rfl
      · intro a w2 hfr hN hds hb hd
        exact op_skip ⟨hN, hds, rows_get (E := [(28, undef), (29, undef)]) ⟨(hd 13 rfl _ _ rfl rfl), (hd 14 rfl _ _ rfl rfl), trivial⟩⟩ rfl rfl rfl
      · intro a w2 hfr hN hds hb hd
        exact op_skip ⟨hN, hds, rows_get (E := [(3, (.int .i64 (i76 : Int))), (28, undef)]) ⟨hb 3 rfl _ rfl, (hd 13 rfl _ _ rfl rfl), trivial⟩⟩ rfl rfl rfl
      · intro a w2 hfr hN hds hb hd
        exact op_skip ⟨hN, hds, rows_get (E := [(28, undef), (31, undef)]) ⟨(hd 13 rfl _ _ rfl rfl), (hd 16 rfl _ _ rfl rfl), trivial⟩⟩ rfl rfl rfl
      · intro a w2 hfr hN hds hb hd
        exact op_skip ⟨hN, hds, rows_get (E := [(28, undef), (30, undef), (32, undef)]) ⟨(hd 13 rfl _ _ rfl rfl), (hd 15 rfl _ _ rfl rfl), (hd 17 rfl _ _ rfl rfl), trivial⟩⟩ rfl rfl rfl
      · intro a w2 hfr hN hds hb hd
        exact op_skip ⟨hN, hds, rows_get (E := [(28, undef), (33, undef)]) ⟨(hd 13 rfl _ _ rfl rfl), (hd 18 rfl _ _ rfl rfl), trivial⟩⟩ rfl rfl rfl
      · intro a w2 hfr hN hds hb hd
        exact op_skip ⟨hN, hds, rows_get (E := [(28, undef), (34, undef)]) ⟨(hd 13 rfl _ _ rfl rfl), (hd 19 rfl _ _ rfl rfl), trivial⟩⟩ rfl rfl rfl
      · intro a w2 hfr hN hds hb hd
        exact op_skip ⟨hN, hds, rows_get (E := [(4, (.pointer (some ⟨b91, 0, none⟩))), (28, undef)]) ⟨hb 4 rfl _ rfl, (hd 13 rfl _ _ rfl rfl), trivial⟩⟩ rfl rfl rfl
      · intro a w2 hfr hN hds hb hd
        exact op_skip ⟨hN, hds, rows_get (E := [(28, undef), (36, undef)]) ⟨(hd 13 rfl _ _ rfl rfl), (hd 21 rfl _ _ rfl rfl), trivial⟩⟩ rfl rfl rfl
      · intro a w2 hfr hN hds hb hd
        exact op_skip ⟨hN, hds, rows_get (E := [(28, undef), (35, undef), (37, undef)]) ⟨(hd 13 rfl _ _ rfl rfl), (hd 20 rfl _ _ rfl rfl), (hd 22 rfl _ _ rfl rfl), trivial⟩⟩ rfl rfl rfl
      · intro a w2 hfr hN hds hb hd
        exact op_skip ⟨hN, hds, rows_get (E := [(25, (.bool true)), (28, undef), (38, undef)]) ⟨(hd 10 rfl _ _ rfl rfl), (hd 13 rfl _ _ rfl rfl), (hd 23 rfl _ _ rfl rfl), trivial⟩⟩ rfl rfl rfl
      · intro a w2 hfr hN hds hb hd
        exact op_plain Θ_ok ⟨hN, hds, rows_get (E := [(25, (.bool true)), (39, undef)]) ⟨(hd 10 rfl _ _ rfl rfl), (hd 24 rfl _ _ rfl rfl), trivial⟩⟩ rfl rfl rfl rfl rfl
      intro a w100 f99 hN hds hb hr
      have h0_1 := h0_1.tr f99.tr0
      have h0_2 := h0_2.tr f99.tr0
      have hb2 := hb2.fr0 f99
      have T5 := T5.trans f99.tr0
      have T75 := T75.trans f99.tr0
      have hO := f99.ob hO
      have hF := hF.trans f99
      refine wq_go (E := [(1, (.pointer (some ⟨b2, 0, none⟩))), (8, (.slice A73 x0.fNames.length c74)), (9, (.int .i64 (x0.fNames.length : Int))), (10, (.int .i64 (i76 : Int))), (40, (.bool true))]) hN hds ⟨hb 1 _ rfl rfl, hb 8 _ rfl rfl, hb 9 _ rfl rfl, hb 10 _ rfl rfl, (hr 25 _ _ rfl rfl), trivial⟩ ?_
      refine wq_seq ?_
      refine wc_true rfl ?_
      refine wc_seq ?_
      refine wc_region (l := [0]) rfl ?_
      refine wo_seg Θ_ok [0] [(2, (.bool false))] rfl ⟨rfl, trivial⟩ ?_
      refine wo_nil ?_
      refine wq_seq ?_
      refine wc_ret ?_
      cases h
      exact wq_block_ret (wq_then_ret (wq_then_ret (wq_block_ret (wq_then_ret (wq_ret rfl ⟨_, rfl, (bool_is.2 rfl), hF⟩)))))
    rcases bif_some h with ⟨hc101, h⟩ | ⟨hc101, h⟩
    · refine wc_draw mixed [⟨15, [], [4]⟩, ⟨16, [0], []⟩, ⟨17, [1], []⟩, ⟨18, [2], []⟩, ⟨19, [3], []⟩, ⟨20, [4], [4]⟩, ⟨21, [4, 5], []⟩, ⟨22, [4, 6], []⟩, ⟨23, [4, 7], []⟩, ⟨24, [4, 8], []⟩, ⟨25, [9], []⟩, ⟨26, [10], [3]⟩, ⟨27, [10, 11], []⟩, ⟨28, [10, 12], []⟩, ⟨29, [13], [1]⟩, ⟨30, [13, 14], []⟩, ⟨31, [13], [3]⟩, ⟨32, [13, 16], []⟩, ⟨33, [13, 15, 17], []⟩, ⟨34, [13, 18], []⟩, ⟨35, [13, 19], []⟩, ⟨36, [13], [4]⟩, ⟨37, [13, 21], []⟩, ⟨38, [13, 20, 22], []⟩, ⟨39, [10, 13, 23], []⟩, ⟨40, [10, 24], []⟩] [SP.eq (.pointer (some ⟨b91, 0, none⟩)), SP.eq (.int .u64 z78.fName), SP.eq (.bool y96), SP.eq (.bool (!y96)), SP.eq (.bool (!y96)), SP.eq (.pointer (some ⟨b91, 1, none⟩)), SP.eq (.int .u64 z78.fPid), SP.eq (.bool ((r_Pid z78.fPid))), SP.eq (.bool (!(r_Pid z78.fPid))), SP.eq (.bool (!(r_Pid z78.fPid))), SP.eq (.bool (!(r_Pid z78.fPid))), SP.eq undef, SP.eq undef, SP.eq undef, SP.eq undef, SP.eq undef, SP.eq undef, SP.eq undef, SP.eq undef, SP.eq undef, SP.eq undef, SP.eq undef, SP.eq undef, SP.eq undef, SP.eq undef, SP.eq (.bool true)] rfl rfl rfl ⟨?_, ?_, ?_, ?_, ?_, ?_, ?_, ?_, ?_, ?_, ?_, ?_, ?_, ?_, ?_, ?_, ?_, ?_, ?_, ?_, ?_, ?_, ?_, ?_, ?_, ?_, trivial⟩ ?_
      · intro a w2 hfr hN hds hb hd
        exact op_plain Θ_ok ⟨hN, hds, rows_get (E := [(4, (.pointer (some ⟨b91, 0, none⟩)))]) ⟨hb 4 rfl _ rfl, trivial⟩⟩ rfl rfl rfl rfl rfl
      · intro a w2 hfr hN hds hb hd
        have hb91 := hb91.fr0 hfr
        exact op_load Θ_ok ⟨hN, hds, rows_get (E := [(15, (.pointer (some ⟨b91, 0, none⟩)))]) ⟨(hd 0 rfl _ _ rfl rfl), trivial⟩⟩ rfl rfl rfl rfl rfl rfl hb91 [(.int .u64 z78.fName)] rfl rfl (.inr rfl) (.int .u64 z78.fName) rfl
      · intro a w2 hfr hN hds hb hd
        exact (op_call ⟨hN, hds, rows_get (E := [(16, (.int .u64 z78.fName))]) ⟨(hd 1 rfl _ _ rfl rfl), trivial⟩⟩ rfl rfl rfl rfl ent32 rfl (r_Is_c (hfr.ob hO) (int_is.2 rfl) hy97)).weaken (fun u w3 ⟨hu, hf⟩ => ⟨bool_is.1 hu, hf⟩)
      · intro a w2 hfr hN hds hb hd
        exact op_plain Θ_ok ⟨hN, hds, rows_get (E := [(17, (.bool y96))]) ⟨(hd 2 rfl _ _ rfl rfl), trivial⟩⟩ rfl rfl rfl rfl rfl
      · intro a w2 hfr hN hds hb hd
        exact op_plain Θ_ok ⟨hN, hds, rows_get (E := [(18, (.bool (!y96)))]) ⟨(hd 3 rfl _ _ rfl rfl), trivial⟩⟩ rfl rfl rfl rfl rfl
      · intro a w2 hfr hN hds hb hd
        exact op_plain Θ_ok ⟨hN, hds, rows_get (E := [(4, (.pointer (some ⟨b91, 0, none⟩))), (19, (.bool false))]) ⟨hb 4 rfl _ rfl, ((hd 4 rfl _ _ rfl rfl).trans (congrArg _ hc98)), trivial⟩⟩ rfl rfl rfl rfl rfl
      · intro a w2 hfr hN hds hb hd
        have hb91 := hb91.fr0 hfr
        exact op_load Θ_ok ⟨hN, hds, rows_get (E := [(19, (.bool false)), (20, (.pointer (some ⟨b91, 1, none⟩)))]) ⟨((hd 4 rfl _ _ rfl rfl).trans (congrArg _ hc98)), (hd 5 rfl _ _ rfl rfl), trivial⟩⟩ rfl rfl rfl rfl rfl rfl hb91 [(.int .u64 z78.fPid)] rfl rfl (.inr rfl) (.int .u64 z78.fPid) rfl
      · intro a w2 hfr hN hds hb hd
        exact (op_call ⟨hN, hds, rows_get (E := [(19, (.bool false)), (21, (.int .u64 z78.fPid))]) ⟨((hd 4 rfl _ _ rfl rfl).trans (congrArg _ hc98)), (hd 6 rfl _ _ rfl rfl), trivial⟩⟩ rfl rfl rfl rfl ent26 rfl (r_Pid_c (hfr.ob hO) (int_is.2 rfl))).weaken (fun u w3 ⟨hu, hf⟩ => ⟨bool_is.1 hu, hf⟩)
      · intro a w2 hfr hN hds hb hd
        exact op_plain Θ_ok ⟨hN, hds, rows_get (E := [(19, (.bool false)), (22, (.bool ((r_Pid z78.fPid))))]) ⟨((hd 4 rfl _ _ rfl rfl).trans (congrArg _ hc98)), (hd 7 rfl _ _ rfl rfl), trivial⟩⟩ rfl rfl rfl rfl rfl
      · intro a w2 hfr hN hds hb hd
        exact op_plain Θ_ok ⟨hN, hds, rows_get (E := [(19, (.bool false)), (23, (.bool (!(r_Pid z78.fPid))))]) ⟨((hd 4 rfl _ _ rfl rfl).trans (congrArg _ hc98)), (hd 8 rfl _ _ rfl rfl), trivial⟩⟩ rfl rfl rfl rfl rfl
      · intro a w2 hfr hN hds hb hd
        exact op_plain Θ_ok ⟨hN, hds, rows_get (E := [(24, (.bool (!(r_Pid z78.fPid))))]) ⟨(hd 9 rfl _ _ rfl rfl), trivial⟩⟩ rfl rfl rfl rfl rfl
      · intro a w2 hfr hN hds hb hd
        exact op_skip ⟨hN, hds, rows_get (E := [(3, (.int .i64 (i76 : Int))), (25, (.bool true))]) ⟨hb 3 rfl _ rfl, ((hd 10 rfl _ _ rfl rfl).trans (congrArg _ hc101)), trivial⟩⟩ rfl rfl rfl
      · intro a w2 hfr hN hds hb hd
        exact op_skip ⟨hN, hds, rows_get (E := [(25, (.bool true)), (26, undef)]) ⟨((hd 10 rfl _ _ rfl rfl).trans (congrArg _ hc101)), (hd 11 rfl _ _ rfl rfl), trivial⟩⟩ rfl rfl rfl
      · intro a w2 hfr hN hds hb hd
        exact op_skip ⟨hN, hds, rows_get (E := [(25, (.bool true)), (27, undef)]) ⟨((hd 10 rfl _ _ rfl rfl).trans (congrArg _ hc101)), (hd 12 rfl _ _ rfl rfl), trivial⟩⟩ rfl rfl rfl
      · intro a w2 hfr hN hds hb hd
        exact op_skip ⟨hN, hds, rows_get (E := [(1, (.pointer (some ⟨b2, 0, none⟩))), (28, undef)]) ⟨hb 1 rfl _ rfl, (hd 13 rfl _ _ rfl rfl), trivial⟩⟩ rfl rfl rfl
      · intro a w2 hfr hN hds hb hd
        exact op_skip ⟨hN, hds, rows_get (E := [(28, undef), (29, undef)]) ⟨(hd 13 rfl _ _ rfl rfl), (hd 14 rfl _ _ rfl rfl), trivial⟩⟩ rfl rfl rfl
      · intro a w2 hfr hN hds hb hd
        exact op_skip ⟨hN, hds, rows_get (E := [(3, (.int .i64 (i76 : Int))), (28, undef)]) ⟨hb 3 rfl _ rfl, (hd 13 rfl _ _ rfl rfl), trivial⟩⟩ rfl rfl rfl
      · intro a w2 hfr hN hds hb hd
        exact op_skip ⟨hN, hds, rows_get (E := [(28, undef), (31, undef)]) ⟨(hd 13 rfl _ _ rfl rfl), (hd 16 rfl _ _ rfl rfl), trivial⟩⟩ rfl rfl rfl
      · intro a w2 hfr hN hds hb hd
        exact op_skip ⟨hN, hds, rows_get (E := [(28, undef), (30, undef), (32, undef)]) ⟨(hd 13 rfl _ _ rfl rfl), (hd 15 rfl _ _ rfl rfl), (hd 17 rfl _ _ rfl rfl), trivial⟩⟩ rfl rfl rfl
      · intro a w2 hfr hN hds hb hd
        exact op_skip ⟨hN, hds, rows_get (E := [(28, undef), (33, undef)]) ⟨(hd 13 rfl _ _ rfl rfl), (hd 18 rfl _ _ rfl rfl), trivial⟩⟩ rfl rfl rfl
      · intro a w2 hfr hN hds hb hd
        exact op_skip ⟨hN, hds, rows_get (E := [(28, undef), (34, undef)]) ⟨(hd 13 rfl _ _ rfl rfl), (hd 19 rfl _ _ rfl rfl), trivial⟩⟩ rfl rfl rfl
      · intro a w2 hfr hN hds hb hd
        exact op_skip ⟨hN, hds, rows_get (E := [(4, (.pointer (some ⟨b91, 0, none⟩))), (28, undef)]) ⟨hb 4 rfl _ rfl, (hd 13 rfl _ _ rfl rfl), trivial⟩⟩ rfl rfl rfl
      · intro a w2 hfr hN hds hb hd
        exact op_skip ⟨hN, hds, rows_get (E := [(28, undef), (36, undef)]) ⟨(hd 13 rfl _ _ rfl rfl), (hd 21 rfl _ _ rfl rfl), trivial⟩⟩ rfl rfl rfl
      · intro a w2 hfr hN hds hb hd
        exact op_skip ⟨hN, hds, rows_get (E := [(28, undef), (35, undef), (37, undef)]) ⟨(hd 13 rfl _ _ rfl rfl), (hd 20 rfl _ _ rfl rfl), (hd 22 rfl _ _ rfl rfl), trivial⟩⟩ rfl rfl rfl
      · intro a w2 hfr hN hds hb hd
        exact op_skip ⟨hN, hds, rows_get (E := [(25, (.bool true)), (28, undef), (38, undef)]) ⟨((hd 10 rfl _ _ rfl rfl).trans (congrArg _ hc101)), (hd 13 rfl _ _ rfl rfl), (hd 23 rfl _ _ rfl rfl), trivial⟩⟩ rfl rfl rfl
      · intro a w2 hfr hN hds hb hd
        exact op_plain Θ_ok ⟨hN, hds, rows_get (E := [(25, (.bool true)), (39, undef)]) ⟨((hd 10 rfl _ _ rfl rfl).trans (congrArg _ hc101)), (hd 24 rfl _ _ rfl rfl), trivial⟩⟩ rfl rfl rfl rfl rfl
      intro a w103 f102 hN hds hb hr
      have h0_1 := h0_1.tr f102.tr0
      have h0_2 := h0_2.tr f102.tr0
      have hb2 := hb2.fr0 f102
      have T5 := T5.trans f102.tr0
      have T75 := T75.trans f102.tr0
      have hO := f102.ob hO
      have hF := hF.trans f102
      refine wq_go (E := [(1, (.pointer (some ⟨b2, 0, none⟩))), (8, (.slice A73 x0.fNames.length c74)), (9, (.int .i64 (x0.fNames.length : Int))), (10, (.int .i64 (i76 : Int))), (40, (.bool true))]) hN hds ⟨hb 1 _ rfl rfl, hb 8 _ rfl rfl, hb 9 _ rfl rfl, hb 10 _ rfl rfl, (hr 25 _ _ rfl rfl), trivial⟩ ?_
      refine wq_seq ?_
      refine wc_true rfl ?_
      refine wc_seq ?_
      refine wc_region (l := [0]) rfl ?_
      refine wo_seg Θ_ok [0] [(2, (.bool false))] rfl ⟨rfl, trivial⟩ ?_
      refine wo_nil ?_
      refine wq_seq ?_
      refine wc_ret ?_
      cases h
      exact wq_block_ret (wq_then_ret (wq_then_ret (wq_block_ret (wq_then_ret (wq_ret rfl ⟨_, rfl, (bool_is.2 rfl), hF⟩)))))
    rcases bif_some h with ⟨hc104, h⟩ | ⟨hc104, h⟩
    rotate_left
    · refine wc_draw mixed [⟨15, [], [4]⟩, ⟨16, [0], []⟩, ⟨17, [1], []⟩, ⟨18, [2], []⟩, ⟨19, [3], []⟩, ⟨20, [4], [4]⟩, ⟨21, [4, 5], []⟩, ⟨22, [4, 6], []⟩, ⟨23, [4, 7], []⟩, ⟨24, [4, 8], []⟩, ⟨25, [9], []⟩, ⟨26, [10], [3]⟩, ⟨27, [10, 11], []⟩, ⟨28, [10, 12], []⟩, ⟨29, [13], [1]⟩, ⟨30, [13, 14], []⟩, ⟨31, [13], [3]⟩, ⟨32, [13, 16], []⟩, ⟨33, [13, 15, 17], []⟩, ⟨34, [13, 18], []⟩, ⟨35, [13, 19], []⟩, ⟨36, [13], [4]⟩, ⟨37, [13, 21], []⟩, ⟨38, [13, 20, 22], []⟩, ⟨39, [10, 13, 23], []⟩, ⟨40, [10, 24], []⟩] [SP.eq (.pointer (some ⟨b91, 0, none⟩)), SP.eq (.int .u64 z78.fName), SP.eq (.bool y96), SP.eq (.bool (!y96)), SP.eq (.bool (!y96)), SP.eq (.pointer (some ⟨b91, 1, none⟩)), SP.eq (.int .u64 z78.fPid), SP.eq (.bool ((r_Pid z78.fPid))), SP.eq (.bool (!(r_Pid z78.fPid))), SP.eq (.bool (!(r_Pid z78.fPid))), SP.eq (.bool (!(r_Pid z78.fPid))), SP.eq (.int .i64 (i76 : Int)), SP.eq (.bool (decide ((i76 : Int) > (0 : Int)))), SP.eq (.bool (decide ((i76 : Int) > (0 : Int)))), SP.eq undef, SP.eq undef, SP.eq undef, SP.eq undef, SP.eq undef, SP.eq undef, SP.eq undef, SP.eq undef, SP.eq undef, SP.eq undef, SP.eq (.bool false), SP.eq (.bool false)] rfl rfl rfl ⟨?_, ?_, ?_, ?_, ?_, ?_, ?_, ?_, ?_, ?_, ?_, ?_, ?_, ?_, ?_, ?_, ?_, ?_, ?_, ?_, ?_, ?_, ?_, ?_, ?_, ?_, trivial⟩ ?_
      · intro a w2 hfr hN hds hb hd
        exact op_plain Θ_ok ⟨hN, hds, rows_get (E := [(4, (.pointer (some ⟨b91, 0, none⟩)))]) ⟨hb 4 rfl _ rfl, trivial⟩⟩ rfl rfl rfl rfl rfl
      · intro a w2 hfr hN hds hb hd
        have hb91 := hb91.fr0 hfr
        exact op_load Θ_ok ⟨hN, hds, rows_get (E := [(15, (.pointer (some ⟨b91, 0, none⟩)))]) ⟨(hd 0 rfl _ _ rfl rfl), trivial⟩⟩ rfl rfl rfl rfl rfl rfl hb91 [(.int .u64 z78.fName)] rfl rfl (.inr rfl) (.int .u64 z78.fName) rfl
      · intro a w2 hfr hN hds hb hd
        exact (op_call ⟨hN, hds, rows_get (E := [(16, (.int .u64 z78.fName))]) ⟨(hd 1 rfl _ _ rfl rfl), trivial⟩⟩ rfl rfl rfl rfl ent32 rfl (r_Is_c (hfr.ob hO) (int_is.2 rfl) hy97)).weaken (fun u w3 ⟨hu, hf⟩ => ⟨bool_is.1 hu, hf⟩)
      · intro a w2 hfr hN hds hb hd
        exact op_plain Θ_ok ⟨hN, hds, rows_get (E := [(17, (.bool y96))]) ⟨(hd 2 rfl _ _ rfl rfl), trivial⟩⟩ rfl rfl rfl rfl rfl
      · intro a w2 hfr hN hds hb hd
        exact op_plain Θ_ok ⟨hN, hds, rows_get (E := [(18, (.bool (!y96)))]) ⟨(hd 3 rfl _ _ rfl rfl), trivial⟩⟩ rfl rfl rfl rfl rfl
      · intro a w2 hfr hN hds hb hd
        exact op_plain Θ_ok ⟨hN, hds, rows_get (E := [(4, (.pointer (some ⟨b91, 0, none⟩))), (19, (.bool false))]) ⟨hb 4 rfl _ rfl, ((hd 4 rfl _ _ rfl rfl).trans (congrArg _ hc98)), trivial⟩⟩ rfl rfl rfl rfl rfl
      · intro a w2 hfr hN hds hb hd
        have hb91 := hb91.fr0 hfr
        exact op_load Θ_ok ⟨hN, hds, rows_get (E := [(19, (.bool false)), (20, (.pointer (some ⟨b91, 1, none⟩)))]) ⟨((hd 4 rfl _ _ rfl rfl).trans (congrArg _ hc98)), (hd 5 rfl _ _ rfl rfl), trivial⟩⟩ rfl rfl rfl rfl rfl rfl hb91 [(.int .u64 z78.fPid)] rfl rfl (.inr rfl) (.int .u64 z78.fPid) rfl
      · intro a w2 hfr hN hds hb hd
        exact (op_call ⟨hN, hds, rows_get (E := [(19, (.bool false)), (21, (.int .u64 z78.fPid))]) ⟨((hd 4 rfl _ _ rfl rfl).trans (congrArg _ hc98)), (hd 6 rfl _ _ rfl rfl), trivial⟩⟩ rfl rfl rfl rfl ent26 rfl (r_Pid_c (hfr.ob hO) (int_is.2 rfl))).weaken (fun u w3 ⟨hu, hf⟩ => ⟨bool_is.1 hu, hf⟩)
      · intro a w2 hfr hN hds hb hd
        exact op_plain Θ_ok ⟨hN, hds, rows_get (E := [(19, (.bool false)), (22, (.bool ((r_Pid z78.fPid))))]) ⟨((hd 4 rfl _ _ rfl rfl).trans (congrArg _ hc98)), (hd 7 rfl _ _ rfl rfl), trivial⟩⟩ rfl rfl rfl rfl rfl
      · intro a w2 hfr hN hds hb hd
        exact op_plain Θ_ok ⟨hN, hds, rows_get (E := [(19, (.bool false)), (23, (.bool (!(r_Pid z78.fPid))))]) ⟨((hd 4 rfl _ _ rfl rfl).trans (congrArg _ hc98)), (hd 8 rfl _ _ rfl rfl), trivial⟩⟩ rfl rfl rfl rfl rfl
      · intro a w2 hfr hN hds hb hd
        exact op_plain Θ_ok ⟨hN, hds, rows_get (E := [(24, (.bool (!(r_Pid z78.fPid))))]) ⟨(hd 9 rfl _ _ rfl rfl), trivial⟩⟩ rfl rfl rfl rfl rfl
      · intro a w2 hfr hN hds hb hd
        exact op_plain Θ_ok ⟨hN, hds, rows_get (E := [(3, (.int .i64 (i76 : Int))), (25, (.bool false))]) ⟨hb 3 rfl _ rfl, ((hd 10 rfl _ _ rfl rfl).trans (congrArg _ hc101)), trivial⟩⟩ rfl rfl rfl rfl rfl
      · intro a w2 hfr hN hds hb hd
        exact op_plain Θ_ok ⟨hN, hds, rows_get (E := [(25, (.bool false)), (26, (.int .i64 (i76 : Int)))]) ⟨((hd 10 rfl _ _ rfl rfl).trans (congrArg _ hc101)), (hd 11 rfl _ _ rfl rfl), trivial⟩⟩ rfl rfl rfl rfl rfl
      · intro a w2 hfr hN hds hb hd
        exact op_plain Θ_ok ⟨hN, hds, rows_get (E := [(25, (.bool false)), (27, (.bool (decide ((i76 : Int) > (0 : Int)))))]) ⟨((hd 10 rfl _ _ rfl rfl).trans (congrArg _ hc101)), (hd 12 rfl _ _ rfl rfl), trivial⟩⟩ rfl rfl rfl rfl rfl
      · intro a w2 hfr hN hds hb hd
        exact op_skip ⟨hN, hds, rows_get (E := [(1, (.pointer (some ⟨b2, 0, none⟩))), (28, (.bool false))]) ⟨hb 1 rfl _ rfl, ((hd 13 rfl _ _ rfl rfl).trans (congrArg _ hc104)), trivial⟩⟩ rfl rfl rfl
      · intro a w2 hfr hN hds hb hd
        exact op_skip ⟨hN, hds, rows_get (E := [(28, (.bool false)), (29, undef)]) ⟨((hd 13 rfl _ _ rfl rfl).trans (congrArg _ hc104)), (hd 14 rfl _ _ rfl rfl), trivial⟩⟩ rfl rfl rfl
      · intro a w2 hfr hN hds hb hd
        exact op_skip ⟨hN, hds, rows_get (E := [(3, (.int .i64 (i76 : Int))), (28, (.bool false))]) ⟨hb 3 rfl _ rfl, ((hd 13 rfl _ _ rfl rfl).trans (congrArg _ hc104)), trivial⟩⟩ rfl rfl rfl
      · intro a w2 hfr hN hds hb hd
        exact op_skip ⟨hN, hds, rows_get (E := [(28, (.bool false)), (31, undef)]) ⟨((hd 13 rfl _ _ rfl rfl).trans (congrArg _ hc104)), (hd 16 rfl _ _ rfl rfl), trivial⟩⟩ rfl rfl rfl
      · intro a w2 hfr hN hds hb hd
        exact op_skip ⟨hN, hds, rows_get (E := [(28, (.bool false)), (30, undef), (32, undef)]) ⟨((hd 13 rfl _ _ rfl rfl).trans (congrArg _ hc104)), (hd 15 rfl _ _ rfl rfl), (hd 17 rfl _ _ rfl rfl), trivial⟩⟩ rfl rfl rfl
      · intro a w2 hfr hN hds hb hd
        exact op_skip ⟨hN, hds, rows_get (E := [(28, (.bool false)), (33, undef)]) ⟨((hd 13 rfl _ _ rfl rfl).trans (congrArg _ hc104)), (hd 18 rfl _ _ rfl rfl), trivial⟩⟩ rfl rfl rfl
      · intro a w2 hfr hN hds hb hd
        exact op_skip ⟨hN, hds, rows_get (E := [(28, (.bool false)), (34, undef)]) ⟨((hd 13 rfl _ _ rfl rfl).trans (congrArg _ hc104)), (hd 19 rfl _ _ rfl rfl), trivial⟩⟩ rfl rfl rfl
      · intro a w2 hfr hN hds hb hd
        exact op_skip ⟨hN, hds, rows_get (E := [(4, (.pointer (some ⟨b91, 0, none⟩))), (28, (.bool false))]) ⟨hb 4 rfl _ rfl, ((hd 13 rfl _ _ rfl rfl).trans (congrArg _ hc104)), trivial⟩⟩ rfl rfl rfl
      · intro a w2 hfr hN hds hb hd
        exact op_skip ⟨hN, hds, rows_get (E := [(28, (.bool false)), (36, undef)]) ⟨((hd 13 rfl _ _ rfl rfl).trans (congrArg _ hc104)), (hd 21 rfl _ _ rfl rfl), trivial⟩⟩ rfl rfl rfl
      · intro a w2 hfr hN hds hb hd
        exact op_skip ⟨hN, hds, rows_get (E := [(28, (.bool false)), (35, undef), (37, undef)]) ⟨((hd 13 rfl _ _ rfl rfl).trans (congrArg _ hc104)), (hd 20 rfl _ _ rfl rfl), (hd 22 rfl _ _ rfl rfl), trivial⟩⟩ rfl rfl rfl
      · intro a w2 hfr hN hds hb hd
        exact op_plain Θ_ok ⟨hN, hds, rows_get (E := [(25, (.bool false)), (28, (.bool false)), (38, undef)]) ⟨((hd 10 rfl _ _ rfl rfl).trans (congrArg _ hc101)), ((hd 13 rfl _ _ rfl rfl).trans (congrArg _ hc104)), (hd 23 rfl _ _ rfl rfl), trivial⟩⟩ rfl rfl rfl rfl rfl
      · intro a w2 hfr hN hds hb hd
        exact op_plain Θ_ok ⟨hN, hds, rows_get (E := [(25, (.bool false)), (39, (.bool false))]) ⟨((hd 10 rfl _ _ rfl rfl).trans (congrArg _ hc101)), (hd 24 rfl _ _ rfl rfl), trivial⟩⟩ rfl rfl rfl rfl rfl
      intro a w119 f118 hN hds hb hr
      have h0_1 := h0_1.tr f118.tr0
      have h0_2 := h0_2.tr f118.tr0
      have hb2 := hb2.fr0 f118
      have T5 := T5.trans f118.tr0
      have T75 := T75.trans f118.tr0
      have hO := f118.ob hO
      have hF := hF.trans f118
      refine wq_go (E := [(1, (.pointer (some ⟨b2, 0, none⟩))), (8, (.slice A73 x0.fNames.length c74)), (9, (.int .i64 (x0.fNames.length : Int))), (10, (.int .i64 (i76 : Int))), (40, (.bool false))]) hN hds ⟨hb 1 _ rfl rfl, hb 8 _ rfl rfl, hb 9 _ rfl rfl, hb 10 _ rfl rfl, (hr 25 _ _ rfl rfl), trivial⟩ ?_
      refine wq_seq ?_
      refine wc_false rfl ?_
      refine wc_skip ?_
      refine wq_block (wq_seq ?_)
      refine wc_region (l := [0, 1]) rfl ?_
      refine wo_seg Θ_ok [0, 1] [(1, (.pointer (some ⟨b2, 0, none⟩))), (8, (.slice A73 x0.fNames.length c74)), (9, (.int .i64 (x0.fNames.length : Int))), (10, (.int .i64 (IntKind.i64.wrap ((i76 : Int) + (1 : Int)))))] rfl ⟨rfl, rfl, rfl, rfl, trivial⟩ ?_
      refine wo_nil ?_
      exact wq_next rest77.length [(1, (.pointer (some ⟨b2, 0, none⟩))), (8, (.slice A73 x0.fNames.length c74)), (9, (.int .i64 (x0.fNames.length : Int))), (10, (.int .i64 ((i76 + 1 : Nat) : Int)))] (Nat.lt_succ_self _) ⟨rfl, rfl, rfl, congrArg (fun z => some (Value.int .i64 z)) (wrap_succ hl86 (Nat.le_trans hlc74 hmc74)), trivial⟩ ⟨rest77, i76 + 1, b91 :: O80, rfl, hd79, rfl, T75, hO, hS, hF, ib2, hb2, h⟩
    obtain ⟨y105, hz106, h⟩ := bind_some h
    refine wc_draw mixed [⟨15, [], [4]⟩, ⟨16, [0], []⟩, ⟨17, [1], []⟩, ⟨18, [2], []⟩, ⟨19, [3], []⟩, ⟨20, [4], [4]⟩, ⟨21, [4, 5], []⟩, ⟨22, [4, 6], []⟩, ⟨23, [4, 7], []⟩, ⟨24, [4, 8], []⟩, ⟨25, [9], []⟩, ⟨26, [10], [3]⟩, ⟨27, [10, 11], []⟩, ⟨28, [10, 12], []⟩, ⟨29, [13], [1]⟩, ⟨30, [13, 14], []⟩, ⟨31, [13], [3]⟩, ⟨32, [13, 16], []⟩, ⟨33, [13, 15, 17], []⟩, ⟨34, [13, 18], []⟩, ⟨35, [13, 19], []⟩, ⟨36, [13], [4]⟩, ⟨37, [13, 21], []⟩, ⟨38, [13, 20, 22], []⟩, ⟨39, [10, 13, 23], []⟩, ⟨40, [10, 24], []⟩] [SP.eq (.pointer (some ⟨b91, 0, none⟩)), SP.eq (.int .u64 z78.fName), SP.eq (.bool y96), SP.eq (.bool (!y96)), SP.eq (.bool (!y96)), SP.eq (.pointer (some ⟨b91, 1, none⟩)), SP.eq (.int .u64 z78.fPid), SP.eq (.bool ((r_Pid z78.fPid))), SP.eq (.bool (!(r_Pid z78.fPid))), SP.eq (.bool (!(r_Pid z78.fPid))), SP.eq (.bool (!(r_Pid z78.fPid))), SP.eq (.int .i64 (i76 : Int)), SP.eq (.bool (decide ((i76 : Int) > (0 : Int)))), SP.eq (.bool (decide ((i76 : Int) > (0 : Int)))), SP.eq (.pointer (some ⟨b2, 0, none⟩)), SP.eq (.slice A73 x0.fNames.length c74), SP.eq (.int .i64 (i76 : Int)), SP.eq (.int .i64 (IntKind.i64.wrap ((i76 : Int) - (1 : Int)))), SP.is (Ty.ptr tGName) (b91 :: O80) y105, SP.is (Ty.ptr (Ty.int .u64)) (b91 :: O80) y105.fName, SP.eq (.int .u64 y105.fName), SP.eq (.pointer (some ⟨b91, 0, none⟩)), SP.eq (.int .u64 z78.fName), SP.eq (.bool (decide (y105.fName ≥ z78.fName))), SP.eq (.bool (decide (y105.fName ≥ z78.fName))), SP.eq (.bool (decide (y105.fName ≥ z78.fName)))] rfl rfl rfl ⟨?_, ?_, ?_, ?_, ?_, ?_, ?_, ?_, ?_, ?_, ?_, ?_, ?_, ?_, ?_, ?_, ?_, ?_, ?_, ?_, ?_, ?_, ?_, ?_, ?_, ?_, trivial⟩ ?_
    · intro a w2 hfr hN hds hb hd
      exact op_plain Θ_ok ⟨hN, hds, rows_get (E := [(4, (.pointer (some ⟨b91, 0, none⟩)))]) ⟨hb 4 rfl _ rfl, trivial⟩⟩ rfl rfl rfl rfl rfl
    · intro a w2 hfr hN hds hb hd
      have hb91 := hb91.fr0 hfr
      exact op_load Θ_ok ⟨hN, hds, rows_get (E := [(15, (.pointer (some ⟨b91, 0, none⟩)))]) ⟨(hd 0 rfl _ _ rfl rfl), trivial⟩⟩ rfl rfl rfl rfl rfl rfl hb91 [(.int .u64 z78.fName)] rfl rfl (.inr rfl) (.int .u64 z78.fName) rfl
    · intro a w2 hfr hN hds hb hd
      exact (op_call ⟨hN, hds, rows_get (E := [(16, (.int .u64 z78.fName))]) ⟨(hd 1 rfl _ _ rfl rfl), trivial⟩⟩ rfl rfl rfl rfl ent32 rfl (r_Is_c (hfr.ob hO) (int_is.2 rfl) hy97)).weaken (fun u w3 ⟨hu, hf⟩ => ⟨bool_is.1 hu, hf⟩)
    · intro a w2 hfr hN hds hb hd
      exact op_plain Θ_ok ⟨hN, hds, rows_get (E := [(17, (.bool y96))]) ⟨(hd 2 rfl _ _ rfl rfl), trivial⟩⟩ rfl rfl rfl rfl rfl
    · intro a w2 hfr hN hds hb hd
      exact op_plain Θ_ok ⟨hN, hds, rows_get (E := [(18, (.bool (!y96)))]) ⟨(hd 3 rfl _ _ rfl rfl), trivial⟩⟩ rfl rfl rfl rfl rfl
    · intro a w2 hfr hN hds hb hd
      exact op_plain Θ_ok ⟨hN, hds, rows_get (E := [(4, (.pointer (some ⟨b91, 0, none⟩))), (19, (.bool false))]) ⟨hb 4 rfl _ rfl, ((hd 4 rfl _ _ rfl rfl).trans (congrArg _ hc98)), trivial⟩⟩ rfl rfl rfl rfl rfl
    · intro a w2 hfr hN hds hb hd
      have hb91 := hb91.fr0 hfr
      exact op_load Θ_ok ⟨hN, hds, rows_get (E := [(19, (.bool false)), (20, (.pointer (some ⟨b91, 1, none⟩)))]) ⟨((hd 4 rfl _ _ rfl rfl).trans (congrArg _ hc98)), (hd 5 rfl _ _ rfl rfl), trivial⟩⟩ rfl rfl rfl rfl rfl rfl hb91 [(.int .u64 z78.fPid)] rfl rfl (.inr rfl) (.int .u64 z78.fPid) rfl
    · intro a w2 hfr hN hds hb hd
      exact (op_call ⟨hN, hds, rows_get (E := [(19, (.bool false)), (21, (.int .u64 z78.fPid))]) ⟨((hd 4 rfl _ _ rfl rfl).trans (congrArg _ hc98)), (hd 6 rfl _ _ rfl rfl), trivial⟩⟩ rfl rfl rfl rfl ent26 rfl (r_Pid_c (hfr.ob hO) (int_is.2 rfl))).weaken (fun u w3 ⟨hu, hf⟩ => ⟨bool_is.1 hu, hf⟩)
    · intro a w2 hfr hN hds hb hd
      exact op_plain Θ_ok ⟨hN, hds, rows_get (E := [(19, (.bool false)), (22, (.bool ((r_Pid z78.fPid))))]) ⟨((hd 4 rfl _ _ rfl rfl).trans (congrArg _ hc98)), (hd 7 rfl _ _ rfl rfl), trivial⟩⟩ rfl rfl rfl rfl rfl
    · intro a w2 hfr hN hds hb hd
      exact op_plain Θ_ok ⟨hN, hds, rows_get (E := [(19, (.bool false)), (23, (.bool (!(r_Pid z78.fPid))))]) ⟨((hd 4 rfl _ _ rfl rfl).trans (congrArg _ hc98)), (hd 8 rfl _ _ rfl rfl), trivial⟩⟩ rfl rfl rfl rfl rfl
    · intro a w2 hfr hN hds hb hd
      exact op_plain Θ_ok ⟨hN, hds, rows_get (E := [(24, (.bool (!(r_Pid z78.fPid))))]) ⟨(hd 9 rfl _ _ rfl rfl), trivial⟩⟩ rfl rfl rfl rfl rfl
    · intro a w2 hfr hN hds hb hd
      exact op_plain Θ_ok ⟨hN, hds, rows_get (E := [(3, (.int .i64 (i76 : Int))), (25, (.bool false))]) ⟨hb 3 rfl _ rfl, ((hd 10 rfl _ _ rfl rfl).trans (congrArg _ hc101)), trivial⟩⟩ rfl rfl rfl rfl rfl
    · intro a w2 hfr hN hds hb hd
      exact op_plain Θ_ok ⟨hN, hds, rows_get (E := [(25, (.bool false)), (26, (.int .i64 (i76 : Int)))]) ⟨((hd 10 rfl _ _ rfl rfl).trans (congrArg _ hc101)), (hd 11 rfl _ _ rfl rfl), trivial⟩⟩ rfl rfl rfl rfl rfl
    · intro a w2 hfr hN hds hb hd
      exact op_plain Θ_ok ⟨hN, hds, rows_get (E := [(25, (.bool false)), (27, (.bool (decide ((i76 : Int) > (0 : Int)))))]) ⟨((hd 10 rfl _ _ rfl rfl).trans (congrArg _ hc101)), (hd 12 rfl _ _ rfl rfl), trivial⟩⟩ rfl rfl rfl rfl rfl
    · intro a w2 hfr hN hds hb hd
      exact op_plain Θ_ok ⟨hN, hds, rows_get (E := [(1, (.pointer (some ⟨b2, 0, none⟩))), (28, (.bool true))]) ⟨hb 1 rfl _ rfl, ((hd 13 rfl _ _ rfl rfl).trans (congrArg _ hc104)), trivial⟩⟩ rfl rfl rfl rfl rfl
    · intro a w2 hfr hN hds hb hd
      have hb2 := hb2.fr0 hfr
      exact op_load Θ_ok ⟨hN, hds, rows_get (E := [(28, (.bool true)), (29, (.pointer (some ⟨b2, 0, none⟩)))]) ⟨((hd 13 rfl _ _ rfl rfl).trans (congrArg _ hc104)), (hd 14 rfl _ _ rfl rfl), trivial⟩⟩ rfl rfl rfl rfl rfl rfl hb2 [(.slice A73 x0.fNames.length c74)] rfl rfl (.inr rfl) (.slice A73 x0.fNames.length c74) rfl
    · intro a w2 hfr hN hds hb hd
      exact op_plain Θ_ok ⟨hN, hds, rows_get (E := [(3, (.int .i64 (i76 : Int))), (28, (.bool true))]) ⟨hb 3 rfl _ rfl, ((hd 13 rfl _ _ rfl rfl).trans (congrArg _ hc104)), trivial⟩⟩ rfl rfl rfl rfl rfl
    · intro a w2 hfr hN hds hb hd
      exact op_plain Θ_ok ⟨hN, hds, rows_get (E := [(28, (.bool true)), (31, (.int .i64 (i76 : Int)))]) ⟨((hd 13 rfl _ _ rfl rfl).trans (congrArg _ hc104)), (hd 16 rfl _ _ rfl rfl), trivial⟩⟩ rfl rfl rfl rfl rfl
    · intro a w2 hfr hN hds hb hd
      have h0_1 := h0_1.tr hfr.tr0
      exact op_index (j := (IntKind.i64.wrap ((i76 : Int) - (1 : Int)))) Θ_ok ⟨hN, hds, rows_get (E := [(28, (.bool true)), (30, (.slice A73 x0.fNames.length c74)), (32, (.int .i64 (IntKind.i64.wrap ((i76 : Int) - (1 : Int)))))]) ⟨((hd 13 rfl _ _ rfl rfl).trans (congrArg _ hc104)), (hd 15 rfl _ _ rfl rfl), (hd 17 rfl _ _ rfl rfl), trivial⟩⟩ rfl rfl rfl rfl rfl rfl rfl rfl rfl h0_1 rfl (idx_some hz106).1 (idx_some hz106).2
    · intro a w2 hfr hN hds hb hd
      have d109 : (Ty.ptr tGName).is (b91 :: O80) w2 (a.tmps.getD 33 undef) y105 := hd 18 rfl _ _ rfl rfl
      obtain ⟨u107, e108⟩ : ∃ v, a.tmps.getD 33 undef = v := ⟨_, rfl⟩
      rw [e108] at d109
      obtain ⟨ad110, rfl⟩ := ptr_form d109
      have h111 := ptr_sub (S := (Ty.int .u64)) (off := 0) (y := y105.fName) d109 (fun cs hr => by obtain rfl := tGName_rep hr; exact rfl)
      exact (op_plain (v := (.pointer (some (ad110.add 0)))) Θ_ok ⟨hN, hds, rows_get (E := [(28, (.bool true)), (33, (.pointer (some ad110)))]) ⟨((hd 13 rfl _ _ rfl rfl).trans (congrArg _ hc104)), e108, trivial⟩⟩ rfl rfl rfl rfl rfl).weaken (fun u w3 ⟨hu, hf⟩ => by subst hu; exact ⟨h111.tr hf.tr0, hf⟩)
    · intro a w2 hfr hN hds hb hd
      have d114 : (Ty.ptr (Ty.int .u64)).is (b91 :: O80) w2 (a.tmps.getD 34 undef) y105.fName := hd 19 rfl _ _ rfl rfl
      obtain ⟨u112, e113⟩ : ∃ v, a.tmps.getD 34 undef = v := ⟨_, rfl⟩
      rw [e113] at d114
      exact (op_loadp Θ_ok ⟨hN, hds, rows_get (E := [(28, (.bool true)), (34, u112)]) ⟨((hd 13 rfl _ _ rfl rfl).trans (congrArg _ hc104)), e113, trivial⟩⟩ rfl rfl rfl rfl rfl rfl d114 rfl rfl).weaken (fun u w3 ⟨hu, hf⟩ => ⟨int_is.1 hu, hf⟩)
    · intro a w2 hfr hN hds hb hd
      exact op_plain Θ_ok ⟨hN, hds, rows_get (E := [(4, (.pointer (some ⟨b91, 0, none⟩))), (28, (.bool true))]) ⟨hb 4 rfl _ rfl, ((hd 13 rfl _ _ rfl rfl).trans (congrArg _ hc104)), trivial⟩⟩ rfl rfl rfl rfl rfl
    · intro a w2 hfr hN hds hb hd
      have hb91 := hb91.fr0 hfr
      exact op_load Θ_ok ⟨hN, hds, rows_get (E := [(28, (.bool true)), (36, (.pointer (some ⟨b91, 0, none⟩)))]) ⟨((hd 13 rfl _ _ rfl rfl).trans (congrArg _ hc104)), (hd 21 rfl _ _ rfl rfl), trivial⟩⟩ rfl rfl rfl rfl rfl rfl hb91 [(.int .u64 z78.fName)] rfl rfl (.inr rfl) (.int .u64 z78.fName) rfl
    · intro a w2 hfr hN hds hb hd
      exact op_plain Θ_ok ⟨hN, hds, rows_get (E := [(28, (.bool true)), (35, (.int .u64 y105.fName)), (37, (.int .u64 z78.fName))]) ⟨((hd 13 rfl _ _ rfl rfl).trans (congrArg _ hc104)), (hd 20 rfl _ _ rfl rfl), (hd 22 rfl _ _ rfl rfl), trivial⟩⟩ rfl rfl rfl rfl rfl
    · intro a w2 hfr hN hds hb hd
      exact op_plain Θ_ok ⟨hN, hds, rows_get (E := [(25, (.bool false)), (28, (.bool true)), (38, (.bool (decide (y105.fName ≥ z78.fName))))]) ⟨((hd 10 rfl _ _ rfl rfl).trans (congrArg _ hc101)), ((hd 13 rfl _ _ rfl rfl).trans (congrArg _ hc104)), (hd 23 rfl _ _ rfl rfl), trivial⟩⟩ rfl rfl rfl rfl rfl
    · intro a w2 hfr hN hds hb hd
      exact op_plain Θ_ok ⟨hN, hds, rows_get (E := [(25, (.bool false)), (39, (.bool (decide (y105.fName ≥ z78.fName))))]) ⟨((hd 10 rfl _ _ rfl rfl).trans (congrArg _ hc101)), (hd 24 rfl _ _ rfl rfl), trivial⟩⟩ rfl rfl rfl rfl rfl
    intro a w116 f115 hN hds hb hr
    have h0_1 := h0_1.tr f115.tr0
    have h0_2 := h0_2.tr f115.tr0
    have hb2 := hb2.fr0 f115
    have T5 := T5.trans f115.tr0
    have T75 := T75.trans f115.tr0
    have hO := f115.ob hO
    have hF := hF.trans f115
    refine wq_go (E := [(1, (.pointer (some ⟨b2, 0, none⟩))), (8, (.slice A73 x0.fNames.length c74)), (9, (.int .i64 (x0.fNames.length : Int))), (10, (.int .i64 (i76 : Int))), (40, (.bool (decide (y105.fName ≥ z78.fName))))]) hN hds ⟨hb 1 _ rfl rfl, hb 8 _ rfl rfl, hb 9 _ rfl rfl, hb 10 _ rfl rfl, (hr 25 _ _ rfl rfl), trivial⟩ ?_
    refine wq_seq ?_
    rcases bif_some h with ⟨hc117, h⟩ | ⟨hc117, h⟩
    rotate_left
    · refine wc_known_false rfl hc117 ?_
      refine wc_skip ?_
      refine wq_block (wq_seq ?_)
      refine wc_region (l := [0, 1]) rfl ?_
      refine wo_seg Θ_ok [0, 1] [(1, (.pointer (some ⟨b2, 0, none⟩))), (8, (.slice A73 x0.fNames.length c74)), (9, (.int .i64 (x0.fNames.length : Int))), (10, (.int .i64 (IntKind.i64.wrap ((i76 : Int) + (1 : Int)))))] rfl ⟨rfl, rfl, rfl, rfl, trivial⟩ ?_
      refine wo_nil ?_
      exact wq_next rest77.length [(1, (.pointer (some ⟨b2, 0, none⟩))), (8, (.slice A73 x0.fNames.length c74)), (9, (.int .i64 (x0.fNames.length : Int))), (10, (.int .i64 ((i76 + 1 : Nat) : Int)))] (Nat.lt_succ_self _) ⟨rfl, rfl, rfl, congrArg (fun z => some (Value.int .i64 z)) (wrap_succ hl86 (Nat.le_trans hlc74 hmc74)), trivial⟩ ⟨rest77, i76 + 1, b91 :: O80, rfl, hd79, rfl, T75, hO, hS, hF, ib2, hb2, h⟩
    refine wc_known_true rfl hc117 ?_
    refine wc_seq ?_
    refine wc_region (l := [0]) rfl ?_
    refine wo_seg Θ_ok [0] [(2, (.bool false))] rfl ⟨rfl, trivial⟩ ?_
    refine wo_nil ?_
    refine wq_seq ?_
    refine wc_ret ?_
    cases h
    exact wq_block_ret (wq_then_ret (wq_then_ret (wq_block_ret (wq_then_ret (wq_ret rfl ⟨_, rfl, (bool_is.2 rfl), hF⟩)))))
  rintro E w11 ⟨O10, rfl, T5, hO, hS, hF, ib2, hb2, h⟩
  have h0_1 := h0_1.tr T5
  have h0_2 := h0_2.tr T5
  subst hk7
  (try dsimp only at h)
  obtain ⟨k13, hk14, h⟩ := letk_some h
  refine wc_join (fun E W => ∃ (O17 : List Nat), E = [(1, (.pointer (some ⟨b2, 0, none⟩)))] ∧ Tr O10 w11 O17 W ∧ OB O17 W ∧ Sub O O17 ∧ Fr [] w W ∧ b2 ∈ O17 ∧ Blk W b2 25 [v0_1, v0_2] ∧ k13 = some r) ?_ (fun K15 hK16 => ?_)
  · rintro E w18 ⟨O17, rfl, T12, hO, hS, hF, ib2, hb2, h⟩
    have h0_1 := h0_1.tr T12
    have h0_2 := h0_2.tr T12
    subst hk14
    (try dsimp only at h)
    refine wc_seq ?_
    refine wc_region (l := [0, 1, 2, 3, 4]) rfl ?_
    refine wo_seg Θ_ok [0] [(83, (.pointer (some ⟨b2, 0, none⟩)))] rfl ⟨rfl, trivial⟩ ?_
    refine wo_load Θ_ok rfl rfl rfl rfl rfl rfl rfl hb2 [v0_1] rfl rfl (.inr rfl) v0_1 rfl ?_
    obtain ⟨A19, c20, rfl, hlc20, hmc20⟩ := slice_form h0_1
    refine wo_seg Θ_ok [2] [(85, (.int .i64 (x0.fNames.length : Int)))] rfl ⟨rfl, trivial⟩ ?_
    refine wo_seg Θ_ok [3, 4] [(2, (.bool (decide ((x0.fNames.length : Int) ≤ (16 : Int)))))] rfl ⟨rfl, trivial⟩ ?_
    refine wo_nil ?_
    refine wq_seq ?_
    refine wc_ret ?_
    cases h
    exact wq_ret rfl ⟨_, rfl, (bool_is.2 rfl), hF⟩
  clear hk14
  have T12 := Tr.refl O10 w11
  refine wc_seq ?_
  refine wc_region (l := [0, 1, 2, 3]) rfl ?_
  refine wo_seg Θ_ok [0] [(1, (.pointer (some ⟨b2, 0, none⟩))), (42, (.pointer (some ⟨b2, 1, none⟩)))] rfl ⟨rfl, rfl, trivial⟩ ?_
  refine wo_load Θ_ok rfl rfl rfl rfl rfl rfl rfl hb2 [v0_2] rfl rfl (.inr rfl) v0_2 rfl ?_
  obtain ⟨A21, c22, rfl, hlc22, hmc22⟩ := slice_form h0_2
  refine wo_seg Θ_ok [2] [(1, (.pointer (some ⟨b2, 0, none⟩))), (43, (.slice A21 x0.fBoxes.length c22)), (44, (.int .i64 (x0.fBoxes.length : Int)))] rfl ⟨rfl, rfl, rfl, trivial⟩ ?_
  refine wo_seg Θ_ok [3] [(1, (.pointer (some ⟨b2, 0, none⟩))), (43, (.slice A21 x0.fBoxes.length c22)), (44, (.int .i64 (x0.fBoxes.length : Int))), (45, (.int .i64 0))] rfl ⟨rfl, rfl, rfl, rfl, trivial⟩ ?_
  refine wo_nil ?_
  refine wq_seq ?_
  refine wc_block ?_
  refine wc_loop (fun m E W => ∃ (rest25 : List GBox) (i24 : Nat) (O28 : List Nat), rest25.length = m ∧ x0.fBoxes.drop i24 = rest25 ∧ E = [(1, (.pointer (some ⟨b2, 0, none⟩))), (43, (.slice A21 x0.fBoxes.length c22)), (44, (.int .i64 (x0.fBoxes.length : Int))), (45, (.int .i64 (i24 : Int)))] ∧ Tr O10 w11 O28 W ∧ OB O28 W ∧ Sub O O28 ∧ Fr [] w W ∧ b2 ∈ O28 ∧ Blk W b2 25 [v0_1, (.slice A21 x0.fBoxes.length c22)] ∧ r_Right_l1 x0 k13 rest25 i24 = some r) _ [(1, (.pointer (some ⟨b2, 0, none⟩))), (43, (.slice A21 x0.fBoxes.length c22)), (44, (.int .i64 (x0.fBoxes.length : Int))), (45, (.int .i64 ((0 : Nat) : Int)))] ⟨rfl, rfl, rfl, rfl, trivial⟩ ⟨x0.fBoxes, 0, O10, rfl, rfl, rfl, Tr.refl _ _, hO, hS, hF, ib2, hb2, h⟩ ?_
  rintro m E w29 ⟨rest25, i24, O28, rfl, hd27, rfl, T23, hO, hS, hF, ib2, hb2, h⟩
  have T12 := T12.trans T23
  have h0_2 := h0_2.tr T23
  have h0_1 := h0_1.tr T23
  rcases rest25 with _ | ⟨z26, rest25⟩
  · rw [r_Right_l1] at h
    have hl33 := drop_nil hd27
    have hc30 : (decide ((i24 : Int) < (x0.fBoxes.length : Int))) = false := decide_eq_false (by omega)
    refine wc_seq ?_
    refine wc_region (l := [0]) rfl ?_
    refine wo_seg Θ_ok [0] [(1, (.pointer (some ⟨b2, 0, none⟩))), (43, (.slice A21 x0.fBoxes.length c22)), (44, (.int .i64 (x0.fBoxes.length : Int))), (45, (.int .i64 (i24 : Int))), (46, (.bool (decide ((i24 : Int) < (x0.fBoxes.length : Int)))))] rfl ⟨rfl, rfl, rfl, rfl, rfl, trivial⟩ ?_
    refine wo_nil ?_
    refine wq_seq ?_
    refine wc_seq ?_
    refine wc_known_false rfl hc30 ?_
    refine wc_exit ?_
    exact wq_then_exit (wq_then_exit (wq_block_exit (wq_join hK16 [(1, (.pointer (some ⟨b2, 0, none⟩)))] ⟨rfl, trivial⟩ ⟨O28, rfl, T12, hO, hS, hF, ib2, hb2, h⟩)))
  rw [r_Right_l1] at h
  obtain ⟨hl34, hg32, hd27⟩ := drop_cons hd27
  have hc31 : (decide ((i24 : Int) < (x0.fBoxes.length : Int))) = true := decide_eq_true (by omega)
  refine wc_seq ?_
  refine wc_region (l := [0]) rfl ?_
  refine wo_seg Θ_ok [0] [(1, (.pointer (some ⟨b2, 0, none⟩))), (43, (.slice A21 x0.fBoxes.length c22)), (44, (.int .i64 (x0.fBoxes.length : Int))), (45, (.int .i64 (i24 : Int))), (46, (.bool (decide ((i24 : Int) < (x0.fBoxes.length : Int)))))] rfl ⟨rfl, rfl, rfl, rfl, rfl, trivial⟩ ?_
  refine wo_nil ?_
  refine wq_seq ?_
  refine wc_seq ?_
  refine wc_known_true rfl hc31 ?_
  refine wc_skip ?_
  refine wq_seq ?_
  refine wc_seq ?_
  refine wc_block ?_
  refine wc_seq ?_
  refine wc_region (l := [0, 1, 2, 3, 4, 5]) rfl ?_
  refine wo_seg Θ_ok [0] [(1, (.pointer (some ⟨b2, 0, none⟩))), (43, (.slice A21 x0.fBoxes.length c22)), (44, (.int .i64 (x0.fBoxes.length : Int))), (45, (.int .i64 (i24 : Int))), (47, (.int .i64 (i24 : Int)))] rfl ⟨rfl, rfl, rfl, rfl, rfl, trivial⟩ ?_
  refine wo_index Θ_ok rfl rfl rfl rfl rfl rfl rfl rfl rfl rfl h0_2 rfl (by omega) hg32 (fun p35 h36 => ?_)
  refine wo_loadp Θ_ok rfl rfl rfl rfl rfl rfl rfl h36 rfl rfl (fun v37 h38 => ?_)
  obtain ⟨v39, rfl, h40⟩ := tGBox_is.1 h38
  refine wo_alloc Θ_ok rfl rfl rfl rfl rfl rfl [(.int .u64 0), (.slice none 0 0)] rfl hO (fun b41 w42 n43 => ?_)
  have h0_2 := h0_2.tr n43.tr
  have h40 := h40.tr n43.tr
  have h0_1 := h0_1.tr n43.tr
  have T12 := T12.trans n43.tr
  have T23 := T23.trans n43.tr
  have nb41b2 : b41 ≠ b2 := by have := hb2.lt; have := n43.ge; omega
  have hb2 := hb2.fr0 n43.fr
  have ib2 := List.mem_cons_of_mem b41 ib2
  have hb41 := n43.blk
  have gb41 := n43.ge0 hF
  have ib41 : b41 ∈ b41 :: O28 := List.mem_cons_self
  have hO := n43.ob
  have hF := hF.trans n43.fr
  have hS := Sub.cons hS b41
  refine wo_seg Θ_ok [4] [(1, (.pointer (some ⟨b2, 0, none⟩))), (5, (.int .i64 (i24 : Int))), (6, (.pointer (some ⟨b41, 0, none⟩))), (43, (.slice A21 x0.fBoxes.length c22)), (44, (.int .i64 (x0.fBoxes.length : Int))), (45, (.int .i64 (i24 : Int))), (49, (.agg #[(.int .u64 z26.fPid), v39]))] rfl ⟨rfl, rfl, rfl, rfl, rfl, rfl, rfl, trivial⟩ ?_
  obtain ⟨A44, c45, rfl, hlc45, hmc45⟩ := slice_form h40
  refine wo_store Θ_ok rfl rfl rfl rfl rfl rfl rfl hb41 [(.int .u64 z26.fPid), (.slice A44 z26.fWords.length c45)] rfl rfl (by simp [Value.oneCell']) rfl [(.int .u64 z26.fPid), (.slice A44 z26.fWords.length c45)] rfl (fun w46 hb41 f47 => ?_)
  have h0_2 := h0_2.tr (f47.tr (one_in ib41))
  have h0_1 := h0_1.tr (f47.tr (one_in ib41))
  have h40 := h40.tr (f47.tr (one_in ib41))
  have T12 := T12.trans (f47.tr (one_in ib41))
  have T23 := T23.trans (f47.tr (one_in ib41))
  have hb2 := hb2.fr f47 (nin nb41b2.symm)
  have hO := f47.ob hO
  have hF := hF.own f47 gb41
  refine wo_nil ?_
  refine wq_seq ?_
  refine wc_seq ?_
  rcases bif_some h with ⟨hc48, h⟩ | ⟨hc48, h⟩
  · refine wc_draw mixed [⟨50, [], [6]⟩, ⟨51, [0], []⟩, ⟨52, [1], []⟩, ⟨53, [2], []⟩, ⟨54, [3], []⟩, ⟨55, [4], [6]⟩, ⟨56, [4, 5], []⟩, ⟨57, [4, 6], []⟩, ⟨58, [4, 7], []⟩, ⟨59, [4, 8], []⟩, ⟨60, [9], []⟩, ⟨61, [10], [6]⟩, ⟨62, [10, 11], []⟩, ⟨63, [10, 12], []⟩, ⟨64, [10, 13], []⟩, ⟨65, [10, 14], []⟩, ⟨66, [15], []⟩, ⟨67, [16], [5]⟩, ⟨68, [16, 17], []⟩, ⟨69, [16, 18], []⟩, ⟨70, [19], [1]⟩, ⟨71, [19, 20], []⟩, ⟨72, [19], [5]⟩, ⟨73, [19, 22], []⟩, ⟨74, [19, 21, 23], []⟩, ⟨75, [19, 24], []⟩, ⟨76, [19, 25], []⟩, ⟨77, [19], [6]⟩, ⟨78, [19, 27], []⟩, ⟨79, [19, 26, 28], []⟩, ⟨80, [16, 19, 29], []⟩, ⟨81, [16, 30], []⟩] [SP.eq (.pointer (some ⟨b41, 0, none⟩)), SP.eq (.int .u64 z26.fPid), SP.eq (.bool ((r_Pid z26.fPid))), SP.eq (.bool (!(r_Pid z26.fPid))), SP.eq (.bool (!(r_Pid z26.fPid))), SP.eq undef, SP.eq undef, SP.eq undef, SP.eq undef, SP.eq (.bool true), SP.eq (.bool true), SP.eq undef, SP.eq undef, SP.eq undef, SP.eq undef, SP.eq (.bool true), SP.eq (.bool true), SP.eq undef, SP.eq undef, SP.eq undef, SP.eq undef, SP.eq undef, SP.eq undef, SP.eq undef, SP.eq undef, SP.eq undef, SP.eq undef, SP.eq undef, SP.eq undef, SP.eq undef, SP.eq undef, SP.eq (.bool true)] rfl rfl rfl ⟨?_, ?_, ?_, ?_, ?_, ?_, ?_, ?_, ?_, ?_, ?_, ?_, ?_, ?_, ?_, ?_, ?_, ?_, ?_, ?_, ?_, ?_, ?_, ?_, ?_, ?_, ?_, ?_, ?_, ?_, ?_, ?_, trivial⟩ ?_
    · intro a w2 hfr hN hds hb hd
      exact op_plain Θ_ok ⟨hN, hds, rows_get (E := [(6, (.pointer (some ⟨b41, 0, none⟩)))]) ⟨hb 6 rfl _ rfl, trivial⟩⟩ rfl rfl rfl rfl rfl
    · intro a w2 hfr hN hds hb hd
      have hb41 := hb41.fr0 hfr
      exact op_load Θ_ok ⟨hN, hds, rows_get (E := [(50, (.pointer (some ⟨b41, 0, none⟩)))]) ⟨(hd 0 rfl _ _ rfl rfl), trivial⟩⟩ rfl rfl rfl rfl rfl rfl hb41 [(.int .u64 z26.fPid)] rfl rfl (.inr rfl) (.int .u64 z26.fPid) rfl
    · intro a w2 hfr hN hds hb hd
      exact (op_call ⟨hN, hds, rows_get (E := [(51, (.int .u64 z26.fPid))]) ⟨(hd 1 rfl _ _ rfl rfl), trivial⟩⟩ rfl rfl rfl rfl ent26 rfl (r_Pid_c (hfr.ob hO) (int_is.2 rfl))).weaken (fun u w3 ⟨hu, hf⟩ => ⟨bool_is.1 hu, hf⟩)
    · intro a w2 hfr hN hds hb hd
      exact op_plain Θ_ok ⟨hN, hds, rows_get (E := [(52, (.bool ((r_Pid z26.fPid))))]) ⟨(hd 2 rfl _ _ rfl rfl), trivial⟩⟩ rfl rfl rfl rfl rfl
    · intro a w2 hfr hN hds hb hd
      exact op_plain Θ_ok ⟨hN, hds, rows_get (E := [(53, (.bool (!(r_Pid z26.fPid))))]) ⟨(hd 3 rfl _ _ rfl rfl), trivial⟩⟩ rfl rfl rfl rfl rfl
    · intro a w2 hfr hN hds hb hd
      exact op_skip ⟨hN, hds, rows_get (E := [(6, (.pointer (some ⟨b41, 0, none⟩))), (54, (.bool true))]) ⟨hb 6 rfl _ rfl, ((hd 4 rfl _ _ rfl rfl).trans (congrArg _ hc48)), trivial⟩⟩ rfl rfl rfl
    · intro a w2 hfr hN hds hb hd
      exact op_skip ⟨hN, hds, rows_get (E := [(54, (.bool true)), (55, undef)]) ⟨((hd 4 rfl _ _ rfl rfl).trans (congrArg _ hc48)), (hd 5 rfl _ _ rfl rfl), trivial⟩⟩ rfl rfl rfl
    · intro a w2 hfr hN hds hb hd
      exact op_skip ⟨hN, hds, rows_get (E := [(54, (.bool true)), (56, undef)]) ⟨((hd 4 rfl _ _ rfl rfl).trans (congrArg _ hc48)), (hd 6 rfl _ _ rfl rfl), trivial⟩⟩ rfl rfl rfl
    · intro a w2 hfr hN hds hb hd
      exact op_skip ⟨hN, hds, rows_get (E := [(54, (.bool true)), (57, undef)]) ⟨((hd 4 rfl _ _ rfl rfl).trans (congrArg _ hc48)), (hd 7 rfl _ _ rfl rfl), trivial⟩⟩ rfl rfl rfl
    · intro a w2 hfr hN hds hb hd
      exact op_plain Θ_ok ⟨hN, hds, rows_get (E := [(54, (.bool true)), (58, undef)]) ⟨((hd 4 rfl _ _ rfl rfl).trans (congrArg _ hc48)), (hd 8 rfl _ _ rfl rfl), trivial⟩⟩ rfl rfl rfl rfl rfl
    · intro a w2 hfr hN hds hb hd
      exact op_plain Θ_ok ⟨hN, hds, rows_get (E := [(59, (.bool true))]) ⟨(hd 9 rfl _ _ rfl rfl), trivial⟩⟩ rfl rfl rfl rfl rfl
    · intro a w2 hfr hN hds hb hd
      exact op_skip ⟨hN, hds, rows_get (E := [(6, (.pointer (some ⟨b41, 0, none⟩))), (60, (.bool true))]) ⟨hb 6 rfl _ rfl, (hd 10 rfl _ _ rfl rfl), trivial⟩⟩ rfl rfl rfl
    · intro a w2 hfr hN hds hb hd
      exact op_skip ⟨hN, hds, rows_get (E := [(60, (.bool true)), (61, undef)]) ⟨(hd 10 rfl _ _ rfl rfl), (hd 11 rfl _ _ rfl rfl), trivial⟩⟩ rfl rfl rfl
    · intro a w2 hfr hN hds hb hd
      exact op_skip ⟨hN, hds, rows_get (E := [(60, (.bool true)), (62, undef)]) ⟨(hd 10 rfl _ _ rfl rfl), (hd 12 rfl _ _ rfl rfl), trivial⟩⟩ rfl rfl rfl
    · intro a w2 hfr hN hds hb hd
      exact op_skip ⟨hN, hds, rows_get (E := [(60, (.bool true)), (63, undef)]) ⟨(hd 10 rfl _ _ rfl rfl), (hd 13 rfl _ _ rfl rfl), trivial⟩⟩ rfl rfl rfl
    · intro a w2 hfr hN hds hb hd
      exact op_plain Θ_ok ⟨hN, hds, rows_get (E := [(60, (.bool true)), (64, undef)]) ⟨(hd 10 rfl _ _ rfl rfl), (hd 14 rfl _ _ rfl rfl), trivial⟩⟩ rfl rfl rfl rfl rfl
    · intro a w2 hfr hN hds hb hd
      exact op_plain Θ_ok ⟨hN, hds, rows_get (E := [(65, (.bool true))]) ⟨(hd 15 rfl _ _ rfl rfl), trivial⟩⟩ rfl rfl rfl rfl rfl
    · intro a w2 hfr hN hds hb hd
      exact op_skip ⟨hN, hds, rows_get (E := [(5, (.int .i64 (i24 : Int))), (66, (.bool true))]) ⟨hb 5 rfl _ rfl, (hd 16 rfl _ _ rfl rfl), trivial⟩⟩ rfl rfl rfl
    · intro a w2 hfr hN hds hb hd
      exact op_skip ⟨hN, hds, rows_get (E := [(66, (.bool true)), (67, undef)]) ⟨(hd 16 rfl _ _ rfl rfl), (hd 17 rfl _ _ rfl rfl), trivial⟩⟩ rfl rfl rfl
    · intro a w2 hfr hN hds hb hd
      exact op_skip ⟨hN, hds, rows_get (E := [(66, (.bool true)), (68, undef)]) ⟨(hd 16 rfl _ _ rfl rfl), (hd 18 rfl _ _ rfl rfl), trivial⟩⟩ rfl rfl rfl
    · intro a w2 hfr hN hds hb hd
      exact op_skip ⟨hN, hds, rows_get (E := [(1, (.pointer (some ⟨b2, 0, none⟩))), (69, undef)]) ⟨hb 1 rfl _ rfl, (hd 19 rfl _ _ rfl rfl), trivial⟩⟩ rfl rfl rfl
    · intro a w2 hfr hN hds hb hd
      exact op_skip ⟨hN, hds, rows_get (E := [(69, undef), (70, undef)]) ⟨(hd 19 rfl _ _ rfl rfl), (hd 20 rfl _ _ rfl rfl), trivial⟩⟩ rfl rfl rfl
    · intro a w2 hfr hN hds hb hd
      exact op_skip ⟨hN, hds, rows_get (E := [(5, (.int .i64 (i24 : Int))), (69, undef)]) ⟨hb 5 rfl _ rfl, (hd 19 rfl _ _ rfl rfl), trivial⟩⟩ rfl rfl rfl
    · intro a w2 hfr hN hds hb hd
      exact op_skip ⟨hN, hds, rows_get (E := [(69, undef), (72, undef)]) ⟨(hd 19 rfl _ _ rfl rfl), (hd 22 rfl _ _ rfl rfl), trivial⟩⟩ rfl rfl rfl
    · intro a w2 hfr hN hds hb hd
      exact op_skip ⟨hN, hds, rows_get (E := [(69, undef), (71, undef), (73, undef)]) ⟨(hd 19 rfl _ _ rfl rfl), (hd 21 rfl _ _ rfl rfl), (hd 23 rfl _ _ rfl rfl), trivial⟩⟩ rfl rfl rfl
    · intro a w2 hfr hN hds hb hd
      exact op_skip ⟨hN, hds, rows_get (E := [(69, undef), (74, undef)]) ⟨(hd 19 rfl _ _ rfl rfl), (hd 24 rfl _ _ rfl rfl), trivial⟩⟩ rfl rfl rfl
    · intro a w2 hfr hN hds hb hd
      exact op_skip ⟨hN, hds, rows_get (E := [(69, undef), (75, undef)]) ⟨(hd 19 rfl _ _ rfl rfl), (hd 25 rfl _ _ rfl rfl), trivial⟩⟩ rfl rfl rfl
    · intro a w2 hfr hN hds hb hd
      exact op_skip ⟨hN, hds, rows_get (E := [(6, (.pointer (some ⟨b41, 0, none⟩))), (69, undef)]) ⟨hb 6 rfl _ rfl, (hd 19 rfl _ _ rfl rfl), trivial⟩⟩ rfl rfl rfl
    · intro a w2 hfr hN hds hb hd
      exact op_skip ⟨hN, hds, rows_get (E := [(69, undef), (77, undef)]) ⟨(hd 19 rfl _ _ rfl rfl), (hd 27 rfl _ _ rfl rfl), trivial⟩⟩ rfl rfl rfl
    · intro a w2 hfr hN hds hb hd
      exact op_skip ⟨hN, hds, rows_get (E := [(69, undef), (76, undef), (78, undef)]) ⟨(hd 19 rfl _ _ rfl rfl), (hd 26 rfl _ _ rfl rfl), (hd 28 rfl _ _ rfl rfl), trivial⟩⟩ rfl rfl rfl
    · intro a w2 hfr hN hds hb hd
      exact op_skip ⟨hN, hds, rows_get (E := [(66, (.bool true)), (69, undef), (79, undef)]) ⟨(hd 16 rfl _ _ rfl rfl), (hd 19 rfl _ _ rfl rfl), (hd 29 rfl _ _ rfl rfl), trivial⟩⟩ rfl rfl rfl
    · intro a w2 hfr hN hds hb hd
      exact op_plain Θ_ok ⟨hN, hds, rows_get (E := [(66, (.bool true)), (80, undef)]) ⟨(hd 16 rfl _ _ rfl rfl), (hd 30 rfl _ _ rfl rfl), trivial⟩⟩ rfl rfl rfl rfl rfl
    intro a w50 f49 hN hds hb hr
    have h0_2 := h0_2.tr f49.tr0
    have h0_1 := h0_1.tr f49.tr0
    have hb2 := hb2.fr0 f49
    have T12 := T12.trans f49.tr0
    have T23 := T23.trans f49.tr0
    have hO := f49.ob hO
    have hF := hF.trans f49
    refine wq_go (E := [(1, (.pointer (some ⟨b2, 0, none⟩))), (43, (.slice A21 x0.fBoxes.length c22)), (44, (.int .i64 (x0.fBoxes.length : Int))), (45, (.int .i64 (i24 : Int))), (81, (.bool true))]) hN hds ⟨hb 1 _ rfl rfl, hb 43 _ rfl rfl, hb 44 _ rfl rfl, hb 45 _ rfl rfl, (hr 31 _ _ rfl rfl), trivial⟩ ?_
    refine wq_seq ?_
    refine wc_true rfl ?_
    refine wc_seq ?_
    refine wc_region (l := [0]) rfl ?_
    refine wo_seg Θ_ok [0] [(2, (.bool false))] rfl ⟨rfl, trivial⟩ ?_
    refine wo_nil ?_
    refine wq_seq ?_
    refine wc_ret ?_
    cases h
    exact wq_block_ret (wq_then_ret (wq_then_ret (wq_block_ret (wq_then_ret (wq_ret rfl ⟨_, rfl, (bool_is.2 rfl), hF⟩)))))
  rcases bif_some h with ⟨hc51, h⟩ | ⟨hc51, h⟩
  · refine wc_draw mixed [⟨50, [], [6]⟩, ⟨51, [0], []⟩, ⟨52, [1], []⟩, ⟨53, [2], []⟩, ⟨54, [3], []⟩, ⟨55, [4], [6]⟩, ⟨56, [4, 5], []⟩, ⟨57, [4, 6], []⟩, ⟨58, [4, 7], []⟩, ⟨59, [4, 8], []⟩, ⟨60, [9], []⟩, ⟨61, [10], [6]⟩, ⟨62, [10, 11], []⟩, ⟨63, [10, 12], []⟩, ⟨64, [10, 13], []⟩, ⟨65, [10, 14], []⟩, ⟨66, [15], []⟩, ⟨67, [16], [5]⟩, ⟨68, [16, 17], []⟩, ⟨69, [16, 18], []⟩, ⟨70, [19], [1]⟩, ⟨71, [19, 20], []⟩, ⟨72, [19], [5]⟩, ⟨73, [19, 22], []⟩, ⟨74, [19, 21, 23], []⟩, ⟨75, [19, 24], []⟩, ⟨76, [19, 25], []⟩, ⟨77, [19], [6]⟩, ⟨78, [19, 27], []⟩, ⟨79, [19, 26, 28], []⟩, ⟨80, [16, 19, 29], []⟩, ⟨81, [16, 30], []⟩] [SP.eq (.pointer (some ⟨b41, 0, none⟩)), SP.eq (.int .u64 z26.fPid), SP.eq (.bool ((r_Pid z26.fPid))), SP.eq (.bool (!(r_Pid z26.fPid))), SP.eq (.bool (!(r_Pid z26.fPid))), SP.eq (.pointer (some ⟨b41, 1, none⟩)), SP.eq (.slice A44 z26.fWords.length c45), SP.eq (.int .i64 (z26.fWords.length : Int)), SP.eq (.bool ((z26.fWords.length : Int) == (0 : Int))), SP.eq (.bool ((z26.fWords.length : Int) == (0 : Int))), SP.eq (.bool ((z26.fWords.length : Int) == (0 : Int))), SP.eq undef, SP.eq undef, SP.eq undef, SP.eq undef, SP.eq (.bool true), SP.eq (.bool true), SP.eq undef, SP.eq undef, SP.eq undef, SP.eq undef, SP.eq undef, SP.eq undef, SP.eq undef, SP.eq undef, SP.eq undef, SP.eq undef, SP.eq undef, SP.eq undef, SP.eq undef, SP.eq undef, SP.eq (.bool true)] rfl rfl rfl ⟨?_, ?_, ?_, ?_, ?_, ?_, ?_, ?_, ?_, ?_, ?_, ?_, ?_, ?_, ?_, ?_, ?_, ?_, ?_, ?_, ?_, ?_, ?_, ?_, ?_, ?_, ?_, ?_, ?_, ?_, ?_, ?_, trivial⟩ ?_
    · intro a w2 hfr hN hds hb hd
      exact op_plain Θ_ok ⟨hN, hds, rows_get (E := [(6, (.pointer (some ⟨b41, 0, none⟩)))]) ⟨hb 6 rfl _ rfl, trivial⟩⟩ rfl rfl rfl rfl rfl
    · intro a w2 hfr hN hds hb hd
      have hb41 := hb41.fr0 hfr
      exact op_load Θ_ok ⟨hN, hds, rows_get (E := [(50, (.pointer (some ⟨b41, 0, none⟩)))]) ⟨(hd 0 rfl _ _ rfl rfl), trivial⟩⟩ rfl rfl rfl rfl rfl rfl hb41 [(.int .u64 z26.fPid)] rfl rfl (.inr rfl) (.int .u64 z26.fPid) rfl
    · intro a w2 hfr hN hds hb hd
      exact (op_call ⟨hN, hds, rows_get (E := [(51, (.int .u64 z26.fPid))]) ⟨(hd 1 rfl _ _ rfl rfl), trivial⟩⟩ rfl rfl rfl rfl ent26 rfl (r_Pid_c (hfr.ob hO) (int_is.2 rfl))).weaken (fun u w3 ⟨hu, hf⟩ => ⟨bool_is.1 hu, hf⟩)
    · intro a w2 hfr hN hds hb hd
      exact op_plain Θ_ok ⟨hN, hds, rows_get (E := [(52, (.bool ((r_Pid z26.fPid))))]) ⟨(hd 2 rfl _ _ rfl rfl), trivial⟩⟩ rfl rfl rfl rfl rfl
    · intro a w2 hfr hN hds hb hd
      exact op_plain Θ_ok ⟨hN, hds, rows_get (E := [(53, (.bool (!(r_Pid z26.fPid))))]) ⟨(hd 3 rfl _ _ rfl rfl), trivial⟩⟩ rfl rfl rfl rfl rfl
    · intro a w2 hfr hN hds hb hd
      exact op_plain Θ_ok ⟨hN, hds, rows_get (E := [(6, (.pointer (some ⟨b41, 0, none⟩))), (54, (.bool false))]) ⟨hb 6 rfl _ rfl, ((hd 4 rfl _ _ rfl rfl).trans (congrArg _ hc48)), trivial⟩⟩ rfl rfl rfl rfl rfl
    · intro a w2 hfr hN hds hb hd
      have hb41 := hb41.fr0 hfr
      exact op_load Θ_ok ⟨hN, hds, rows_get (E := [(54, (.bool false)), (55, (.pointer (some ⟨b41, 1, none⟩)))]) ⟨((hd 4 rfl _ _ rfl rfl).trans (congrArg _ hc48)), (hd 5 rfl _ _ rfl rfl), trivial⟩⟩ rfl rfl rfl rfl rfl rfl hb41 [(.slice A44 z26.fWords.length c45)] rfl rfl (.inr rfl) (.slice A44 z26.fWords.length c45) rfl
    · intro a w2 hfr hN hds hb hd
      have h40 := h40.tr hfr.tr0
      exact op_plain Θ_ok ⟨hN, hds, rows_get (E := [(54, (.bool false)), (56, (.slice A44 z26.fWords.length c45))]) ⟨((hd 4 rfl _ _ rfl rfl).trans (congrArg _ hc48)), (hd 6 rfl _ _ rfl rfl), trivial⟩⟩ rfl rfl rfl rfl rfl
    · intro a w2 hfr hN hds hb hd
      exact op_plain Θ_ok ⟨hN, hds, rows_get (E := [(54, (.bool false)), (57, (.int .i64 (z26.fWords.length : Int)))]) ⟨((hd 4 rfl _ _ rfl rfl).trans (congrArg _ hc48)), (hd 7 rfl _ _ rfl rfl), trivial⟩⟩ rfl rfl rfl rfl rfl
    · intro a w2 hfr hN hds hb hd
      exact op_plain Θ_ok ⟨hN, hds, rows_get (E := [(54, (.bool false)), (58, (.bool ((z26.fWords.length : Int) == (0 : Int))))]) ⟨((hd 4 rfl _ _ rfl rfl).trans (congrArg _ hc48)), (hd 8 rfl _ _ rfl rfl), trivial⟩⟩ rfl rfl rfl rfl rfl
    · intro a w2 hfr hN hds hb hd
      exact op_plain Θ_ok ⟨hN, hds, rows_get (E := [(59, (.bool ((z26.fWords.length : Int) == (0 : Int))))]) ⟨(hd 9 rfl _ _ rfl rfl), trivial⟩⟩ rfl rfl rfl rfl rfl
    · intro a w2 hfr hN hds hb hd
      exact op_skip ⟨hN, hds, rows_get (E := [(6, (.pointer (some ⟨b41, 0, none⟩))), (60, (.bool true))]) ⟨hb 6 rfl _ rfl, ((hd 10 rfl _ _ rfl rfl).trans (congrArg _ hc51)), trivial⟩⟩ rfl rfl rfl
    · intro a w2 hfr hN hds hb hd
      exact op_skip ⟨hN, hds, rows_get (E := [(60, (.bool true)), (61, undef)]) ⟨((hd 10 rfl _ _ rfl rfl).trans (congrArg _ hc51)), (hd 11 rfl _ _ rfl rfl), trivial⟩⟩ rfl rfl rfl
    · intro a w2 hfr hN hds hb hd
      exact op_skip ⟨hN, hds, rows_get (E := [(60, (.bool true)), (62, undef)]) ⟨((hd 10 rfl _ _ rfl rfl).trans (congrArg _ hc51)), (hd 12 rfl _ _ rfl rfl), trivial⟩⟩ rfl rfl rfl
    · intro a w2 hfr hN hds hb hd
      exact op_skip ⟨hN, hds, rows_get (E := [(60, (.bool true)), (63, undef)]) ⟨((hd 10 rfl _ _ rfl rfl).trans (congrArg _ hc51)), (hd 13 rfl _ _ rfl rfl), trivial⟩⟩ rfl rfl rfl
    · intro a w2 hfr hN hds hb hd
      exact op_plain Θ_ok ⟨hN, hds, rows_get (E := [(60, (.bool true)), (64, undef)]) ⟨((hd 10 rfl _ _ rfl rfl).trans (congrArg _ hc51)), (hd 14 rfl _ _ rfl rfl), trivial⟩⟩ rfl rfl rfl rfl rfl
    · intro a w2 hfr hN hds hb hd
      exact op_plain Θ_ok ⟨hN, hds, rows_get (E := [(65, (.bool true))]) ⟨(hd 15 rfl _ _ rfl rfl), trivial⟩⟩ rfl rfl rfl rfl rfl
    · intro a w2 hfr hN hds hb hd
      exact op_skip ⟨hN, hds, rows_get (E := [(5, (.int .i64 (i24 : Int))), (66, (.bool true))]) ⟨hb 5 rfl _ rfl, (hd 16 rfl _ _ rfl rfl), trivial⟩⟩ rfl rfl rfl
    · intro a w2 hfr hN hds hb hd
      exact op_skip ⟨hN, hds, rows_get (E := [(66, (.bool true)), (67, undef)]) ⟨(hd 16 rfl _ _ rfl rfl), (hd 17 rfl _ _ rfl rfl), trivial⟩⟩ rfl rfl rfl
    · intro a w2 hfr hN hds hb hd
      exact op_skip ⟨hN, hds, rows_get (E := [(66, (.bool true)), (68, undef)]) ⟨(hd 16 rfl _ _ rfl rfl), (hd 18 rfl _ _ rfl rfl), trivial⟩⟩ rfl rfl rfl
    · intro a w2 hfr hN hds hb hd
      exact op_skip ⟨hN, hds, rows_get (E := [(1, (.pointer (some ⟨b2, 0, none⟩))), (69, undef)]) ⟨hb 1 rfl _ rfl, (hd 19 rfl _ _ rfl rfl), trivial⟩⟩ rfl rfl rfl
    · intro a w2 hfr hN hds hb hd
      exact op_skip ⟨hN, hds, rows_get (E := [(69, undef), (70, undef)]) ⟨(hd 19 rfl _ _ rfl rfl), (hd 20 rfl _ _ rfl rfl), trivial⟩⟩ rfl rfl rfl
    · intro a w2 hfr hN hds hb hd
      exact op_skip ⟨hN, hds, rows_get (E := [(5, (.int .i64 (i24 : Int))), (69, undef)]) ⟨hb 5 rfl _ rfl, (hd 19 rfl _ _ rfl rfl), trivial⟩⟩ rfl rfl rfl
    · intro a w2 hfr hN hds hb hd
      exact op_skip ⟨hN, hds, rows_get (E := [(69, undef), (72, undef)]) ⟨(hd 19 rfl _ _ rfl rfl), (hd 22 rfl _ _ rfl rfl), trivial⟩⟩ rfl rfl rfl
    · intro a w2 hfr hN hds hb hd
      exact op_skip ⟨hN, hds, rows_get (E := [(69, undef), (71, undef), (73, undef)]) ⟨(hd 19 rfl _ _ rfl rfl), (hd 21 rfl _ _ rfl rfl), (hd 23 rfl _ _ rfl rfl), trivial⟩⟩ rfl rfl rfl
    · intro a w2 hfr hN hds hb hd
      exact op_skip ⟨hN, hds, rows_get (E := [(69, undef), (74, undef)]) ⟨(hd 19 rfl _ _ rfl rfl), (hd 24 rfl _ _ rfl rfl), trivial⟩⟩ rfl rfl rfl
    · intro a w2 hfr hN hds hb hd
      exact op_skip ⟨hN, hds, rows_get (E := [(69, undef), (75, undef)]) ⟨(hd 19 rfl _ _ rfl rfl), (hd 25 rfl _ _ rfl rfl), trivial⟩⟩ rfl rfl rfl
    · intro a w2 hfr hN hds hb hd
      exact op_skip ⟨hN, hds, rows_get (E := [(6, (.pointer (some ⟨b41, 0, none⟩))), (69, undef)]) ⟨hb 6 rfl _ rfl, (hd 19 rfl _ _ rfl rfl), trivial⟩⟩ rfl rfl rfl
    · intro a w2 hfr hN hds hb hd
      exact op_skip ⟨hN, hds, rows_get (E := [(69, undef), (77, undef)]) ⟨(hd 19 rfl _ _ rfl rfl), (hd 27 rfl _ _ rfl rfl), trivial⟩⟩ rfl rfl rfl
    · intro a w2 hfr hN hds hb hd
      exact op_skip ⟨hN, hds, rows_get (E := [(69, undef), (76, undef), (78, undef)]) ⟨(hd 19 rfl _ _ rfl rfl), (hd 26 rfl _ _ rfl rfl), (hd 28 rfl _ _ rfl rfl), trivial⟩⟩ rfl rfl rfl
    · intro a w2 hfr hN hds hb hd
      exact op_skip ⟨hN, hds, rows_get (E := [(66, (.bool true)), (69, undef), (79, undef)]) ⟨(hd 16 rfl _ _ rfl rfl), (hd 19 rfl _ _ rfl rfl), (hd 29 rfl _ _ rfl rfl), trivial⟩⟩ rfl rfl rfl
    · intro a w2 hfr hN hds hb hd
      exact op_plain Θ_ok ⟨hN, hds, rows_get (E := [(66, (.bool true)), (80, undef)]) ⟨(hd 16 rfl _ _ rfl rfl), (hd 30 rfl _ _ rfl rfl), trivial⟩⟩ rfl rfl rfl rfl rfl
    intro a w53 f52 hN hds hb hr
    have h0_2 := h0_2.tr f52.tr0
    have h0_1 := h0_1.tr f52.tr0
    have hb2 := hb2.fr0 f52
    have T12 := T12.trans f52.tr0
    have T23 := T23.trans f52.tr0
    have hO := f52.ob hO
    have hF := hF.trans f52
    refine wq_go (E := [(1, (.pointer (some ⟨b2, 0, none⟩))), (43, (.slice A21 x0.fBoxes.length c22)), (44, (.int .i64 (x0.fBoxes.length : Int))), (45, (.int .i64 (i24 : Int))), (81, (.bool true))]) hN hds ⟨hb 1 _ rfl rfl, hb 43 _ rfl rfl, hb 44 _ rfl rfl, hb 45 _ rfl rfl, (hr 31 _ _ rfl rfl), trivial⟩ ?_
    refine wq_seq ?_
    refine wc_true rfl ?_
    refine wc_seq ?_
    refine wc_region (l := [0]) rfl ?_
    refine wo_seg Θ_ok [0] [(2, (.bool false))] rfl ⟨rfl, trivial⟩ ?_
    refine wo_nil ?_
    refine wq_seq ?_
    refine wc_ret ?_
    cases h
    exact wq_block_ret (wq_then_ret (wq_then_ret (wq_block_ret (wq_then_ret (wq_ret rfl ⟨_, rfl, (bool_is.2 rfl), hF⟩)))))
  rcases bif_some h with ⟨hc54, h⟩ | ⟨hc54, h⟩
  · refine wc_draw mixed [⟨50, [], [6]⟩, ⟨51, [0], []⟩, ⟨52, [1], []⟩, ⟨53, [2], []⟩, ⟨54, [3], []⟩, ⟨55, [4], [6]⟩, ⟨56, [4, 5], []⟩, ⟨57, [4, 6], []⟩, ⟨58, [4, 7], []⟩, ⟨59, [4, 8], []⟩, ⟨60, [9], []⟩, ⟨61, [10], [6]⟩, ⟨62, [10, 11], []⟩, ⟨63, [10, 12], []⟩, ⟨64, [10, 13], []⟩, ⟨65, [10, 14], []⟩, ⟨66, [15], []⟩, ⟨67, [16], [5]⟩, ⟨68, [16, 17], []⟩, ⟨69, [16, 18], []⟩, ⟨70, [19], [1]⟩, ⟨71, [19, 20], []⟩, ⟨72, [19], [5]⟩, ⟨73, [19, 22], []⟩, ⟨74, [19, 21, 23], []⟩, ⟨75, [19, 24], []⟩, ⟨76, [19, 25], []⟩, ⟨77, [19], [6]⟩, ⟨78, [19, 27], []⟩, ⟨79, [19, 26, 28], []⟩, ⟨80, [16, 19, 29], []⟩, ⟨81, [16, 30], []⟩] [SP.eq (.pointer (some ⟨b41, 0, none⟩)), SP.eq (.int .u64 z26.fPid), SP.eq (.bool ((r_Pid z26.fPid))), SP.eq (.bool (!(r_Pid z26.fPid))), SP.eq (.bool (!(r_Pid z26.fPid))), SP.eq (.pointer (some ⟨b41, 1, none⟩)), SP.eq (.slice A44 z26.fWords.length c45), SP.eq (.int .i64 (z26.fWords.length : Int)), SP.eq (.bool ((z26.fWords.length : Int) == (0 : Int))), SP.eq (.bool ((z26.fWords.length : Int) == (0 : Int))), SP.eq (.bool ((z26.fWords.length : Int) == (0 : Int))), SP.eq (.pointer (some ⟨b41, 1, none⟩)), SP.eq (.slice A44 z26.fWords.length c45), SP.eq (.int .i64 (z26.fWords.length : Int)), SP.eq (.bool (decide ((z26.fWords.length : Int) > (4 : Int)))), SP.eq (.bool (decide ((z26.fWords.length : Int) > (4 : Int)))), SP.eq (.bool (decide ((z26.fWords.length : Int) > (4 : Int)))), SP.eq undef, SP.eq undef, SP.eq undef, SP.eq undef, SP.eq undef, SP.eq undef, SP.eq undef, SP.eq undef, SP.eq undef, SP.eq undef, SP.eq undef, SP.eq undef, SP.eq undef, SP.eq undef, SP.eq (.bool true)] rfl rfl rfl ⟨?_, ?_, ?_, ?_, ?_, ?_, ?_, ?_, ?_, ?_, ?_, ?_, ?_, ?_, ?_, ?_, ?_, ?_, ?_, ?_, ?_, ?_, ?_, ?_, ?_, ?_, ?_, ?_, ?_, ?_, ?_, ?_, trivial⟩ ?_
    · intro a w2 hfr hN hds hb hd
      exact op_plain Θ_ok ⟨hN, hds, rows_get (E := [(6, (.pointer (some ⟨b41, 0, none⟩)))]) ⟨hb 6 rfl _ rfl, trivial⟩⟩ rfl rfl rfl rfl rfl
    · intro a w2 hfr hN hds hb hd
      have hb41 := hb41.fr0 hfr
      exact op_load Θ_ok ⟨hN, hds, rows_get (E := [(50, (.pointer (some ⟨b41, 0, none⟩)))]) ⟨(hd 0 rfl _ _ rfl rfl), trivial⟩⟩ rfl rfl rfl rfl rfl rfl hb41 [(.int .u64 z26.fPid)] rfl rfl (.inr rfl) (.int .u64 z26.fPid) rfl
    · intro a w2 hfr hN hds hb hd
      exact (op_call ⟨hN, hds, rows_get (E := [(51, (.int .u64 z26.fPid))]) ⟨(hd 1 rfl _ _ rfl rfl), trivial⟩⟩ rfl rfl rfl rfl ent26 rfl (r_Pid_c (hfr.ob hO) (int_is.2 rfl))).weaken (fun u w3 ⟨hu, hf⟩ => ⟨bool_is.1 hu, hf⟩)
    · intro a w2 hfr hN hds hb hd
      exact op_plain Θ_ok ⟨hN, hds, rows_get (E := [(52, (.bool ((r_Pid z26.fPid))))]) ⟨(hd 2 rfl _ _ rfl rfl), trivial⟩⟩ rfl rfl rfl rfl rfl
    · intro a w2 hfr hN hds hb hd
      exact op_plain Θ_ok ⟨hN, hds, rows_get (E := [(53, (.bool (!(r_Pid z26.fPid))))]) ⟨(hd 3 rfl _ _ rfl rfl), trivial⟩⟩ rfl rfl rfl rfl rfl
    · intro a w2 hfr hN hds hb hd
      exact op_plain Θ_ok ⟨hN, hds, rows_get (E := [(6, (.pointer (some ⟨b41, 0, none⟩))), (54, (.bool false))]) ⟨hb 6 rfl _ rfl, ((hd 4 rfl _ _ rfl rfl).trans (congrArg _ hc48)), trivial⟩⟩ rfl rfl rfl rfl rfl
    · intro a w2 hfr hN hds hb hd
      have hb41 := hb41.fr0 hfr
      exact op_load Θ_ok ⟨hN, hds, rows_get (E := [(54, (.bool false)), (55, (.pointer (some ⟨b41, 1, none⟩)))]) ⟨((hd 4 rfl _ _ rfl rfl).trans (congrArg _ hc48)), (hd 5 rfl _ _ rfl rfl), trivial⟩⟩ rfl rfl rfl rfl rfl rfl hb41 [(.slice A44 z26.fWords.length c45)] rfl rfl (.inr rfl) (.slice A44 z26.fWords.length c45) rfl
    · intro a w2 hfr hN hds hb hd
      have h40 := h40.tr hfr.tr0
      exact op_plain Θ_ok ⟨hN, hds, rows_get (E := [(54, (.bool false)), (56, (.slice A44 z26.fWords.length c45))]) ⟨((hd 4 rfl _ _ rfl rfl).trans (congrArg _ hc48)), (hd 6 rfl _ _ rfl rfl), trivial⟩⟩ rfl rfl rfl rfl rfl
    · intro a w2 hfr hN hds hb hd
      exact op_plain Θ_ok ⟨hN, hds, rows_get (E := [(54, (.bool false)), (57, (.int .i64 (z26.fWords.length : Int)))]) ⟨((hd 4 rfl _ _ rfl rfl).trans (congrArg _ hc48)), (hd 7 rfl _ _ rfl rfl), trivial⟩⟩ rfl rfl rfl rfl rfl
    · intro a w2 hfr hN hds hb hd
      exact op_plain Θ_ok ⟨hN, hds, rows_get (E := [(54, (.bool false)), (58, (.bool ((z26.fWords.length : Int) == (0 : Int))))]) ⟨((hd 4 rfl _ _ rfl rfl).trans (congrArg _ hc48)), (hd 8 rfl _ _ rfl rfl), trivial⟩⟩ rfl rfl rfl rfl rfl
    · intro a w2 hfr hN hds hb hd
      exact op_plain Θ_ok ⟨hN, hds, rows_get (E := [(59, (.bool ((z26.fWords.length : Int) == (0 : Int))))]) ⟨(hd 9 rfl _ _ rfl rfl), trivial⟩⟩ rfl rfl rfl rfl rfl
    · intro a w2 hfr hN hds hb hd
      exact op_plain Θ_ok ⟨hN, hds, rows_get (E := [(6, (.pointer (some ⟨b41, 0, none⟩))), (60, (.bool false))]) ⟨hb 6 rfl _ rfl, ((hd 10 rfl _ _ rfl rfl).trans (congrArg _ hc51)), trivial⟩⟩ rfl rfl rfl rfl rfl
    · intro a w2 hfr hN hds hb hd
      have hb41 := hb41.fr0 hfr
      exact op_load Θ_ok ⟨hN, hds, rows_get (E := [(60, (.bool false)), (61, (.pointer (some ⟨b41, 1, none⟩)))]) ⟨((hd 10 rfl _ _ rfl rfl).trans (congrArg _ hc51)), (hd 11 rfl _ _ rfl rfl), trivial⟩⟩ rfl rfl rfl rfl rfl rfl hb41 [(.slice A44 z26.fWords.length c45)] rfl rfl (.inr rfl) (.slice A44 z26.fWords.length c45) rfl
    · intro a w2 hfr hN hds hb hd
      have h40 := h40.tr hfr.tr0
      exact op_plain Θ_ok ⟨hN, hds, rows_get (E := [(60, (.bool false)), (62, (.slice A44 z26.fWords.length c45))]) ⟨((hd 10 rfl _ _ rfl rfl).trans (congrArg _ hc51)), (hd 12 rfl _ _ rfl rfl), trivial⟩⟩ rfl rfl rfl rfl rfl
    · intro a w2 hfr hN hds hb hd
      exact op_plain Θ_ok ⟨hN, hds, rows_get (E := [(60, (.bool false)), (63, (.int .i64 (z26.fWords.length : Int)))]) ⟨((hd 10 rfl _ _ rfl rfl).trans (congrArg _ hc51)), (hd 13 rfl _ _ rfl rfl), trivial⟩⟩ rfl rfl rfl rfl rfl
    · intro a w2 hfr hN hds hb hd
      exact op_plain Θ_ok ⟨hN, hds, rows_get (E := [(60, (.bool false)), (64, (.bool (decide ((z26.fWords.length : Int) > (4 : Int)))))]) ⟨((hd 10 rfl _ _ rfl rfl).trans (congrArg _ hc51)), (hd 14 rfl _ _ rfl rfl), trivial⟩⟩ rfl rfl rfl rfl rfl
    · intro a w2 hfr hN hds hb hd
      exact op_plain Θ_ok ⟨hN, hds, rows_get (E := [(65, (.bool (decide ((z26.fWords.length : Int) > (4 : Int)))))]) ⟨(hd 15 rfl _ _ rfl rfl), trivial⟩⟩ rfl rfl rfl rfl rfl
    · intro a w2 hfr hN hds hb hd
      exact op_skip ⟨hN, hds, rows_get (E := [(5, (.int .i64 (i24 : Int))), (66, (.bool true))]) ⟨hb 5 rfl _ rfl, ((hd 16 rfl _ _ rfl rfl).trans (congrArg _ hc54)), trivial⟩⟩ rfl rfl rfl
    · intro a w2 hfr hN hds hb hd
      exact op_skip ⟨hN, hds, rows_get (E := [(66, (.bool true)), (67, undef)]) ⟨((hd 16 rfl _ _ rfl rfl).trans (congrArg _ hc54)), (hd 17 rfl _ _ rfl rfl), trivial⟩⟩ rfl rfl rfl
    · intro a w2 hfr hN hds hb hd
      exact op_skip ⟨hN, hds, rows_get (E := [(66, (.bool true)), (68, undef)]) ⟨((hd 16 rfl _ _ rfl rfl).trans (congrArg _ hc54)), (hd 18 rfl _ _ rfl rfl), trivial⟩⟩ rfl rfl rfl
    · intro a w2 hfr hN hds hb hd
      exact op_skip ⟨hN, hds, rows_get (E := [(1, (.pointer (some ⟨b2, 0, none⟩))), (69, undef)]) ⟨hb 1 rfl _ rfl, (hd 19 rfl _ _ rfl rfl), trivial⟩⟩ rfl rfl rfl
    · intro a w2 hfr hN hds hb hd
      exact op_skip ⟨hN, hds, rows_get (E := [(69, undef), (70, undef)]) ⟨(hd 19 rfl _ _ rfl rfl), (hd 20 rfl _ _ rfl rfl), trivial⟩⟩ rfl rfl rfl
    · intro a w2 hfr hN hds hb hd
      exact op_skip ⟨hN, hds, rows_get (E := [(5, (.int .i64 (i24 : Int))), (69, undef)]) ⟨hb 5 rfl _ rfl, (hd 19 rfl _ _ rfl rfl), trivial⟩⟩ rfl rfl rfl
    · intro a w2 hfr hN hds hb hd
      exact op_skip ⟨hN, hds, rows_get (E := [(69, undef), (72, undef)]) ⟨(hd 19 rfl _ _ rfl rfl), (hd 22 rfl _ _ rfl rfl), trivial⟩⟩ rfl rfl rfl
    · intro a w2 hfr hN hds hb hd
      exact op_skip ⟨hN, hds, rows_get (E := [(69, undef), (71, undef), (73, undef)]) ⟨(hd 19 rfl _ _ rfl rfl), (hd 21 rfl _ _ rfl rfl), (hd 23 rfl _ _ rfl rfl), trivial⟩⟩ rfl rfl rfl
    · intro a w2 hfr hN hds hb hd
      exact op_skip ⟨hN, hds, rows_get (E := [(69, undef), (74, undef)]) ⟨(hd 19 rfl _ _ rfl rfl), (hd 24 rfl _ _ rfl rfl), trivial⟩⟩ rfl rfl rfl
    · intro a w2 hfr hN hds hb hd
      exact op_skip ⟨hN, hds, rows_get (E := [(69, undef), (75, undef)]) ⟨(hd 19 rfl _ _ rfl rfl), (hd 25 rfl _ _ rfl rfl), trivial⟩⟩ rfl rfl rfl
    · intro a w2 hfr hN hds hb hd
      exact op_skip ⟨hN, hds, rows_get (E := [(6, (.pointer (some ⟨b41, 0, none⟩))), (69, undef)]) ⟨hb 6 rfl _ rfl, (hd 19 rfl _ _ rfl rfl), trivial⟩⟩ rfl rfl rfl
    · intro a w2 hfr hN hds hb hd
      exact op_skip ⟨hN, hds, rows_get (E := [(69, undef), (77, undef)]) ⟨(hd 19 rfl _ _ rfl rfl), (hd 27 rfl _ _ rfl rfl), trivial⟩⟩ rfl rfl rfl
    · intro a w2 hfr hN hds hb hd
      exact op_skip ⟨hN, hds, rows_get (E := [(69, undef), (76, undef), (78, undef)]) ⟨(hd 19 rfl _ _ rfl rfl), (hd 26 rfl _ _ rfl rfl), (hd 28 rfl _ _ rfl rfl), trivial⟩⟩ rfl rfl rfl
    · intro a w2 hfr hN hds hb hd
      exact op_skip ⟨hN, hds, rows_get (E := [(66, (.bool true)), (69, undef), (79, undef)]) ⟨((hd 16 rfl _ _ rfl rfl).trans (congrArg _ hc54)), (hd 19 rfl _ _ rfl rfl), (hd 29 rfl _ _ rfl rfl), trivial⟩⟩ rfl rfl rfl
    · intro a w2 hfr hN hds hb hd
      exact op_plain Θ_ok ⟨hN, hds, rows_get (E := [(66, (.bool true)), (80, undef)]) ⟨((hd 16 rfl _ _ rfl rfl).trans (congrArg _ hc54)), (hd 30 rfl _ _ rfl rfl), trivial⟩⟩ rfl rfl rfl rfl rfl
    intro a w56 f55 hN hds hb hr
    have h0_2 := h0_2.tr f55.tr0
    have h0_1 := h0_1.tr f55.tr0
    have hb2 := hb2.fr0 f55
    have T12 := T12.trans f55.tr0
    have T23 := T23.trans f55.tr0
    have hO := f55.ob hO
    have hF := hF.trans f55
    refine wq_go (E := [(1, (.pointer (some ⟨b2, 0, none⟩))), (43, (.slice A21 x0.fBoxes.length c22)), (44, (.int .i64 (x0.fBoxes.length : Int))), (45, (.int .i64 (i24 : Int))), (81, (.bool true))]) hN hds ⟨hb 1 _ rfl rfl, hb 43 _ rfl rfl, hb 44 _ rfl rfl, hb 45 _ rfl rfl, (hr 31 _ _ rfl rfl), trivial⟩ ?_
    refine wq_seq ?_
    refine wc_true rfl ?_
    refine wc_seq ?_
    refine wc_region (l := [0]) rfl ?_
    refine wo_seg Θ_ok [0] [(2, (.bool false))] rfl ⟨rfl, trivial⟩ ?_
    refine wo_nil ?_
    refine wq_seq ?_
    refine wc_ret ?_
    cases h
    exact wq_block_ret (wq_then_ret (wq_then_ret (wq_block_ret (wq_then_ret (wq_ret rfl ⟨_, rfl, (bool_is.2 rfl), hF⟩)))))
  rcases bif_some h with ⟨hc57, h⟩ | ⟨hc57, h⟩
  rotate_left
  · refine wc_draw mixed [⟨50, [], [6]⟩, ⟨51, [0], []⟩, ⟨52, [1], []⟩, ⟨53, [2], []⟩, ⟨54, [3], []⟩, ⟨55, [4], [6]⟩, ⟨56, [4, 5], []⟩, ⟨57, [4, 6], []⟩, ⟨58, [4, 7], []⟩, ⟨59, [4, 8], []⟩, ⟨60, [9], []⟩, ⟨61, [10], [6]⟩, ⟨62, [10, 11], []⟩, ⟨63, [10, 12], []⟩, ⟨64, [10, 13], []⟩, ⟨65, [10, 14], []⟩, ⟨66, [15], []⟩, ⟨67, [16], [5]⟩, ⟨68, [16, 17], []⟩, ⟨69, [16, 18], []⟩, ⟨70, [19], [1]⟩, ⟨71, [19, 20], []⟩, ⟨72, [19], [5]⟩, ⟨73, [19, 22], []⟩, ⟨74, [19, 21, 23], []⟩, ⟨75, [19, 24], []⟩, ⟨76, [19, 25], []⟩, ⟨77, [19], [6]⟩, ⟨78, [19, 27], []⟩, ⟨79, [19, 26, 28], []⟩, ⟨80, [16, 19, 29], []⟩, ⟨81, [16, 30], []⟩] [SP.eq (.pointer (some ⟨b41, 0, none⟩)), SP.eq (.int .u64 z26.fPid), SP.eq (.bool ((r_Pid z26.fPid))), SP.eq (.bool (!(r_Pid z26.fPid))), SP.eq (.bool (!(r_Pid z26.fPid))), SP.eq (.pointer (some ⟨b41, 1, none⟩)), SP.eq (.slice A44 z26.fWords.length c45), SP.eq (.int .i64 (z26.fWords.length : Int)), SP.eq (.bool ((z26.fWords.length : Int) == (0 : Int))), SP.eq (.bool ((z26.fWords.length : Int) == (0 : Int))), SP.eq (.bool ((z26.fWords.length : Int) == (0 : Int))), SP.eq (.pointer (some ⟨b41, 1, none⟩)), SP.eq (.slice A44 z26.fWords.length c45), SP.eq (.int .i64 (z26.fWords.length : Int)), SP.eq (.bool (decide ((z26.fWords.length : Int) > (4 : Int)))), SP.eq (.bool (decide ((z26.fWords.length : Int) > (4 : Int)))), SP.eq (.bool (decide ((z26.fWords.length : Int) > (4 : Int)))), SP.eq (.int .i64 (i24 : Int)), SP.eq (.bool (decide ((i24 : Int) > (0 : Int)))), SP.eq (.bool (decide ((i24 : Int) > (0 : Int)))), SP.eq undef, SP.eq undef, SP.eq undef, SP.eq undef, SP.eq undef, SP.eq undef, SP.eq undef, SP.eq undef, SP.eq undef, SP.eq undef, SP.eq (.bool false), SP.eq (.bool false)] rfl rfl rfl ⟨?_, ?_, ?_, ?_, ?_, ?_, ?_, ?_, ?_, ?_, ?_, ?_, ?_, ?_, ?_, ?_, ?_, ?_, ?_, ?_, ?_, ?_, ?_, ?_, ?_, ?_, ?_, ?_, ?_, ?_, ?_, ?_, trivial⟩ ?_
    · intro a w2 hfr hN hds hb hd
      exact op_plain Θ_ok ⟨hN, hds, rows_get (E := [(6, (.pointer (some ⟨b41, 0, none⟩)))]) ⟨hb 6 rfl _ rfl, trivial⟩⟩ rfl rfl rfl rfl rfl
    · intro a w2 hfr hN hds hb hd
      have hb41 := hb41.fr0 hfr
      exact op_load Θ_ok ⟨hN, hds, rows_get (E := [(50, (.pointer (some ⟨b41, 0, none⟩)))]) ⟨(hd 0 rfl _ _ rfl rfl), trivial⟩⟩ rfl rfl rfl rfl rfl rfl hb41 [(.int .u64 z26.fPid)] rfl rfl (.inr rfl) (.int .u64 z26.fPid) rfl
    · intro a w2 hfr hN hds hb hd
      exact (op_call ⟨hN, hds, rows_get (E := [(51, (.int .u64 z26.fPid))]) ⟨(hd 1 rfl _ _ rfl rfl), trivial⟩⟩ rfl rfl rfl rfl ent26 rfl (r_Pid_c (hfr.ob hO) (int_is.2 rfl))).weaken (fun u w3 ⟨hu, hf⟩ => ⟨bool_is.1 hu, hf⟩)
    · intro a w2 hfr hN hds hb hd
      exact op_plain Θ_ok ⟨hN, hds, rows_get (E := [(52, (.bool ((r_Pid z26.fPid))))]) ⟨(hd 2 rfl _ _ rfl rfl), trivial⟩⟩ rfl rfl rfl rfl rfl
    · intro a w2 hfr hN hds hb hd
      exact op_plain Θ_ok ⟨hN, hds, rows_get (E := [(53, (.bool (!(r_Pid z26.fPid))))]) ⟨(hd 3 rfl _ _ rfl rfl), trivial⟩⟩ rfl rfl rfl rfl rfl
    · intro a w2 hfr hN hds hb hd
      exact op_plain Θ_ok ⟨hN, hds, rows_get (E := [(6, (.pointer (some ⟨b41, 0, none⟩))), (54, (.bool false))]) ⟨hb 6 rfl _ rfl, ((hd 4 rfl _ _ rfl rfl).trans (congrArg _ hc48)), trivial⟩⟩ rfl rfl rfl rfl rfl
    · intro a w2 hfr hN hds hb hd
      have hb41 := hb41.fr0 hfr
      exact op_load Θ_ok ⟨hN, hds, rows_get (E := [(54, (.bool false)), (55, (.pointer (some ⟨b41, 1, none⟩)))]) ⟨((hd 4 rfl _ _ rfl rfl).trans (congrArg _ hc48)), (hd 5 rfl _ _ rfl rfl), trivial⟩⟩ rfl rfl rfl rfl rfl rfl hb41 [(.slice A44 z26.fWords.length c45)] rfl rfl (.inr rfl) (.slice A44 z26.fWords.length c45) rfl
    · intro a w2 hfr hN hds hb hd
      have h40 := h40.tr hfr.tr0
      exact op_plain Θ_ok ⟨hN, hds, rows_get (E := [(54, (.bool false)), (56, (.slice A44 z26.fWords.length c45))]) ⟨((hd 4 rfl _ _ rfl rfl).trans (congrArg _ hc48)), (hd 6 rfl _ _ rfl rfl), trivial⟩⟩ rfl rfl rfl rfl rfl
    · intro a w2 hfr hN hds hb hd
      exact op_plain Θ_ok ⟨hN, hds, rows_get (E := [(54, (.bool false)), (57, (.int .i64 (z26.fWords.length : Int)))]) ⟨((hd 4 rfl _ _ rfl rfl).trans (congrArg _ hc48)), (hd 7 rfl _ _ rfl rfl), trivial⟩⟩ rfl rfl rfl rfl rfl
    · intro a w2 hfr hN hds hb hd
      exact op_plain Θ_ok ⟨hN, hds, rows_get (E := [(54, (.bool false)), (58, (.bool ((z26.fWords.length : Int) == (0 : Int))))]) ⟨((hd 4 rfl _ _ rfl rfl).trans (congrArg _ hc48)), (hd 8 rfl _ _ rfl rfl), trivial⟩⟩ rfl rfl rfl rfl rfl
    · intro a w2 hfr hN hds hb hd
      exact op_plain Θ_ok ⟨hN, hds, rows_get (E := [(59, (.bool ((z26.fWords.length : Int) == (0 : Int))))]) ⟨(hd 9 rfl _ _ rfl rfl), trivial⟩⟩ rfl rfl rfl rfl rfl
    · intro a w2 hfr hN hds hb hd
      exact op_plain Θ_ok ⟨hN, hds, rows_get (E := [(6, (.pointer (some ⟨b41, 0, none⟩))), (60, (.bool false))]) ⟨hb 6 rfl _ rfl, ((hd 10 rfl _ _ rfl rfl).trans (congrArg _ hc51)), trivial⟩⟩ rfl rfl rfl rfl rfl
    · intro a w2 hfr hN hds hb hd
      have hb41 := hb41.fr0 hfr
      exact op_load Θ_ok ⟨hN, hds, rows_get (E := [(60, (.bool false)), (61, (.pointer (some ⟨b41, 1, none⟩)))]) ⟨((hd 10 rfl _ _ rfl rfl).trans (congrArg _ hc51)), (hd 11 rfl _ _ rfl rfl), trivial⟩⟩ rfl rfl rfl rfl rfl rfl hb41 [(.slice A44 z26.fWords.length c45)] rfl rfl (.inr rfl) (.slice A44 z26.fWords.length c45) rfl
    · intro a w2 hfr hN hds hb hd
      have h40 := h40.tr hfr.tr0
      exact op_plain Θ_ok ⟨hN, hds, rows_get (E := [(60, (.bool false)), (62, (.slice A44 z26.fWords.length c45))]) ⟨((hd 10 rfl _ _ rfl rfl).trans (congrArg _ hc51)), (hd 12 rfl _ _ rfl rfl), trivial⟩⟩ rfl rfl rfl rfl rfl
    · intro a w2 hfr hN hds hb hd
      exact op_plain Θ_ok ⟨hN, hds, rows_get (E := [(60, (.bool false)), (63, (.int .i64 (z26.fWords.length : Int)))]) ⟨((hd 10 rfl _ _ rfl rfl).trans (congrArg _ hc51)), (hd 13 rfl _ _ rfl rfl), trivial⟩⟩ rfl rfl rfl rfl rfl
    · intro a w2 hfr hN hds hb hd
      exact op_plain Θ_ok ⟨hN, hds, rows_get (E := [(60, (.bool false)), (64, (.bool (decide ((z26.fWords.length : Int) > (4 : Int)))))]) ⟨((hd 10 rfl _ _ rfl rfl).trans (congrArg _ hc51)), (hd 14 rfl _ _ rfl rfl), trivial⟩⟩ rfl rfl rfl rfl rfl
    · intro a w2 hfr hN hds hb hd
      exact op_plain Θ_ok ⟨hN, hds, rows_get (E := [(65, (.bool (decide ((z26.fWords.length : Int) > (4 : Int)))))]) ⟨(hd 15 rfl _ _ rfl rfl), trivial⟩⟩ rfl rfl rfl rfl rfl
    · intro a w2 hfr hN hds hb hd
      exact op_plain Θ_ok ⟨hN, hds, rows_get (E := [(5, (.int .i64 (i24 : Int))), (66, (.bool false))]) ⟨hb 5 rfl _ rfl, ((hd 16 rfl _ _ rfl rfl).trans (congrArg _ hc54)), trivial⟩⟩ rfl rfl rfl rfl rfl
    · intro a w2 hfr hN hds hb hd
      exact op_plain Θ_ok ⟨hN, hds, rows_get (E := [(66, (.bool false)), (67, (.int .i64 (i24 : Int)))]) ⟨((hd 16 rfl _ _ rfl rfl).trans (congrArg _ hc54)), (hd 17 rfl _ _ rfl rfl), trivial⟩⟩ rfl rfl rfl rfl rfl
    · intro a w2 hfr hN hds hb hd
      exact op_plain Θ_ok ⟨hN, hds, rows_get (E := [(66, (.bool false)), (68, (.bool (decide ((i24 : Int) > (0 : Int)))))]) ⟨((hd 16 rfl _ _ rfl rfl).trans (congrArg _ hc54)), (hd 18 rfl _ _ rfl rfl), trivial⟩⟩ rfl rfl rfl rfl rfl
    · intro a w2 hfr hN hds hb hd
      exact op_skip ⟨hN, hds, rows_get (E := [(1, (.pointer (some ⟨b2, 0, none⟩))), (69, (.bool false))]) ⟨hb 1 rfl _ rfl, ((hd 19 rfl _ _ rfl rfl).trans (congrArg _ hc57)), trivial⟩⟩ rfl rfl rfl
    · intro a w2 hfr hN hds hb hd
      exact op_skip ⟨hN, hds, rows_get (E := [(69, (.bool false)), (70, undef)]) ⟨((hd 19 rfl _ _ rfl rfl).trans (congrArg _ hc57)), (hd 20 rfl _ _ rfl rfl), trivial⟩⟩ rfl rfl rfl
    · intro a w2 hfr hN hds hb hd
      exact op_skip ⟨hN, hds, rows_get (E := [(5, (.int .i64 (i24 : Int))), (69, (.bool false))]) ⟨hb 5 rfl _ rfl, ((hd 19 rfl _ _ rfl rfl).trans (congrArg _ hc57)), trivial⟩⟩ rfl rfl rfl
    · intro a w2 hfr hN hds hb hd
      exact op_skip ⟨hN, hds, rows_get (E := [(69, (.bool false)), (72, undef)]) ⟨((hd 19 rfl _ _ rfl rfl).trans (congrArg _ hc57)), (hd 22 rfl _ _ rfl rfl), trivial⟩⟩ rfl rfl rfl
    · intro a w2 hfr hN hds hb hd
      exact op_skip ⟨hN, hds, rows_get (E := [(69, (.bool false)), (71, undef), (73, undef)]) ⟨((hd 19 rfl _ _ rfl rfl).trans (congrArg _ hc57)), (hd 21 rfl _ _ rfl rfl), (hd 23 rfl _ _ rfl rfl), trivial⟩⟩ rfl rfl rfl
    · intro a w2 hfr hN hds hb hd
      exact op_skip ⟨hN, hds, rows_get (E := [(69, (.bool false)), (74, undef)]) ⟨((hd 19 rfl _ _ rfl rfl).trans (congrArg _ hc57)), (hd 24 rfl _ _ rfl rfl), trivial⟩⟩ rfl rfl rfl
    · intro a w2 hfr hN hds hb hd
      exact op_skip ⟨hN, hds, rows_get (E := [(69, (.bool false)), (75, undef)]) ⟨((hd 19 rfl _ _ rfl rfl).trans (congrArg _ hc57)), (hd 25 rfl _ _ rfl rfl), trivial⟩⟩ rfl rfl rfl
    · intro a w2 hfr hN hds hb hd
      exact op_skip ⟨hN, hds, rows_get (E := [(6, (.pointer (some ⟨b41, 0, none⟩))), (69, (.bool false))]) ⟨hb 6 rfl _ rfl, ((hd 19 rfl _ _ rfl rfl).trans (congrArg _ hc57)), trivial⟩⟩ rfl rfl rfl
    · intro a w2 hfr hN hds hb hd
      exact op_skip ⟨hN, hds, rows_get (E := [(69, (.bool false)), (77, undef)]) ⟨((hd 19 rfl _ _ rfl rfl).trans (congrArg _ hc57)), (hd 27 rfl _ _ rfl rfl), trivial⟩⟩ rfl rfl rfl
    · intro a w2 hfr hN hds hb hd
      exact op_skip ⟨hN, hds, rows_get (E := [(69, (.bool false)), (76, undef), (78, undef)]) ⟨((hd 19 rfl _ _ rfl rfl).trans (congrArg _ hc57)), (hd 26 rfl _ _ rfl rfl), (hd 28 rfl _ _ rfl rfl), trivial⟩⟩ rfl rfl rfl
    · intro a w2 hfr hN hds hb hd
      exact op_plain Θ_ok ⟨hN, hds, rows_get (E := [(66, (.bool false)), (69, (.bool false)), (79, undef)]) ⟨((hd 16 rfl _ _ rfl rfl).trans (congrArg _ hc54)), ((hd 19 rfl _ _ rfl rfl).trans (congrArg _ hc57)), (hd 29 rfl _ _ rfl rfl), trivial⟩⟩ rfl rfl rfl rfl rfl
    · intro a w2 hfr hN hds hb hd
      exact op_plain Θ_ok ⟨hN, hds, rows_get (E := [(66, (.bool false)), (80, (.bool false))]) ⟨((hd 16 rfl _ _ rfl rfl).trans (congrArg _ hc54)), (hd 30 rfl _ _ rfl rfl), trivial⟩⟩ rfl rfl rfl rfl rfl
    intro a w72 f71 hN hds hb hr
    have h0_2 := h0_2.tr f71.tr0
    have h0_1 := h0_1.tr f71.tr0
    have hb2 := hb2.fr0 f71
    have T12 := T12.trans f71.tr0
    have T23 := T23.trans f71.tr0
    have hO := f71.ob hO
    have hF := hF.trans f71
    refine wq_go (E := [(1, (.pointer (some ⟨b2, 0, none⟩))), (43, (.slice A21 x0.fBoxes.length c22)), (44, (.int .i64 (x0.fBoxes.length : Int))), (45, (.int .i64 (i24 : Int))), (81, (.bool false))]) hN hds ⟨hb 1 _ rfl rfl, hb 43 _ rfl rfl, hb 44 _ rfl rfl, hb 45 _ rfl rfl, (hr 31 _ _ rfl rfl), trivial⟩ ?_
    refine wq_seq ?_
    refine wc_false rfl ?_
    refine wc_skip ?_
    refine wq_block (wq_seq ?_)
    refine wc_region (l := [0, 1]) rfl ?_
    refine wo_seg Θ_ok [0, 1] [(1, (.pointer (some ⟨b2, 0, none⟩))), (43, (.slice A21 x0.fBoxes.length c22)), (44, (.int .i64 (x0.fBoxes.length : Int))), (45, (.int .i64 (IntKind.i64.wrap ((i24 : Int) + (1 : Int)))))] rfl ⟨rfl, rfl, rfl, rfl, trivial⟩ ?_
    refine wo_nil ?_
    exact wq_next rest25.length [(1, (.pointer (some ⟨b2, 0, none⟩))), (43, (.slice A21 x0.fBoxes.length c22)), (44, (.int .i64 (x0.fBoxes.length : Int))), (45, (.int .i64 ((i24 + 1 : Nat) : Int)))] (Nat.lt_succ_self _) ⟨rfl, rfl, rfl, congrArg (fun z => some (Value.int .i64 z)) (wrap_succ hl34 (Nat.le_trans hlc22 hmc22)), trivial⟩ ⟨rest25, i24 + 1, b41 :: O28, rfl, hd27, rfl, T23, hO, hS, hF, ib2, hb2, h⟩
  obtain ⟨y58, hz59, h⟩ := bind_some h
  refine wc_draw mixed [⟨50, [], [6]⟩, ⟨51, [0], []⟩, ⟨52, [1], []⟩, ⟨53, [2], []⟩, ⟨54, [3], []⟩, ⟨55, [4], [6]⟩, ⟨56, [4, 5], []⟩, ⟨57, [4, 6], []⟩, ⟨58, [4, 7], []⟩, ⟨59, [4, 8], []⟩, ⟨60, [9], []⟩, ⟨61, [10], [6]⟩, ⟨62, [10, 11], []⟩, ⟨63, [10, 12], []⟩, ⟨64, [10, 13], []⟩, ⟨65, [10, 14], []⟩, ⟨66, [15], []⟩, ⟨67, [16], [5]⟩, ⟨68, [16, 17], []⟩, ⟨69, [16, 18], []⟩, ⟨70, [19], [1]⟩, ⟨71, [19, 20], []⟩, ⟨72, [19], [5]⟩, ⟨73, [19, 22], []⟩, ⟨74, [19, 21, 23], []⟩, ⟨75, [19, 24], []⟩, ⟨76, [19, 25], []⟩, ⟨77, [19], [6]⟩, ⟨78, [19, 27], []⟩, ⟨79, [19, 26, 28], []⟩, ⟨80, [16, 19, 29], []⟩, ⟨81, [16, 30], []⟩] [SP.eq (.pointer (some ⟨b41, 0, none⟩)), SP.eq (.int .u64 z26.fPid), SP.eq (.bool ((r_Pid z26.fPid))), SP.eq (.bool (!(r_Pid z26.fPid))), SP.eq (.bool (!(r_Pid z26.fPid))), SP.eq (.pointer (some ⟨b41, 1, none⟩)), SP.eq (.slice A44 z26.fWords.length c45), SP.eq (.int .i64 (z26.fWords.length : Int)), SP.eq (.bool ((z26.fWords.length : Int) == (0 : Int))), SP.eq (.bool ((z26.fWords.length : Int) == (0 : Int))), SP.eq (.bool ((z26.fWords.length : Int) == (0 : Int))), SP.eq (.pointer (some ⟨b41, 1, none⟩)), SP.eq (.slice A44 z26.fWords.length c45), SP.eq (.int .i64 (z26.fWords.length : Int)), SP.eq (.bool (decide ((z26.fWords.length : Int) > (4 : Int)))), SP.eq (.bool (decide ((z26.fWords.length : Int) > (4 : Int)))), SP.eq (.bool (decide ((z26.fWords.length : Int) > (4 : Int)))), SP.eq (.int .i64 (i24 : Int)), SP.eq (.bool (decide ((i24 : Int) > (0 : Int)))), SP.eq (.bool (decide ((i24 : Int) > (0 : Int)))), SP.eq (.pointer (some ⟨b2, 1, none⟩)), SP.eq (.slice A21 x0.fBoxes.length c22), SP.eq (.int .i64 (i24 : Int)), SP.eq (.int .i64 (IntKind.i64.wrap ((i24 : Int) - (1 : Int)))), SP.is (Ty.ptr tGBox) (b41 :: O28) y58, SP.is (Ty.ptr (Ty.int .u64)) (b41 :: O28) y58.fPid, SP.eq (.int .u64 y58.fPid), SP.eq (.pointer (some ⟨b41, 0, none⟩)), SP.eq (.int .u64 z26.fPid), SP.eq (.bool (decide (y58.fPid ≥ z26.fPid))), SP.eq (.bool (decide (y58.fPid ≥ z26.fPid))), SP.eq (.bool (decide (y58.fPid ≥ z26.fPid)))] rfl rfl rfl ⟨?_, ?_, ?_, ?_, ?_, ?_, ?_, ?_, ?_, ?_, ?_, ?_, ?_, ?_, ?_, ?_, ?_, ?_, ?_, ?_, ?_, ?_, ?_, ?_, ?_, ?_, ?_, ?_, ?_, ?_, ?_, ?_, trivial⟩ ?_
  · intro a w2 hfr hN hds hb hd
    exact op_plain Θ_ok ⟨hN, hds, rows_get (E := [(6, (.pointer (some ⟨b41, 0, none⟩)))]) ⟨hb 6 rfl _ rfl, trivial⟩⟩ rfl rfl rfl rfl rfl
  · intro a w2 hfr hN hds hb hd
    have hb41 := hb41.fr0 hfr
    exact op_load Θ_ok ⟨hN, hds, rows_get (E := [(50, (.pointer (some ⟨b41, 0, none⟩)))]) ⟨(hd 0 rfl _ _ rfl rfl), trivial⟩⟩ rfl rfl rfl rfl rfl rfl hb41 [(.int .u64 z26.fPid)] rfl rfl (.inr rfl) (.int .u64 z26.fPid) rfl
  · intro a w2 hfr hN hds hb hd
    exact (op_call ⟨hN, hds, rows_get (E := [(51, (.int .u64 z26.fPid))]) ⟨(hd 1 rfl _ _ rfl rfl), trivial⟩⟩ rfl rfl rfl rfl ent26 rfl (r_Pid_c (hfr.ob hO) (int_is.2 rfl))).weaken (fun u w3 ⟨hu, hf⟩ => ⟨bool_is.1 hu, hf⟩)
  · intro a w2 hfr hN hds hb hd
    exact op_plain Θ_ok ⟨hN, hds, rows_get (E := [(52, (.bool ((r_Pid z26.fPid))))]) ⟨(hd 2 rfl _ _ rfl rfl), trivial⟩⟩ rfl rfl rfl rfl rfl
  · intro a w2 hfr hN hds hb hd
    exact op_plain Θ_ok ⟨hN, hds, rows_get (E := [(53, (.bool (!(r_Pid z26.fPid))))]) ⟨(hd 3 rfl _ _ rfl rfl), trivial⟩⟩ rfl rfl rfl rfl rfl
  · intro a w2 hfr hN hds hb hd
    exact op_plain Θ_ok ⟨hN, hds, rows_get (E := [(6, (.pointer (some ⟨b41, 0, none⟩))), (54, (.bool false))]) ⟨hb 6 rfl _ rfl, ((hd 4 rfl _ _ rfl rfl).trans (congrArg _ hc48)), trivial⟩⟩ rfl rfl rfl rfl rfl
  · intro a w2 hfr hN hds hb hd
    have hb41 := hb41.fr0 hfr
    exact op_load Θ_ok ⟨hN, hds, rows_get (E := [(54, (.bool false)), (55, (.pointer (some ⟨b41, 1, none⟩)))]) ⟨((hd 4 rfl _ _ rfl rfl).trans (congrArg _ hc48)), (hd 5 rfl _ _ rfl rfl), trivial⟩⟩ rfl rfl rfl rfl rfl rfl hb41 [(.slice A44 z26.fWords.length c45)] rfl rfl (.inr rfl) (.slice A44 z26.fWords.length c45) rfl
  · intro a w2 hfr hN hds hb hd
    have h40 := h40.tr hfr.tr0
    exact op_plain Θ_ok ⟨hN, hds, rows_get (E := [(54, (.bool false)), (56, (.slice A44 z26.fWords.length c45))]) ⟨((hd 4 rfl _ _ rfl rfl).trans (congrArg _ hc48)), (hd 6 rfl _ _ rfl rfl), trivial⟩⟩ rfl rfl rfl rfl rfl
  · intro a w2 hfr hN hds hb hd
    exact op_plain Θ_ok ⟨hN, hds, rows_get (E := [(54, (.bool false)), (57, (.int .i64 (z26.fWords.length : Int)))]) ⟨((hd 4 rfl _ _ rfl rfl).trans (congrArg _ hc48)), (hd 7 rfl _ _ rfl rfl), trivial⟩⟩ rfl rfl rfl rfl rfl
  · intro a w2 hfr hN hds hb hd
    exact op_plain Θ_ok ⟨hN, hds, rows_get (E := [(54, (.bool false)), (58, (.bool ((z26.fWords.length : Int) == (0 : Int))))]) ⟨((hd 4 rfl _ _ rfl rfl).trans (congrArg _ hc48)), (hd 8 rfl _ _ rfl rfl), trivial⟩⟩ rfl rfl rfl rfl rfl
  · intro a w2 hfr hN hds hb hd
    exact op_plain Θ_ok ⟨hN, hds, rows_get (E := [(59, (.bool ((z26.fWords.length : Int) == (0 : Int))))]) ⟨(hd 9 rfl _ _ rfl rfl), trivial⟩⟩ rfl rfl rfl rfl rfl
  · intro a w2 hfr hN hds hb hd
    exact op_plain Θ_ok ⟨hN, hds, rows_get (E := [(6, (.pointer (some ⟨b41, 0, none⟩))), (60, (.bool false))]) ⟨hb 6 rfl _ rfl, ((hd 10 rfl _ _ rfl rfl).trans (congrArg _ hc51)), trivial⟩⟩ rfl rfl rfl rfl rfl
  · intro a w2 hfr hN hds hb hd
    have hb41 := hb41.fr0 hfr
    exact op_load Θ_ok ⟨hN, hds, rows_get (E := [(60, (.bool false)), (61, (.pointer (some ⟨b41, 1, none⟩)))]) ⟨((hd 10 rfl _ _ rfl rfl).trans (congrArg _ hc51)), (hd 11 rfl _ _ rfl rfl), trivial⟩⟩ rfl rfl rfl rfl rfl rfl hb41 [(.slice A44 z26.fWords.length c45)] rfl rfl (.inr rfl) (.slice A44 z26.fWords.length c45) rfl
  · intro a w2 hfr hN hds hb hd
    have h40 := h40.tr hfr.tr0
    exact op_plain Θ_ok ⟨hN, hds, rows_get (E := [(60, (.bool false)), (62, (.slice A44 z26.fWords.length c45))]) ⟨((hd 10 rfl _ _ rfl rfl).trans (congrArg _ hc51)), (hd 12 rfl _ _ rfl rfl), trivial⟩⟩ rfl rfl rfl rfl rfl
  · intro a w2 hfr hN hds hb hd
    exact op_plain Θ_ok ⟨hN, hds, rows_get (E := [(60, (.bool false)), (63, (.int .i64 (z26.fWords.length : Int)))]) ⟨((hd 10 rfl _ _ rfl rfl).trans (congrArg _ hc51)), (hd 13 rfl _ _ rfl rfl), trivial⟩⟩ rfl rfl rfl rfl rfl
  · intro a w2 hfr hN hds hb hd
    exact op_plain Θ_ok ⟨hN, hds, rows_get (E := [(60, (.bool false)), (64, (.bool (decide ((z26.fWords.length : Int) > (4 : Int)))))]) ⟨((hd 10 rfl _ _ rfl rfl).trans (congrArg _ hc51)), (hd 14 rfl _ _ rfl rfl), trivial⟩⟩ rfl rfl rfl rfl rfl
  · intro a w2 hfr hN hds hb hd
    exact op_plain Θ_ok ⟨hN, hds, rows_get (E := [(65, (.bool (decide ((z26.fWords.length : Int) > (4 : Int)))))]) ⟨(hd 15 rfl _ _ rfl rfl), trivial⟩⟩ rfl rfl rfl rfl rfl
  · intro a w2 hfr hN hds hb hd
    exact op_plain Θ_ok ⟨hN, hds, rows_get (E := [(5, (.int .i64 (i24 : Int))), (66, (.bool false))]) ⟨hb 5 rfl _ rfl, ((hd 16 rfl _ _ rfl rfl).trans (congrArg _ hc54)), trivial⟩⟩ rfl rfl rfl rfl rfl
  · intro a w2 hfr hN hds hb hd
    exact op_plain Θ_ok ⟨hN, hds, rows_get (E := [(66, (.bool false)), (67, (.int .i64 (i24 : Int)))]) ⟨((hd 16 rfl _ _ rfl rfl).trans (congrArg _ hc54)), (hd 17 rfl _ _ rfl rfl), trivial⟩⟩ rfl rfl rfl rfl rfl
  · intro a w2 hfr hN hds hb hd
    exact op_plain Θ_ok ⟨hN, hds, rows_get (E := [(66, (.bool false)), (68, (.bool (decide ((i24 : Int) > (0 : Int)))))]) ⟨((hd 16 rfl _ _ rfl rfl).trans (congrArg _ hc54)), (hd 18 rfl _ _ rfl rfl), trivial⟩⟩ rfl rfl rfl rfl rfl
  · intro a w2 hfr hN hds hb hd
    exact op_plain Θ_ok ⟨hN, hds, rows_get (E := [(1, (.pointer (some ⟨b2, 0, none⟩))), (69, (.bool true))]) ⟨hb 1 rfl _ rfl, ((hd 19 rfl _ _ rfl rfl).trans (congrArg _ hc57)), trivial⟩⟩ rfl rfl rfl rfl rfl
  · intro a w2 hfr hN hds hb hd
    have hb2 := hb2.fr0 hfr
    exact op_load Θ_ok ⟨hN, hds, rows_get (E := [(69, (.bool true)), (70, (.pointer (some ⟨b2, 1, none⟩)))]) ⟨((hd 19 rfl _ _ rfl rfl).trans (congrArg _ hc57)), (hd 20 rfl _ _ rfl rfl), trivial⟩⟩ rfl rfl rfl rfl rfl rfl hb2 [(.slice A21 x0.fBoxes.length c22)] rfl rfl (.inr rfl) (.slice A21 x0.fBoxes.length c22) rfl
  · intro a w2 hfr hN hds hb hd
    exact op_plain Θ_ok ⟨hN, hds, rows_get (E := [(5, (.int .i64 (i24 : Int))), (69, (.bool true))]) ⟨hb 5 rfl _ rfl, ((hd 19 rfl _ _ rfl rfl).trans (congrArg _ hc57)), trivial⟩⟩ rfl rfl rfl rfl rfl
  · intro a w2 hfr hN hds hb hd
    exact op_plain Θ_ok ⟨hN, hds, rows_get (E := [(69, (.bool true)), (72, (.int .i64 (i24 : Int)))]) ⟨((hd 19 rfl _ _ rfl rfl).trans (congrArg _ hc57)), (hd 22 rfl _ _ rfl rfl), trivial⟩⟩ rfl rfl rfl rfl rfl
  · intro a w2 hfr hN hds hb hd
    have h0_2 := h0_2.tr hfr.tr0
    exact op_index (j := (IntKind.i64.wrap ((i24 : Int) - (1 : Int)))) Θ_ok ⟨hN, hds, rows_get (E := [(69, (.bool true)), (71, (.slice A21 x0.fBoxes.length c22)), (73, (.int .i64 (IntKind.i64.wrap ((i24 : Int) - (1 : Int)))))]) ⟨((hd 19 rfl _ _ rfl rfl).trans (congrArg _ hc57)), (hd 21 rfl _ _ rfl rfl), (hd 23 rfl _ _ rfl rfl), trivial⟩⟩ rfl rfl rfl rfl rfl rfl rfl rfl rfl h0_2 rfl (idx_some hz59).1 (idx_some hz59).2
  · intro a w2 hfr hN hds hb hd
    have d62 : (Ty.ptr tGBox).is (b41 :: O28) w2 (a.tmps.getD 74 undef) y58 := hd 24 rfl _ _ rfl rfl
    obtain ⟨u60, e61⟩ : ∃ v, a.tmps.getD 74 undef = v := ⟨_, rfl⟩
    rw [e61] at d62
    obtain ⟨ad63, rfl⟩ := ptr_form d62
    have h64 := ptr_sub (S := (Ty.int .u64)) (off := 0) (y := y58.fPid) d62 (fun cs hr => by obtain ⟨z0, rfl, y0⟩ := tGBox_rep hr; exact rfl)
    exact (op_plain (v := (.pointer (some (ad63.add 0)))) Θ_ok ⟨hN, hds, rows_get (E := [(69, (.bool true)), (74, (.pointer (some ad63)))]) ⟨((hd 19 rfl _ _ rfl rfl).trans (congrArg _ hc57)), e61, trivial⟩⟩ rfl rfl rfl rfl rfl).weaken (fun u w3 ⟨hu, hf⟩ => by subst hu; exact ⟨h64.tr hf.tr0, hf⟩)
  · intro a w2 hfr hN hds hb hd
    have d67 : (Ty.ptr (Ty.int .u64)).is (b41 :: O28) w2 (a.tmps.getD 75 undef) y58.fPid := hd 25 rfl _ _ rfl rfl
    obtain ⟨u65, e66⟩ : ∃ v, a.tmps.getD 75 undef = v := ⟨_, rfl⟩
    rw [e66] at d67
    exact (op_loadp Θ_ok ⟨hN, hds, rows_get (E := [(69, (.bool true)), (75, u65)]) ⟨((hd 19 rfl _ _ rfl rfl).trans (congrArg _ hc57)), e66, trivial⟩⟩ rfl rfl rfl rfl rfl rfl d67 rfl rfl).weaken (fun u w3 ⟨hu, hf⟩ => ⟨int_is.1 hu, hf⟩)
  · intro a w2 hfr hN hds hb hd
    exact op_plain Θ_ok ⟨hN, hds, rows_get (E := [(6, (.pointer (some ⟨b41, 0, none⟩))), (69, (.bool true))]) ⟨hb 6 rfl _ rfl, ((hd 19 rfl _ _ rfl rfl).trans (congrArg _ hc57)), trivial⟩⟩ rfl rfl rfl rfl rfl
  · intro a w2 hfr hN hds hb hd
    have hb41 := hb41.fr0 hfr
    exact op_load Θ_ok ⟨hN, hds, rows_get (E := [(69, (.bool true)), (77, (.pointer (some ⟨b41, 0, none⟩)))]) ⟨((hd 19 rfl _ _ rfl rfl).trans (congrArg _ hc57)), (hd 27 rfl _ _ rfl rfl), trivial⟩⟩ rfl rfl rfl rfl rfl rfl hb41 [(.int .u64 z26.fPid)] rfl rfl (.inr rfl) (.int .u64 z26.fPid) rfl
  · intro a w2 hfr hN hds hb hd
    exact op_plain Θ_ok ⟨hN, hds, rows_get (E := [(69, (.bool true)), (76, (.int .u64 y58.fPid)), (78, (.int .u64 z26.fPid))]) ⟨((hd 19 rfl _ _ rfl rfl).trans (congrArg _ hc57)), (hd 26 rfl _ _ rfl rfl), (hd 28 rfl _ _ rfl rfl), trivial⟩⟩ rfl rfl rfl rfl rfl
  · intro a w2 hfr hN hds hb hd
    exact op_plain Θ_ok ⟨hN, hds, rows_get (E := [(66, (.bool false)), (69, (.bool true)), (79, (.bool (decide (y58.fPid ≥ z26.fPid))))]) ⟨((hd 16 rfl _ _ rfl rfl).trans (congrArg _ hc54)), ((hd 19 rfl _ _ rfl rfl).trans (congrArg _ hc57)), (hd 29 rfl _ _ rfl rfl), trivial⟩⟩ rfl rfl rfl rfl rfl
  · intro a w2 hfr hN hds hb hd
    exact op_plain Θ_ok ⟨hN, hds, rows_get (E := [(66, (.bool false)), (80, (.bool (decide (y58.fPid ≥ z26.fPid))))]) ⟨((hd 16 rfl _ _ rfl rfl).trans (congrArg _ hc54)), (hd 30 rfl _ _ rfl rfl), trivial⟩⟩ rfl rfl rfl rfl rfl
  intro a w69 f68 hN hds hb hr
  have h0_2 := h0_2.tr f68.tr0
  have h0_1 := h0_1.tr f68.tr0
  have hb2 := hb2.fr0 f68
  have T12 := T12.trans f68.tr0
  have T23 := T23.trans f68.tr0
  have hO := f68.ob hO
  have hF := hF.trans f68
  refine wq_go (E := [(1, (.pointer (some ⟨b2, 0, none⟩))), (43, (.slice A21 x0.fBoxes.length c22)), (44, (.int .i64 (x0.fBoxes.length : Int))), (45, (.int .i64 (i24 : Int))), (81, (.bool (decide (y58.fPid ≥ z26.fPid))))]) hN hds ⟨hb 1 _ rfl rfl, hb 43 _ rfl rfl, hb 44 _ rfl rfl, hb 45 _ rfl rfl, (hr 31 _ _ rfl rfl), trivial⟩ ?_
  refine wq_seq ?_
  rcases bif_some h with ⟨hc70, h⟩ | ⟨hc70, h⟩
  rotate_left
  · refine wc_known_false rfl hc70 ?_
    refine wc_skip ?_
    refine wq_block (wq_seq ?_)
    refine wc_region (l := [0, 1]) rfl ?_
    refine wo_seg Θ_ok [0, 1] [(1, (.pointer (some ⟨b2, 0, none⟩))), (43, (.slice A21 x0.fBoxes.length c22)), (44, (.int .i64 (x0.fBoxes.length : Int))), (45, (.int .i64 (IntKind.i64.wrap ((i24 : Int) + (1 : Int)))))] rfl ⟨rfl, rfl, rfl, rfl, trivial⟩ ?_
    refine wo_nil ?_
    exact wq_next rest25.length [(1, (.pointer (some ⟨b2, 0, none⟩))), (43, (.slice A21 x0.fBoxes.length c22)), (44, (.int .i64 (x0.fBoxes.length : Int))), (45, (.int .i64 ((i24 + 1 : Nat) : Int)))] (Nat.lt_succ_self _) ⟨rfl, rfl, rfl, congrArg (fun z => some (Value.int .i64 z)) (wrap_succ hl34 (Nat.le_trans hlc22 hmc22)), trivial⟩ ⟨rest25, i24 + 1, b41 :: O28, rfl, hd27, rfl, T23, hO, hS, hF, ib2, hb2, h⟩
  refine wc_known_true rfl hc70 ?_
  refine wc_seq ?_
  refine wc_region (l := [0]) rfl ?_
  refine wo_seg Θ_ok [0] [(2, (.bool false))] rfl ⟨rfl, trivial⟩ ?_
  refine wo_nil ?_
  refine wq_seq ?_
  refine wc_ret ?_
  cases h
  exact wq_block_ret (wq_then_ret (wq_then_ret (wq_block_ret (wq_then_ret (wq_ret rfl ⟨_, rfl, (bool_is.2 rfl), hF⟩)))))
set_option maxRecDepth 100000 in
set_option maxHeartbeats 4000000 in
theorem l_Names_c {O : List Nat} {w : World} (hO : OB O w) {fuel : Nat} {v0 : Value} {x0 : GIpc} (h0 : tGIpc.is O w v0 x0) {v1 : Value} {x1 : List GName} (h1 : (Ty.slice tGName).is O w v1 x1) {r : Bool} (h : l_Names fuel x0 x1 = some r) : Calls Try.prog 3 #[v0, v1] w (Gives (rt1 Ty.bool) O w r) := by
  obtain ⟨v0_1, v0_2, rfl, h0_1, h0_2⟩ := tGIpc_is.1 h0
  have hF := Fr.refl [] w
  have hO0 := hO
  have hS := Sub.refl O
  refine calls_of (args := [(.agg #[v0_1, v0_2]), v1]) (N := 96) Try.func3 rfl rfl rfl ?_
  unfold l_Names at h
  refine wc_seq ?_
  refine wc_region (l := [0, 1]) rfl ?_
  refine wo_box rfl rfl rfl rfl rfl rfl [v0_1, v0_2] rfl hO (fun b3 w4 n5 => ?_)
  have h1 := h1.tr n5.tr
  have h0_1 := h0_1.tr n5.tr
  have h0_2 := h0_2.tr n5.tr
  have hb3 := n5.blk
  have gb3 := n5.ge0 hF
  have ib3 : b3 ∈ b3 :: O := List.mem_cons_self
  have hO := n5.ob
  have hF := hF.trans n5.fr
  have hS := Sub.cons hS b3
  refine wo_seg Θ_ok [1] [(1, v1), (2, (.pointer (some ⟨b3, 0, none⟩)))] rfl ⟨rfl, rfl, trivial⟩ ?_
  refine wo_nil ?_
  refine wq_seq ?_
  refine wc_seq ?_
  refine wc_seq ?_
  refine wc_region (l := [0, 1]) rfl ?_
  obtain ⟨y10, hy11, h⟩ := bind_some h
  refine wo_gives rfl rfl rfl rfl rfl ent7 rfl (wakes_c hO hy11) (fun v6 w7 h8 f9 => ?_)
  have h1 := h1.tr f9.tr0
  have h0_1 := h0_1.tr f9.tr0
  have h0_2 := h0_2.tr f9.tr0
  have hb3 := hb3.fr0 f9
  have hO := f9.ob hO
  have hF := hF.trans f9
  obtain rfl := bool_is.1 h8
  refine wo_seg Θ_ok [1] [(1, v1), (2, (.pointer (some ⟨b3, 0, none⟩))), (18, (.bool (!y10)))] rfl ⟨rfl, rfl, rfl, trivial⟩ ?_
  refine wo_nil ?_
  refine wq_seq ?_
  rcases bif_some h with ⟨hc12, h⟩ | ⟨hc12, h⟩
  · refine wc_known_true rfl hc12 ?_
    refine wc_seq ?_
    refine wc_region (l := [0]) rfl ?_
    refine wo_seg Θ_ok [0] [(4, (.bool false))] rfl ⟨rfl, trivial⟩ ?_
    refine wo_nil ?_
    refine wq_seq ?_
    refine wc_ret ?_
    cases h
    exact wq_then_ret (wq_ret rfl ⟨_, rfl, (bool_is.2 rfl), hF⟩)
  refine wc_known_false rfl hc12 ?_
  refine wc_skip ?_
  refine wq_seq ?_
  refine wc_seq ?_
  refine wc_region (l := [0, 1, 2, 3]) rfl ?_
  refine wo_load Θ_ok rfl rfl rfl rfl rfl rfl rfl hb3 [v0_1, v0_2] rfl rfl (.inl rfl) (.agg #[v0_1, v0_2]) rfl ?_
  obtain ⟨y17, hy18, h⟩ := bind_some h
  refine wo_gives rfl rfl rfl rfl rfl ent8 rfl (own_c hO ((tGIpc_is (x := x0)).2 ⟨_, _, rfl, h0_1, h0_2⟩) hy18) (fun v13 w14 h15 f16 => ?_)
  have h1 := h1.tr f16.tr0
  have h0_1 := h0_1.tr f16.tr0
  have h0_2 := h0_2.tr f16.tr0
  have hb3 := hb3.fr0 f16
  have hO := f16.ob hO
  have hF := hF.trans f16
  obtain ⟨v19, v21, rfl, h20, h22⟩ := tGIpc_is.1 h15
  refine wo_alloc Θ_ok rfl rfl rfl rfl rfl rfl [(.slice none 0 0), (.slice none 0 0)] rfl hO (fun b23 w24 n25 => ?_)
  have h1 := h1.tr n25.tr
  have h20 := h20.tr n25.tr
  have h22 := h22.tr n25.tr
  have h0_1 := h0_1.tr n25.tr
  have h0_2 := h0_2.tr n25.tr
  have nb23b3 : b23 ≠ b3 := by have := hb3.lt; have := n25.ge; omega
  have hb3 := hb3.fr0 n25.fr
  have ib3 := List.mem_cons_of_mem b23 ib3
  have hb23 := n25.blk
  have gb23 := n25.ge0 hF
  have ib23 : b23 ∈ b23 :: (b3 :: O) := List.mem_cons_self
  have hO := n25.ob
  have hF := hF.trans n25.fr
  have hS := Sub.cons hS b23
  obtain ⟨A26, c27, rfl, hlc27, hmc27⟩ := slice_form h20
  obtain ⟨A28, c29, rfl, hlc29, hmc29⟩ := slice_form h22
  refine wo_store Θ_ok rfl rfl rfl rfl rfl rfl rfl hb23 [(.slice A26 y17.fNames.length c27), (.slice A28 y17.fBoxes.length c29)] rfl rfl (by simp [Value.oneCell']) rfl [(.slice A26 y17.fNames.length c27), (.slice A28 y17.fBoxes.length c29)] rfl (fun w30 hb23 f31 => ?_)
  have h1 := h1.tr (f31.tr (one_in ib23))
  have h0_1 := h0_1.tr (f31.tr (one_in ib23))
  have h0_2 := h0_2.tr (f31.tr (one_in ib23))
  have h20 := h20.tr (f31.tr (one_in ib23))
  have h22 := h22.tr (f31.tr (one_in ib23))
  have hb3 := hb3.fr f31 (nin nb23b3.symm)
  have hO := f31.ob hO
  have hF := hF.own f31 gb23
  refine wo_nil ?_
  refine wq_seq ?_
  refine wc_seq ?_
  refine wc_region (l := [0, 1, 2]) rfl ?_
  refine wo_load Θ_ok rfl rfl rfl rfl rfl rfl rfl hb23 [(.slice A26 y17.fNames.length c27), (.slice A28 y17.fBoxes.length c29)] rfl rfl (.inl rfl) (.agg #[(.slice A26 y17.fNames.length c27), (.slice A28 y17.fBoxes.length c29)]) rfl ?_
  obtain ⟨y36, hy37, h⟩ := bind_some h
  refine wo_gives rfl rfl rfl rfl rfl ent9 rfl (r_Right_c hO ((tGIpc_is (x := y17)).2 ⟨_, _, rfl, h20, h22⟩) hy37) (fun v32 w33 h34 f35 => ?_)
  have h1 := h1.tr f35.tr0
  have h0_1 := h0_1.tr f35.tr0
  have h0_2 := h0_2.tr f35.tr0
  have h20 := h20.tr f35.tr0
  have h22 := h22.tr f35.tr0
  have hb3 := hb3.fr0 f35
  have hb23 := hb23.fr0 f35
  have hO := f35.ob hO
  have hF := hF.trans f35
  obtain rfl := bool_is.1 h34
  refine wo_seg Θ_ok [2] [(1, v1), (2, (.pointer (some ⟨b3, 0, none⟩))), (5, (.pointer (some ⟨b23, 0, none⟩))), (6, (.bool y36))] rfl ⟨rfl, rfl, rfl, rfl, trivial⟩ ?_
  refine wo_nil ?_
  refine wq_seq ?_
  obtain ⟨k39, hk40, h⟩ := letk_some h
  refine wc_join (fun E W => ∃ (O43 : List Nat), E = [(2, (.pointer (some ⟨b3, 0, none⟩))), (5, (.pointer (some ⟨b23, 0, none⟩)))] ∧ Tr (b23 :: b3 :: O) w33 O43 W ∧ OB O43 W ∧ Sub O O43 ∧ Fr [] w W ∧ b3 ∈ O43 ∧ Blk W b3 25 [v0_1, v0_2] ∧ b23 ∈ O43 ∧ Blk W b23 25 [(.slice A26 y17.fNames.length c27), (.slice A28 y17.fBoxes.length c29)] ∧ k39 = some r) ?_ (fun K41 hK42 => ?_)
  · rintro E w44 ⟨O43, rfl, T38, hO, hS, hF, ib3, hb3, ib23, hb23, h⟩
    have h0_1 := h0_1.tr T38
    have h0_2 := h0_2.tr T38
    have h20 := h20.tr T38
    have h22 := h22.tr T38
    subst hk40
    (try dsimp only at h)
    refine wc_seq ?_
    obtain ⟨y45, hy46, h⟩ := bind_some h
    obtain ⟨y47, hy48, h⟩ := bind_some h
    refine wc_draw mixed [⟨92, [], [5]⟩, ⟨93, [], [2]⟩, ⟨94, [1], []⟩, ⟨95, [0, 2], []⟩, ⟨4, [3], []⟩] [SP.eq (.agg #[(.slice A26 y17.fNames.length c27), (.slice A28 y17.fBoxes.length c29)]), SP.eq (.agg #[v0_1, v0_2]), SP.is tGIpc O43 y45, SP.eq (.bool y47), SP.eq (.bool y47)] rfl rfl rfl ⟨?_, ?_, ?_, ?_, ?_, trivial⟩ ?_
    · intro a w2 hfr hN hds hb hd
      have hb23 := hb23.fr0 hfr
      exact op_load Θ_ok ⟨hN, hds, rows_get (E := [(5, (.pointer (some ⟨b23, 0, none⟩)))]) ⟨hb 5 rfl _ rfl, trivial⟩⟩ rfl rfl rfl rfl rfl rfl hb23 [(.slice A26 y17.fNames.length c27), (.slice A28 y17.fBoxes.length c29)] rfl rfl (.inl rfl) (.agg #[(.slice A26 y17.fNames.length c27), (.slice A28 y17.fBoxes.length c29)]) rfl
    · intro a w2 hfr hN hds hb hd
      have hb3 := hb3.fr0 hfr
      exact op_load Θ_ok ⟨hN, hds, rows_get (E := [(2, (.pointer (some ⟨b3, 0, none⟩)))]) ⟨hb 2 rfl _ rfl, trivial⟩⟩ rfl rfl rfl rfl rfl rfl hb3 [v0_1, v0_2] rfl rfl (.inl rfl) (.agg #[v0_1, v0_2]) rfl
    · intro a w2 hfr hN hds hb hd
      have h0_1 := h0_1.tr hfr.tr0
      have h0_2 := h0_2.tr hfr.tr0
      exact (op_call ⟨hN, hds, rows_get (E := [(93, (.agg #[v0_1, v0_2]))]) ⟨(hd 1 rfl _ _ rfl rfl), trivial⟩⟩ rfl rfl rfl rfl ent8 rfl (own_c (hfr.ob hO) ((tGIpc_is (x := x0)).2 ⟨_, _, rfl, h0_1, h0_2⟩) hy46)).weaken (fun u w3 ⟨hu, hf⟩ => ⟨hu, hf⟩)
    · intro a w2 hfr hN hds hb hd
      have h20 := h20.tr hfr.tr0
      have h22 := h22.tr hfr.tr0
      have d51 : tGIpc.is O43 w2 (a.tmps.getD 94 undef) y45 := hd 2 rfl _ _ rfl rfl
      obtain ⟨u49, e50⟩ : ∃ v, a.tmps.getD 94 undef = v := ⟨_, rfl⟩
      rw [e50] at d51
      obtain ⟨v52, v54, rfl, h53, h55⟩ := tGIpc_is.1 d51
      exact (op_call ⟨hN, hds, rows_get (E := [(92, (.agg #[(.slice A26 y17.fNames.length c27), (.slice A28 y17.fBoxes.length c29)])), (94, (.agg #[v52, v54]))]) ⟨(hd 0 rfl _ _ rfl rfl), e50, trivial⟩⟩ rfl rfl rfl rfl ent14 rfl (r_Same_c (hfr.ob hO) ((tGIpc_is (x := y17)).2 ⟨_, _, rfl, h20, h22⟩) ((tGIpc_is (x := y45)).2 ⟨_, _, rfl, h53, h55⟩) hy48)).weaken (fun u w3 ⟨hu, hf⟩ => ⟨bool_is.1 hu, hf⟩)
    · intro a w2 hfr hN hds hb hd
      exact op_plain Θ_ok ⟨hN, hds, rows_get (E := [(95, (.bool y47))]) ⟨(hd 3 rfl _ _ rfl rfl), trivial⟩⟩ rfl rfl rfl rfl rfl
    intro a w57 f56 hN hds hb hr
    have hO := f56.ob hO
    have hF := hF.trans f56
    refine wq_go (E := [(4, (.bool y47))]) hN hds ⟨(hr 4 _ _ rfl rfl), trivial⟩ ?_
    refine wq_seq ?_
    refine wc_ret ?_
    cases h
    exact wq_ret rfl ⟨_, rfl, (bool_is.2 rfl), hF⟩
  clear hk40
  have T38 := Tr.refl (b23 :: b3 :: O) w33
  refine wc_seq ?_
  refine wc_region (l := [0, 1, 2]) rfl ?_
  refine wo_seg Θ_ok [0] [(2, (.pointer (some ⟨b3, 0, none⟩))), (5, (.pointer (some ⟨b23, 0, none⟩))), (6, (.bool y36)), (23, v1)] rfl ⟨rfl, rfl, rfl, rfl, trivial⟩ ?_
  obtain ⟨A58, c59, rfl, hlc59, hmc59⟩ := slice_form h1
  refine wo_seg Θ_ok [1] [(2, (.pointer (some ⟨b3, 0, none⟩))), (5, (.pointer (some ⟨b23, 0, none⟩))), (6, (.bool y36)), (23, (.slice A58 x1.length c59)), (24, (.int .i64 (x1.length : Int)))] rfl ⟨rfl, rfl, rfl, rfl, rfl, trivial⟩ ?_
  refine wo_seg Θ_ok [2] [(2, (.pointer (some ⟨b3, 0, none⟩))), (5, (.pointer (some ⟨b23, 0, none⟩))), (6, (.bool y36)), (23, (.slice A58 x1.length c59)), (24, (.int .i64 (x1.length : Int))), (25, (.int .i64 0))] rfl ⟨rfl, rfl, rfl, rfl, rfl, rfl, trivial⟩ ?_
  refine wo_nil ?_
  refine wq_seq ?_
  refine wc_block ?_
  refine wc_loop (fun m E W => ∃ (rest62 : List GName) (i61 : Nat) (O65 : List Nat), rest62.length = m ∧ x1.drop i61 = rest62 ∧ E = [(2, (.pointer (some ⟨b3, 0, none⟩))), (5, (.pointer (some ⟨b23, 0, none⟩))), (6, (.bool y36)), (23, (.slice A58 x1.length c59)), (24, (.int .i64 (x1.length : Int))), (25, (.int .i64 (i61 : Int)))] ∧ Tr (b23 :: b3 :: O) w33 O65 W ∧ OB O65 W ∧ Sub O O65 ∧ Fr [] w W ∧ b3 ∈ O65 ∧ Blk W b3 25 [v0_1, v0_2] ∧ b23 ∈ O65 ∧ Blk W b23 25 [(.slice A26 y17.fNames.length c27), (.slice A28 y17.fBoxes.length c29)] ∧ l_Names_l1 y17 y36 k39 fuel rest62 i61 = some r) _ [(2, (.pointer (some ⟨b3, 0, none⟩))), (5, (.pointer (some ⟨b23, 0, none⟩))), (6, (.bool y36)), (23, (.slice A58 x1.length c59)), (24, (.int .i64 (x1.length : Int))), (25, (.int .i64 ((0 : Nat) : Int)))] ⟨rfl, rfl, rfl, rfl, rfl, rfl, trivial⟩ ⟨x1, 0, b23 :: b3 :: O, rfl, rfl, rfl, Tr.refl _ _, hO, hS, hF, ib3, hb3, ib23, hb23, h⟩ ?_
  rintro m E w66 ⟨rest62, i61, O65, rfl, hd64, rfl, T60, hO, hS, hF, ib3, hb3, ib23, hb23, h⟩
  have T38 := T38.trans T60
  have h1 := h1.tr T60
  have h0_1 := h0_1.tr T60
  have h0_2 := h0_2.tr T60
  have h20 := h20.tr T60
  have h22 := h22.tr T60
  rcases rest62 with _ | ⟨z63, rest62⟩
  · rw [l_Names_l1] at h
    have hl70 := drop_nil hd64
    have hc67 : (decide ((i61 : Int) < (x1.length : Int))) = false := decide_eq_false (by omega)
    refine wc_seq ?_
    refine wc_region (l := [0]) rfl ?_
    refine wo_seg Θ_ok [0] [(2, (.pointer (some ⟨b3, 0, none⟩))), (5, (.pointer (some ⟨b23, 0, none⟩))), (6, (.bool y36)), (23, (.slice A58 x1.length c59)), (24, (.int .i64 (x1.length : Int))), (25, (.int .i64 (i61 : Int))), (26, (.bool (decide ((i61 : Int) < (x1.length : Int)))))] rfl ⟨rfl, rfl, rfl, rfl, rfl, rfl, rfl, trivial⟩ ?_
    refine wo_nil ?_
    refine wq_seq ?_
    refine wc_seq ?_
    refine wc_known_false rfl hc67 ?_
    refine wc_exit ?_
    exact wq_then_exit (wq_then_exit (wq_block_exit (wq_join hK42 [(2, (.pointer (some ⟨b3, 0, none⟩))), (5, (.pointer (some ⟨b23, 0, none⟩)))] ⟨rfl, rfl, trivial⟩ ⟨O65, rfl, T38, hO, hS, hF, ib3, hb3, ib23, hb23, h⟩)))
  rw [l_Names_l1] at h
  obtain ⟨hl71, hg69, hd64⟩ := drop_cons hd64
  have hc68 : (decide ((i61 : Int) < (x1.length : Int))) = true := decide_eq_true (by omega)
  refine wc_seq ?_
  refine wc_region (l := [0]) rfl ?_
  refine wo_seg Θ_ok [0] [(2, (.pointer (some ⟨b3, 0, none⟩))), (5, (.pointer (some ⟨b23, 0, none⟩))), (6, (.bool y36)), (23, (.slice A58 x1.length c59)), (24, (.int .i64 (x1.length : Int))), (25, (.int .i64 (i61 : Int))), (26, (.bool (decide ((i61 : Int) < (x1.length : Int)))))] rfl ⟨rfl, rfl, rfl, rfl, rfl, rfl, rfl, trivial⟩ ?_
  refine wo_nil ?_
  refine wq_seq ?_
  refine wc_seq ?_
  refine wc_known_true rfl hc68 ?_
  refine wc_skip ?_
  refine wq_seq ?_
  refine wc_seq ?_
  refine wc_block ?_
  refine wc_seq ?_
  refine wc_region (l := [0, 1, 2, 3, 4, 5]) rfl ?_
  refine wo_seg Θ_ok [0] [(2, (.pointer (some ⟨b3, 0, none⟩))), (5, (.pointer (some ⟨b23, 0, none⟩))), (6, (.bool y36)), (23, (.slice A58 x1.length c59)), (24, (.int .i64 (x1.length : Int))), (25, (.int .i64 (i61 : Int))), (27, (.int .i64 (i61 : Int)))] rfl ⟨rfl, rfl, rfl, rfl, rfl, rfl, rfl, trivial⟩ ?_
  refine wo_index Θ_ok rfl rfl rfl rfl rfl rfl rfl rfl rfl rfl h1 rfl (by omega) hg69 (fun p72 h73 => ?_)
  refine wo_loadp Θ_ok rfl rfl rfl rfl rfl rfl rfl h73 rfl rfl (fun v74 h75 => ?_)
  obtain rfl := tGName_is.1 h75
  refine wo_alloc Θ_ok rfl rfl rfl rfl rfl rfl [(.int .u64 0), (.int .u64 0)] rfl hO (fun b76 w77 n78 => ?_)
  have h1 := h1.tr n78.tr
  have h0_1 := h0_1.tr n78.tr
  have h0_2 := h0_2.tr n78.tr
  have h20 := h20.tr n78.tr
  have h22 := h22.tr n78.tr
  have T38 := T38.trans n78.tr
  have T60 := T60.trans n78.tr
  have nb76b3 : b76 ≠ b3 := by have := hb3.lt; have := n78.ge; omega
  have hb3 := hb3.fr0 n78.fr
  have ib3 := List.mem_cons_of_mem b76 ib3
  have nb76b23 : b76 ≠ b23 := by have := hb23.lt; have := n78.ge; omega
  have hb23 := hb23.fr0 n78.fr
  have ib23 := List.mem_cons_of_mem b76 ib23
  have hb76 := n78.blk
  have gb76 := n78.ge0 hF
  have ib76 : b76 ∈ b76 :: O65 := List.mem_cons_self
  have hO := n78.ob
  have hF := hF.trans n78.fr
  have hS := Sub.cons hS b76
  refine wo_seg Θ_ok [4] [(2, (.pointer (some ⟨b3, 0, none⟩))), (5, (.pointer (some ⟨b23, 0, none⟩))), (6, (.bool y36)), (7, (.int .i64 (i61 : Int))), (8, (.pointer (some ⟨b76, 0, none⟩))), (23, (.slice A58 x1.length c59)), (24, (.int .i64 (x1.length : Int))), (25, (.int .i64 (i61 : Int))), (29, (.agg #[(.int .u64 z63.fName), (.int .u64 z63.fPid)]))] rfl ⟨rfl, rfl, rfl, rfl, rfl, rfl, rfl, rfl, rfl, trivial⟩ ?_
  refine wo_store Θ_ok rfl rfl rfl rfl rfl rfl rfl hb76 [(.int .u64 z63.fName), (.int .u64 z63.fPid)] rfl rfl (by simp [Value.oneCell']) rfl [(.int .u64 z63.fName), (.int .u64 z63.fPid)] rfl (fun w79 hb76 f80 => ?_)
  have h1 := h1.tr (f80.tr (one_in ib76))
  have h0_1 := h0_1.tr (f80.tr (one_in ib76))
  have h0_2 := h0_2.tr (f80.tr (one_in ib76))
  have h20 := h20.tr (f80.tr (one_in ib76))
  have h22 := h22.tr (f80.tr (one_in ib76))
  have T38 := T38.trans (f80.tr (one_in ib76))
  have T60 := T60.trans (f80.tr (one_in ib76))
  have hb3 := hb3.fr f80 (nin nb76b3.symm)
  have hb23 := hb23.fr f80 (nin nb76b23.symm)
  have hO := f80.ob hO
  have hF := hF.own f80 gb76
  refine wo_nil ?_
  refine wq_seq ?_
  refine wc_seq ?_
  refine wc_seq ?_
  refine wc_region (l := [0, 1]) rfl ?_
  refine wo_seg Θ_ok [0, 1] [(2, (.pointer (some ⟨b3, 0, none⟩))), (5, (.pointer (some ⟨b23, 0, none⟩))), (6, (.bool y36)), (8, (.pointer (some ⟨b76, 0, none⟩))), (23, (.slice A58 x1.length c59)), (24, (.int .i64 (x1.length : Int))), (25, (.int .i64 (i61 : Int))), (31, (.bool ((i61 : Int) == (8 : Int))))] rfl ⟨rfl, rfl, rfl, rfl, rfl, rfl, rfl, rfl, trivial⟩ ?_
  refine wo_nil ?_
  refine wq_seq ?_
  rcases bif_some h with ⟨hc81, h⟩ | ⟨hc81, h⟩
  · refine wc_known_true rfl hc81 ?_
    refine wc_exit ?_
    exact wq_then_exit (wq_block_past rfl (wq_then_exit (wq_then_exit (wq_block_exit (wq_join hK42 [(2, (.pointer (some ⟨b3, 0, none⟩))), (5, (.pointer (some ⟨b23, 0, none⟩)))] ⟨rfl, rfl, trivial⟩ ⟨b76 :: O65, rfl, T38, hO, hS, hF, ib3, hb3, ib23, hb23, h⟩)))))
  refine wc_known_false rfl hc81 ?_
  refine wc_skip ?_
  refine wq_seq ?_
  refine wc_seq ?_
  refine wc_region (l := [0, 1, 2, 3, 4, 5, 6, 7, 8, 9, 10, 11]) rfl ?_
  refine wo_load Θ_ok rfl rfl rfl rfl rfl rfl rfl hb23 [(.slice A26 y17.fNames.length c27), (.slice A28 y17.fBoxes.length c29)] rfl rfl (.inl rfl) (.agg #[(.slice A26 y17.fNames.length c27), (.slice A28 y17.fBoxes.length c29)]) rfl ?_
  refine wo_seg Θ_ok [1] [(2, (.pointer (some ⟨b3, 0, none⟩))), (5, (.pointer (some ⟨b23, 0, none⟩))), (6, (.bool y36)), (8, (.pointer (some ⟨b76, 0, none⟩))), (23, (.slice A58 x1.length c59)), (24, (.int .i64 (x1.length : Int))), (25, (.int .i64 (i61 : Int))), (33, (.agg #[(.slice A26 y17.fNames.length c27), (.slice A28 y17.fBoxes.length c29)])), (34, (.pointer (some ⟨b76, 0, none⟩)))] rfl ⟨rfl, rfl, rfl, rfl, rfl, rfl, rfl, rfl, rfl, trivial⟩ ?_
  refine wo_load Θ_ok rfl rfl rfl rfl rfl rfl rfl hb76 [(.int .u64 z63.fName)] rfl rfl (.inr rfl) (.int .u64 z63.fName) rfl ?_
  refine wo_seg Θ_ok [3] [(2, (.pointer (some ⟨b3, 0, none⟩))), (5, (.pointer (some ⟨b23, 0, none⟩))), (6, (.bool y36)), (8, (.pointer (some ⟨b76, 0, none⟩))), (23, (.slice A58 x1.length c59)), (24, (.int .i64 (x1.length : Int))), (25, (.int .i64 (i61 : Int))), (33, (.agg #[(.slice A26 y17.fNames.length c27), (.slice A28 y17.fBoxes.length c29)])), (35, (.int .u64 z63.fName)), (36, (.pointer (some ⟨b76, 1, none⟩)))] rfl ⟨rfl, rfl, rfl, rfl, rfl, rfl, rfl, rfl, rfl, rfl, trivial⟩ ?_
  refine wo_load Θ_ok rfl rfl rfl rfl rfl rfl rfl hb76 [(.int .u64 z63.fPid)] rfl rfl (.inr rfl) (.int .u64 z63.fPid) rfl ?_
  obtain ⟨y86, hy87, h⟩ := bind_some h
  have h1_K88 := h1
  have h0_1_K88 := h0_1
  have h0_2_K88 := h0_2
  have h20_K88 := h20
  have h22_K88 := h22
  have hb3_K88 := hb3
  have hb23_K88 := hb23
  have hb76_K88 := hb76
  have T38_K88 := T38
  have T60_K88 := T60
  have hF_K88 := hF
  have hO_K88 := hO
  have TTK88 := Tr.refl (b76 :: O65) w79
  refine wo_gives rfl rfl rfl rfl rfl ent10 rfl (i_Register_n (ob_range _) ((tGIpc_is (x := y17)).2 ⟨_, _, rfl, (h20.tr (Tr.less (sub_nil _))), (h22.tr (Tr.less (sub_nil _)))⟩) (int_is.2 rfl) (int_is.2 rfl) hy87) (fun v82 w83 h84 f85 => ?_)
  have h1 := h1.tr f85.tr0
  have h0_1 := h0_1.tr f85.tr0
  have h0_2 := h0_2.tr f85.tr0
  have h20 := h20.tr f85.tr0
  have h22 := h22.tr f85.tr0
  have hb3 := hb3.fr0 f85
  have hb23 := hb23.fr0 f85
  have hb76 := hb76.fr0 f85
  have T38 := T38.trans f85.tr0
  have T60 := T60.trans f85.tr0
  have TTK88 := TTK88.trans f85.tr0
  have hO := f85.ob hO
  have hF := hF.trans f85
  obtain ⟨u89, u91, rfl, h90, h92⟩ := h84
  obtain ⟨v93, v95, rfl, h94, h96⟩ := tGIpc_is.1 h90
  obtain rfl := int_is.1 h92
  have TLK88 := TL.refl hO_K88 w83
  have h94N := h94
  have h94M := h94
  have h94 := h94.tr (Tr.less (sub_range hO_K88))
  have h96N := h96
  have h96M := h96
  have h96 := h96.tr (Tr.less (sub_range hO_K88))
  refine wo_seg Θ_ok [6, 7, 8] [(2, (.pointer (some ⟨b3, 0, none⟩))), (5, (.pointer (some ⟨b23, 0, none⟩))), (6, (.bool y36)), (8, (.pointer (some ⟨b76, 0, none⟩))), (23, (.slice A58 x1.length c59)), (24, (.int .i64 (x1.length : Int))), (25, (.int .i64 (i61 : Int))), (39, (.agg #[v93, v95])), (40, (.int .i64 y86.2))] rfl ⟨rfl, rfl, rfl, rfl, rfl, rfl, rfl, rfl, rfl, trivial⟩ ?_
  refine wo_alloc Θ_ok rfl rfl rfl rfl rfl rfl [(.slice none 0 0), (.slice none 0 0)] rfl hO (fun b97 w98 n99 => ?_)
  have h1 := h1.tr n99.tr
  have h94 := h94.tr n99.tr
  have h96 := h96.tr n99.tr
  have h0_1 := h0_1.tr n99.tr
  have h0_2 := h0_2.tr n99.tr
  have h20 := h20.tr n99.tr
  have h22 := h22.tr n99.tr
  have T38 := T38.trans n99.tr
  have T60 := T60.trans n99.tr
  have TTK88 := TTK88.trans n99.tr
  have TLK88 := TLK88.trans n99.tr
  have nb97b3 : b97 ≠ b3 := by have := hb3.lt; have := n99.ge; omega
  have hb3 := hb3.fr0 n99.fr
  have ib3 := List.mem_cons_of_mem b97 ib3
  have nb97b23 : b97 ≠ b23 := by have := hb23.lt; have := n99.ge; omega
  have hb23 := hb23.fr0 n99.fr
  have ib23 := List.mem_cons_of_mem b97 ib23
  have nb97b76 : b97 ≠ b76 := by have := hb76.lt; have := n99.ge; omega
  have hb76 := hb76.fr0 n99.fr
  have ib76 := List.mem_cons_of_mem b97 ib76
  have hb97 := n99.blk
  have gb97 := n99.ge0 hF
  have ib97 : b97 ∈ b97 :: (b76 :: O65) := List.mem_cons_self
  have hO := n99.ob
  have hF := hF.trans n99.fr
  have hS := Sub.cons hS b97
  obtain ⟨A100, c101, rfl, hlc101, hmc101⟩ := slice_form h94
  obtain ⟨A102, c103, rfl, hlc103, hmc103⟩ := slice_form h96
  refine wo_store Θ_ok rfl rfl rfl rfl rfl rfl rfl hb97 [(.slice A100 y86.1.fNames.length c101), (.slice A102 y86.1.fBoxes.length c103)] rfl rfl (by simp [Value.oneCell']) rfl [(.slice A100 y86.1.fNames.length c101), (.slice A102 y86.1.fBoxes.length c103)] rfl (fun w104 hb97 f105 => ?_)
  have h1 := h1.tr (f105.tr (one_in ib97))
  have h0_1 := h0_1.tr (f105.tr (one_in ib97))
  have h0_2 := h0_2.tr (f105.tr (one_in ib97))
  have h20 := h20.tr (f105.tr (one_in ib97))
  have h22 := h22.tr (f105.tr (one_in ib97))
  have h94 := h94.tr (f105.tr (one_in ib97))
  have h96 := h96.tr (f105.tr (one_in ib97))
  have T38 := T38.trans (f105.tr (one_in ib97))
  have T60 := T60.trans (f105.tr (one_in ib97))
  have TTK88 := TTK88.trans (f105.tr (one_in ib97))
  have TLK88 := TLK88.trans (f105.tr (one_in ib97))
  have hb3 := hb3.fr f105 (nin nb97b3.symm)
  have hb23 := hb23.fr f105 (nin nb97b23.symm)
  have hb76 := hb76.fr f105 (nin nb97b76.symm)
  have hO := f105.ob hO
  have hF := hF.own f105 gb97
  refine wo_seg Θ_ok [11] [(2, (.pointer (some ⟨b3, 0, none⟩))), (5, (.pointer (some ⟨b23, 0, none⟩))), (6, (.bool y36)), (8, (.pointer (some ⟨b76, 0, none⟩))), (9, (.pointer (some ⟨b97, 0, none⟩))), (10, (.int .i64 y86.2)), (23, (.slice A58 x1.length c59)), (24, (.int .i64 (x1.length : Int))), (25, (.int .i64 (i61 : Int)))] rfl ⟨rfl, rfl, rfl, rfl, rfl, rfl, rfl, rfl, rfl, trivial⟩ ?_
  refine wo_nil ?_
  refine wq_seq ?_
  refine wc_seq ?_
  refine wc_region (l := [0, 1, 2, 3, 4, 5, 6, 7, 8, 9]) rfl ?_
  refine wo_load Θ_ok rfl rfl rfl rfl rfl rfl rfl hb23 [(.slice A26 y17.fNames.length c27), (.slice A28 y17.fBoxes.length c29)] rfl rfl (.inl rfl) (.agg #[(.slice A26 y17.fNames.length c27), (.slice A28 y17.fBoxes.length c29)]) rfl ?_
  refine wo_seg Θ_ok [1] [(2, (.pointer (some ⟨b3, 0, none⟩))), (5, (.pointer (some ⟨b23, 0, none⟩))), (6, (.bool y36)), (8, (.pointer (some ⟨b76, 0, none⟩))), (9, (.pointer (some ⟨b97, 0, none⟩))), (10, (.int .i64 y86.2)), (23, (.slice A58 x1.length c59)), (24, (.int .i64 (x1.length : Int))), (25, (.int .i64 (i61 : Int))), (42, (.agg #[(.slice A26 y17.fNames.length c27), (.slice A28 y17.fBoxes.length c29)])), (43, (.pointer (some ⟨b76, 0, none⟩)))] rfl ⟨rfl, rfl, rfl, rfl, rfl, rfl, rfl, rfl, rfl, rfl, rfl, trivial⟩ ?_
  refine wo_load Θ_ok rfl rfl rfl rfl rfl rfl rfl hb76 [(.int .u64 z63.fName)] rfl rfl (.inr rfl) (.int .u64 z63.fName) rfl ?_
  obtain ⟨y110, hy111, h⟩ := bind_some h
  have h1_K112 := h1
  have h0_1_K112 := h0_1
  have h0_2_K112 := h0_2
  have h20_K112 := h20
  have h22_K112 := h22
  have h94_K112 := h94
  have h96_K112 := h96
  have hb3_K112 := hb3
  have hb23_K112 := hb23
  have hb76_K112 := hb76
  have hb97_K112 := hb97
  have T38_K112 := T38
  have T60_K112 := T60
  have TTK88_K112 := TTK88
  have TLK88_K112 := TLK88
  have hF_K112 := hF
  have hO_K112 := hO
  have TTK112 := Tr.refl (b97 :: b76 :: O65) w104
  refine wo_gives rfl rfl rfl rfl rfl ent11 rfl (i_Unregister_n (ob_range _) ((tGIpc_is (x := y17)).2 ⟨_, _, rfl, (h20.tr (Tr.less (sub_nil _))), (h22.tr (Tr.less (sub_nil _)))⟩) (int_is.2 rfl) hy111) (fun v106 w107 h108 f109 => ?_)
  have h1 := h1.tr f109.tr0
  have h0_1 := h0_1.tr f109.tr0
  have h0_2 := h0_2.tr f109.tr0
  have h20 := h20.tr f109.tr0
  have h22 := h22.tr f109.tr0
  have h94 := h94.tr f109.tr0
  have h96 := h96.tr f109.tr0
  have hb3 := hb3.fr0 f109
  have hb23 := hb23.fr0 f109
  have hb76 := hb76.fr0 f109
  have hb97 := hb97.fr0 f109
  have T38 := T38.trans f109.tr0
  have T60 := T60.trans f109.tr0
  have TTK88 := TTK88.trans f109.tr0
  have TLK88 := TLK88.trans f109.tr0
  have TTK112 := TTK112.trans f109.tr0
  have hO := f109.ob hO
  have hF := hF.trans f109
  obtain ⟨u113, u115, rfl, h114, h116⟩ := h108
  obtain ⟨v117, v119, rfl, h118, h120⟩ := tGIpc_is.1 h114
  obtain rfl := int_is.1 h116
  have TLK112 := TL.refl hO_K112 w107
  have h118N := h118
  have h118M := h118
  have h118 := h118.tr (Tr.less (sub_range hO_K112))
  have h120N := h120
  have h120M := h120
  have h120 := h120.tr (Tr.less (sub_range hO_K112))
  refine wo_seg Θ_ok [4, 5, 6] [(2, (.pointer (some ⟨b3, 0, none⟩))), (5, (.pointer (some ⟨b23, 0, none⟩))), (6, (.bool y36)), (8, (.pointer (some ⟨b76, 0, none⟩))), (9, (.pointer (some ⟨b97, 0, none⟩))), (10, (.int .i64 y86.2)), (23, (.slice A58 x1.length c59)), (24, (.int .i64 (x1.length : Int))), (25, (.int .i64 (i61 : Int))), (46, (.agg #[v117, v119])), (47, (.int .i64 y110.2))] rfl ⟨rfl, rfl, rfl, rfl, rfl, rfl, rfl, rfl, rfl, rfl, rfl, trivial⟩ ?_
  refine wo_alloc Θ_ok rfl rfl rfl rfl rfl rfl [(.slice none 0 0), (.slice none 0 0)] rfl hO (fun b121 w122 n123 => ?_)
  have h1 := h1.tr n123.tr
  have h118 := h118.tr n123.tr
  have h120 := h120.tr n123.tr
  have h0_1 := h0_1.tr n123.tr
  have h0_2 := h0_2.tr n123.tr
  have h20 := h20.tr n123.tr
  have h22 := h22.tr n123.tr
  have h94 := h94.tr n123.tr
  have h96 := h96.tr n123.tr
  have T38 := T38.trans n123.tr
  have T60 := T60.trans n123.tr
  have TTK88 := TTK88.trans n123.tr
  have TLK88 := TLK88.trans n123.tr
  have TTK112 := TTK112.trans n123.tr
  have TLK112 := TLK112.trans n123.tr
  have nb121b3 : b121 ≠ b3 := by have := hb3.lt; have := n123.ge; omega
  have hb3 := hb3.fr0 n123.fr
  have ib3 := List.mem_cons_of_mem b121 ib3
  have nb121b23 : b121 ≠ b23 := by have := hb23.lt; have := n123.ge; omega
  have hb23 := hb23.fr0 n123.fr
  have ib23 := List.mem_cons_of_mem b121 ib23
  have nb121b76 : b121 ≠ b76 := by have := hb76.lt; have := n123.ge; omega
  have hb76 := hb76.fr0 n123.fr
  have ib76 := List.mem_cons_of_mem b121 ib76
  have nb121b97 : b121 ≠ b97 := by have := hb97.lt; have := n123.ge; omega
  have hb97 := hb97.fr0 n123.fr
  have ib97 := List.mem_cons_of_mem b121 ib97
  have hb121 := n123.blk
  have gb121 := n123.ge0 hF
  have ib121 : b121 ∈ b121 :: (b97 :: b76 :: O65) := List.mem_cons_self
  have hO := n123.ob
  have hF := hF.trans n123.fr
  have hS := Sub.cons hS b121
  obtain ⟨A124, c125, rfl, hlc125, hmc125⟩ := slice_form h118
  obtain ⟨A126, c127, rfl, hlc127, hmc127⟩ := slice_form h120
  refine wo_store Θ_ok rfl rfl rfl rfl rfl rfl rfl hb121 [(.slice A124 y110.1.fNames.length c125), (.slice A126 y110.1.fBoxes.length c127)] rfl rfl (by simp [Value.oneCell']) rfl [(.slice A124 y110.1.fNames.length c125), (.slice A126 y110.1.fBoxes.length c127)] rfl (fun w128 hb121 f129 => ?_)
  have h1 := h1.tr (f129.tr (one_in ib121))
  have h0_1 := h0_1.tr (f129.tr (one_in ib121))
  have h0_2 := h0_2.tr (f129.tr (one_in ib121))
  have h20 := h20.tr (f129.tr (one_in ib121))
  have h22 := h22.tr (f129.tr (one_in ib121))
  have h94 := h94.tr (f129.tr (one_in ib121))
  have h96 := h96.tr (f129.tr (one_in ib121))
  have h118 := h118.tr (f129.tr (one_in ib121))
  have h120 := h120.tr (f129.tr (one_in ib121))
  have T38 := T38.trans (f129.tr (one_in ib121))
  have T60 := T60.trans (f129.tr (one_in ib121))
  have TTK88 := TTK88.trans (f129.tr (one_in ib121))
  have TLK88 := TLK88.trans (f129.tr (one_in ib121))
  have TTK112 := TTK112.trans (f129.tr (one_in ib121))
  have TLK112 := TLK112.trans (f129.tr (one_in ib121))
  have hb3 := hb3.fr f129 (nin nb121b3.symm)
  have hb23 := hb23.fr f129 (nin nb121b23.symm)
  have hb76 := hb76.fr f129 (nin nb121b76.symm)
  have hb97 := hb97.fr f129 (nin nb121b97.symm)
  have hO := f129.ob hO
  have hF := hF.own f129 gb121
  refine wo_seg Θ_ok [9] [(2, (.pointer (some ⟨b3, 0, none⟩))), (5, (.pointer (some ⟨b23, 0, none⟩))), (6, (.bool y36)), (8, (.pointer (some ⟨b76, 0, none⟩))), (9, (.pointer (some ⟨b97, 0, none⟩))), (10, (.int .i64 y86.2)), (11, (.pointer (some ⟨b121, 0, none⟩))), (12, (.int .i64 y110.2)), (23, (.slice A58 x1.length c59)), (24, (.int .i64 (x1.length : Int))), (25, (.int .i64 (i61 : Int)))] rfl ⟨rfl, rfl, rfl, rfl, rfl, rfl, rfl, rfl, rfl, rfl, rfl, trivial⟩ ?_
  refine wo_nil ?_
  refine wq_seq ?_
  refine wc_seq ?_
  refine wc_region (l := [0, 1, 2, 3, 4, 5, 6, 7]) rfl ?_
  refine wo_seg Θ_ok [0, 1] [(2, (.pointer (some ⟨b3, 0, none⟩))), (5, (.pointer (some ⟨b23, 0, none⟩))), (6, (.bool y36)), (8, (.pointer (some ⟨b76, 0, none⟩))), (9, (.pointer (some ⟨b97, 0, none⟩))), (10, (.int .i64 y86.2)), (11, (.pointer (some ⟨b121, 0, none⟩))), (12, (.int .i64 y110.2)), (23, (.slice A58 x1.length c59)), (24, (.int .i64 (x1.length : Int))), (25, (.int .i64 (i61 : Int))), (48, (.agg #[(.slice none 0 0), (.slice none 0 0)])), (49, (.agg #[(.slice none 0 0), (.slice none 0 0)]))] rfl ⟨rfl, rfl, rfl, rfl, rfl, rfl, rfl, rfl, rfl, rfl, rfl, rfl, rfl, trivial⟩ ?_
  refine wo_alloc Θ_ok rfl rfl rfl rfl rfl rfl [(.slice none 0 0), (.slice none 0 0)] rfl hO (fun b130 w131 n132 => ?_)
  have h1 := h1.tr n132.tr
  have h0_1 := h0_1.tr n132.tr
  have h0_2 := h0_2.tr n132.tr
  have h20 := h20.tr n132.tr
  have h22 := h22.tr n132.tr
  have h94 := h94.tr n132.tr
  have h96 := h96.tr n132.tr
  have h118 := h118.tr n132.tr
  have h120 := h120.tr n132.tr
  have T38 := T38.trans n132.tr
  have T60 := T60.trans n132.tr
  have TTK88 := TTK88.trans n132.tr
  have TLK88 := TLK88.trans n132.tr
  have TTK112 := TTK112.trans n132.tr
  have TLK112 := TLK112.trans n132.tr
  have nb130b3 : b130 ≠ b3 := by have := hb3.lt; have := n132.ge; omega
  have hb3 := hb3.fr0 n132.fr
  have ib3 := List.mem_cons_of_mem b130 ib3
  have nb130b23 : b130 ≠ b23 := by have := hb23.lt; have := n132.ge; omega
  have hb23 := hb23.fr0 n132.fr
  have ib23 := List.mem_cons_of_mem b130 ib23
  have nb130b76 : b130 ≠ b76 := by have := hb76.lt; have := n132.ge; omega
  have hb76 := hb76.fr0 n132.fr
  have ib76 := List.mem_cons_of_mem b130 ib76
  have nb130b97 : b130 ≠ b97 := by have := hb97.lt; have := n132.ge; omega
  have hb97 := hb97.fr0 n132.fr
  have ib97 := List.mem_cons_of_mem b130 ib97
  have nb130b121 : b130 ≠ b121 := by have := hb121.lt; have := n132.ge; omega
  have hb121 := hb121.fr0 n132.fr
  have ib121 := List.mem_cons_of_mem b130 ib121
  have hb130 := n132.blk
  have gb130 := n132.ge0 hF
  have ib130 : b130 ∈ b130 :: (b121 :: b97 :: b76 :: O65) := List.mem_cons_self
  have hO := n132.ob
  have hF := hF.trans n132.fr
  have hS := Sub.cons hS b130
  refine wo_alloc Θ_ok rfl rfl rfl rfl rfl rfl [(.slice none 0 0), (.slice none 0 0)] rfl hO (fun b133 w134 n135 => ?_)
  have h1 := h1.tr n135.tr
  have h0_1 := h0_1.tr n135.tr
  have h0_2 := h0_2.tr n135.tr
  have h20 := h20.tr n135.tr
  have h22 := h22.tr n135.tr
  have h94 := h94.tr n135.tr
  have h96 := h96.tr n135.tr
  have h118 := h118.tr n135.tr
  have h120 := h120.tr n135.tr
  have T38 := T38.trans n135.tr
  have T60 := T60.trans n135.tr
  have TTK88 := TTK88.trans n135.tr
  have TLK88 := TLK88.trans n135.tr
  have TTK112 := TTK112.trans n135.tr
  have TLK112 := TLK112.trans n135.tr
  have nb133b3 : b133 ≠ b3 := by have := hb3.lt; have := n135.ge; omega
  have hb3 := hb3.fr0 n135.fr
  have ib3 := List.mem_cons_of_mem b133 ib3
  have nb133b23 : b133 ≠ b23 := by have := hb23.lt; have := n135.ge; omega
  have hb23 := hb23.fr0 n135.fr
  have ib23 := List.mem_cons_of_mem b133 ib23
  have nb133b76 : b133 ≠ b76 := by have := hb76.lt; have := n135.ge; omega
  have hb76 := hb76.fr0 n135.fr
  have ib76 := List.mem_cons_of_mem b133 ib76
  have nb133b97 : b133 ≠ b97 := by have := hb97.lt; have := n135.ge; omega
  have hb97 := hb97.fr0 n135.fr
  have ib97 := List.mem_cons_of_mem b133 ib97
  have nb133b121 : b133 ≠ b121 := by have := hb121.lt; have := n135.ge; omega
  have hb121 := hb121.fr0 n135.fr
  have ib121 := List.mem_cons_of_mem b133 ib121
  have nb133b130 : b133 ≠ b130 := by have := hb130.lt; have := n135.ge; omega
  have hb130 := hb130.fr0 n135.fr
  have ib130 := List.mem_cons_of_mem b133 ib130
  have hb133 := n135.blk
  have gb133 := n135.ge0 hF
  have ib133 : b133 ∈ b133 :: (b130 :: b121 :: b97 :: b76 :: O65) := List.mem_cons_self
  have hO := n135.ob
  have hF := hF.trans n135.fr
  have hS := Sub.cons hS b133
  refine wo_store Θ_ok rfl rfl rfl rfl rfl rfl rfl hb130 [(.slice none 0 0), (.slice none 0 0)] rfl rfl (by simp [Value.oneCell']) rfl [(.slice none 0 0), (.slice none 0 0)] rfl (fun w136 hb130 f137 => ?_)
  have h1 := h1.tr (f137.tr (one_in ib130))
  have h0_1 := h0_1.tr (f137.tr (one_in ib130))
  have h0_2 := h0_2.tr (f137.tr (one_in ib130))
  have h20 := h20.tr (f137.tr (one_in ib130))
  have h22 := h22.tr (f137.tr (one_in ib130))
  have h94 := h94.tr (f137.tr (one_in ib130))
  have h96 := h96.tr (f137.tr (one_in ib130))
  have h118 := h118.tr (f137.tr (one_in ib130))
  have h120 := h120.tr (f137.tr (one_in ib130))
  have T38 := T38.trans (f137.tr (one_in ib130))
  have T60 := T60.trans (f137.tr (one_in ib130))
  have TTK88 := TTK88.trans (f137.tr (one_in ib130))
  have TLK88 := TLK88.trans (f137.tr (one_in ib130))
  have TTK112 := TTK112.trans (f137.tr (one_in ib130))
  have TLK112 := TLK112.trans (f137.tr (one_in ib130))
  have hb3 := hb3.fr f137 (nin nb130b3.symm)
  have hb23 := hb23.fr f137 (nin nb130b23.symm)
  have hb76 := hb76.fr f137 (nin nb130b76.symm)
  have hb97 := hb97.fr f137 (nin nb130b97.symm)
  have hb121 := hb121.fr f137 (nin nb130b121.symm)
  have hb133 := hb133.fr f137 (nin nb133b130)
  have hO := f137.ob hO
  have hF := hF.own f137 gb130
  refine wo_store Θ_ok rfl rfl rfl rfl rfl rfl rfl hb133 [(.slice none 0 0), (.slice none 0 0)] rfl rfl (by simp [Value.oneCell']) rfl [(.slice none 0 0), (.slice none 0 0)] rfl (fun w138 hb133 f139 => ?_)
  have h1 := h1.tr (f139.tr (one_in ib133))
  have h0_1 := h0_1.tr (f139.tr (one_in ib133))
  have h0_2 := h0_2.tr (f139.tr (one_in ib133))
  have h20 := h20.tr (f139.tr (one_in ib133))
  have h22 := h22.tr (f139.tr (one_in ib133))
  have h94 := h94.tr (f139.tr (one_in ib133))
  have h96 := h96.tr (f139.tr (one_in ib133))
  have h118 := h118.tr (f139.tr (one_in ib133))
  have h120 := h120.tr (f139.tr (one_in ib133))
  have T38 := T38.trans (f139.tr (one_in ib133))
  have T60 := T60.trans (f139.tr (one_in ib133))
  have TTK88 := TTK88.trans (f139.tr (one_in ib133))
  have TLK88 := TLK88.trans (f139.tr (one_in ib133))
  have TTK112 := TTK112.trans (f139.tr (one_in ib133))
  have TLK112 := TLK112.trans (f139.tr (one_in ib133))
  have hb3 := hb3.fr f139 (nin nb133b3.symm)
  have hb23 := hb23.fr f139 (nin nb133b23.symm)
  have hb76 := hb76.fr f139 (nin nb133b76.symm)
  have hb97 := hb97.fr f139 (nin nb133b97.symm)
  have hb121 := hb121.fr f139 (nin nb133b121.symm)
  have hb130 := hb130.fr f139 (nin nb133b130.symm)
  have hO := f139.ob hO
  have hF := hF.own f139 gb133
  refine wo_seg Θ_ok [6, 7] [(2, (.pointer (some ⟨b3, 0, none⟩))), (5, (.pointer (some ⟨b23, 0, none⟩))), (6, (.bool y36)), (8, (.pointer (some ⟨b76, 0, none⟩))), (9, (.pointer (some ⟨b97, 0, none⟩))), (10, (.int .i64 y86.2)), (11, (.pointer (some ⟨b121, 0, none⟩))), (12, (.int .i64 y110.2)), (13, (.pointer (some ⟨b130, 0, none⟩))), (14, (.pointer (some ⟨b133, 0, none⟩))), (15, (.int .i64 350)), (16, (.int .i64 350)), (23, (.slice A58 x1.length c59)), (24, (.int .i64 (x1.length : Int))), (25, (.int .i64 (i61 : Int)))] rfl ⟨rfl, rfl, rfl, rfl, rfl, rfl, rfl, rfl, rfl, rfl, rfl, rfl, rfl, rfl, rfl, trivial⟩ ?_
  refine wo_nil ?_
  refine wq_seq ?_
  obtain ⟨k141, hk142, h⟩ := letk_some h
  refine wc_join (fun E W => ∃ (O157 : List Nat) (p145 : Int) (p146 : Int) (p147 : GIpc) (p152 : GIpc) (v148 : Value) (v150 : Value) (v153 : Value) (v155 : Value), E = [(2, (.pointer (some ⟨b3, 0, none⟩))), (5, (.pointer (some ⟨b23, 0, none⟩))), (6, (.bool y36)), (9, (.pointer (some ⟨b97, 0, none⟩))), (10, (.int .i64 y86.2)), (11, (.pointer (some ⟨b121, 0, none⟩))), (12, (.int .i64 y110.2)), (13, (.pointer (some ⟨b130, 0, none⟩))), (14, (.pointer (some ⟨b133, 0, none⟩))), (15, (.int .i64 p145)), (16, (.int .i64 p146)), (23, (.slice A58 x1.length c59)), (24, (.int .i64 (x1.length : Int))), (25, (.int .i64 (i61 : Int)))] ∧ Tr (b133 :: b130 :: b121 :: b97 :: b76 :: O65) w138 O157 W ∧ OB O157 W ∧ Sub O O157 ∧ Fr [] w W ∧ b3 ∈ O157 ∧ Blk W b3 25 [v0_1, v0_2] ∧ b23 ∈ O157 ∧ Blk W b23 25 [(.slice A26 y17.fNames.length c27), (.slice A28 y17.fBoxes.length c29)] ∧ b97 ∈ O157 ∧ Blk W b97 25 [(.slice A100 y86.1.fNames.length c101), (.slice A102 y86.1.fBoxes.length c103)] ∧ b121 ∈ O157 ∧ Blk W b121 25 [(.slice A124 y110.1.fNames.length c125), (.slice A126 y110.1.fBoxes.length c127)] ∧ b130 ∈ O157 ∧ Blk W b130 25 [v148, v150] ∧ b133 ∈ O157 ∧ Blk W b133 25 [v153, v155] ∧ (Ty.slice tGName).is O157 W v148 p147.fNames ∧ (Ty.slice tGBox).is O157 W v150 p147.fBoxes ∧ (Ty.slice tGName).is O157 W v153 p152.fNames ∧ (Ty.slice tGBox).is O157 W v155 p152.fBoxes ∧ k141 p145 p146 p147 p152 = some r) ?_ (fun K143 hK144 => ?_)
  rotate_left
  · clear hk142
    have T140 := Tr.refl (b133 :: b130 :: b121 :: b97 :: b76 :: O65) w138
    refine wc_seq ?_
    refine wc_region (l := [0]) rfl ?_
    refine wo_seg Θ_ok [0] [(2, (.pointer (some ⟨b3, 0, none⟩))), (5, (.pointer (some ⟨b23, 0, none⟩))), (6, (.bool y36)), (8, (.pointer (some ⟨b76, 0, none⟩))), (9, (.pointer (some ⟨b97, 0, none⟩))), (10, (.int .i64 y86.2)), (11, (.pointer (some ⟨b121, 0, none⟩))), (12, (.int .i64 y110.2)), (13, (.pointer (some ⟨b130, 0, none⟩))), (14, (.pointer (some ⟨b133, 0, none⟩))), (15, (.int .i64 350)), (16, (.int .i64 350)), (23, (.slice A58 x1.length c59)), (24, (.int .i64 (x1.length : Int))), (25, (.int .i64 (i61 : Int))), (50, (.bool y36))] rfl ⟨rfl, rfl, rfl, rfl, rfl, rfl, rfl, rfl, rfl, rfl, rfl, rfl, rfl, rfl, rfl, rfl, trivial⟩ ?_
    refine wo_nil ?_
    refine wq_seq ?_
    rcases bif_some h with ⟨hc183, h⟩ | ⟨hc183, h⟩
    rotate_left
    · refine wc_known_false rfl hc183 ?_
      refine wc_skip ?_
      exact wq_join hK144 [(2, (.pointer (some ⟨b3, 0, none⟩))), (5, (.pointer (some ⟨b23, 0, none⟩))), (6, (.bool y36)), (9, (.pointer (some ⟨b97, 0, none⟩))), (10, (.int .i64 y86.2)), (11, (.pointer (some ⟨b121, 0, none⟩))), (12, (.int .i64 y110.2)), (13, (.pointer (some ⟨b130, 0, none⟩))), (14, (.pointer (some ⟨b133, 0, none⟩))), (15, (.int .i64 350)), (16, (.int .i64 350)), (23, (.slice A58 x1.length c59)), (24, (.int .i64 (x1.length : Int))), (25, (.int .i64 (i61 : Int)))] ⟨rfl, rfl, rfl, rfl, rfl, rfl, rfl, rfl, rfl, rfl, rfl, rfl, rfl, rfl, trivial⟩ ⟨b133 :: b130 :: b121 :: b97 :: b76 :: O65, (350 : Int), (350 : Int), (GIpc.mk ([] : List GName) ([] : List GBox)), (GIpc.mk ([] : List GName) ([] : List GBox)), (.slice none 0 0), (.slice none 0 0), (.slice none 0 0), (.slice none 0 0), rfl, T140, hO, hS, hF, ib3, hb3, ib23, hb23, ib97, hb97, ib121, hb121, ib130, hb130, ib133, hb133, (slice_nil _ _ _), (slice_nil _ _ _), (slice_nil _ _ _), (slice_nil _ _ _), h⟩
    refine wc_known_true rfl hc183 ?_
    refine wc_seq ?_
    refine wc_region (l := [0, 1, 2, 3, 4, 5, 6, 7, 8, 9, 10]) rfl ?_
    refine wo_load Θ_ok rfl rfl rfl rfl rfl rfl rfl hb23 [(.slice A26 y17.fNames.length c27), (.slice A28 y17.fBoxes.length c29)] rfl rfl (.inl rfl) (.agg #[(.slice A26 y17.fNames.length c27), (.slice A28 y17.fBoxes.length c29)]) rfl ?_
    refine wo_seg Θ_ok [1] [(2, (.pointer (some ⟨b3, 0, none⟩))), (5, (.pointer (some ⟨b23, 0, none⟩))), (6, (.bool y36)), (8, (.pointer (some ⟨b76, 0, none⟩))), (9, (.pointer (some ⟨b97, 0, none⟩))), (10, (.int .i64 y86.2)), (11, (.pointer (some ⟨b121, 0, none⟩))), (12, (.int .i64 y110.2)), (13, (.pointer (some ⟨b130, 0, none⟩))), (14, (.pointer (some ⟨b133, 0, none⟩))), (23, (.slice A58 x1.length c59)), (24, (.int .i64 (x1.length : Int))), (25, (.int .i64 (i61 : Int))), (52, (.agg #[(.slice A26 y17.fNames.length c27), (.slice A28 y17.fBoxes.length c29)])), (53, (.pointer (some ⟨b76, 0, none⟩)))] rfl ⟨rfl, rfl, rfl, rfl, rfl, rfl, rfl, rfl, rfl, rfl, rfl, rfl, rfl, rfl, rfl, trivial⟩ ?_
    refine wo_load Θ_ok rfl rfl rfl rfl rfl rfl rfl hb76 [(.int .u64 z63.fName)] rfl rfl (.inr rfl) (.int .u64 z63.fName) rfl ?_
    refine wo_seg Θ_ok [3] [(2, (.pointer (some ⟨b3, 0, none⟩))), (5, (.pointer (some ⟨b23, 0, none⟩))), (6, (.bool y36)), (8, (.pointer (some ⟨b76, 0, none⟩))), (9, (.pointer (some ⟨b97, 0, none⟩))), (10, (.int .i64 y86.2)), (11, (.pointer (some ⟨b121, 0, none⟩))), (12, (.int .i64 y110.2)), (13, (.pointer (some ⟨b130, 0, none⟩))), (14, (.pointer (some ⟨b133, 0, none⟩))), (23, (.slice A58 x1.length c59)), (24, (.int .i64 (x1.length : Int))), (25, (.int .i64 (i61 : Int))), (52, (.agg #[(.slice A26 y17.fNames.length c27), (.slice A28 y17.fBoxes.length c29)])), (54, (.int .u64 z63.fName)), (55, (.pointer (some ⟨b76, 1, none⟩)))] rfl ⟨rfl, rfl, rfl, rfl, rfl, rfl, rfl, rfl, rfl, rfl, rfl, rfl, rfl, rfl, rfl, rfl, trivial⟩ ?_
    refine wo_load Θ_ok rfl rfl rfl rfl rfl rfl rfl hb76 [(.int .u64 z63.fPid)] rfl rfl (.inr rfl) (.int .u64 z63.fPid) rfl ?_
    obtain ⟨y188, hy189, h⟩ := bind_some h
    refine wo_gives rfl rfl rfl rfl rfl ent12 rfl (r_Register_c hO ((tGIpc_is (x := y17)).2 ⟨_, _, rfl, h20, h22⟩) (int_is.2 rfl) (int_is.2 rfl) hy189) (fun v184 w185 h186 f187 => ?_)
    have h1 := h1.tr f187.tr0
    have h0_1 := h0_1.tr f187.tr0
    have h0_2 := h0_2.tr f187.tr0
    have h20 := h20.tr f187.tr0
    have h22 := h22.tr f187.tr0
    have h94 := h94.tr f187.tr0
    have h96 := h96.tr f187.tr0
    have h118 := h118.tr f187.tr0
    have h120 := h120.tr f187.tr0
    have hb3 := hb3.fr0 f187
    have hb23 := hb23.fr0 f187
    have hb76 := hb76.fr0 f187
    have hb97 := hb97.fr0 f187
    have hb121 := hb121.fr0 f187
    have hb130 := hb130.fr0 f187
    have hb133 := hb133.fr0 f187
    have T38 := T38.trans f187.tr0
    have T60 := T60.trans f187.tr0
    have TTK88 := TTK88.trans f187.tr0
    have TLK88 := TLK88.trans f187.tr0
    have TTK112 := TTK112.trans f187.tr0
    have TLK112 := TLK112.trans f187.tr0
    have T140 := T140.trans f187.tr0
    have hO := f187.ob hO
    have hF := hF.trans f187
    obtain ⟨u190, u192, rfl, h191, h193⟩ := h186
    obtain ⟨v194, v196, rfl, h195, h197⟩ := tGIpc_is.1 h191
    obtain rfl := int_is.1 h193
    refine wo_seg Θ_ok [6, 7, 8] [(2, (.pointer (some ⟨b3, 0, none⟩))), (5, (.pointer (some ⟨b23, 0, none⟩))), (6, (.bool y36)), (8, (.pointer (some ⟨b76, 0, none⟩))), (9, (.pointer (some ⟨b97, 0, none⟩))), (10, (.int .i64 y86.2)), (11, (.pointer (some ⟨b121, 0, none⟩))), (12, (.int .i64 y110.2)), (13, (.pointer (some ⟨b130, 0, none⟩))), (14, (.pointer (some ⟨b133, 0, none⟩))), (23, (.slice A58 x1.length c59)), (24, (.int .i64 (x1.length : Int))), (25, (.int .i64 (i61 : Int))), (58, (.agg #[v194, v196])), (59, (.int .i64 y188.2))] rfl ⟨rfl, rfl, rfl, rfl, rfl, rfl, rfl, rfl, rfl, rfl, rfl, rfl, rfl, rfl, rfl, trivial⟩ ?_
    obtain ⟨A198, c199, rfl, hlc199, hmc199⟩ := slice_form h195
    obtain ⟨A200, c201, rfl, hlc201, hmc201⟩ := slice_form h197
    refine wo_store Θ_ok rfl rfl rfl rfl rfl rfl rfl hb130 [(.slice A198 y188.1.fNames.length c199), (.slice A200 y188.1.fBoxes.length c201)] rfl rfl (by simp [Value.oneCell']) rfl [(.slice A198 y188.1.fNames.length c199), (.slice A200 y188.1.fBoxes.length c201)] rfl (fun w202 hb130 f203 => ?_)
    have h1 := h1.tr (f203.tr (one_in ib130))
    have h0_1 := h0_1.tr (f203.tr (one_in ib130))
    have h0_2 := h0_2.tr (f203.tr (one_in ib130))
    have h20 := h20.tr (f203.tr (one_in ib130))
    have h22 := h22.tr (f203.tr (one_in ib130))
    have h94 := h94.tr (f203.tr (one_in ib130))
    have h96 := h96.tr (f203.tr (one_in ib130))
    have h118 := h118.tr (f203.tr (one_in ib130))
    have h120 := h120.tr (f203.tr (one_in ib130))
    have h195 := h195.tr (f203.tr (one_in ib130))
    have h197 := h197.tr (f203.tr (one_in ib130))
    have T38 := T38.trans (f203.tr (one_in ib130))
    have T60 := T60.trans (f203.tr (one_in ib130))
    have TTK88 := TTK88.trans (f203.tr (one_in ib130))
    have TLK88 := TLK88.trans (f203.tr (one_in ib130))
    have TTK112 := TTK112.trans (f203.tr (one_in ib130))
    have TLK112 := TLK112.trans (f203.tr (one_in ib130))
    have T140 := T140.trans (f203.tr (one_in ib130))
    have hb3 := hb3.fr f203 (nin nb130b3.symm)
    have hb23 := hb23.fr f203 (nin nb130b23.symm)
    have hb76 := hb76.fr f203 (nin nb130b76.symm)
    have hb97 := hb97.fr f203 (nin nb130b97.symm)
    have hb121 := hb121.fr f203 (nin nb130b121.symm)
    have hb133 := hb133.fr f203 (nin nb133b130)
    have hO := f203.ob hO
    have hF := hF.own f203 gb130
    refine wo_seg Θ_ok [10] [(2, (.pointer (some ⟨b3, 0, none⟩))), (5, (.pointer (some ⟨b23, 0, none⟩))), (6, (.bool y36)), (8, (.pointer (some ⟨b76, 0, none⟩))), (9, (.pointer (some ⟨b97, 0, none⟩))), (10, (.int .i64 y86.2)), (11, (.pointer (some ⟨b121, 0, none⟩))), (12, (.int .i64 y110.2)), (13, (.pointer (some ⟨b130, 0, none⟩))), (14, (.pointer (some ⟨b133, 0, none⟩))), (15, (.int .i64 y188.2)), (23, (.slice A58 x1.length c59)), (24, (.int .i64 (x1.length : Int))), (25, (.int .i64 (i61 : Int)))] rfl ⟨rfl, rfl, rfl, rfl, rfl, rfl, rfl, rfl, rfl, rfl, rfl, rfl, rfl, rfl, trivial⟩ ?_
    refine wo_nil ?_
    refine wq_seq ?_
    refine wc_region (l := [0, 1, 2, 3, 4, 5, 6, 7, 8]) rfl ?_
    refine wo_load Θ_ok rfl rfl rfl rfl rfl rfl rfl hb23 [(.slice A26 y17.fNames.length c27), (.slice A28 y17.fBoxes.length c29)] rfl rfl (.inl rfl) (.agg #[(.slice A26 y17.fNames.length c27), (.slice A28 y17.fBoxes.length c29)]) rfl ?_
    refine wo_seg Θ_ok [1] [(2, (.pointer (some ⟨b3, 0, none⟩))), (5, (.pointer (some ⟨b23, 0, none⟩))), (6, (.bool y36)), (9, (.pointer (some ⟨b97, 0, none⟩))), (10, (.int .i64 y86.2)), (11, (.pointer (some ⟨b121, 0, none⟩))), (12, (.int .i64 y110.2)), (13, (.pointer (some ⟨b130, 0, none⟩))), (14, (.pointer (some ⟨b133, 0, none⟩))), (15, (.int .i64 y188.2)), (23, (.slice A58 x1.length c59)), (24, (.int .i64 (x1.length : Int))), (25, (.int .i64 (i61 : Int))), (61, (.agg #[(.slice A26 y17.fNames.length c27), (.slice A28 y17.fBoxes.length c29)])), (62, (.pointer (some ⟨b76, 0, none⟩)))] rfl ⟨rfl, rfl, rfl, rfl, rfl, rfl, rfl, rfl, rfl, rfl, rfl, rfl, rfl, rfl, rfl, trivial⟩ ?_
    refine wo_load Θ_ok rfl rfl rfl rfl rfl rfl rfl hb76 [(.int .u64 z63.fName)] rfl rfl (.inr rfl) (.int .u64 z63.fName) rfl ?_
    obtain ⟨y208, hy209, h⟩ := bind_some h
    refine wo_gives rfl rfl rfl rfl rfl ent13 rfl (r_Unregister_c hO ((tGIpc_is (x := y17)).2 ⟨_, _, rfl, h20, h22⟩) (int_is.2 rfl) hy209) (fun v204 w205 h206 f207 => ?_)
    have h1 := h1.tr f207.tr0
    have h0_1 := h0_1.tr f207.tr0
    have h0_2 := h0_2.tr f207.tr0
    have h20 := h20.tr f207.tr0
    have h22 := h22.tr f207.tr0
    have h94 := h94.tr f207.tr0
    have h96 := h96.tr f207.tr0
    have h118 := h118.tr f207.tr0
    have h120 := h120.tr f207.tr0
    have h195 := h195.tr f207.tr0
    have h197 := h197.tr f207.tr0
    have hb3 := hb3.fr0 f207
    have hb23 := hb23.fr0 f207
    have hb97 := hb97.fr0 f207
    have hb121 := hb121.fr0 f207
    have hb130 := hb130.fr0 f207
    have hb133 := hb133.fr0 f207
    have T38 := T38.trans f207.tr0
    have T60 := T60.trans f207.tr0
    have TTK88 := TTK88.trans f207.tr0
    have TLK88 := TLK88.trans f207.tr0
    have TTK112 := TTK112.trans f207.tr0
    have TLK112 := TLK112.trans f207.tr0
    have T140 := T140.trans f207.tr0
    have hO := f207.ob hO
    have hF := hF.trans f207
    obtain ⟨u210, u212, rfl, h211, h213⟩ := h206
    obtain ⟨v214, v216, rfl, h215, h217⟩ := tGIpc_is.1 h211
    obtain rfl := int_is.1 h213
    refine wo_seg Θ_ok [4, 5, 6] [(2, (.pointer (some ⟨b3, 0, none⟩))), (5, (.pointer (some ⟨b23, 0, none⟩))), (6, (.bool y36)), (9, (.pointer (some ⟨b97, 0, none⟩))), (10, (.int .i64 y86.2)), (11, (.pointer (some ⟨b121, 0, none⟩))), (12, (.int .i64 y110.2)), (13, (.pointer (some ⟨b130, 0, none⟩))), (14, (.pointer (some ⟨b133, 0, none⟩))), (15, (.int .i64 y188.2)), (23, (.slice A58 x1.length c59)), (24, (.int .i64 (x1.length : Int))), (25, (.int .i64 (i61 : Int))), (65, (.agg #[v214, v216])), (66, (.int .i64 y208.2))] rfl ⟨rfl, rfl, rfl, rfl, rfl, rfl, rfl, rfl, rfl, rfl, rfl, rfl, rfl, rfl, rfl, trivial⟩ ?_
    obtain ⟨A218, c219, rfl, hlc219, hmc219⟩ := slice_form h215
    obtain ⟨A220, c221, rfl, hlc221, hmc221⟩ := slice_form h217
    refine wo_store Θ_ok rfl rfl rfl rfl rfl rfl rfl hb133 [(.slice A218 y208.1.fNames.length c219), (.slice A220 y208.1.fBoxes.length c221)] rfl rfl (by simp [Value.oneCell']) rfl [(.slice A218 y208.1.fNames.length c219), (.slice A220 y208.1.fBoxes.length c221)] rfl (fun w222 hb133 f223 => ?_)
    have h1 := h1.tr (f223.tr (one_in ib133))
    have h0_1 := h0_1.tr (f223.tr (one_in ib133))
    have h0_2 := h0_2.tr (f223.tr (one_in ib133))
    have h20 := h20.tr (f223.tr (one_in ib133))
    have h22 := h22.tr (f223.tr (one_in ib133))
    have h94 := h94.tr (f223.tr (one_in ib133))
    have h96 := h96.tr (f223.tr (one_in ib133))
    have h118 := h118.tr (f223.tr (one_in ib133))
    have h120 := h120.tr (f223.tr (one_in ib133))
    have h195 := h195.tr (f223.tr (one_in ib133))
    have h197 := h197.tr (f223.tr (one_in ib133))
    have h215 := h215.tr (f223.tr (one_in ib133))
    have h217 := h217.tr (f223.tr (one_in ib133))
    have T38 := T38.trans (f223.tr (one_in ib133))
    have T60 := T60.trans (f223.tr (one_in ib133))
    have TTK88 := TTK88.trans (f223.tr (one_in ib133))
    have TLK88 := TLK88.trans (f223.tr (one_in ib133))
    have TTK112 := TTK112.trans (f223.tr (one_in ib133))
    have TLK112 := TLK112.trans (f223.tr (one_in ib133))
    have T140 := T140.trans (f223.tr (one_in ib133))
    have hb3 := hb3.fr f223 (nin nb133b3.symm)
    have hb23 := hb23.fr f223 (nin nb133b23.symm)
    have hb97 := hb97.fr f223 (nin nb133b97.symm)
    have hb121 := hb121.fr f223 (nin nb133b121.symm)
    have hb130 := hb130.fr f223 (nin nb133b130.symm)
    have hO := f223.ob hO
    have hF := hF.own f223 gb133
    refine wo_seg Θ_ok [8] [(2, (.pointer (some ⟨b3, 0, none⟩))), (5, (.pointer (some ⟨b23, 0, none⟩))), (6, (.bool y36)), (9, (.pointer (some ⟨b97, 0, none⟩))), (10, (.int .i64 y86.2)), (11, (.pointer (some ⟨b121, 0, none⟩))), (12, (.int .i64 y110.2)), (13, (.pointer (some ⟨b130, 0, none⟩))), (14, (.pointer (some ⟨b133, 0, none⟩))), (15, (.int .i64 y188.2)), (16, (.int .i64 y208.2)), (23, (.slice A58 x1.length c59)), (24, (.int .i64 (x1.length : Int))), (25, (.int .i64 (i61 : Int)))] rfl ⟨rfl, rfl, rfl, rfl, rfl, rfl, rfl, rfl, rfl, rfl, rfl, rfl, rfl, rfl, trivial⟩ ?_
    refine wo_nil ?_
    exact wq_join hK144 [(2, (.pointer (some ⟨b3, 0, none⟩))), (5, (.pointer (some ⟨b23, 0, none⟩))), (6, (.bool y36)), (9, (.pointer (some ⟨b97, 0, none⟩))), (10, (.int .i64 y86.2)), (11, (.pointer (some ⟨b121, 0, none⟩))), (12, (.int .i64 y110.2)), (13, (.pointer (some ⟨b130, 0, none⟩))), (14, (.pointer (some ⟨b133, 0, none⟩))), (15, (.int .i64 y188.2)), (16, (.int .i64 y208.2)), (23, (.slice A58 x1.length c59)), (24, (.int .i64 (x1.length : Int))), (25, (.int .i64 (i61 : Int)))] ⟨rfl, rfl, rfl, rfl, rfl, rfl, rfl, rfl, rfl, rfl, rfl, rfl, rfl, rfl, trivial⟩ ⟨b133 :: b130 :: b121 :: b97 :: b76 :: O65, y188.2, y208.2, y188.1, y208.1, (.slice A198 y188.1.fNames.length c199), (.slice A200 y188.1.fBoxes.length c201), (.slice A218 y208.1.fNames.length c219), (.slice A220 y208.1.fBoxes.length c221), rfl, T140, hO, hS, hF, ib3, hb3, ib23, hb23, ib97, hb97, ib121, hb121, ib130, hb130, ib133, hb133, h195, h197, h215, h217, h⟩
  rintro E w158 ⟨O157, p145, p146, p147, p152, v148, v150, v153, v155, rfl, T140, hO, hS, hF, ib3, hb3, ib23, hb23, ib97, hb97, ib121, hb121, ib130, hb130, ib133, hb133, h149, h151, h154, h156, h⟩
  have T38 := T38.trans T140
  have T60 := T60.trans T140
  have TTK88 := TTK88.trans T140
  have TLK88 := TLK88.trans T140
  have TTK112 := TTK112.trans T140
  have TLK112 := TLK112.trans T140
  have h1 := h1.tr T140
  have h0_1 := h0_1.tr T140
  have h0_2 := h0_2.tr T140
  have h20 := h20.tr T140
  have h22 := h22.tr T140
  have h94 := h94.tr T140
  have h96 := h96.tr T140
  have h118 := h118.tr T140
  have h120 := h120.tr T140
  subst hk142
  (try dsimp only at h)
  refine wc_seq ?_
  refine wc_seq ?_
  refine wc_region (l := [0, 1, 2, 3, 4, 5, 6, 7, 8, 9, 10, 11, 12, 13, 14, 15, 16, 17, 18, 19]) rfl ?_
  refine wo_seg Θ_ok [0, 1, 2, 3] [(2, (.pointer (some ⟨b3, 0, none⟩))), (5, (.pointer (some ⟨b23, 0, none⟩))), (6, (.bool y36)), (9, (.pointer (some ⟨b97, 0, none⟩))), (11, (.pointer (some ⟨b121, 0, none⟩))), (12, (.int .i64 y110.2)), (13, (.pointer (some ⟨b130, 0, none⟩))), (14, (.pointer (some ⟨b133, 0, none⟩))), (16, (.int .i64 p146)), (23, (.slice A58 x1.length c59)), (24, (.int .i64 (x1.length : Int))), (25, (.int .i64 (i61 : Int))), (70, (.bool (y86.2 != p145)))] rfl ⟨rfl, rfl, rfl, rfl, rfl, rfl, rfl, rfl, rfl, rfl, rfl, rfl, rfl, trivial⟩ ?_
  rcases bif_some h with ⟨hc159, h⟩ | ⟨hc159, h⟩
  · refine wo_know 70 true rfl hc159 ?_
    refine wo_seg Θ_ok [4, 5, 6, 7, 8, 9, 10, 11, 12, 13, 14, 15, 16, 17, 18, 19] [(2, (.pointer (some ⟨b3, 0, none⟩))), (5, (.pointer (some ⟨b23, 0, none⟩))), (6, (.bool y36)), (9, (.pointer (some ⟨b97, 0, none⟩))), (11, (.pointer (some ⟨b121, 0, none⟩))), (23, (.slice A58 x1.length c59)), (24, (.int .i64 (x1.length : Int))), (25, (.int .i64 (i61 : Int))), (86, (.bool true))] rfl ⟨rfl, rfl, rfl, rfl, rfl, rfl, rfl, rfl, rfl, trivial⟩ ?_
    refine wo_nil ?_
    refine wq_seq ?_
    refine wc_true rfl ?_
    refine wc_seq ?_
    refine wc_region (l := [0]) rfl ?_
    refine wo_seg Θ_ok [0] [(4, (.bool false))] rfl ⟨rfl, trivial⟩ ?_
    refine wo_nil ?_
    refine wq_seq ?_
    refine wc_ret ?_
    cases h
    exact wq_then_ret (wq_block_ret (wq_then_ret (wq_then_ret (wq_block_ret (wq_then_ret (wq_ret rfl ⟨_, rfl, (bool_is.2 rfl), hF⟩))))))
  refine wo_know 70 false rfl hc159 ?_
  refine wo_seg Θ_ok [4, 5, 6, 7, 8] [(2, (.pointer (some ⟨b3, 0, none⟩))), (5, (.pointer (some ⟨b23, 0, none⟩))), (6, (.bool y36)), (9, (.pointer (some ⟨b97, 0, none⟩))), (11, (.pointer (some ⟨b121, 0, none⟩))), (13, (.pointer (some ⟨b130, 0, none⟩))), (14, (.pointer (some ⟨b133, 0, none⟩))), (23, (.slice A58 x1.length c59)), (24, (.int .i64 (x1.length : Int))), (25, (.int .i64 (i61 : Int))), (75, (.bool (y110.2 != p146)))] rfl ⟨rfl, rfl, rfl, rfl, rfl, rfl, rfl, rfl, rfl, rfl, rfl, trivial⟩ ?_
  rcases bif_some h with ⟨hc160, h⟩ | ⟨hc160, h⟩
  · refine wo_know 75 true rfl hc160 ?_
    refine wo_seg Θ_ok [9, 10, 11, 12, 13, 14, 15, 16, 17, 18, 19] [(2, (.pointer (some ⟨b3, 0, none⟩))), (5, (.pointer (some ⟨b23, 0, none⟩))), (6, (.bool y36)), (9, (.pointer (some ⟨b97, 0, none⟩))), (11, (.pointer (some ⟨b121, 0, none⟩))), (23, (.slice A58 x1.length c59)), (24, (.int .i64 (x1.length : Int))), (25, (.int .i64 (i61 : Int))), (86, (.bool true))] rfl ⟨rfl, rfl, rfl, rfl, rfl, rfl, rfl, rfl, rfl, trivial⟩ ?_
    refine wo_nil ?_
    refine wq_seq ?_
    refine wc_true rfl ?_
    refine wc_seq ?_
    refine wc_region (l := [0]) rfl ?_
    refine wo_seg Θ_ok [0] [(4, (.bool false))] rfl ⟨rfl, trivial⟩ ?_
    refine wo_nil ?_
    refine wq_seq ?_
    refine wc_ret ?_
    cases h
    exact wq_then_ret (wq_block_ret (wq_then_ret (wq_then_ret (wq_block_ret (wq_then_ret (wq_ret rfl ⟨_, rfl, (bool_is.2 rfl), hF⟩))))))
  refine wo_know 75 false rfl hc160 ?_
  refine wo_load Θ_ok rfl rfl rfl rfl rfl rfl rfl hb97 [(.slice A100 y86.1.fNames.length c101), (.slice A102 y86.1.fBoxes.length c103)] rfl rfl (.inl rfl) (.agg #[(.slice A100 y86.1.fNames.length c101), (.slice A102 y86.1.fBoxes.length c103)]) rfl ?_
  refine wo_load Θ_ok rfl rfl rfl rfl rfl rfl rfl hb130 [v148, v150] rfl rfl (.inl rfl) (.agg #[v148, v150]) rfl ?_
  obtain ⟨y165, hy166, h⟩ := bind_some h
  refine wo_gives rfl rfl rfl rfl rfl ent14 rfl (r_Same_c hO ((tGIpc_is (x := y86.1)).2 ⟨_, _, rfl, h94, h96⟩) ((tGIpc_is (x := p147)).2 ⟨_, _, rfl, h149, h151⟩) hy166) (fun v161 w162 h163 f164 => ?_)
  have h1 := h1.tr f164.tr0
  have h0_1 := h0_1.tr f164.tr0
  have h0_2 := h0_2.tr f164.tr0
  have h20 := h20.tr f164.tr0
  have h22 := h22.tr f164.tr0
  have h94 := h94.tr f164.tr0
  have h96 := h96.tr f164.tr0
  have h118 := h118.tr f164.tr0
  have h120 := h120.tr f164.tr0
  have h154 := h154.tr f164.tr0
  have h156 := h156.tr f164.tr0
  have hb3 := hb3.fr0 f164
  have hb23 := hb23.fr0 f164
  have hb97 := hb97.fr0 f164
  have hb121 := hb121.fr0 f164
  have hb133 := hb133.fr0 f164
  have T38 := T38.trans f164.tr0
  have T60 := T60.trans f164.tr0
  have TTK88 := TTK88.trans f164.tr0
  have TLK88 := TLK88.trans f164.tr0
  have TTK112 := TTK112.trans f164.tr0
  have TLK112 := TLK112.trans f164.tr0
  have hO := f164.ob hO
  have hF := hF.trans f164
  obtain rfl := bool_is.1 h163
  refine wo_seg Θ_ok [12, 13, 14] [(2, (.pointer (some ⟨b3, 0, none⟩))), (5, (.pointer (some ⟨b23, 0, none⟩))), (6, (.bool y36)), (9, (.pointer (some ⟨b97, 0, none⟩))), (11, (.pointer (some ⟨b121, 0, none⟩))), (14, (.pointer (some ⟨b133, 0, none⟩))), (23, (.slice A58 x1.length c59)), (24, (.int .i64 (x1.length : Int))), (25, (.int .i64 (i61 : Int))), (81, (.bool (!y165)))] rfl ⟨rfl, rfl, rfl, rfl, rfl, rfl, rfl, rfl, rfl, rfl, trivial⟩ ?_
  rcases bif_some h with ⟨hc167, h⟩ | ⟨hc167, h⟩
  · refine wo_know 81 true rfl hc167 ?_
    refine wo_seg Θ_ok [15, 16, 17, 18, 19] [(2, (.pointer (some ⟨b3, 0, none⟩))), (5, (.pointer (some ⟨b23, 0, none⟩))), (6, (.bool y36)), (9, (.pointer (some ⟨b97, 0, none⟩))), (11, (.pointer (some ⟨b121, 0, none⟩))), (23, (.slice A58 x1.length c59)), (24, (.int .i64 (x1.length : Int))), (25, (.int .i64 (i61 : Int))), (86, (.bool true))] rfl ⟨rfl, rfl, rfl, rfl, rfl, rfl, rfl, rfl, rfl, trivial⟩ ?_
    refine wo_nil ?_
    refine wq_seq ?_
    refine wc_true rfl ?_
    refine wc_seq ?_
    refine wc_region (l := [0]) rfl ?_
    refine wo_seg Θ_ok [0] [(4, (.bool false))] rfl ⟨rfl, trivial⟩ ?_
    refine wo_nil ?_
    refine wq_seq ?_
    refine wc_ret ?_
    cases h
    exact wq_then_ret (wq_block_ret (wq_then_ret (wq_then_ret (wq_block_ret (wq_then_ret (wq_ret rfl ⟨_, rfl, (bool_is.2 rfl), hF⟩))))))
  refine wo_know 81 false rfl hc167 ?_
  refine wo_load Θ_ok rfl rfl rfl rfl rfl rfl rfl hb121 [(.slice A124 y110.1.fNames.length c125), (.slice A126 y110.1.fBoxes.length c127)] rfl rfl (.inl rfl) (.agg #[(.slice A124 y110.1.fNames.length c125), (.slice A126 y110.1.fBoxes.length c127)]) rfl ?_
  refine wo_load Θ_ok rfl rfl rfl rfl rfl rfl rfl hb133 [v153, v155] rfl rfl (.inl rfl) (.agg #[v153, v155]) rfl ?_
  obtain ⟨y172, hy173, h⟩ := bind_some h
  refine wo_gives rfl rfl rfl rfl rfl ent14 rfl (r_Same_c hO ((tGIpc_is (x := y110.1)).2 ⟨_, _, rfl, h118, h120⟩) ((tGIpc_is (x := p152)).2 ⟨_, _, rfl, h154, h156⟩) hy173) (fun v168 w169 h170 f171 => ?_)
  have h1 := h1.tr f171.tr0
  have h0_1 := h0_1.tr f171.tr0
  have h0_2 := h0_2.tr f171.tr0
  have h20 := h20.tr f171.tr0
  have h22 := h22.tr f171.tr0
  have h94 := h94.tr f171.tr0
  have h96 := h96.tr f171.tr0
  have h118 := h118.tr f171.tr0
  have h120 := h120.tr f171.tr0
  have hb3 := hb3.fr0 f171
  have hb23 := hb23.fr0 f171
  have hb97 := hb97.fr0 f171
  have hb121 := hb121.fr0 f171
  have T38 := T38.trans f171.tr0
  have T60 := T60.trans f171.tr0
  have TTK88 := TTK88.trans f171.tr0
  have TLK88 := TLK88.trans f171.tr0
  have TTK112 := TTK112.trans f171.tr0
  have TLK112 := TLK112.trans f171.tr0
  have hO := f171.ob hO
  have hF := hF.trans f171
  obtain rfl := bool_is.1 h170
  refine wo_seg Θ_ok [18, 19] [(2, (.pointer (some ⟨b3, 0, none⟩))), (5, (.pointer (some ⟨b23, 0, none⟩))), (6, (.bool y36)), (9, (.pointer (some ⟨b97, 0, none⟩))), (11, (.pointer (some ⟨b121, 0, none⟩))), (23, (.slice A58 x1.length c59)), (24, (.int .i64 (x1.length : Int))), (25, (.int .i64 (i61 : Int))), (86, (.bool (!y172)))] rfl ⟨rfl, rfl, rfl, rfl, rfl, rfl, rfl, rfl, rfl, trivial⟩ ?_
  refine wo_nil ?_
  refine wq_seq ?_
  rcases bif_some h with ⟨hc174, h⟩ | ⟨hc174, h⟩
  · refine wc_known_true rfl hc174 ?_
    refine wc_seq ?_
    refine wc_region (l := [0]) rfl ?_
    refine wo_seg Θ_ok [0] [(4, (.bool false))] rfl ⟨rfl, trivial⟩ ?_
    refine wo_nil ?_
    refine wq_seq ?_
    refine wc_ret ?_
    cases h
    exact wq_then_ret (wq_block_ret (wq_then_ret (wq_then_ret (wq_block_ret (wq_then_ret (wq_ret rfl ⟨_, rfl, (bool_is.2 rfl), hF⟩))))))
  refine wc_known_false rfl hc174 ?_
  refine wc_skip ?_
  refine wq_seq ?_
  refine wc_seq ?_
  refine wc_region (l := [0, 1]) rfl ?_
  refine wo_load Θ_ok rfl rfl rfl rfl rfl rfl rfl hb97 [(.slice A100 y86.1.fNames.length c101), (.slice A102 y86.1.fBoxes.length c103)] rfl rfl (.inl rfl) (.agg #[(.slice A100 y86.1.fNames.length c101), (.slice A102 y86.1.fBoxes.length c103)]) rfl ?_
  obtain ⟨A175, c176, rfl, hlc176, hmc176⟩ := slice_form h0_1
  obtain ⟨A177, c178, rfl, hlc178, hmc178⟩ := slice_form h0_2
  refine wo_call rfl rfl rfl rfl rfl ent15 rfl (spoil_s h94N h96N TLK88) (fun _ w180 ⟨he, hC179⟩ => ⟨_, he, ?_⟩)
  have TTK88 := TTK88.chg hC179 (Nat.le_refl _)
  have h1 := h1_K88.tr TTK88
  have h0_1 := h0_1_K88.tr TTK88
  have h0_2 := h0_2_K88.tr TTK88
  have h20 := h20_K88.tr TTK88
  have h22 := h22_K88.tr TTK88
  have hb3 := hb3.chg hC179 (Nat.lt_of_lt_of_le hb3_K88.lt (Nat.le_refl _))
  have hb23 := hb23.chg hC179 (Nat.lt_of_lt_of_le hb23_K88.lt (Nat.le_refl _))
  have hb121 := hb121.chgS hC179 (by simp)
  have T38 := T38_K88.trans TTK88
  have T60 := T60_K88.trans TTK88
  have TLK112 := TLK112.chg hC179 TLK88_K112.size
  have h118 := TLK112.data h118M
  have h120 := TLK112.data h120M
  have hF := hC179.fr hF hF_K88.size
  have hO := hO.chg hC179
  refine wo_nil ?_
  refine wq_seq ?_
  refine wc_region (l := [0, 1]) rfl ?_
  refine wo_load Θ_ok rfl rfl rfl rfl rfl rfl rfl hb121 [(.slice A124 y110.1.fNames.length c125), (.slice A126 y110.1.fBoxes.length c127)] rfl rfl (.inl rfl) (.agg #[(.slice A124 y110.1.fNames.length c125), (.slice A126 y110.1.fBoxes.length c127)]) rfl ?_
  refine wo_call rfl rfl rfl rfl rfl ent15 rfl (spoil_s h118N h120N TLK112) (fun _ w182 ⟨he, hC181⟩ => ⟨_, he, ?_⟩)
  have TTK88 := TTK88.chg hC181 (TTK88_K112.size)
  have h1 := h1_K88.tr TTK88
  have h0_1 := h0_1_K88.tr TTK88
  have h0_2 := h0_2_K88.tr TTK88
  have h20 := h20_K88.tr TTK88
  have h22 := h22_K88.tr TTK88
  have hb3 := hb3.chg hC181 (Nat.lt_of_lt_of_le hb3_K88.lt (TTK88_K112.size))
  have hb23 := hb23.chg hC181 (Nat.lt_of_lt_of_le hb23_K88.lt (TTK88_K112.size))
  have T38 := T38_K88.trans TTK88
  have T60 := T60_K88.trans TTK88
  have hF := hC181.fr hF hF_K112.size
  have hO := hO.chg hC181
  refine wo_nil ?_
  refine wq_block (wq_seq ?_)
  refine wc_region (l := [0, 1]) rfl ?_
  refine wo_seg Θ_ok [0, 1] [(2, (.pointer (some ⟨b3, 0, none⟩))), (5, (.pointer (some ⟨b23, 0, none⟩))), (6, (.bool y36)), (23, (.slice A58 x1.length c59)), (24, (.int .i64 (x1.length : Int))), (25, (.int .i64 (IntKind.i64.wrap ((i61 : Int) + (1 : Int)))))] rfl ⟨rfl, rfl, rfl, rfl, rfl, rfl, trivial⟩ ?_
  refine wo_nil ?_
  exact wq_next rest62.length [(2, (.pointer (some ⟨b3, 0, none⟩))), (5, (.pointer (some ⟨b23, 0, none⟩))), (6, (.bool y36)), (23, (.slice A58 x1.length c59)), (24, (.int .i64 (x1.length : Int))), (25, (.int .i64 ((i61 + 1 : Nat) : Int)))] (Nat.lt_succ_self _) ⟨rfl, rfl, rfl, rfl, rfl, congrArg (fun z => some (Value.int .i64 z)) (wrap_succ hl71 (Nat.le_trans hlc59 hmc59)), trivial⟩ ⟨rest62, i61 + 1, O157, rfl, hd64, rfl, T60, hO, hS, hF, ib3, hb3, ib23, hb23, h⟩
end Go.Proofs.Ytjdeaihnpgkphaa
