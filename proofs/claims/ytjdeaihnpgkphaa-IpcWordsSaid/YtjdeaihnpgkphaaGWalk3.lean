/-
  The program's functions compute the plain ones (printed by a tool of the prover's).
-/
import Derived.Test.YtjdeaihnpgkphaaGWalk2
namespace Go.Proofs.Ytjdeaihnpgkphaa
open Go.RowKit Go.Dc Go.Shelf
set_option maxRecDepth 100000 in
set_option maxHeartbeats 4000000 in
theorem i_Check_c {O : List Nat} {w : World} (hO : OB O w) {fuel : Nat} {v0 : Value} {x0 : GIpc} (h0 : tGIpc.is O w v0 x0) {r : Int} (h : i_Check fuel x0 = some r) : Calls Try.prog 16 #[v0] w (Gives (rt1 (Ty.int .i64)) O w r) := by
  obtain ⟨v0_1, v0_2, rfl, h0_1, h0_2⟩ := tGIpc_is.1 h0
  have hF := Fr.refl [] w
  have hO0 := hO
  have hS := Sub.refl O
  refine calls_of (args := [(.agg #[v0_1, v0_2])]) (N := 87) Try.func16 rfl rfl rfl ?_
  unfold i_Check at h
  refine wc_seq ?_
  refine wc_region (l := [0, 1]) rfl ?_
  refine wo_box rfl rfl rfl rfl rfl rfl [v0_1, v0_2] rfl hO (fun b2 w3 n4 => ?_)
  have h0_1 := h0_1.tr n4.tr
  have h0_2 := h0_2.tr n4.tr
  have hb2 := n4.blk
  have gb2 := n4.ge0 hF
  have ib2 : b2 ∈ b2 :: O := List.mem_cons_self
  have hO := n4.ob
  have hF := hF.trans n4.fr
  have hS := Sub.cons hS b2
  refine wo_seg Θ_ok [1] [(1, (bp b2))] rfl ⟨rfl, trivial⟩ ?_
  refine wo_nil ?_
  refine wq_seq ?_
  refine wc_seq ?_
  refine wc_seq ?_
  refine wc_region (l := [0, 1, 2, 3]) rfl ?_
  refine wo_seg Θ_ok [0] [(1, (bp b2)), (7, (bp b2))] rfl ⟨rfl, rfl, trivial⟩ ?_
  refine wo_load Θ_ok rfl rfl rfl rfl rfl rfl rfl hb2 [v0_1] rfl rfl (.inr rfl) v0_1 rfl ?_
  obtain ⟨A5, c6, rfl, hlc6, hmc6⟩ := slice_form h0_1
  refine wo_seg Θ_ok [2] [(1, (bp b2)), (9, (.int .i64 (x0.fNames.length : Int)))] rfl ⟨rfl, rfl, trivial⟩ ?_
  refine wo_seg Θ_ok [3] [(1, (bp b2)), (10, (.bool (decide ((x0.fNames.length : Int) > (16 : Int)))))] rfl ⟨rfl, rfl, trivial⟩ ?_
  refine wo_nil ?_
  refine wq_seq ?_
  rcases bif_some h with ⟨hc7, h⟩ | ⟨hc7, h⟩
  · refine wc_known_true rfl hc7 ?_
    refine wc_seq ?_
    refine wc_region (l := [0]) rfl ?_
    refine wo_seg Θ_ok [0] [(2, (.int .i64 350))] rfl ⟨rfl, trivial⟩ ?_
    refine wo_nil ?_
    refine wq_seq ?_
    refine wc_ret ?_
    cases h
    exact wq_then_ret (wq_ret rfl ⟨_, rfl, (int_is.2 rfl), hF⟩)
  refine wc_known_false rfl hc7 ?_
  refine wc_skip ?_
  refine wq_seq ?_
  obtain ⟨k9, hk10, h⟩ := letk_some h
  refine wc_join (fun E W => ∃ (O13 : List Nat), E = [(1, (bp b2))] ∧ Tr (b2 :: O) w3 O13 W ∧ OB O13 W ∧ Sub O O13 ∧ Fr [] w W ∧ b2 ∈ O13 ∧ Blk W b2 25 [(.slice A5 x0.fNames.length c6), v0_2] ∧ k9 = some r) ?_ (fun K11 hK12 => ?_)
  rotate_left
  · clear hk10
    have T8 := Tr.refl (b2 :: O) w3
    refine wc_seq ?_
    refine wc_region (l := [0, 1, 2, 3]) rfl ?_
    refine wo_seg Θ_ok [0] [(1, (bp b2)), (11, (bp b2))] rfl ⟨rfl, rfl, trivial⟩ ?_
    refine wo_load Θ_ok rfl rfl rfl rfl rfl rfl rfl hb2 [(.slice A5 x0.fNames.length c6)] rfl rfl (.inr rfl) (.slice A5 x0.fNames.length c6) rfl ?_
    refine wo_seg Θ_ok [2, 3] [(1, (bp b2)), (12, (.slice A5 x0.fNames.length c6)), (13, (.int .i64 (x0.fNames.length : Int))), (14, (.int .i64 0))] rfl ⟨rfl, rfl, rfl, rfl, trivial⟩ ?_
    refine wo_nil ?_
    refine wq_seq ?_
    refine wc_block ?_
    refine wc_loop (fun m E W => ∃ (rest76 : List GName) (i75 : Nat) (O79 : List Nat), rest76.length = m ∧ x0.fNames.drop i75 = rest76 ∧ E = [(1, (bp b2)), (12, (.slice A5 x0.fNames.length c6)), (13, (.int .i64 (x0.fNames.length : Int))), (14, (.int .i64 (i75 : Int)))] ∧ Tr (b2 :: O) w3 O79 W ∧ OB O79 W ∧ Sub O O79 ∧ Fr [] w W ∧ b2 ∈ O79 ∧ Blk W b2 25 [(.slice A5 x0.fNames.length c6), v0_2] ∧ i_Check_l2 x0 k9 fuel rest76 i75 = some r) _ [(1, (bp b2)), (12, (.slice A5 x0.fNames.length c6)), (13, (.int .i64 (x0.fNames.length : Int))), (14, (.int .i64 ((0 : Nat) : Int)))] ⟨rfl, rfl, rfl, rfl, trivial⟩ ⟨x0.fNames, 0, b2 :: O, rfl, rfl, rfl, Tr.refl _ _, hO, hS, hF, ib2, hb2, h⟩ ?_
    rintro m E w80 ⟨rest76, i75, O79, rfl, hd78, rfl, T74, hO, hS, hF, ib2, hb2, h⟩
    have T8 := T8.trans T74
    have h0_1 := h0_1.tr T74
    have h0_2 := h0_2.tr T74
    rcases rest76 with _ | ⟨z77, rest76⟩
    · rw [i_Check_l2] at h
      have hl84 := drop_nil hd78
      have hc81 : (decide ((i75 : Int) < (x0.fNames.length : Int))) = false := decide_eq_false (by omega)
      refine wc_seq ?_
      refine wc_region (l := [0]) rfl ?_
      refine wo_seg Θ_ok [0] [(1, (bp b2)), (12, (.slice A5 x0.fNames.length c6)), (13, (.int .i64 (x0.fNames.length : Int))), (14, (.int .i64 (i75 : Int))), (15, (.bool (decide ((i75 : Int) < (x0.fNames.length : Int)))))] rfl ⟨rfl, rfl, rfl, rfl, rfl, trivial⟩ ?_
      refine wo_nil ?_
      refine wq_seq ?_
      refine wc_seq ?_
      refine wc_known_false rfl hc81 ?_
      refine wc_exit ?_
      exact wq_then_exit (wq_then_exit (wq_block_exit (wq_join hK12 [(1, (bp b2))] ⟨rfl, trivial⟩ ⟨O79, rfl, T8, hO, hS, hF, ib2, hb2, h⟩)))
    rw [i_Check_l2] at h
    obtain ⟨hl85, hg83, hd78⟩ := drop_cons hd78
    have hc82 : (decide ((i75 : Int) < (x0.fNames.length : Int))) = true := decide_eq_true (by omega)
    refine wc_seq ?_
    refine wc_region (l := [0]) rfl ?_
    refine wo_seg Θ_ok [0] [(1, (bp b2)), (12, (.slice A5 x0.fNames.length c6)), (13, (.int .i64 (x0.fNames.length : Int))), (14, (.int .i64 (i75 : Int))), (15, (.bool (decide ((i75 : Int) < (x0.fNames.length : Int)))))] rfl ⟨rfl, rfl, rfl, rfl, rfl, trivial⟩ ?_
    refine wo_nil ?_
    refine wq_seq ?_
    refine wc_seq ?_
    refine wc_known_true rfl hc82 ?_
    refine wc_skip ?_
    refine wq_seq ?_
    refine wc_seq ?_
    refine wc_block ?_
    refine wc_seq ?_
    refine wc_region (l := [0, 1, 2, 3, 4, 5]) rfl ?_
    refine wo_seg Θ_ok [0] [(1, (bp b2)), (12, (.slice A5 x0.fNames.length c6)), (13, (.int .i64 (x0.fNames.length : Int))), (14, (.int .i64 (i75 : Int))), (16, (.int .i64 (i75 : Int)))] rfl ⟨rfl, rfl, rfl, rfl, rfl, trivial⟩ ?_
    refine wo_index Θ_ok rfl rfl rfl rfl rfl rfl rfl rfl rfl rfl h0_1 rfl (by omega) hg83 (fun p86 h87 => ?_)
    refine wo_loadp Θ_ok rfl rfl rfl rfl rfl rfl rfl h87 rfl rfl (fun v88 h89 => ?_)
    obtain rfl := tGName_is.1 h89
    refine wo_alloc Θ_ok rfl rfl rfl rfl rfl rfl [(.int .u64 0), (.int .u64 0)] rfl hO (fun b90 w91 n92 => ?_)
    have h0_1 := h0_1.tr n92.tr
    have h0_2 := h0_2.tr n92.tr
    have T8 := T8.trans n92.tr
    have T74 := T74.trans n92.tr
    have nb90b2 : b90 ≠ b2 := by have := hb2.lt; have := n92.ge; omega
    have hb2 := hb2.fr0 n92.fr
    have ib2 := List.mem_cons_of_mem b90 ib2
    have hb90 := n92.blk
    have gb90 := n92.ge0 hF
    have ib90 : b90 ∈ b90 :: O79 := List.mem_cons_self
    have hO := n92.ob
    have hF := hF.trans n92.fr
    have hS := Sub.cons hS b90
    refine wo_seg Θ_ok [4] [(1, (bp b2)), (3, (.int .i64 (i75 : Int))), (4, (bp b90)), (12, (.slice A5 x0.fNames.length c6)), (13, (.int .i64 (x0.fNames.length : Int))), (14, (.int .i64 (i75 : Int))), (18, (.agg #[(.int .u64 z77.fName), (.int .u64 z77.fPid)]))] rfl ⟨rfl, rfl, rfl, rfl, rfl, rfl, rfl, trivial⟩ ?_
    refine wo_store Θ_ok rfl rfl rfl rfl rfl rfl rfl hb90 [(.int .u64 z77.fName), (.int .u64 z77.fPid)] rfl rfl (by simp [Value.oneCell']) rfl [(.int .u64 z77.fName), (.int .u64 z77.fPid)] rfl (fun w93 hb90 f94 => ?_)
    have h0_1 := h0_1.tr (f94.tr (one_in ib90))
    have h0_2 := h0_2.tr (f94.tr (one_in ib90))
    have T8 := T8.trans (f94.tr (one_in ib90))
    have T74 := T74.trans (f94.tr (one_in ib90))
    have hb2 := hb2.fr f94 (nin nb90b2.symm)
    have hO := f94.ob hO
    have hF := hF.own f94 gb90
    refine wo_nil ?_
    refine wq_seq ?_
    refine wc_seq ?_
    obtain ⟨y95, hy96, h⟩ := bind_some h
    rcases bif_some h with ⟨hc97, h⟩ | ⟨hc97, h⟩
    · refine wc_draw mixed [⟨19, [], [4]⟩, ⟨20, [0], []⟩, ⟨21, [1], []⟩, ⟨22, [2], []⟩, ⟨23, [3], []⟩, ⟨24, [4], [4]⟩, ⟨25, [4, 5], []⟩, ⟨26, [4, 6], []⟩, ⟨27, [4, 7], []⟩, ⟨28, [4, 8], []⟩, ⟨29, [9], []⟩, ⟨30, [10], [3]⟩, ⟨31, [10, 11], []⟩, ⟨32, [10, 12], []⟩, ⟨33, [13], [1]⟩, ⟨34, [13, 14], []⟩, ⟨35, [13], [3]⟩, ⟨36, [13, 16], []⟩, ⟨37, [13, 15, 17], []⟩, ⟨38, [13, 18], []⟩, ⟨39, [13, 19], []⟩, ⟨40, [13], [4]⟩, ⟨41, [13, 21], []⟩, ⟨42, [13, 20, 22], []⟩, ⟨43, [10, 13, 23], []⟩, ⟨44, [10, 24], []⟩] [SP.eq (bp b90), SP.eq (.int .u64 z77.fName), SP.eq (.bool y95), SP.eq (.bool (!y95)), SP.eq (.bool (!y95)), SP.eq undef, SP.eq undef, SP.eq undef, SP.eq undef, SP.eq (.bool true), SP.eq (.bool true), SP.eq undef, SP.eq undef, SP.eq undef, SP.eq undef, SP.eq undef, SP.eq undef, SP.eq undef, SP.eq undef, SP.eq undef, SP.eq undef, SP.eq undef, SP.eq undef, SP.eq undef, SP.eq undef, SP.eq (.bool true)] rfl rfl rfl ⟨?_, ?_, ?_, ?_, ?_, ?_, ?_, ?_, ?_, ?_, ?_, ?_, ?_, ?_, ?_, ?_, ?_, ?_, ?_, ?_, ?_, ?_, ?_, ?_, ?_, ?_, trivial⟩ ?_
      · intro a w2 hfr hN hds hb hd
        exact op_plain Θ_ok ⟨hN, hds, rows_get (E := [(4, (bp b90))]) ⟨hb 4 rfl _ rfl, trivial⟩⟩ rfl rfl rfl rfl rfl
      · intro a w2 hfr hN hds hb hd
        have hb90 := hb90.fr0 hfr
        exact op_load Θ_ok ⟨hN, hds, rows_get (E := [(19, (bp b90))]) ⟨(hd 0 rfl _ _ rfl rfl), trivial⟩⟩ rfl rfl rfl rfl rfl rfl hb90 [(.int .u64 z77.fName)] rfl rfl (.inr rfl) (.int .u64 z77.fName) rfl
      · intro a w2 hfr hN hds hb hd
        exact (op_call ⟨hN, hds, rows_get (E := [(20, (.int .u64 z77.fName))]) ⟨(hd 1 rfl _ _ rfl rfl), trivial⟩⟩ rfl rfl rfl rfl ent30 rfl (i_Is_c (hfr.ob hO) (int_is.2 rfl) hy96)).weaken (fun u w3 ⟨hu, hf⟩ => ⟨bool_is.1 hu, hf⟩)
      · intro a w2 hfr hN hds hb hd
        exact op_plain Θ_ok ⟨hN, hds, rows_get (E := [(21, (.bool y95))]) ⟨(hd 2 rfl _ _ rfl rfl), trivial⟩⟩ rfl rfl rfl rfl rfl
      · intro a w2 hfr hN hds hb hd
        exact op_plain Θ_ok ⟨hN, hds, rows_get (E := [(22, (.bool (!y95)))]) ⟨(hd 3 rfl _ _ rfl rfl), trivial⟩⟩ rfl rfl rfl rfl rfl
      · intro a w2 hfr hN hds hb hd
        exact op_skip ⟨hN, hds, rows_get (E := [(4, (bp b90)), (23, (.bool true))]) ⟨hb 4 rfl _ rfl, ((hd 4 rfl _ _ rfl rfl).trans (congrArg _ hc97)), trivial⟩⟩ rfl rfl rfl
      · intro a w2 hfr hN hds hb hd
        exact op_skip ⟨hN, hds, rows_get (E := [(23, (.bool true)), (24, undef)]) ⟨((hd 4 rfl _ _ rfl rfl).trans (congrArg _ hc97)), (hd 5 rfl _ _ rfl rfl), trivial⟩⟩ rfl rfl rfl
      · intro a w2 hfr hN hds hb hd
        exact op_skip ⟨hN, hds, rows_get (E := [(23, (.bool true)), (25, undef)]) ⟨((hd 4 rfl _ _ rfl rfl).trans (congrArg _ hc97)), (hd 6 rfl _ _ rfl rfl), trivial⟩⟩ rfl rfl rfl
      · intro a w2 hfr hN hds hb hd
        exact op_skip ⟨hN, hds, rows_get (E := [(23, (.bool true)), (26, undef)]) ⟨((hd 4 rfl _ _ rfl rfl).trans (congrArg _ hc97)), (hd 7 rfl _ _ rfl rfl), trivial⟩⟩ rfl rfl rfl
      · intro a w2 hfr hN hds hb hd
        exact op_plain Θ_ok ⟨hN, hds, rows_get (E := [(23, (.bool true)), (27, undef)]) ⟨((hd 4 rfl _ _ rfl rfl).trans (congrArg _ hc97)), (hd 8 rfl _ _ rfl rfl), trivial⟩⟩ rfl rfl rfl rfl rfl
      · intro a w2 hfr hN hds hb hd
        exact op_plain Θ_ok ⟨hN, hds, rows_get (E := [(28, (.bool true))]) ⟨(hd 9 rfl _ _ rfl rfl), trivial⟩⟩ rfl rfl rfl rfl rfl
      · intro a w2 hfr hN hds hb hd
        exact op_skip ⟨hN, hds, rows_get (E := [(3, (.int .i64 (i75 : Int))), (29, (.bool true))]) ⟨hb 3 rfl _ rfl, (hd 10 rfl _ _ rfl rfl), trivial⟩⟩ rfl rfl rfl
      · intro a w2 hfr hN hds hb hd
        exact op_skip ⟨hN, hds, rows_get (E := [(29, (.bool true)), (30, undef)]) ⟨(hd 10 rfl _ _ rfl rfl), (hd 11 rfl _ _ rfl rfl), trivial⟩⟩ rfl rfl rfl
      · intro a w2 hfr hN hds hb hd
        exact op_skip ⟨hN, hds, rows_get (E := [(29, (.bool true)), (31, undef)]) ⟨(hd 10 rfl _ _ rfl rfl), (hd 12 rfl _ _ rfl rfl), trivial⟩⟩ rfl rfl rfl
      · intro a w2 hfr hN hds hb hd
        exact op_skip ⟨hN, hds, rows_get (E := [(1, (bp b2)), (32, undef)]) ⟨hb 1 rfl _ rfl, (hd 13 rfl _ _ rfl rfl), trivial⟩⟩ rfl rfl rfl
      · intro a w2 hfr hN hds hb hd
        exact op_skip ⟨hN, hds, rows_get (E := [(32, undef), (33, undef)]) ⟨(hd 13 rfl _ _ rfl rfl), (hd 14 rfl _ _ rfl rfl), trivial⟩⟩ rfl rfl rfl
      · intro a w2 hfr hN hds hb hd
        exact op_skip ⟨hN, hds, rows_get (E := [(3, (.int .i64 (i75 : Int))), (32, undef)]) ⟨hb 3 rfl _ rfl, (hd 13 rfl _ _ rfl rfl), trivial⟩⟩ rfl rfl rfl
      · intro a w2 hfr hN hds hb hd
        exact op_skip ⟨hN, hds, rows_get (E := [(32, undef), (35, undef)]) ⟨(hd 13 rfl _ _ rfl rfl), (hd 16 rfl _ _ rfl rfl), trivial⟩⟩ rfl rfl rfl
      · intro a w2 hfr hN hds hb hd
        exact op_skip ⟨hN, hds, rows_get (E := [(32, undef), (34, undef), (36, undef)]) ⟨(hd 13 rfl _ _ rfl rfl), (hd 15 rfl _ _ rfl rfl), (hd 17 rfl _ _ rfl rfl), trivial⟩⟩ rfl rfl rfl
      · intro a w2 hfr hN hds hb hd
        exact op_skip ⟨hN, hds, rows_get (E := [(32, undef), (37, undef)]) ⟨(hd 13 rfl _ _ rfl rfl), (hd 18 rfl _ _ rfl rfl), trivial⟩⟩ rfl rfl rfl
      · intro a w2 hfr hN hds hb hd
        exact op_skip ⟨hN, hds, rows_get (E := [(32, undef), (38, undef)]) ⟨(hd 13 rfl _ _ rfl rfl), (hd 19 rfl _ _ rfl rfl), trivial⟩⟩ rfl rfl rfl
      · intro a w2 hfr hN hds hb hd
        exact op_skip ⟨hN, hds, rows_get (E := [(4, (bp b90)), (32, undef)]) ⟨hb 4 rfl _ rfl, (hd 13 rfl _ _ rfl rfl), trivial⟩⟩ rfl rfl rfl
      · intro a w2 hfr hN hds hb hd
        exact op_skip ⟨hN, hds, rows_get (E := [(32, undef), (40, undef)]) ⟨(hd 13 rfl _ _ rfl rfl), (hd 21 rfl _ _ rfl rfl), trivial⟩⟩ rfl rfl rfl
      · intro a w2 hfr hN hds hb hd
        exact op_skip ⟨hN, hds, rows_get (E := [(32, undef), (39, undef), (41, undef)]) ⟨(hd 13 rfl _ _ rfl rfl), (hd 20 rfl _ _ rfl rfl), (hd 22 rfl _ _ rfl rfl), trivial⟩⟩ rfl rfl rfl
      · intro a w2 hfr hN hds hb hd
        exact op_skip ⟨hN, hds, rows_get (E := [(29, (.bool true)), (32, undef), (42, undef)]) ⟨(hd 10 rfl _ _ rfl rfl), (hd 13 rfl _ _ rfl rfl), (hd 23 rfl _ _ rfl rfl), trivial⟩⟩ rfl rfl rfl
      · intro a w2 hfr hN hds hb hd
        exact op_plain Θ_ok ⟨hN, hds, rows_get (E := [(29, (.bool true)), (43, undef)]) ⟨(hd 10 rfl _ _ rfl rfl), (hd 24 rfl _ _ rfl rfl), trivial⟩⟩ rfl rfl rfl rfl rfl
      intro a w99 f98 hN hds hb hr
      have h0_1 := h0_1.tr f98.tr0
      have h0_2 := h0_2.tr f98.tr0
      have hb2 := hb2.fr0 f98
      have T8 := T8.trans f98.tr0
      have T74 := T74.trans f98.tr0
      have hO := f98.ob hO
      have hF := hF.trans f98
      refine wq_go (E := [(1, (bp b2)), (12, (.slice A5 x0.fNames.length c6)), (13, (.int .i64 (x0.fNames.length : Int))), (14, (.int .i64 (i75 : Int))), (44, (.bool true))]) hN hds ⟨hb 1 _ rfl rfl, hb 12 _ rfl rfl, hb 13 _ rfl rfl, hb 14 _ rfl rfl, (hr 25 _ _ rfl rfl), trivial⟩ ?_
      refine wq_seq ?_
      refine wc_true rfl ?_
      refine wc_seq ?_
      refine wc_region (l := [0]) rfl ?_
      refine wo_seg Θ_ok [0] [(2, (.int .i64 350))] rfl ⟨rfl, trivial⟩ ?_
      refine wo_nil ?_
      refine wq_seq ?_
      refine wc_ret ?_
      cases h
      exact wq_block_ret (wq_then_ret (wq_then_ret (wq_block_ret (wq_then_ret (wq_ret rfl ⟨_, rfl, (int_is.2 rfl), hF⟩)))))
    rcases bif_some h with ⟨hc100, h⟩ | ⟨hc100, h⟩
    · refine wc_draw mixed [⟨19, [], [4]⟩, ⟨20, [0], []⟩, ⟨21, [1], []⟩, ⟨22, [2], []⟩, ⟨23, [3], []⟩, ⟨24, [4], [4]⟩, ⟨25, [4, 5], []⟩, ⟨26, [4, 6], []⟩, ⟨27, [4, 7], []⟩, ⟨28, [4, 8], []⟩, ⟨29, [9], []⟩, ⟨30, [10], [3]⟩, ⟨31, [10, 11], []⟩, ⟨32, [10, 12], []⟩, ⟨33, [13], [1]⟩, ⟨34, [13, 14], []⟩, ⟨35, [13], [3]⟩, ⟨36, [13, 16], []⟩, ⟨37, [13, 15, 17], []⟩, ⟨38, [13, 18], []⟩, ⟨39, [13, 19], []⟩, ⟨40, [13], [4]⟩, ⟨41, [13, 21], []⟩, ⟨42, [13, 20, 22], []⟩, ⟨43, [10, 13, 23], []⟩, ⟨44, [10, 24], []⟩] [SP.eq (bp b90), SP.eq (.int .u64 z77.fName), SP.eq (.bool y95), SP.eq (.bool (!y95)), SP.eq (.bool (!y95)), SP.eq (.pointer (some ⟨b90, 1, none⟩)), SP.eq (.int .u64 z77.fPid), SP.eq (.bool ((i_isPid z77.fPid))), SP.eq (.bool (!(i_isPid z77.fPid))), SP.eq (.bool (!(i_isPid z77.fPid))), SP.eq (.bool (!(i_isPid z77.fPid))), SP.eq undef, SP.eq undef, SP.eq undef, SP.eq undef, SP.eq undef, SP.eq undef, SP.eq undef, SP.eq undef, SP.eq undef, SP.eq undef, SP.eq undef, SP.eq undef, SP.eq undef, SP.eq undef, SP.eq (.bool true)] rfl rfl rfl ⟨?_, ?_, ?_, ?_, ?_, ?_, ?_, ?_, ?_, ?_, ?_, ?_, ?_, ?_, ?_, ?_, ?_, ?_, ?_, ?_, ?_, ?_, ?_, ?_, ?_, ?_, trivial⟩ ?_
      · intro a w2 hfr hN hds hb hd
        exact op_plain Θ_ok ⟨hN, hds, rows_get (E := [(4, (bp b90))]) ⟨hb 4 rfl _ rfl, trivial⟩⟩ rfl rfl rfl rfl rfl
      · intro a w2 hfr hN hds hb hd
        have hb90 := hb90.fr0 hfr
        exact op_load Θ_ok ⟨hN, hds, rows_get (E := [(19, (bp b90))]) ⟨(hd 0 rfl _ _ rfl rfl), trivial⟩⟩ rfl rfl rfl rfl rfl rfl hb90 [(.int .u64 z77.fName)] rfl rfl (.inr rfl) (.int .u64 z77.fName) rfl
      · intro a w2 hfr hN hds hb hd
        exact (op_call ⟨hN, hds, rows_get (E := [(20, (.int .u64 z77.fName))]) ⟨(hd 1 rfl _ _ rfl rfl), trivial⟩⟩ rfl rfl rfl rfl ent30 rfl (i_Is_c (hfr.ob hO) (int_is.2 rfl) hy96)).weaken (fun u w3 ⟨hu, hf⟩ => ⟨bool_is.1 hu, hf⟩)
      · intro a w2 hfr hN hds hb hd
        exact op_plain Θ_ok ⟨hN, hds, rows_get (E := [(21, (.bool y95))]) ⟨(hd 2 rfl _ _ rfl rfl), trivial⟩⟩ rfl rfl rfl rfl rfl
      · intro a w2 hfr hN hds hb hd
        exact op_plain Θ_ok ⟨hN, hds, rows_get (E := [(22, (.bool (!y95)))]) ⟨(hd 3 rfl _ _ rfl rfl), trivial⟩⟩ rfl rfl rfl rfl rfl
      · intro a w2 hfr hN hds hb hd
        exact op_plain Θ_ok ⟨hN, hds, rows_get (E := [(4, (bp b90)), (23, (.bool false))]) ⟨hb 4 rfl _ rfl, ((hd 4 rfl _ _ rfl rfl).trans (congrArg _ hc97)), trivial⟩⟩ rfl rfl rfl rfl rfl
      · intro a w2 hfr hN hds hb hd
        have hb90 := hb90.fr0 hfr
        exact op_load Θ_ok ⟨hN, hds, rows_get (E := [(23, (.bool false)), (24, (.pointer (some ⟨b90, 1, none⟩)))]) ⟨((hd 4 rfl _ _ rfl rfl).trans (congrArg _ hc97)), (hd 5 rfl _ _ rfl rfl), trivial⟩⟩ rfl rfl rfl rfl rfl rfl hb90 [(.int .u64 z77.fPid)] rfl rfl (.inr rfl) (.int .u64 z77.fPid) rfl
      · intro a w2 hfr hN hds hb hd
        exact (op_call ⟨hN, hds, rows_get (E := [(23, (.bool false)), (25, (.int .u64 z77.fPid))]) ⟨((hd 4 rfl _ _ rfl rfl).trans (congrArg _ hc97)), (hd 6 rfl _ _ rfl rfl), trivial⟩⟩ rfl rfl rfl rfl ent34 rfl (i_isPid_c (hfr.ob hO) (int_is.2 rfl))).weaken (fun u w3 ⟨hu, hf⟩ => ⟨bool_is.1 hu, hf⟩)
      · intro a w2 hfr hN hds hb hd
        exact op_plain Θ_ok ⟨hN, hds, rows_get (E := [(23, (.bool false)), (26, (.bool ((i_isPid z77.fPid))))]) ⟨((hd 4 rfl _ _ rfl rfl).trans (congrArg _ hc97)), (hd 7 rfl _ _ rfl rfl), trivial⟩⟩ rfl rfl rfl rfl rfl
      · intro a w2 hfr hN hds hb hd
        exact op_plain Θ_ok ⟨hN, hds, rows_get (E := [(23, (.bool false)), (27, (.bool (!(i_isPid z77.fPid))))]) ⟨((hd 4 rfl _ _ rfl rfl).trans (congrArg _ hc97)), (hd 8 rfl _ _ rfl rfl), trivial⟩⟩ rfl rfl rfl rfl rfl
      · intro a w2 hfr hN hds hb hd
        exact op_plain Θ_ok ⟨hN, hds, rows_get (E := [(28, (.bool (!(i_isPid z77.fPid))))]) ⟨(hd 9 rfl _ _ rfl rfl), trivial⟩⟩ rfl rfl rfl rfl rfl
      · intro a w2 hfr hN hds hb hd
        exact op_skip ⟨hN, hds, rows_get (E := [(3, (.int .i64 (i75 : Int))), (29, (.bool true))]) ⟨hb 3 rfl _ rfl, ((hd 10 rfl _ _ rfl rfl).trans (congrArg _ hc100)), trivial⟩⟩ rfl rfl rfl
      · intro a w2 hfr hN hds hb hd
        exact op_skip ⟨hN, hds, rows_get (E := [(29, (.bool true)), (30, undef)]) ⟨((hd 10 rfl _ _ rfl rfl).trans (congrArg _ hc100)), (hd 11 rfl _ _ rfl rfl), trivial⟩⟩ rfl rfl rfl
      · intro a w2 hfr hN hds hb hd
        exact op_skip ⟨hN, hds, rows_get (E := [(29, (.bool true)), (31, undef)]) ⟨((hd 10 rfl _ _ rfl rfl).trans (congrArg _ hc100)), (hd 12 rfl _ _ rfl rfl), trivial⟩⟩ rfl rfl rfl
      · intro a w2 hfr hN hds hb hd
        exact op_skip ⟨hN, hds, rows_get (E := [(1, (bp b2)), (32, undef)]) ⟨hb 1 rfl _ rfl, (hd 13 rfl _ _ rfl rfl), trivial⟩⟩ rfl rfl rfl
      · intro a w2 hfr hN hds hb hd
        exact op_skip ⟨hN, hds, rows_get (E := [(32, undef), (33, undef)]) ⟨(hd 13 rfl _ _ rfl rfl), (hd 14 rfl _ _ rfl rfl), trivial⟩⟩ rfl rfl rfl
      · intro a w2 hfr hN hds hb hd
        exact op_skip ⟨hN, hds, rows_get (E := [(3, (.int .i64 (i75 : Int))), (32, undef)]) ⟨hb 3 rfl _ rfl, (hd 13 rfl _ _ rfl rfl), trivial⟩⟩ rfl rfl rfl
      · intro a w2 hfr hN hds hb hd
        exact op_skip ⟨hN, hds, rows_get (E := [(32, undef), (35, undef)]) ⟨(hd 13 rfl _ _ rfl rfl), (hd 16 rfl _ _ rfl rfl), trivial⟩⟩ rfl rfl rfl
      · intro a w2 hfr hN hds hb hd
        exact op_skip ⟨hN, hds, rows_get (E := [(32, undef), (34, undef), (36, undef)]) ⟨(hd 13 rfl _ _ rfl rfl), (hd 15 rfl _ _ rfl rfl), (hd 17 rfl _ _ rfl rfl), trivial⟩⟩ rfl rfl rfl
      · intro a w2 hfr hN hds hb hd
        exact op_skip ⟨hN, hds, rows_get (E := [(32, undef), (37, undef)]) ⟨(hd 13 rfl _ _ rfl rfl), (hd 18 rfl _ _ rfl rfl), trivial⟩⟩ rfl rfl rfl
      · intro a w2 hfr hN hds hb hd
        exact op_skip ⟨hN, hds, rows_get (E := [(32, undef), (38, undef)]) ⟨(hd 13 rfl _ _ rfl rfl), (hd 19 rfl _ _ rfl rfl), trivial⟩⟩ rfl rfl rfl
      · intro a w2 hfr hN hds hb hd
        exact op_skip ⟨hN, hds, rows_get (E := [(4, (bp b90)), (32, undef)]) ⟨hb 4 rfl _ rfl, (hd 13 rfl _ _ rfl rfl), trivial⟩⟩ rfl rfl rfl
      · intro a w2 hfr hN hds hb hd
        exact op_skip ⟨hN, hds, rows_get (E := [(32, undef), (40, undef)]) ⟨(hd 13 rfl _ _ rfl rfl), (hd 21 rfl _ _ rfl rfl), trivial⟩⟩ rfl rfl rfl
      · intro a w2 hfr hN hds hb hd
        exact op_skip ⟨hN, hds, rows_get (E := [(32, undef), (39, undef), (41, undef)]) ⟨(hd 13 rfl _ _ rfl rfl), (hd 20 rfl _ _ rfl rfl), (hd 22 rfl _ _ rfl rfl), trivial⟩⟩ rfl rfl rfl
      · intro a w2 hfr hN hds hb hd
        exact op_skip ⟨hN, hds, rows_get (E := [(29, (.bool true)), (32, undef), (42, undef)]) ⟨((hd 10 rfl _ _ rfl rfl).trans (congrArg _ hc100)), (hd 13 rfl _ _ rfl rfl), (hd 23 rfl _ _ rfl rfl), trivial⟩⟩ rfl rfl rfl
      · intro a w2 hfr hN hds hb hd
        exact op_plain Θ_ok ⟨hN, hds, rows_get (E := [(29, (.bool true)), (43, undef)]) ⟨((hd 10 rfl _ _ rfl rfl).trans (congrArg _ hc100)), (hd 24 rfl _ _ rfl rfl), trivial⟩⟩ rfl rfl rfl rfl rfl
      intro a w102 f101 hN hds hb hr
      have h0_1 := h0_1.tr f101.tr0
      have h0_2 := h0_2.tr f101.tr0
      have hb2 := hb2.fr0 f101
      have T8 := T8.trans f101.tr0
      have T74 := T74.trans f101.tr0
      have hO := f101.ob hO
      have hF := hF.trans f101
      refine wq_go (E := [(1, (bp b2)), (12, (.slice A5 x0.fNames.length c6)), (13, (.int .i64 (x0.fNames.length : Int))), (14, (.int .i64 (i75 : Int))), (44, (.bool true))]) hN hds ⟨hb 1 _ rfl rfl, hb 12 _ rfl rfl, hb 13 _ rfl rfl, hb 14 _ rfl rfl, (hr 25 _ _ rfl rfl), trivial⟩ ?_
      refine wq_seq ?_
      refine wc_true rfl ?_
      refine wc_seq ?_
      refine wc_region (l := [0]) rfl ?_
      refine wo_seg Θ_ok [0] [(2, (.int .i64 350))] rfl ⟨rfl, trivial⟩ ?_
      refine wo_nil ?_
      refine wq_seq ?_
      refine wc_ret ?_
      cases h
      exact wq_block_ret (wq_then_ret (wq_then_ret (wq_block_ret (wq_then_ret (wq_ret rfl ⟨_, rfl, (int_is.2 rfl), hF⟩)))))
    rcases bif_some h with ⟨hc103, h⟩ | ⟨hc103, h⟩
    rotate_left
    · refine wc_draw mixed [⟨19, [], [4]⟩, ⟨20, [0], []⟩, ⟨21, [1], []⟩, ⟨22, [2], []⟩, ⟨23, [3], []⟩, ⟨24, [4], [4]⟩, ⟨25, [4, 5], []⟩, ⟨26, [4, 6], []⟩, ⟨27, [4, 7], []⟩, ⟨28, [4, 8], []⟩, ⟨29, [9], []⟩, ⟨30, [10], [3]⟩, ⟨31, [10, 11], []⟩, ⟨32, [10, 12], []⟩, ⟨33, [13], [1]⟩, ⟨34, [13, 14], []⟩, ⟨35, [13], [3]⟩, ⟨36, [13, 16], []⟩, ⟨37, [13, 15, 17], []⟩, ⟨38, [13, 18], []⟩, ⟨39, [13, 19], []⟩, ⟨40, [13], [4]⟩, ⟨41, [13, 21], []⟩, ⟨42, [13, 20, 22], []⟩, ⟨43, [10, 13, 23], []⟩, ⟨44, [10, 24], []⟩] [SP.eq (bp b90), SP.eq (.int .u64 z77.fName), SP.eq (.bool y95), SP.eq (.bool (!y95)), SP.eq (.bool (!y95)), SP.eq (.pointer (some ⟨b90, 1, none⟩)), SP.eq (.int .u64 z77.fPid), SP.eq (.bool ((i_isPid z77.fPid))), SP.eq (.bool (!(i_isPid z77.fPid))), SP.eq (.bool (!(i_isPid z77.fPid))), SP.eq (.bool (!(i_isPid z77.fPid))), SP.eq (.int .i64 (i75 : Int)), SP.eq (.bool (decide ((i75 : Int) > (0 : Int)))), SP.eq (.bool (decide ((i75 : Int) > (0 : Int)))), SP.eq undef, SP.eq undef, SP.eq undef, SP.eq undef, SP.eq undef, SP.eq undef, SP.eq undef, SP.eq undef, SP.eq undef, SP.eq undef, SP.eq (.bool false), SP.eq (.bool false)] rfl rfl rfl ⟨?_, ?_, ?_, ?_, ?_, ?_, ?_, ?_, ?_, ?_, ?_, ?_, ?_, ?_, ?_, ?_, ?_, ?_, ?_, ?_, ?_, ?_, ?_, ?_, ?_, ?_, trivial⟩ ?_
      · intro a w2 hfr hN hds hb hd
        exact op_plain Θ_ok ⟨hN, hds, rows_get (E := [(4, (bp b90))]) ⟨hb 4 rfl _ rfl, trivial⟩⟩ rfl rfl rfl rfl rfl
      · intro a w2 hfr hN hds hb hd
        have hb90 := hb90.fr0 hfr
        exact op_load Θ_ok ⟨hN, hds, rows_get (E := [(19, (bp b90))]) ⟨(hd 0 rfl _ _ rfl rfl), trivial⟩⟩ rfl rfl rfl rfl rfl rfl hb90 [(.int .u64 z77.fName)] rfl rfl (.inr rfl) (.int .u64 z77.fName) rfl
      · intro a w2 hfr hN hds hb hd
        exact (op_call ⟨hN, hds, rows_get (E := [(20, (.int .u64 z77.fName))]) ⟨(hd 1 rfl _ _ rfl rfl), trivial⟩⟩ rfl rfl rfl rfl ent30 rfl (i_Is_c (hfr.ob hO) (int_is.2 rfl) hy96)).weaken (fun u w3 ⟨hu, hf⟩ => ⟨bool_is.1 hu, hf⟩)
      · intro a w2 hfr hN hds hb hd
        exact op_plain Θ_ok ⟨hN, hds, rows_get (E := [(21, (.bool y95))]) ⟨(hd 2 rfl _ _ rfl rfl), trivial⟩⟩ rfl rfl rfl rfl rfl
      · intro a w2 hfr hN hds hb hd
        exact op_plain Θ_ok ⟨hN, hds, rows_get (E := [(22, (.bool (!y95)))]) ⟨(hd 3 rfl _ _ rfl rfl), trivial⟩⟩ rfl rfl rfl rfl rfl
      · intro a w2 hfr hN hds hb hd
        exact op_plain Θ_ok ⟨hN, hds, rows_get (E := [(4, (bp b90)), (23, (.bool false))]) ⟨hb 4 rfl _ rfl, ((hd 4 rfl _ _ rfl rfl).trans (congrArg _ hc97)), trivial⟩⟩ rfl rfl rfl rfl rfl
      · intro a w2 hfr hN hds hb hd
        have hb90 := hb90.fr0 hfr
        exact op_load Θ_ok ⟨hN, hds, rows_get (E := [(23, (.bool false)), (24, (.pointer (some ⟨b90, 1, none⟩)))]) ⟨((hd 4 rfl _ _ rfl rfl).trans (congrArg _ hc97)), (hd 5 rfl _ _ rfl rfl), trivial⟩⟩ rfl rfl rfl rfl rfl rfl hb90 [(.int .u64 z77.fPid)] rfl rfl (.inr rfl) (.int .u64 z77.fPid) rfl
      · intro a w2 hfr hN hds hb hd
        exact (op_call ⟨hN, hds, rows_get (E := [(23, (.bool false)), (25, (.int .u64 z77.fPid))]) ⟨((hd 4 rfl _ _ rfl rfl).trans (congrArg _ hc97)), (hd 6 rfl _ _ rfl rfl), trivial⟩⟩ rfl rfl rfl rfl ent34 rfl (i_isPid_c (hfr.ob hO) (int_is.2 rfl))).weaken (fun u w3 ⟨hu, hf⟩ => ⟨bool_is.1 hu, hf⟩)
      · intro a w2 hfr hN hds hb hd
        exact op_plain Θ_ok ⟨hN, hds, rows_get (E := [(23, (.bool false)), (26, (.bool ((i_isPid z77.fPid))))]) ⟨((hd 4 rfl _ _ rfl rfl).trans (congrArg _ hc97)), (hd 7 rfl _ _ rfl rfl), trivial⟩⟩ rfl rfl rfl rfl rfl
      · intro a w2 hfr hN hds hb hd
        exact op_plain Θ_ok ⟨hN, hds, rows_get (E := [(23, (.bool false)), (27, (.bool (!(i_isPid z77.fPid))))]) ⟨((hd 4 rfl _ _ rfl rfl).trans (congrArg _ hc97)), (hd 8 rfl _ _ rfl rfl), trivial⟩⟩ rfl rfl rfl rfl rfl
      · intro a w2 hfr hN hds hb hd
        exact op_plain Θ_ok ⟨hN, hds, rows_get (E := [(28, (.bool (!(i_isPid z77.fPid))))]) ⟨(hd 9 rfl _ _ rfl rfl), trivial⟩⟩ rfl rfl rfl rfl rfl
      · intro a w2 hfr hN hds hb hd
        exact op_plain Θ_ok ⟨hN, hds, rows_get (E := [(3, (.int .i64 (i75 : Int))), (29, (.bool false))]) ⟨hb 3 rfl _ rfl, ((hd 10 rfl _ _ rfl rfl).trans (congrArg _ hc100)), trivial⟩⟩ rfl rfl rfl rfl rfl
      · intro a w2 hfr hN hds hb hd
        exact op_plain Θ_ok ⟨hN, hds, rows_get (E := [(29, (.bool false)), (30, (.int .i64 (i75 : Int)))]) ⟨((hd 10 rfl _ _ rfl rfl).trans (congrArg _ hc100)), (hd 11 rfl _ _ rfl rfl), trivial⟩⟩ rfl rfl rfl rfl rfl
      · intro a w2 hfr hN hds hb hd
        exact op_plain Θ_ok ⟨hN, hds, rows_get (E := [(29, (.bool false)), (31, (.bool (decide ((i75 : Int) > (0 : Int)))))]) ⟨((hd 10 rfl _ _ rfl rfl).trans (congrArg _ hc100)), (hd 12 rfl _ _ rfl rfl), trivial⟩⟩ rfl rfl rfl rfl rfl
      · intro a w2 hfr hN hds hb hd
        exact op_skip ⟨hN, hds, rows_get (E := [(1, (bp b2)), (32, (.bool false))]) ⟨hb 1 rfl _ rfl, ((hd 13 rfl _ _ rfl rfl).trans (congrArg _ hc103)), trivial⟩⟩ rfl rfl rfl
      · intro a w2 hfr hN hds hb hd
        exact op_skip ⟨hN, hds, rows_get (E := [(32, (.bool false)), (33, undef)]) ⟨((hd 13 rfl _ _ rfl rfl).trans (congrArg _ hc103)), (hd 14 rfl _ _ rfl rfl), trivial⟩⟩ rfl rfl rfl
      · intro a w2 hfr hN hds hb hd
        exact op_skip ⟨hN, hds, rows_get (E := [(3, (.int .i64 (i75 : Int))), (32, (.bool false))]) ⟨hb 3 rfl _ rfl, ((hd 13 rfl _ _ rfl rfl).trans (congrArg _ hc103)), trivial⟩⟩ rfl rfl rfl
      · intro a w2 hfr hN hds hb hd
        exact op_skip ⟨hN, hds, rows_get (E := [(32, (.bool false)), (35, undef)]) ⟨((hd 13 rfl _ _ rfl rfl).trans (congrArg _ hc103)), (hd 16 rfl _ _ rfl rfl), trivial⟩⟩ rfl rfl rfl
      · intro a w2 hfr hN hds hb hd
        exact op_skip ⟨hN, hds, rows_get (E := [(32, (.bool false)), (34, undef), (36, undef)]) ⟨((hd 13 rfl _ _ rfl rfl).trans (congrArg _ hc103)), (hd 15 rfl _ _ rfl rfl), (hd 17 rfl _ _ rfl rfl), trivial⟩⟩ rfl rfl rfl
      · intro a w2 hfr hN hds hb hd
        exact op_skip ⟨hN, hds, rows_get (E := [(32, (.bool false)), (37, undef)]) ⟨((hd 13 rfl _ _ rfl rfl).trans (congrArg _ hc103)), (hd 18 rfl _ _ rfl rfl), trivial⟩⟩ rfl rfl rfl
      · intro a w2 hfr hN hds hb hd
        exact op_skip ⟨hN, hds, rows_get (E := [(32, (.bool false)), (38, undef)]) ⟨((hd 13 rfl _ _ rfl rfl).trans (congrArg _ hc103)), (hd 19 rfl _ _ rfl rfl), trivial⟩⟩ rfl rfl rfl
      · intro a w2 hfr hN hds hb hd
        exact op_skip ⟨hN, hds, rows_get (E := [(4, (bp b90)), (32, (.bool false))]) ⟨hb 4 rfl _ rfl, ((hd 13 rfl _ _ rfl rfl).trans (congrArg _ hc103)), trivial⟩⟩ rfl rfl rfl
      · intro a w2 hfr hN hds hb hd
        exact op_skip ⟨hN, hds, rows_get (E := [(32, (.bool false)), (40, undef)]) ⟨((hd 13 rfl _ _ rfl rfl).trans (congrArg _ hc103)), (hd 21 rfl _ _ rfl rfl), trivial⟩⟩ rfl rfl rfl
      · intro a w2 hfr hN hds hb hd
        exact op_skip ⟨hN, hds, rows_get (E := [(32, (.bool false)), (39, undef), (41, undef)]) ⟨((hd 13 rfl _ _ rfl rfl).trans (congrArg _ hc103)), (hd 20 rfl _ _ rfl rfl), (hd 22 rfl _ _ rfl rfl), trivial⟩⟩ rfl rfl rfl
      · intro a w2 hfr hN hds hb hd
        exact op_plain Θ_ok ⟨hN, hds, rows_get (E := [(29, (.bool false)), (32, (.bool false)), (42, undef)]) ⟨((hd 10 rfl _ _ rfl rfl).trans (congrArg _ hc100)), ((hd 13 rfl _ _ rfl rfl).trans (congrArg _ hc103)), (hd 23 rfl _ _ rfl rfl), trivial⟩⟩ rfl rfl rfl rfl rfl
      · intro a w2 hfr hN hds hb hd
        exact op_plain Θ_ok ⟨hN, hds, rows_get (E := [(29, (.bool false)), (43, (.bool false))]) ⟨((hd 10 rfl _ _ rfl rfl).trans (congrArg _ hc100)), (hd 24 rfl _ _ rfl rfl), trivial⟩⟩ rfl rfl rfl rfl rfl
      intro a w118 f117 hN hds hb hr
      have h0_1 := h0_1.tr f117.tr0
      have h0_2 := h0_2.tr f117.tr0
      have hb2 := hb2.fr0 f117
      have T8 := T8.trans f117.tr0
      have T74 := T74.trans f117.tr0
      have hO := f117.ob hO
      have hF := hF.trans f117
      refine wq_go (E := [(1, (bp b2)), (12, (.slice A5 x0.fNames.length c6)), (13, (.int .i64 (x0.fNames.length : Int))), (14, (.int .i64 (i75 : Int))), (44, (.bool false))]) hN hds ⟨hb 1 _ rfl rfl, hb 12 _ rfl rfl, hb 13 _ rfl rfl, hb 14 _ rfl rfl, (hr 25 _ _ rfl rfl), trivial⟩ ?_
      refine wq_seq ?_
      refine wc_false rfl ?_
      refine wc_skip ?_
      refine wq_block (wq_seq ?_)
      refine wc_region (l := [0, 1]) rfl ?_
      refine wo_seg Θ_ok [0, 1] [(1, (bp b2)), (12, (.slice A5 x0.fNames.length c6)), (13, (.int .i64 (x0.fNames.length : Int))), (14, (.int .i64 (IntKind.i64.wrap ((i75 : Int) + (1 : Int)))))] rfl ⟨rfl, rfl, rfl, rfl, trivial⟩ ?_
      refine wo_nil ?_
      exact wq_next rest76.length [(1, (bp b2)), (12, (.slice A5 x0.fNames.length c6)), (13, (.int .i64 (x0.fNames.length : Int))), (14, (.int .i64 ((i75 + 1 : Nat) : Int)))] (Nat.lt_succ_self _) ⟨rfl, rfl, rfl, congrArg (fun z => some (Value.int .i64 z)) (wrap_succ hl85 (Nat.le_trans hlc6 hmc6)), trivial⟩ ⟨rest76, i75 + 1, b90 :: O79, rfl, hd78, rfl, T74, hO, hS, hF, ib2, hb2, h⟩
    obtain ⟨y104, hz105, h⟩ := bind_some h
    refine wc_draw mixed [⟨19, [], [4]⟩, ⟨20, [0], []⟩, ⟨21, [1], []⟩, ⟨22, [2], []⟩, ⟨23, [3], []⟩, ⟨24, [4], [4]⟩, ⟨25, [4, 5], []⟩, ⟨26, [4, 6], []⟩, ⟨27, [4, 7], []⟩, ⟨28, [4, 8], []⟩, ⟨29, [9], []⟩, ⟨30, [10], [3]⟩, ⟨31, [10, 11], []⟩, ⟨32, [10, 12], []⟩, ⟨33, [13], [1]⟩, ⟨34, [13, 14], []⟩, ⟨35, [13], [3]⟩, ⟨36, [13, 16], []⟩, ⟨37, [13, 15, 17], []⟩, ⟨38, [13, 18], []⟩, ⟨39, [13, 19], []⟩, ⟨40, [13], [4]⟩, ⟨41, [13, 21], []⟩, ⟨42, [13, 20, 22], []⟩, ⟨43, [10, 13, 23], []⟩, ⟨44, [10, 24], []⟩] [SP.eq (bp b90), SP.eq (.int .u64 z77.fName), SP.eq (.bool y95), SP.eq (.bool (!y95)), SP.eq (.bool (!y95)), SP.eq (.pointer (some ⟨b90, 1, none⟩)), SP.eq (.int .u64 z77.fPid), SP.eq (.bool ((i_isPid z77.fPid))), SP.eq (.bool (!(i_isPid z77.fPid))), SP.eq (.bool (!(i_isPid z77.fPid))), SP.eq (.bool (!(i_isPid z77.fPid))), SP.eq (.int .i64 (i75 : Int)), SP.eq (.bool (decide ((i75 : Int) > (0 : Int)))), SP.eq (.bool (decide ((i75 : Int) > (0 : Int)))), SP.eq (bp b2), SP.eq (.slice A5 x0.fNames.length c6), SP.eq (.int .i64 (i75 : Int)), SP.eq (.int .i64 (IntKind.i64.wrap ((i75 : Int) - (1 : Int)))), SP.is (Ty.ptr tGName) (b90 :: O79) y104, SP.is (Ty.ptr (Ty.int .u64)) (b90 :: O79) y104.fName, SP.eq (.int .u64 y104.fName), SP.eq (bp b90), SP.eq (.int .u64 z77.fName), SP.eq (.bool (decide (y104.fName ≥ z77.fName))), SP.eq (.bool (decide (y104.fName ≥ z77.fName))), SP.eq (.bool (decide (y104.fName ≥ z77.fName)))] rfl rfl rfl ⟨?_, ?_, ?_, ?_, ?_, ?_, ?_, ?_, ?_, ?_, ?_, ?_, ?_, ?_, ?_, ?_, ?_, ?_, ?_, ?_, ?_, ?_, ?_, ?_, ?_, ?_, trivial⟩ ?_
    · intro a w2 hfr hN hds hb hd
      exact op_plain Θ_ok ⟨hN, hds, rows_get (E := [(4, (bp b90))]) ⟨hb 4 rfl _ rfl, trivial⟩⟩ rfl rfl rfl rfl rfl
    · intro a w2 hfr hN hds hb hd
      have hb90 := hb90.fr0 hfr
      exact op_load Θ_ok ⟨hN, hds, rows_get (E := [(19, (bp b90))]) ⟨(hd 0 rfl _ _ rfl rfl), trivial⟩⟩ rfl rfl rfl rfl rfl rfl hb90 [(.int .u64 z77.fName)] rfl rfl (.inr rfl) (.int .u64 z77.fName) rfl
    · intro a w2 hfr hN hds hb hd
      exact (op_call ⟨hN, hds, rows_get (E := [(20, (.int .u64 z77.fName))]) ⟨(hd 1 rfl _ _ rfl rfl), trivial⟩⟩ rfl rfl rfl rfl ent30 rfl (i_Is_c (hfr.ob hO) (int_is.2 rfl) hy96)).weaken (fun u w3 ⟨hu, hf⟩ => ⟨bool_is.1 hu, hf⟩)
    · intro a w2 hfr hN hds hb hd
      exact op_plain Θ_ok ⟨hN, hds, rows_get (E := [(21, (.bool y95))]) ⟨(hd 2 rfl _ _ rfl rfl), trivial⟩⟩ rfl rfl rfl rfl rfl
    · intro a w2 hfr hN hds hb hd
      exact op_plain Θ_ok ⟨hN, hds, rows_get (E := [(22, (.bool (!y95)))]) ⟨(hd 3 rfl _ _ rfl rfl), trivial⟩⟩ rfl rfl rfl rfl rfl
    · intro a w2 hfr hN hds hb hd
      exact op_plain Θ_ok ⟨hN, hds, rows_get (E := [(4, (bp b90)), (23, (.bool false))]) ⟨hb 4 rfl _ rfl, ((hd 4 rfl _ _ rfl rfl).trans (congrArg _ hc97)), trivial⟩⟩ rfl rfl rfl rfl rfl
    · intro a w2 hfr hN hds hb hd
      have hb90 := hb90.fr0 hfr
      exact op_load Θ_ok ⟨hN, hds, rows_get (E := [(23, (.bool false)), (24, (.pointer (some ⟨b90, 1, none⟩)))]) ⟨((hd 4 rfl _ _ rfl rfl).trans (congrArg _ hc97)), (hd 5 rfl _ _ rfl rfl), trivial⟩⟩ rfl rfl rfl rfl rfl rfl hb90 [(.int .u64 z77.fPid)] rfl rfl (.inr rfl) (.int .u64 z77.fPid) rfl
    · intro a w2 hfr hN hds hb hd
      exact (op_call ⟨hN, hds, rows_get (E := [(23, (.bool false)), (25, (.int .u64 z77.fPid))]) ⟨((hd 4 rfl _ _ rfl rfl).trans (congrArg _ hc97)), (hd 6 rfl _ _ rfl rfl), trivial⟩⟩ rfl rfl rfl rfl ent34 rfl (i_isPid_c (hfr.ob hO) (int_is.2 rfl))).weaken (fun u w3 ⟨hu, hf⟩ => ⟨bool_is.1 hu, hf⟩)
    · intro a w2 hfr hN hds hb hd
      exact op_plain Θ_ok ⟨hN, hds, rows_get (E := [(23, (.bool false)), (26, (.bool ((i_isPid z77.fPid))))]) ⟨((hd 4 rfl _ _ rfl rfl).trans (congrArg _ hc97)), (hd 7 rfl _ _ rfl rfl), trivial⟩⟩ rfl rfl rfl rfl rfl
    · intro a w2 hfr hN hds hb hd
      exact op_plain Θ_ok ⟨hN, hds, rows_get (E := [(23, (.bool false)), (27, (.bool (!(i_isPid z77.fPid))))]) ⟨((hd 4 rfl _ _ rfl rfl).trans (congrArg _ hc97)), (hd 8 rfl _ _ rfl rfl), trivial⟩⟩ rfl rfl rfl rfl rfl
    · intro a w2 hfr hN hds hb hd
      exact op_plain Θ_ok ⟨hN, hds, rows_get (E := [(28, (.bool (!(i_isPid z77.fPid))))]) ⟨(hd 9 rfl _ _ rfl rfl), trivial⟩⟩ rfl rfl rfl rfl rfl
    · intro a w2 hfr hN hds hb hd
      exact op_plain Θ_ok ⟨hN, hds, rows_get (E := [(3, (.int .i64 (i75 : Int))), (29, (.bool false))]) ⟨hb 3 rfl _ rfl, ((hd 10 rfl _ _ rfl rfl).trans (congrArg _ hc100)), trivial⟩⟩ rfl rfl rfl rfl rfl
    · intro a w2 hfr hN hds hb hd
      exact op_plain Θ_ok ⟨hN, hds, rows_get (E := [(29, (.bool false)), (30, (.int .i64 (i75 : Int)))]) ⟨((hd 10 rfl _ _ rfl rfl).trans (congrArg _ hc100)), (hd 11 rfl _ _ rfl rfl), trivial⟩⟩ rfl rfl rfl rfl rfl
    · intro a w2 hfr hN hds hb hd
      exact op_plain Θ_ok ⟨hN, hds, rows_get (E := [(29, (.bool false)), (31, (.bool (decide ((i75 : Int) > (0 : Int)))))]) ⟨((hd 10 rfl _ _ rfl rfl).trans (congrArg _ hc100)), (hd 12 rfl _ _ rfl rfl), trivial⟩⟩ rfl rfl rfl rfl rfl
    · intro a w2 hfr hN hds hb hd
      exact op_plain Θ_ok ⟨hN, hds, rows_get (E := [(1, (bp b2)), (32, (.bool true))]) ⟨hb 1 rfl _ rfl, ((hd 13 rfl _ _ rfl rfl).trans (congrArg _ hc103)), trivial⟩⟩ rfl rfl rfl rfl rfl
    · intro a w2 hfr hN hds hb hd
      have hb2 := hb2.fr0 hfr
      exact op_load Θ_ok ⟨hN, hds, rows_get (E := [(32, (.bool true)), (33, (bp b2))]) ⟨((hd 13 rfl _ _ rfl rfl).trans (congrArg _ hc103)), (hd 14 rfl _ _ rfl rfl), trivial⟩⟩ rfl rfl rfl rfl rfl rfl hb2 [(.slice A5 x0.fNames.length c6)] rfl rfl (.inr rfl) (.slice A5 x0.fNames.length c6) rfl
    · intro a w2 hfr hN hds hb hd
      exact op_plain Θ_ok ⟨hN, hds, rows_get (E := [(3, (.int .i64 (i75 : Int))), (32, (.bool true))]) ⟨hb 3 rfl _ rfl, ((hd 13 rfl _ _ rfl rfl).trans (congrArg _ hc103)), trivial⟩⟩ rfl rfl rfl rfl rfl
    · intro a w2 hfr hN hds hb hd
      exact op_plain Θ_ok ⟨hN, hds, rows_get (E := [(32, (.bool true)), (35, (.int .i64 (i75 : Int)))]) ⟨((hd 13 rfl _ _ rfl rfl).trans (congrArg _ hc103)), (hd 16 rfl _ _ rfl rfl), trivial⟩⟩ rfl rfl rfl rfl rfl
    · intro a w2 hfr hN hds hb hd
      have h0_1 := h0_1.tr hfr.tr0
      exact op_index (j := (IntKind.i64.wrap ((i75 : Int) - (1 : Int)))) Θ_ok ⟨hN, hds, rows_get (E := [(32, (.bool true)), (34, (.slice A5 x0.fNames.length c6)), (36, (.int .i64 (IntKind.i64.wrap ((i75 : Int) - (1 : Int)))))]) ⟨((hd 13 rfl _ _ rfl rfl).trans (congrArg _ hc103)), (hd 15 rfl _ _ rfl rfl), (hd 17 rfl _ _ rfl rfl), trivial⟩⟩ rfl rfl rfl rfl rfl rfl rfl rfl rfl h0_1 rfl (idx_some hz105).1 (idx_some hz105).2
    · intro a w2 hfr hN hds hb hd
      have d108 : (Ty.ptr tGName).is (b90 :: O79) w2 (a.tmps.getD 37 undef) y104 := hd 18 rfl _ _ rfl rfl
      obtain ⟨u106, e107⟩ : ∃ v, a.tmps.getD 37 undef = v := ⟨_, rfl⟩
      rw [e107] at d108
      obtain ⟨ad109, rfl⟩ := ptr_form d108
      have h110 := ptr_sub (S := (Ty.int .u64)) (off := 0) (y := y104.fName) d108 (fun cs hr => by obtain rfl := tGName_rep hr; exact rfl)
      exact (op_plain (v := (.pointer (some (ad109.add 0)))) Θ_ok ⟨hN, hds, rows_get (E := [(32, (.bool true)), (37, (.pointer (some ad109)))]) ⟨((hd 13 rfl _ _ rfl rfl).trans (congrArg _ hc103)), e107, trivial⟩⟩ rfl rfl rfl rfl rfl).weaken (fun u w3 ⟨hu, hf⟩ => by subst hu; exact ⟨h110.tr hf.tr0, hf⟩)
    · intro a w2 hfr hN hds hb hd
      have d113 : (Ty.ptr (Ty.int .u64)).is (b90 :: O79) w2 (a.tmps.getD 38 undef) y104.fName := hd 19 rfl _ _ rfl rfl
      obtain ⟨u111, e112⟩ : ∃ v, a.tmps.getD 38 undef = v := ⟨_, rfl⟩
      rw [e112] at d113
      exact (op_loadp Θ_ok ⟨hN, hds, rows_get (E := [(32, (.bool true)), (38, u111)]) ⟨((hd 13 rfl _ _ rfl rfl).trans (congrArg _ hc103)), e112, trivial⟩⟩ rfl rfl rfl rfl rfl rfl d113 rfl rfl).weaken (fun u w3 ⟨hu, hf⟩ => ⟨int_is.1 hu, hf⟩)
    · intro a w2 hfr hN hds hb hd
      exact op_plain Θ_ok ⟨hN, hds, rows_get (E := [(4, (bp b90)), (32, (.bool true))]) ⟨hb 4 rfl _ rfl, ((hd 13 rfl _ _ rfl rfl).trans (congrArg _ hc103)), trivial⟩⟩ rfl rfl rfl rfl rfl
    · intro a w2 hfr hN hds hb hd
      have hb90 := hb90.fr0 hfr
      exact op_load Θ_ok ⟨hN, hds, rows_get (E := [(32, (.bool true)), (40, (bp b90))]) ⟨((hd 13 rfl _ _ rfl rfl).trans (congrArg _ hc103)), (hd 21 rfl _ _ rfl rfl), trivial⟩⟩ rfl rfl rfl rfl rfl rfl hb90 [(.int .u64 z77.fName)] rfl rfl (.inr rfl) (.int .u64 z77.fName) rfl
    · intro a w2 hfr hN hds hb hd
      exact op_plain Θ_ok ⟨hN, hds, rows_get (E := [(32, (.bool true)), (39, (.int .u64 y104.fName)), (41, (.int .u64 z77.fName))]) ⟨((hd 13 rfl _ _ rfl rfl).trans (congrArg _ hc103)), (hd 20 rfl _ _ rfl rfl), (hd 22 rfl _ _ rfl rfl), trivial⟩⟩ rfl rfl rfl rfl rfl
    · intro a w2 hfr hN hds hb hd
      exact op_plain Θ_ok ⟨hN, hds, rows_get (E := [(29, (.bool false)), (32, (.bool true)), (42, (.bool (decide (y104.fName ≥ z77.fName))))]) ⟨((hd 10 rfl _ _ rfl rfl).trans (congrArg _ hc100)), ((hd 13 rfl _ _ rfl rfl).trans (congrArg _ hc103)), (hd 23 rfl _ _ rfl rfl), trivial⟩⟩ rfl rfl rfl rfl rfl
    · intro a w2 hfr hN hds hb hd
      exact op_plain Θ_ok ⟨hN, hds, rows_get (E := [(29, (.bool false)), (43, (.bool (decide (y104.fName ≥ z77.fName))))]) ⟨((hd 10 rfl _ _ rfl rfl).trans (congrArg _ hc100)), (hd 24 rfl _ _ rfl rfl), trivial⟩⟩ rfl rfl rfl rfl rfl
    intro a w115 f114 hN hds hb hr
    have h0_1 := h0_1.tr f114.tr0
    have h0_2 := h0_2.tr f114.tr0
    have hb2 := hb2.fr0 f114
    have T8 := T8.trans f114.tr0
    have T74 := T74.trans f114.tr0
    have hO := f114.ob hO
    have hF := hF.trans f114
    refine wq_go (E := [(1, (bp b2)), (12, (.slice A5 x0.fNames.length c6)), (13, (.int .i64 (x0.fNames.length : Int))), (14, (.int .i64 (i75 : Int))), (44, (.bool (decide (y104.fName ≥ z77.fName))))]) hN hds ⟨hb 1 _ rfl rfl, hb 12 _ rfl rfl, hb 13 _ rfl rfl, hb 14 _ rfl rfl, (hr 25 _ _ rfl rfl), trivial⟩ ?_
    refine wq_seq ?_
    rcases bif_some h with ⟨hc116, h⟩ | ⟨hc116, h⟩
    rotate_left
    · refine wc_known_false rfl hc116 ?_
      refine wc_skip ?_
      refine wq_block (wq_seq ?_)
      refine wc_region (l := [0, 1]) rfl ?_
      refine wo_seg Θ_ok [0, 1] [(1, (bp b2)), (12, (.slice A5 x0.fNames.length c6)), (13, (.int .i64 (x0.fNames.length : Int))), (14, (.int .i64 (IntKind.i64.wrap ((i75 : Int) + (1 : Int)))))] rfl ⟨rfl, rfl, rfl, rfl, trivial⟩ ?_
      refine wo_nil ?_
      exact wq_next rest76.length [(1, (bp b2)), (12, (.slice A5 x0.fNames.length c6)), (13, (.int .i64 (x0.fNames.length : Int))), (14, (.int .i64 ((i75 + 1 : Nat) : Int)))] (Nat.lt_succ_self _) ⟨rfl, rfl, rfl, congrArg (fun z => some (Value.int .i64 z)) (wrap_succ hl85 (Nat.le_trans hlc6 hmc6)), trivial⟩ ⟨rest76, i75 + 1, b90 :: O79, rfl, hd78, rfl, T74, hO, hS, hF, ib2, hb2, h⟩
    refine wc_known_true rfl hc116 ?_
    refine wc_seq ?_
    refine wc_region (l := [0]) rfl ?_
    refine wo_seg Θ_ok [0] [(2, (.int .i64 350))] rfl ⟨rfl, trivial⟩ ?_
    refine wo_nil ?_
    refine wq_seq ?_
    refine wc_ret ?_
    cases h
    exact wq_block_ret (wq_then_ret (wq_then_ret (wq_block_ret (wq_then_ret (wq_ret rfl ⟨_, rfl, (int_is.2 rfl), hF⟩)))))
  rintro E w14 ⟨O13, rfl, T8, hO, hS, hF, ib2, hb2, h⟩
  have h0_1 := h0_1.tr T8
  have h0_2 := h0_2.tr T8
  subst hk10
  (try dsimp only at h)
  obtain ⟨k16, hk17, h⟩ := letk_some h
  refine wc_join (fun E W => ∃ (O20 : List Nat), E = [] ∧ Tr O13 w14 O20 W ∧ OB O20 W ∧ Sub O O20 ∧ Fr [] w W ∧ k16 = some r) ?_ (fun K18 hK19 => ?_)
  · rintro E w21 ⟨O20, rfl, T15, hO, hS, hF, h⟩
    subst hk17
    (try dsimp only at h)
    refine wc_seq ?_
    refine wc_region (l := [0]) rfl ?_
    refine wo_seg Θ_ok [0] [(2, (.int .i64 0))] rfl ⟨rfl, trivial⟩ ?_
    refine wo_nil ?_
    refine wq_seq ?_
    refine wc_ret ?_
    cases h
    exact wq_ret rfl ⟨_, rfl, (int_is.2 rfl), hF⟩
  clear hk17
  have T15 := Tr.refl O13 w14
  refine wc_seq ?_
  refine wc_region (l := [0, 1, 2, 3]) rfl ?_
  refine wo_seg Θ_ok [0] [(1, (bp b2)), (46, (.pointer (some ⟨b2, 1, none⟩)))] rfl ⟨rfl, rfl, trivial⟩ ?_
  refine wo_load Θ_ok rfl rfl rfl rfl rfl rfl rfl hb2 [v0_2] rfl rfl (.inr rfl) v0_2 rfl ?_
  obtain ⟨A22, c23, rfl, hlc23, hmc23⟩ := slice_form h0_2
  refine wo_seg Θ_ok [2] [(1, (bp b2)), (47, (.slice A22 x0.fBoxes.length c23)), (48, (.int .i64 (x0.fBoxes.length : Int)))] rfl ⟨rfl, rfl, rfl, trivial⟩ ?_
  refine wo_seg Θ_ok [3] [(1, (bp b2)), (47, (.slice A22 x0.fBoxes.length c23)), (48, (.int .i64 (x0.fBoxes.length : Int))), (49, (.int .i64 0))] rfl ⟨rfl, rfl, rfl, rfl, trivial⟩ ?_
  refine wo_nil ?_
  refine wq_seq ?_
  refine wc_block ?_
  refine wc_loop (fun m E W => ∃ (rest26 : List GBox) (i25 : Nat) (O29 : List Nat), rest26.length = m ∧ x0.fBoxes.drop i25 = rest26 ∧ E = [(1, (bp b2)), (47, (.slice A22 x0.fBoxes.length c23)), (48, (.int .i64 (x0.fBoxes.length : Int))), (49, (.int .i64 (i25 : Int)))] ∧ Tr O13 w14 O29 W ∧ OB O29 W ∧ Sub O O29 ∧ Fr [] w W ∧ b2 ∈ O29 ∧ Blk W b2 25 [(.slice A5 x0.fNames.length c6), (.slice A22 x0.fBoxes.length c23)] ∧ i_Check_l1 x0 k16 rest26 i25 = some r) _ [(1, (bp b2)), (47, (.slice A22 x0.fBoxes.length c23)), (48, (.int .i64 (x0.fBoxes.length : Int))), (49, (.int .i64 ((0 : Nat) : Int)))] ⟨rfl, rfl, rfl, rfl, trivial⟩ ⟨x0.fBoxes, 0, O13, rfl, rfl, rfl, Tr.refl _ _, hO, hS, hF, ib2, hb2, h⟩ ?_
  rintro m E w30 ⟨rest26, i25, O29, rfl, hd28, rfl, T24, hO, hS, hF, ib2, hb2, h⟩
  have T15 := T15.trans T24
  have h0_2 := h0_2.tr T24
  have h0_1 := h0_1.tr T24
  rcases rest26 with _ | ⟨z27, rest26⟩
  · rw [i_Check_l1] at h
    have hl34 := drop_nil hd28
    have hc31 : (decide ((i25 : Int) < (x0.fBoxes.length : Int))) = false := decide_eq_false (by omega)
    refine wc_seq ?_
    refine wc_region (l := [0]) rfl ?_
    refine wo_seg Θ_ok [0] [(1, (bp b2)), (47, (.slice A22 x0.fBoxes.length c23)), (48, (.int .i64 (x0.fBoxes.length : Int))), (49, (.int .i64 (i25 : Int))), (50, (.bool (decide ((i25 : Int) < (x0.fBoxes.length : Int)))))] rfl ⟨rfl, rfl, rfl, rfl, rfl, trivial⟩ ?_
    refine wo_nil ?_
    refine wq_seq ?_
    refine wc_seq ?_
    refine wc_known_false rfl hc31 ?_
    refine wc_exit ?_
    exact wq_then_exit (wq_then_exit (wq_block_exit (wq_join hK19 [] trivial ⟨O29, rfl, T15, hO, hS, hF, h⟩)))
  rw [i_Check_l1] at h
  obtain ⟨hl35, hg33, hd28⟩ := drop_cons hd28
  have hc32 : (decide ((i25 : Int) < (x0.fBoxes.length : Int))) = true := decide_eq_true (by omega)
  refine wc_seq ?_
  refine wc_region (l := [0]) rfl ?_
  refine wo_seg Θ_ok [0] [(1, (bp b2)), (47, (.slice A22 x0.fBoxes.length c23)), (48, (.int .i64 (x0.fBoxes.length : Int))), (49, (.int .i64 (i25 : Int))), (50, (.bool (decide ((i25 : Int) < (x0.fBoxes.length : Int)))))] rfl ⟨rfl, rfl, rfl, rfl, rfl, trivial⟩ ?_
  refine wo_nil ?_
  refine wq_seq ?_
  refine wc_seq ?_
  refine wc_known_true rfl hc32 ?_
  refine wc_skip ?_
  refine wq_seq ?_
  refine wc_seq ?_
  refine wc_block ?_
  refine wc_seq ?_
  refine wc_region (l := [0, 1, 2, 3, 4, 5]) rfl ?_
  refine wo_seg Θ_ok [0] [(1, (bp b2)), (47, (.slice A22 x0.fBoxes.length c23)), (48, (.int .i64 (x0.fBoxes.length : Int))), (49, (.int .i64 (i25 : Int))), (51, (.int .i64 (i25 : Int)))] rfl ⟨rfl, rfl, rfl, rfl, rfl, trivial⟩ ?_
  refine wo_index Θ_ok rfl rfl rfl rfl rfl rfl rfl rfl rfl rfl h0_2 rfl (by omega) hg33 (fun p36 h37 => ?_)
  refine wo_loadp Θ_ok rfl rfl rfl rfl rfl rfl rfl h37 rfl rfl (fun v38 h39 => ?_)
  obtain ⟨v40, rfl, h41⟩ := tGBox_is.1 h39
  refine wo_alloc Θ_ok rfl rfl rfl rfl rfl rfl [(.int .u64 0), (.slice none 0 0)] rfl hO (fun b42 w43 n44 => ?_)
  have h0_2 := h0_2.tr n44.tr
  have h41 := h41.tr n44.tr
  have h0_1 := h0_1.tr n44.tr
  have T15 := T15.trans n44.tr
  have T24 := T24.trans n44.tr
  have nb42b2 : b42 ≠ b2 := by have := hb2.lt; have := n44.ge; omega
  have hb2 := hb2.fr0 n44.fr
  have ib2 := List.mem_cons_of_mem b42 ib2
  have hb42 := n44.blk
  have gb42 := n44.ge0 hF
  have ib42 : b42 ∈ b42 :: O29 := List.mem_cons_self
  have hO := n44.ob
  have hF := hF.trans n44.fr
  have hS := Sub.cons hS b42
  refine wo_seg Θ_ok [4] [(1, (bp b2)), (5, (.int .i64 (i25 : Int))), (6, (bp b42)), (47, (.slice A22 x0.fBoxes.length c23)), (48, (.int .i64 (x0.fBoxes.length : Int))), (49, (.int .i64 (i25 : Int))), (53, (.agg #[(.int .u64 z27.fPid), v40]))] rfl ⟨rfl, rfl, rfl, rfl, rfl, rfl, rfl, trivial⟩ ?_
  obtain ⟨A45, c46, rfl, hlc46, hmc46⟩ := slice_form h41
  refine wo_store Θ_ok rfl rfl rfl rfl rfl rfl rfl hb42 [(.int .u64 z27.fPid), (.slice A45 z27.fWords.length c46)] rfl rfl (by simp [Value.oneCell']) rfl [(.int .u64 z27.fPid), (.slice A45 z27.fWords.length c46)] rfl (fun w47 hb42 f48 => ?_)
  have h0_2 := h0_2.tr (f48.tr (one_in ib42))
  have h0_1 := h0_1.tr (f48.tr (one_in ib42))
  have h41 := h41.tr (f48.tr (one_in ib42))
  have T15 := T15.trans (f48.tr (one_in ib42))
  have T24 := T24.trans (f48.tr (one_in ib42))
  have hb2 := hb2.fr f48 (nin nb42b2.symm)
  have hO := f48.ob hO
  have hF := hF.own f48 gb42
  refine wo_nil ?_
  refine wq_seq ?_
  refine wc_seq ?_
  rcases bif_some h with ⟨hc49, h⟩ | ⟨hc49, h⟩
  · refine wc_draw mixed [⟨54, [], [6]⟩, ⟨55, [0], []⟩, ⟨56, [1], []⟩, ⟨57, [2], []⟩, ⟨58, [3], []⟩, ⟨59, [4], [6]⟩, ⟨60, [4, 5], []⟩, ⟨61, [4, 6], []⟩, ⟨62, [4, 7], []⟩, ⟨63, [4, 8], []⟩, ⟨64, [9], []⟩, ⟨65, [10], [6]⟩, ⟨66, [10, 11], []⟩, ⟨67, [10, 12], []⟩, ⟨68, [10, 13], []⟩, ⟨69, [10, 14], []⟩, ⟨70, [15], []⟩, ⟨71, [16], [5]⟩, ⟨72, [16, 17], []⟩, ⟨73, [16, 18], []⟩, ⟨74, [19], [1]⟩, ⟨75, [19, 20], []⟩, ⟨76, [19], [5]⟩, ⟨77, [19, 22], []⟩, ⟨78, [19, 21, 23], []⟩, ⟨79, [19, 24], []⟩, ⟨80, [19, 25], []⟩, ⟨81, [19], [6]⟩, ⟨82, [19, 27], []⟩, ⟨83, [19, 26, 28], []⟩, ⟨84, [16, 19, 29], []⟩, ⟨85, [16, 30], []⟩] [SP.eq (bp b42), SP.eq (.int .u64 z27.fPid), SP.eq (.bool ((i_isPid z27.fPid))), SP.eq (.bool (!(i_isPid z27.fPid))), SP.eq (.bool (!(i_isPid z27.fPid))), SP.eq undef, SP.eq undef, SP.eq undef, SP.eq undef, SP.eq (.bool true), SP.eq (.bool true), SP.eq undef, SP.eq undef, SP.eq undef, SP.eq undef, SP.eq (.bool true), SP.eq (.bool true), SP.eq undef, SP.eq undef, SP.eq undef, SP.eq undef, SP.eq undef, SP.eq undef, SP.eq undef, SP.eq undef, SP.eq undef, SP.eq undef, SP.eq undef, SP.eq undef, SP.eq undef, SP.eq undef, SP.eq (.bool true)] rfl rfl rfl ⟨?_, ?_, ?_, ?_, ?_, ?_, ?_, ?_, ?_, ?_, ?_, ?_, ?_, ?_, ?_, ?_, ?_, ?_, ?_, ?_, ?_, ?_, ?_, ?_, ?_, ?_, ?_, ?_, ?_, ?_, ?_, ?_, trivial⟩ ?_
    · intro a w2 hfr hN hds hb hd
      exact op_plain Θ_ok ⟨hN, hds, rows_get (E := [(6, (bp b42))]) ⟨hb 6 rfl _ rfl, trivial⟩⟩ rfl rfl rfl rfl rfl
    · intro a w2 hfr hN hds hb hd
      have hb42 := hb42.fr0 hfr
      exact op_load Θ_ok ⟨hN, hds, rows_get (E := [(54, (bp b42))]) ⟨(hd 0 rfl _ _ rfl rfl), trivial⟩⟩ rfl rfl rfl rfl rfl rfl hb42 [(.int .u64 z27.fPid)] rfl rfl (.inr rfl) (.int .u64 z27.fPid) rfl
    · intro a w2 hfr hN hds hb hd
      exact (op_call ⟨hN, hds, rows_get (E := [(55, (.int .u64 z27.fPid))]) ⟨(hd 1 rfl _ _ rfl rfl), trivial⟩⟩ rfl rfl rfl rfl ent34 rfl (i_isPid_c (hfr.ob hO) (int_is.2 rfl))).weaken (fun u w3 ⟨hu, hf⟩ => ⟨bool_is.1 hu, hf⟩)
    · intro a w2 hfr hN hds hb hd
      exact op_plain Θ_ok ⟨hN, hds, rows_get (E := [(56, (.bool ((i_isPid z27.fPid))))]) ⟨(hd 2 rfl _ _ rfl rfl), trivial⟩⟩ rfl rfl rfl rfl rfl
    · intro a w2 hfr hN hds hb hd
      exact op_plain Θ_ok ⟨hN, hds, rows_get (E := [(57, (.bool (!(i_isPid z27.fPid))))]) ⟨(hd 3 rfl _ _ rfl rfl), trivial⟩⟩ rfl rfl rfl rfl rfl
    · intro a w2 hfr hN hds hb hd
      exact op_skip ⟨hN, hds, rows_get (E := [(6, (bp b42)), (58, (.bool true))]) ⟨hb 6 rfl _ rfl, ((hd 4 rfl _ _ rfl rfl).trans (congrArg _ hc49)), trivial⟩⟩ rfl rfl rfl
    · intro a w2 hfr hN hds hb hd
      exact op_skip ⟨hN, hds, rows_get (E := [(58, (.bool true)), (59, undef)]) ⟨((hd 4 rfl _ _ rfl rfl).trans (congrArg _ hc49)), (hd 5 rfl _ _ rfl rfl), trivial⟩⟩ rfl rfl rfl
    · intro a w2 hfr hN hds hb hd
      exact op_skip ⟨hN, hds, rows_get (E := [(58, (.bool true)), (60, undef)]) ⟨((hd 4 rfl _ _ rfl rfl).trans (congrArg _ hc49)), (hd 6 rfl _ _ rfl rfl), trivial⟩⟩ rfl rfl rfl
    · intro a w2 hfr hN hds hb hd
      exact op_skip ⟨hN, hds, rows_get (E := [(58, (.bool true)), (61, undef)]) ⟨((hd 4 rfl _ _ rfl rfl).trans (congrArg _ hc49)), (hd 7 rfl _ _ rfl rfl), trivial⟩⟩ rfl rfl rfl
    · intro a w2 hfr hN hds hb hd
      exact op_plain Θ_ok ⟨hN, hds, rows_get (E := [(58, (.bool true)), (62, undef)]) ⟨((hd 4 rfl _ _ rfl rfl).trans (congrArg _ hc49)), (hd 8 rfl _ _ rfl rfl), trivial⟩⟩ rfl rfl rfl rfl rfl
    · intro a w2 hfr hN hds hb hd
      exact op_plain Θ_ok ⟨hN, hds, rows_get (E := [(63, (.bool true))]) ⟨(hd 9 rfl _ _ rfl rfl), trivial⟩⟩ rfl rfl rfl rfl rfl
    · intro a w2 hfr hN hds hb hd
      exact op_skip ⟨hN, hds, rows_get (E := [(6, (bp b42)), (64, (.bool true))]) ⟨hb 6 rfl _ rfl, (hd 10 rfl _ _ rfl rfl), trivial⟩⟩ rfl rfl rfl
    · intro a w2 hfr hN hds hb hd
      exact op_skip ⟨hN, hds, rows_get (E := [(64, (.bool true)), (65, undef)]) ⟨(hd 10 rfl _ _ rfl rfl), (hd 11 rfl _ _ rfl rfl), trivial⟩⟩ rfl rfl rfl
    · intro a w2 hfr hN hds hb hd
      exact op_skip ⟨hN, hds, rows_get (E := [(64, (.bool true)), (66, undef)]) ⟨(hd 10 rfl _ _ rfl rfl), (hd 12 rfl _ _ rfl rfl), trivial⟩⟩ rfl rfl rfl
    · intro a w2 hfr hN hds hb hd
      exact op_skip ⟨hN, hds, rows_get (E := [(64, (.bool true)), (67, undef)]) ⟨(hd 10 rfl _ _ rfl rfl), (hd 13 rfl _ _ rfl rfl), trivial⟩⟩ rfl rfl rfl
    · intro a w2 hfr hN hds hb hd
      exact op_plain Θ_ok ⟨hN, hds, rows_get (E := [(64, (.bool true)), (68, undef)]) ⟨(hd 10 rfl _ _ rfl rfl), (hd 14 rfl _ _ rfl rfl), trivial⟩⟩ rfl rfl rfl rfl rfl
    · intro a w2 hfr hN hds hb hd
      exact op_plain Θ_ok ⟨hN, hds, rows_get (E := [(69, (.bool true))]) ⟨(hd 15 rfl _ _ rfl rfl), trivial⟩⟩ rfl rfl rfl rfl rfl
    · intro a w2 hfr hN hds hb hd
      exact op_skip ⟨hN, hds, rows_get (E := [(5, (.int .i64 (i25 : Int))), (70, (.bool true))]) ⟨hb 5 rfl _ rfl, (hd 16 rfl _ _ rfl rfl), trivial⟩⟩ rfl rfl rfl
    · intro a w2 hfr hN hds hb hd
      exact op_skip ⟨hN, hds, rows_get (E := [(70, (.bool true)), (71, undef)]) ⟨(hd 16 rfl _ _ rfl rfl), (hd 17 rfl _ _ rfl rfl), trivial⟩⟩ rfl rfl rfl
    · intro a w2 hfr hN hds hb hd
      exact op_skip ⟨hN, hds, rows_get (E := [(70, (.bool true)), (72, undef)]) ⟨(hd 16 rfl _ _ rfl rfl), (hd 18 rfl _ _ rfl rfl), trivial⟩⟩ rfl rfl rfl
    · intro a w2 hfr hN hds hb hd
      exact op_skip ⟨hN, hds, rows_get (E := [(1, (bp b2)), (73, undef)]) ⟨hb 1 rfl _ rfl, (hd 19 rfl _ _ rfl rfl), trivial⟩⟩ rfl rfl rfl
    · intro a w2 hfr hN hds hb hd
      exact op_skip ⟨hN, hds, rows_get (E := [(73, undef), (74, undef)]) ⟨(hd 19 rfl _ _ rfl rfl), (hd 20 rfl _ _ rfl rfl), trivial⟩⟩ rfl rfl rfl
    · intro a w2 hfr hN hds hb hd
      exact op_skip ⟨hN, hds, rows_get (E := [(5, (.int .i64 (i25 : Int))), (73, undef)]) ⟨hb 5 rfl _ rfl, (hd 19 rfl _ _ rfl rfl), trivial⟩⟩ rfl rfl rfl
    · intro a w2 hfr hN hds hb hd
      exact op_skip ⟨hN, hds, rows_get (E := [(73, undef), (76, undef)]) ⟨(hd 19 rfl _ _ rfl rfl), (hd 22 rfl _ _ rfl rfl), trivial⟩⟩ rfl rfl rfl
    · intro a w2 hfr hN hds hb hd
      exact op_skip ⟨hN, hds, rows_get (E := [(73, undef), (75, undef), (77, undef)]) ⟨(hd 19 rfl _ _ rfl rfl), (hd 21 rfl _ _ rfl rfl), (hd 23 rfl _ _ rfl rfl), trivial⟩⟩ rfl rfl rfl
    · intro a w2 hfr hN hds hb hd
      exact op_skip ⟨hN, hds, rows_get (E := [(73, undef), (78, undef)]) ⟨(hd 19 rfl _ _ rfl rfl), (hd 24 rfl _ _ rfl rfl), trivial⟩⟩ rfl rfl rfl
    · intro a w2 hfr hN hds hb hd
      exact op_skip ⟨hN, hds, rows_get (E := [(73, undef), (79, undef)]) ⟨(hd 19 rfl _ _ rfl rfl), (hd 25 rfl _ _ rfl rfl), trivial⟩⟩ rfl rfl rfl
    · intro a w2 hfr hN hds hb hd
      exact op_skip ⟨hN, hds, rows_get (E := [(6, (bp b42)), (73, undef)]) ⟨hb 6 rfl _ rfl, (hd 19 rfl _ _ rfl rfl), trivial⟩⟩ rfl rfl rfl
    · intro a w2 hfr hN hds hb hd
      exact op_skip ⟨hN, hds, rows_get (E := [(73, undef), (81, undef)]) ⟨(hd 19 rfl _ _ rfl rfl), (hd 27 rfl _ _ rfl rfl), trivial⟩⟩ rfl rfl rfl
    · intro a w2 hfr hN hds hb hd
      exact op_skip ⟨hN, hds, rows_get (E := [(73, undef), (80, undef), (82, undef)]) ⟨(hd 19 rfl _ _ rfl rfl), (hd 26 rfl _ _ rfl rfl), (hd 28 rfl _ _ rfl rfl), trivial⟩⟩ rfl rfl rfl
    · intro a w2 hfr hN hds hb hd
      exact op_skip ⟨hN, hds, rows_get (E := [(70, (.bool true)), (73, undef), (83, undef)]) ⟨(hd 16 rfl _ _ rfl rfl), (hd 19 rfl _ _ rfl rfl), (hd 29 rfl _ _ rfl rfl), trivial⟩⟩ rfl rfl rfl
    · intro a w2 hfr hN hds hb hd
      exact op_plain Θ_ok ⟨hN, hds, rows_get (E := [(70, (.bool true)), (84, undef)]) ⟨(hd 16 rfl _ _ rfl rfl), (hd 30 rfl _ _ rfl rfl), trivial⟩⟩ rfl rfl rfl rfl rfl
    intro a w51 f50 hN hds hb hr
    have h0_2 := h0_2.tr f50.tr0
    have h0_1 := h0_1.tr f50.tr0
    have hb2 := hb2.fr0 f50
    have T15 := T15.trans f50.tr0
    have T24 := T24.trans f50.tr0
    have hO := f50.ob hO
    have hF := hF.trans f50
    refine wq_go (E := [(1, (bp b2)), (47, (.slice A22 x0.fBoxes.length c23)), (48, (.int .i64 (x0.fBoxes.length : Int))), (49, (.int .i64 (i25 : Int))), (85, (.bool true))]) hN hds ⟨hb 1 _ rfl rfl, hb 47 _ rfl rfl, hb 48 _ rfl rfl, hb 49 _ rfl rfl, (hr 31 _ _ rfl rfl), trivial⟩ ?_
    refine wq_seq ?_
    refine wc_true rfl ?_
    refine wc_seq ?_
    refine wc_region (l := [0]) rfl ?_
    refine wo_seg Θ_ok [0] [(2, (.int .i64 350))] rfl ⟨rfl, trivial⟩ ?_
    refine wo_nil ?_
    refine wq_seq ?_
    refine wc_ret ?_
    cases h
    exact wq_block_ret (wq_then_ret (wq_then_ret (wq_block_ret (wq_then_ret (wq_ret rfl ⟨_, rfl, (int_is.2 rfl), hF⟩)))))
  rcases bif_some h with ⟨hc52, h⟩ | ⟨hc52, h⟩
  · refine wc_draw mixed [⟨54, [], [6]⟩, ⟨55, [0], []⟩, ⟨56, [1], []⟩, ⟨57, [2], []⟩, ⟨58, [3], []⟩, ⟨59, [4], [6]⟩, ⟨60, [4, 5], []⟩, ⟨61, [4, 6], []⟩, ⟨62, [4, 7], []⟩, ⟨63, [4, 8], []⟩, ⟨64, [9], []⟩, ⟨65, [10], [6]⟩, ⟨66, [10, 11], []⟩, ⟨67, [10, 12], []⟩, ⟨68, [10, 13], []⟩, ⟨69, [10, 14], []⟩, ⟨70, [15], []⟩, ⟨71, [16], [5]⟩, ⟨72, [16, 17], []⟩, ⟨73, [16, 18], []⟩, ⟨74, [19], [1]⟩, ⟨75, [19, 20], []⟩, ⟨76, [19], [5]⟩, ⟨77, [19, 22], []⟩, ⟨78, [19, 21, 23], []⟩, ⟨79, [19, 24], []⟩, ⟨80, [19, 25], []⟩, ⟨81, [19], [6]⟩, ⟨82, [19, 27], []⟩, ⟨83, [19, 26, 28], []⟩, ⟨84, [16, 19, 29], []⟩, ⟨85, [16, 30], []⟩] [SP.eq (bp b42), SP.eq (.int .u64 z27.fPid), SP.eq (.bool ((i_isPid z27.fPid))), SP.eq (.bool (!(i_isPid z27.fPid))), SP.eq (.bool (!(i_isPid z27.fPid))), SP.eq (.pointer (some ⟨b42, 1, none⟩)), SP.eq (.slice A45 z27.fWords.length c46), SP.eq (.int .i64 (z27.fWords.length : Int)), SP.eq (.bool (decide ((z27.fWords.length : Int) < (1 : Int)))), SP.eq (.bool (decide ((z27.fWords.length : Int) < (1 : Int)))), SP.eq (.bool (decide ((z27.fWords.length : Int) < (1 : Int)))), SP.eq undef, SP.eq undef, SP.eq undef, SP.eq undef, SP.eq (.bool true), SP.eq (.bool true), SP.eq undef, SP.eq undef, SP.eq undef, SP.eq undef, SP.eq undef, SP.eq undef, SP.eq undef, SP.eq undef, SP.eq undef, SP.eq undef, SP.eq undef, SP.eq undef, SP.eq undef, SP.eq undef, SP.eq (.bool true)] rfl rfl rfl ⟨?_, ?_, ?_, ?_, ?_, ?_, ?_, ?_, ?_, ?_, ?_, ?_, ?_, ?_, ?_, ?_, ?_, ?_, ?_, ?_, ?_, ?_, ?_, ?_, ?_, ?_, ?_, ?_, ?_, ?_, ?_, ?_, trivial⟩ ?_
    · intro a w2 hfr hN hds hb hd
      exact op_plain Θ_ok ⟨hN, hds, rows_get (E := [(6, (bp b42))]) ⟨hb 6 rfl _ rfl, trivial⟩⟩ rfl rfl rfl rfl rfl
    · intro a w2 hfr hN hds hb hd
      have hb42 := hb42.fr0 hfr
      exact op_load Θ_ok ⟨hN, hds, rows_get (E := [(54, (bp b42))]) ⟨(hd 0 rfl _ _ rfl rfl), trivial⟩⟩ rfl rfl rfl rfl rfl rfl hb42 [(.int .u64 z27.fPid)] rfl rfl (.inr rfl) (.int .u64 z27.fPid) rfl
    · intro a w2 hfr hN hds hb hd
      exact (op_call ⟨hN, hds, rows_get (E := [(55, (.int .u64 z27.fPid))]) ⟨(hd 1 rfl _ _ rfl rfl), trivial⟩⟩ rfl rfl rfl rfl ent34 rfl (i_isPid_c (hfr.ob hO) (int_is.2 rfl))).weaken (fun u w3 ⟨hu, hf⟩ => ⟨bool_is.1 hu, hf⟩)
    · intro a w2 hfr hN hds hb hd
      exact op_plain Θ_ok ⟨hN, hds, rows_get (E := [(56, (.bool ((i_isPid z27.fPid))))]) ⟨(hd 2 rfl _ _ rfl rfl), trivial⟩⟩ rfl rfl rfl rfl rfl
    · intro a w2 hfr hN hds hb hd
      exact op_plain Θ_ok ⟨hN, hds, rows_get (E := [(57, (.bool (!(i_isPid z27.fPid))))]) ⟨(hd 3 rfl _ _ rfl rfl), trivial⟩⟩ rfl rfl rfl rfl rfl
    · intro a w2 hfr hN hds hb hd
      exact op_plain Θ_ok ⟨hN, hds, rows_get (E := [(6, (bp b42)), (58, (.bool false))]) ⟨hb 6 rfl _ rfl, ((hd 4 rfl _ _ rfl rfl).trans (congrArg _ hc49)), trivial⟩⟩ rfl rfl rfl rfl rfl
    · intro a w2 hfr hN hds hb hd
      have hb42 := hb42.fr0 hfr
      exact op_load Θ_ok ⟨hN, hds, rows_get (E := [(58, (.bool false)), (59, (.pointer (some ⟨b42, 1, none⟩)))]) ⟨((hd 4 rfl _ _ rfl rfl).trans (congrArg _ hc49)), (hd 5 rfl _ _ rfl rfl), trivial⟩⟩ rfl rfl rfl rfl rfl rfl hb42 [(.slice A45 z27.fWords.length c46)] rfl rfl (.inr rfl) (.slice A45 z27.fWords.length c46) rfl
    · intro a w2 hfr hN hds hb hd
      have h41 := h41.tr hfr.tr0
      exact op_plain Θ_ok ⟨hN, hds, rows_get (E := [(58, (.bool false)), (60, (.slice A45 z27.fWords.length c46))]) ⟨((hd 4 rfl _ _ rfl rfl).trans (congrArg _ hc49)), (hd 6 rfl _ _ rfl rfl), trivial⟩⟩ rfl rfl rfl rfl rfl
    · intro a w2 hfr hN hds hb hd
      exact op_plain Θ_ok ⟨hN, hds, rows_get (E := [(58, (.bool false)), (61, (.int .i64 (z27.fWords.length : Int)))]) ⟨((hd 4 rfl _ _ rfl rfl).trans (congrArg _ hc49)), (hd 7 rfl _ _ rfl rfl), trivial⟩⟩ rfl rfl rfl rfl rfl
    · intro a w2 hfr hN hds hb hd
      exact op_plain Θ_ok ⟨hN, hds, rows_get (E := [(58, (.bool false)), (62, (.bool (decide ((z27.fWords.length : Int) < (1 : Int)))))]) ⟨((hd 4 rfl _ _ rfl rfl).trans (congrArg _ hc49)), (hd 8 rfl _ _ rfl rfl), trivial⟩⟩ rfl rfl rfl rfl rfl
    · intro a w2 hfr hN hds hb hd
      exact op_plain Θ_ok ⟨hN, hds, rows_get (E := [(63, (.bool (decide ((z27.fWords.length : Int) < (1 : Int)))))]) ⟨(hd 9 rfl _ _ rfl rfl), trivial⟩⟩ rfl rfl rfl rfl rfl
    · intro a w2 hfr hN hds hb hd
      exact op_skip ⟨hN, hds, rows_get (E := [(6, (bp b42)), (64, (.bool true))]) ⟨hb 6 rfl _ rfl, ((hd 10 rfl _ _ rfl rfl).trans (congrArg _ hc52)), trivial⟩⟩ rfl rfl rfl
    · intro a w2 hfr hN hds hb hd
      exact op_skip ⟨hN, hds, rows_get (E := [(64, (.bool true)), (65, undef)]) ⟨((hd 10 rfl _ _ rfl rfl).trans (congrArg _ hc52)), (hd 11 rfl _ _ rfl rfl), trivial⟩⟩ rfl rfl rfl
    · intro a w2 hfr hN hds hb hd
      exact op_skip ⟨hN, hds, rows_get (E := [(64, (.bool true)), (66, undef)]) ⟨((hd 10 rfl _ _ rfl rfl).trans (congrArg _ hc52)), (hd 12 rfl _ _ rfl rfl), trivial⟩⟩ rfl rfl rfl
    · intro a w2 hfr hN hds hb hd
      exact op_skip ⟨hN, hds, rows_get (E := [(64, (.bool true)), (67, undef)]) ⟨((hd 10 rfl _ _ rfl rfl).trans (congrArg _ hc52)), (hd 13 rfl _ _ rfl rfl), trivial⟩⟩ rfl rfl rfl
    · intro a w2 hfr hN hds hb hd
      exact op_plain Θ_ok ⟨hN, hds, rows_get (E := [(64, (.bool true)), (68, undef)]) ⟨((hd 10 rfl _ _ rfl rfl).trans (congrArg _ hc52)), (hd 14 rfl _ _ rfl rfl), trivial⟩⟩ rfl rfl rfl rfl rfl
    · intro a w2 hfr hN hds hb hd
      exact op_plain Θ_ok ⟨hN, hds, rows_get (E := [(69, (.bool true))]) ⟨(hd 15 rfl _ _ rfl rfl), trivial⟩⟩ rfl rfl rfl rfl rfl
    · intro a w2 hfr hN hds hb hd
      exact op_skip ⟨hN, hds, rows_get (E := [(5, (.int .i64 (i25 : Int))), (70, (.bool true))]) ⟨hb 5 rfl _ rfl, (hd 16 rfl _ _ rfl rfl), trivial⟩⟩ rfl rfl rfl
    · intro a w2 hfr hN hds hb hd
      exact op_skip ⟨hN, hds, rows_get (E := [(70, (.bool true)), (71, undef)]) ⟨(hd 16 rfl _ _ rfl rfl), (hd 17 rfl _ _ rfl rfl), trivial⟩⟩ rfl rfl rfl
    · intro a w2 hfr hN hds hb hd
      exact op_skip ⟨hN, hds, rows_get (E := [(70, (.bool true)), (72, undef)]) ⟨(hd 16 rfl _ _ rfl rfl), (hd 18 rfl _ _ rfl rfl), trivial⟩⟩ rfl rfl rfl
    · intro a w2 hfr hN hds hb hd
      exact op_skip ⟨hN, hds, rows_get (E := [(1, (bp b2)), (73, undef)]) ⟨hb 1 rfl _ rfl, (hd 19 rfl _ _ rfl rfl), trivial⟩⟩ rfl rfl rfl
    · intro a w2 hfr hN hds hb hd
      exact op_skip ⟨hN, hds, rows_get (E := [(73, undef), (74, undef)]) ⟨(hd 19 rfl _ _ rfl rfl), (hd 20 rfl _ _ rfl rfl), trivial⟩⟩ rfl rfl rfl
    · intro a w2 hfr hN hds hb hd
      exact op_skip ⟨hN, hds, rows_get (E := [(5, (.int .i64 (i25 : Int))), (73, undef)]) ⟨hb 5 rfl _ rfl, (hd 19 rfl _ _ rfl rfl), trivial⟩⟩ rfl rfl rfl
    · intro a w2 hfr hN hds hb hd
      exact op_skip ⟨hN, hds, rows_get (E := [(73, undef), (76, undef)]) ⟨(hd 19 rfl _ _ rfl rfl), (hd 22 rfl _ _ rfl rfl), trivial⟩⟩ rfl rfl rfl
    · intro a w2 hfr hN hds hb hd
      exact op_skip ⟨hN, hds, rows_get (E := [(73, undef), (75, undef), (77, undef)]) ⟨(hd 19 rfl _ _ rfl rfl), (hd 21 rfl _ _ rfl rfl), (hd 23 rfl _ _ rfl rfl), trivial⟩⟩ rfl rfl rfl
    · intro a w2 hfr hN hds hb hd
      exact op_skip ⟨hN, hds, rows_get (E := [(73, undef), (78, undef)]) ⟨(hd 19 rfl _ _ rfl rfl), (hd 24 rfl _ _ rfl rfl), trivial⟩⟩ rfl rfl rfl
    · intro a w2 hfr hN hds hb hd
      exact op_skip ⟨hN, hds, rows_get (E := [(73, undef), (79, undef)]) ⟨(hd 19 rfl _ _ rfl rfl), (hd 25 rfl _ _ rfl rfl), trivial⟩⟩ rfl rfl rfl
    · intro a w2 hfr hN hds hb hd
      exact op_skip ⟨hN, hds, rows_get (E := [(6, (bp b42)), (73, undef)]) ⟨hb 6 rfl _ rfl, (hd 19 rfl _ _ rfl rfl), trivial⟩⟩ rfl rfl rfl
    · intro a w2 hfr hN hds hb hd
      exact op_skip ⟨hN, hds, rows_get (E := [(73, undef), (81, undef)]) ⟨(hd 19 rfl _ _ rfl rfl), (hd 27 rfl _ _ rfl rfl), trivial⟩⟩ rfl rfl rfl
    · intro a w2 hfr hN hds hb hd
      exact op_skip ⟨hN, hds, rows_get (E := [(73, undef), (80, undef), (82, undef)]) ⟨(hd 19 rfl _ _ rfl rfl), (hd 26 rfl _ _ rfl rfl), (hd 28 rfl _ _ rfl rfl), trivial⟩⟩ rfl rfl rfl
    · intro a w2 hfr hN hds hb hd
      exact op_skip ⟨hN, hds, rows_get (E := [(70, (.bool true)), (73, undef), (83, undef)]) ⟨(hd 16 rfl _ _ rfl rfl), (hd 19 rfl _ _ rfl rfl), (hd 29 rfl _ _ rfl rfl), trivial⟩⟩ rfl rfl rfl
    · intro a w2 hfr hN hds hb hd
      exact op_plain Θ_ok ⟨hN, hds, rows_get (E := [(70, (.bool true)), (84, undef)]) ⟨(hd 16 rfl _ _ rfl rfl), (hd 30 rfl _ _ rfl rfl), trivial⟩⟩ rfl rfl rfl rfl rfl
    intro a w54 f53 hN hds hb hr
    have h0_2 := h0_2.tr f53.tr0
    have h0_1 := h0_1.tr f53.tr0
    have hb2 := hb2.fr0 f53
    have T15 := T15.trans f53.tr0
    have T24 := T24.trans f53.tr0
    have hO := f53.ob hO
    have hF := hF.trans f53
    refine wq_go (E := [(1, (bp b2)), (47, (.slice A22 x0.fBoxes.length c23)), (48, (.int .i64 (x0.fBoxes.length : Int))), (49, (.int .i64 (i25 : Int))), (85, (.bool true))]) hN hds ⟨hb 1 _ rfl rfl, hb 47 _ rfl rfl, hb 48 _ rfl rfl, hb 49 _ rfl rfl, (hr 31 _ _ rfl rfl), trivial⟩ ?_
    refine wq_seq ?_
    refine wc_true rfl ?_
    refine wc_seq ?_
    refine wc_region (l := [0]) rfl ?_
    refine wo_seg Θ_ok [0] [(2, (.int .i64 350))] rfl ⟨rfl, trivial⟩ ?_
    refine wo_nil ?_
    refine wq_seq ?_
    refine wc_ret ?_
    cases h
    exact wq_block_ret (wq_then_ret (wq_then_ret (wq_block_ret (wq_then_ret (wq_ret rfl ⟨_, rfl, (int_is.2 rfl), hF⟩)))))
  rcases bif_some h with ⟨hc55, h⟩ | ⟨hc55, h⟩
  · refine wc_draw mixed [⟨54, [], [6]⟩, ⟨55, [0], []⟩, ⟨56, [1], []⟩, ⟨57, [2], []⟩, ⟨58, [3], []⟩, ⟨59, [4], [6]⟩, ⟨60, [4, 5], []⟩, ⟨61, [4, 6], []⟩, ⟨62, [4, 7], []⟩, ⟨63, [4, 8], []⟩, ⟨64, [9], []⟩, ⟨65, [10], [6]⟩, ⟨66, [10, 11], []⟩, ⟨67, [10, 12], []⟩, ⟨68, [10, 13], []⟩, ⟨69, [10, 14], []⟩, ⟨70, [15], []⟩, ⟨71, [16], [5]⟩, ⟨72, [16, 17], []⟩, ⟨73, [16, 18], []⟩, ⟨74, [19], [1]⟩, ⟨75, [19, 20], []⟩, ⟨76, [19], [5]⟩, ⟨77, [19, 22], []⟩, ⟨78, [19, 21, 23], []⟩, ⟨79, [19, 24], []⟩, ⟨80, [19, 25], []⟩, ⟨81, [19], [6]⟩, ⟨82, [19, 27], []⟩, ⟨83, [19, 26, 28], []⟩, ⟨84, [16, 19, 29], []⟩, ⟨85, [16, 30], []⟩] [SP.eq (bp b42), SP.eq (.int .u64 z27.fPid), SP.eq (.bool ((i_isPid z27.fPid))), SP.eq (.bool (!(i_isPid z27.fPid))), SP.eq (.bool (!(i_isPid z27.fPid))), SP.eq (.pointer (some ⟨b42, 1, none⟩)), SP.eq (.slice A45 z27.fWords.length c46), SP.eq (.int .i64 (z27.fWords.length : Int)), SP.eq (.bool (decide ((z27.fWords.length : Int) < (1 : Int)))), SP.eq (.bool (decide ((z27.fWords.length : Int) < (1 : Int)))), SP.eq (.bool (decide ((z27.fWords.length : Int) < (1 : Int)))), SP.eq (.pointer (some ⟨b42, 1, none⟩)), SP.eq (.slice A45 z27.fWords.length c46), SP.eq (.int .i64 (z27.fWords.length : Int)), SP.eq (.bool (decide ((z27.fWords.length : Int) > (4 : Int)))), SP.eq (.bool (decide ((z27.fWords.length : Int) > (4 : Int)))), SP.eq (.bool (decide ((z27.fWords.length : Int) > (4 : Int)))), SP.eq undef, SP.eq undef, SP.eq undef, SP.eq undef, SP.eq undef, SP.eq undef, SP.eq undef, SP.eq undef, SP.eq undef, SP.eq undef, SP.eq undef, SP.eq undef, SP.eq undef, SP.eq undef, SP.eq (.bool true)] rfl rfl rfl ⟨?_, ?_, ?_, ?_, ?_, ?_, ?_, ?_, ?_, ?_, ?_, ?_, ?_, ?_, ?_, ?_, ?_, ?_, ?_, ?_, ?_, ?_, ?_, ?_, ?_, ?_, ?_, ?_, ?_, ?_, ?_, ?_, trivial⟩ ?_
    · intro a w2 hfr hN hds hb hd
      exact op_plain Θ_ok ⟨hN, hds, rows_get (E := [(6, (bp b42))]) ⟨hb 6 rfl _ rfl, trivial⟩⟩ rfl rfl rfl rfl rfl
    · intro a w2 hfr hN hds hb hd
      have hb42 := hb42.fr0 hfr
      exact op_load Θ_ok ⟨hN, hds, rows_get (E := [(54, (bp b42))]) ⟨(hd 0 rfl _ _ rfl rfl), trivial⟩⟩ rfl rfl rfl rfl rfl rfl hb42 [(.int .u64 z27.fPid)] rfl rfl (.inr rfl) (.int .u64 z27.fPid) rfl
    · intro a w2 hfr hN hds hb hd
      exact (op_call ⟨hN, hds, rows_get (E := [(55, (.int .u64 z27.fPid))]) ⟨(hd 1 rfl _ _ rfl rfl), trivial⟩⟩ rfl rfl rfl rfl ent34 rfl (i_isPid_c (hfr.ob hO) (int_is.2 rfl))).weaken (fun u w3 ⟨hu, hf⟩ => ⟨bool_is.1 hu, hf⟩)
    · intro a w2 hfr hN hds hb hd
      exact op_plain Θ_ok ⟨hN, hds, rows_get (E := [(56, (.bool ((i_isPid z27.fPid))))]) ⟨(hd 2 rfl _ _ rfl rfl), trivial⟩⟩ rfl rfl rfl rfl rfl
    · intro a w2 hfr hN hds hb hd
      exact op_plain Θ_ok ⟨hN, hds, rows_get (E := [(57, (.bool (!(i_isPid z27.fPid))))]) ⟨(hd 3 rfl _ _ rfl rfl), trivial⟩⟩ rfl rfl rfl rfl rfl
    · intro a w2 hfr hN hds hb hd
      exact op_plain Θ_ok ⟨hN, hds, rows_get (E := [(6, (bp b42)), (58, (.bool false))]) ⟨hb 6 rfl _ rfl, ((hd 4 rfl _ _ rfl rfl).trans (congrArg _ hc49)), trivial⟩⟩ rfl rfl rfl rfl rfl
    · intro a w2 hfr hN hds hb hd
      have hb42 := hb42.fr0 hfr
      exact op_load Θ_ok ⟨hN, hds, rows_get (E := [(58, (.bool false)), (59, (.pointer (some ⟨b42, 1, none⟩)))]) ⟨((hd 4 rfl _ _ rfl rfl).trans (congrArg _ hc49)), (hd 5 rfl _ _ rfl rfl), trivial⟩⟩ rfl rfl rfl rfl rfl rfl hb42 [(.slice A45 z27.fWords.length c46)] rfl rfl (.inr rfl) (.slice A45 z27.fWords.length c46) rfl
    · intro a w2 hfr hN hds hb hd
      have h41 := h41.tr hfr.tr0
      exact op_plain Θ_ok ⟨hN, hds, rows_get (E := [(58, (.bool false)), (60, (.slice A45 z27.fWords.length c46))]) ⟨((hd 4 rfl _ _ rfl rfl).trans (congrArg _ hc49)), (hd 6 rfl _ _ rfl rfl), trivial⟩⟩ rfl rfl rfl rfl rfl
    · intro a w2 hfr hN hds hb hd
      exact op_plain Θ_ok ⟨hN, hds, rows_get (E := [(58, (.bool false)), (61, (.int .i64 (z27.fWords.length : Int)))]) ⟨((hd 4 rfl _ _ rfl rfl).trans (congrArg _ hc49)), (hd 7 rfl _ _ rfl rfl), trivial⟩⟩ rfl rfl rfl rfl rfl
    · intro a w2 hfr hN hds hb hd
      exact op_plain Θ_ok ⟨hN, hds, rows_get (E := [(58, (.bool false)), (62, (.bool (decide ((z27.fWords.length : Int) < (1 : Int)))))]) ⟨((hd 4 rfl _ _ rfl rfl).trans (congrArg _ hc49)), (hd 8 rfl _ _ rfl rfl), trivial⟩⟩ rfl rfl rfl rfl rfl
    · intro a w2 hfr hN hds hb hd
      exact op_plain Θ_ok ⟨hN, hds, rows_get (E := [(63, (.bool (decide ((z27.fWords.length : Int) < (1 : Int)))))]) ⟨(hd 9 rfl _ _ rfl rfl), trivial⟩⟩ rfl rfl rfl rfl rfl
    · intro a w2 hfr hN hds hb hd
      exact op_plain Θ_ok ⟨hN, hds, rows_get (E := [(6, (bp b42)), (64, (.bool false))]) ⟨hb 6 rfl _ rfl, ((hd 10 rfl _ _ rfl rfl).trans (congrArg _ hc52)), trivial⟩⟩ rfl rfl rfl rfl rfl
    · intro a w2 hfr hN hds hb hd
      have hb42 := hb42.fr0 hfr
      exact op_load Θ_ok ⟨hN, hds, rows_get (E := [(64, (.bool false)), (65, (.pointer (some ⟨b42, 1, none⟩)))]) ⟨((hd 10 rfl _ _ rfl rfl).trans (congrArg _ hc52)), (hd 11 rfl _ _ rfl rfl), trivial⟩⟩ rfl rfl rfl rfl rfl rfl hb42 [(.slice A45 z27.fWords.length c46)] rfl rfl (.inr rfl) (.slice A45 z27.fWords.length c46) rfl
    · intro a w2 hfr hN hds hb hd
      have h41 := h41.tr hfr.tr0
      exact op_plain Θ_ok ⟨hN, hds, rows_get (E := [(64, (.bool false)), (66, (.slice A45 z27.fWords.length c46))]) ⟨((hd 10 rfl _ _ rfl rfl).trans (congrArg _ hc52)), (hd 12 rfl _ _ rfl rfl), trivial⟩⟩ rfl rfl rfl rfl rfl
    · intro a w2 hfr hN hds hb hd
      exact op_plain Θ_ok ⟨hN, hds, rows_get (E := [(64, (.bool false)), (67, (.int .i64 (z27.fWords.length : Int)))]) ⟨((hd 10 rfl _ _ rfl rfl).trans (congrArg _ hc52)), (hd 13 rfl _ _ rfl rfl), trivial⟩⟩ rfl rfl rfl rfl rfl
    · intro a w2 hfr hN hds hb hd
      exact op_plain Θ_ok ⟨hN, hds, rows_get (E := [(64, (.bool false)), (68, (.bool (decide ((z27.fWords.length : Int) > (4 : Int)))))]) ⟨((hd 10 rfl _ _ rfl rfl).trans (congrArg _ hc52)), (hd 14 rfl _ _ rfl rfl), trivial⟩⟩ rfl rfl rfl rfl rfl
    · intro a w2 hfr hN hds hb hd
      exact op_plain Θ_ok ⟨hN, hds, rows_get (E := [(69, (.bool (decide ((z27.fWords.length : Int) > (4 : Int)))))]) ⟨(hd 15 rfl _ _ rfl rfl), trivial⟩⟩ rfl rfl rfl rfl rfl
    · intro a w2 hfr hN hds hb hd
      exact op_skip ⟨hN, hds, rows_get (E := [(5, (.int .i64 (i25 : Int))), (70, (.bool true))]) ⟨hb 5 rfl _ rfl, ((hd 16 rfl _ _ rfl rfl).trans (congrArg _ hc55)), trivial⟩⟩ rfl rfl rfl
    · intro a w2 hfr hN hds hb hd
      exact op_skip ⟨hN, hds, rows_get (E := [(70, (.bool true)), (71, undef)]) ⟨((hd 16 rfl _ _ rfl rfl).trans (congrArg _ hc55)), (hd 17 rfl _ _ rfl rfl), trivial⟩⟩ rfl rfl rfl
    · intro a w2 hfr hN hds hb hd
      exact op_skip ⟨hN, hds, rows_get (E := [(70, (.bool true)), (72, undef)]) ⟨((hd 16 rfl _ _ rfl rfl).trans (congrArg _ hc55)), (hd 18 rfl _ _ rfl rfl), trivial⟩⟩ rfl rfl rfl
    · intro a w2 hfr hN hds hb hd
      exact op_skip ⟨hN, hds, rows_get (E := [(1, (bp b2)), (73, undef)]) ⟨hb 1 rfl _ rfl, (hd 19 rfl _ _ rfl rfl), trivial⟩⟩ rfl rfl rfl
    · intro a w2 hfr hN hds hb hd
      exact op_skip ⟨hN, hds, rows_get (E := [(73, undef), (74, undef)]) ⟨(hd 19 rfl _ _ rfl rfl), (hd 20 rfl _ _ rfl rfl), trivial⟩⟩ rfl rfl rfl
    · intro a w2 hfr hN hds hb hd
      exact op_skip ⟨hN, hds, rows_get (E := [(5, (.int .i64 (i25 : Int))), (73, undef)]) ⟨hb 5 rfl _ rfl, (hd 19 rfl _ _ rfl rfl), trivial⟩⟩ rfl rfl rfl
    · intro a w2 hfr hN hds hb hd
      exact op_skip ⟨hN, hds, rows_get (E := [(73, undef), (76, undef)]) ⟨(hd 19 rfl _ _ rfl rfl), (hd 22 rfl _ _ rfl rfl), trivial⟩⟩ rfl rfl rfl
    · intro a w2 hfr hN hds hb hd
      exact op_skip ⟨hN, hds, rows_get (E := [(73, undef), (75, undef), (77, undef)]) ⟨(hd 19 rfl _ _ rfl rfl), (hd 21 rfl _ _ rfl rfl), (hd 23 rfl _ _ rfl rfl), trivial⟩⟩ rfl rfl rfl
    · intro a w2 hfr hN hds hb hd
      exact op_skip ⟨hN, hds, rows_get (E := [(73, undef), (78, undef)]) ⟨(hd 19 rfl _ _ rfl rfl), (hd 24 rfl _ _ rfl rfl), trivial⟩⟩ rfl rfl rfl
    · intro a w2 hfr hN hds hb hd
      exact op_skip ⟨hN, hds, rows_get (E := [(73, undef), (79, undef)]) ⟨(hd 19 rfl _ _ rfl rfl), (hd 25 rfl _ _ rfl rfl), trivial⟩⟩ rfl rfl rfl
    · intro a w2 hfr hN hds hb hd
      exact op_skip ⟨hN, hds, rows_get (E := [(6, (bp b42)), (73, undef)]) ⟨hb 6 rfl _ rfl, (hd 19 rfl _ _ rfl rfl), trivial⟩⟩ rfl rfl rfl
    · intro a w2 hfr hN hds hb hd
      exact op_skip ⟨hN, hds, rows_get (E := [(73, undef), (81, undef)]) ⟨(hd 19 rfl _ _ rfl rfl), (hd 27 rfl _ _ rfl rfl), trivial⟩⟩ rfl rfl rfl
    · intro a w2 hfr hN hds hb hd
      exact op_skip ⟨hN, hds, rows_get (E := [(73, undef), (80, undef), (82, undef)]) ⟨(hd 19 rfl _ _ rfl rfl), (hd 26 rfl _ _ rfl rfl), (hd 28 rfl _ _ rfl rfl), trivial⟩⟩ rfl rfl rfl
    · intro a w2 hfr hN hds hb hd
      exact op_skip ⟨hN, hds, rows_get (E := [(70, (.bool true)), (73, undef), (83, undef)]) ⟨((hd 16 rfl _ _ rfl rfl).trans (congrArg _ hc55)), (hd 19 rfl _ _ rfl rfl), (hd 29 rfl _ _ rfl rfl), trivial⟩⟩ rfl rfl rfl
    · intro a w2 hfr hN hds hb hd
      exact op_plain Θ_ok ⟨hN, hds, rows_get (E := [(70, (.bool true)), (84, undef)]) ⟨((hd 16 rfl _ _ rfl rfl).trans (congrArg _ hc55)), (hd 30 rfl _ _ rfl rfl), trivial⟩⟩ rfl rfl rfl rfl rfl
    intro a w57 f56 hN hds hb hr
    have h0_2 := h0_2.tr f56.tr0
    have h0_1 := h0_1.tr f56.tr0
    have hb2 := hb2.fr0 f56
    have T15 := T15.trans f56.tr0
    have T24 := T24.trans f56.tr0
    have hO := f56.ob hO
    have hF := hF.trans f56
    refine wq_go (E := [(1, (bp b2)), (47, (.slice A22 x0.fBoxes.length c23)), (48, (.int .i64 (x0.fBoxes.length : Int))), (49, (.int .i64 (i25 : Int))), (85, (.bool true))]) hN hds ⟨hb 1 _ rfl rfl, hb 47 _ rfl rfl, hb 48 _ rfl rfl, hb 49 _ rfl rfl, (hr 31 _ _ rfl rfl), trivial⟩ ?_
    refine wq_seq ?_
    refine wc_true rfl ?_
    refine wc_seq ?_
    refine wc_region (l := [0]) rfl ?_
    refine wo_seg Θ_ok [0] [(2, (.int .i64 350))] rfl ⟨rfl, trivial⟩ ?_
    refine wo_nil ?_
    refine wq_seq ?_
    refine wc_ret ?_
    cases h
    exact wq_block_ret (wq_then_ret (wq_then_ret (wq_block_ret (wq_then_ret (wq_ret rfl ⟨_, rfl, (int_is.2 rfl), hF⟩)))))
  rcases bif_some h with ⟨hc58, h⟩ | ⟨hc58, h⟩
  rotate_left
  · refine wc_draw mixed [⟨54, [], [6]⟩, ⟨55, [0], []⟩, ⟨56, [1], []⟩, ⟨57, [2], []⟩, ⟨58, [3], []⟩, ⟨59, [4], [6]⟩, ⟨60, [4, 5], []⟩, ⟨61, [4, 6], []⟩, ⟨62, [4, 7], []⟩, ⟨63, [4, 8], []⟩, ⟨64, [9], []⟩, ⟨65, [10], [6]⟩, ⟨66, [10, 11], []⟩, ⟨67, [10, 12], []⟩, ⟨68, [10, 13], []⟩, ⟨69, [10, 14], []⟩, ⟨70, [15], []⟩, ⟨71, [16], [5]⟩, ⟨72, [16, 17], []⟩, ⟨73, [16, 18], []⟩, ⟨74, [19], [1]⟩, ⟨75, [19, 20], []⟩, ⟨76, [19], [5]⟩, ⟨77, [19, 22], []⟩, ⟨78, [19, 21, 23], []⟩, ⟨79, [19, 24], []⟩, ⟨80, [19, 25], []⟩, ⟨81, [19], [6]⟩, ⟨82, [19, 27], []⟩, ⟨83, [19, 26, 28], []⟩, ⟨84, [16, 19, 29], []⟩, ⟨85, [16, 30], []⟩] [SP.eq (bp b42), SP.eq (.int .u64 z27.fPid), SP.eq (.bool ((i_isPid z27.fPid))), SP.eq (.bool (!(i_isPid z27.fPid))), SP.eq (.bool (!(i_isPid z27.fPid))), SP.eq (.pointer (some ⟨b42, 1, none⟩)), SP.eq (.slice A45 z27.fWords.length c46), SP.eq (.int .i64 (z27.fWords.length : Int)), SP.eq (.bool (decide ((z27.fWords.length : Int) < (1 : Int)))), SP.eq (.bool (decide ((z27.fWords.length : Int) < (1 : Int)))), SP.eq (.bool (decide ((z27.fWords.length : Int) < (1 : Int)))), SP.eq (.pointer (some ⟨b42, 1, none⟩)), SP.eq (.slice A45 z27.fWords.length c46), SP.eq (.int .i64 (z27.fWords.length : Int)), SP.eq (.bool (decide ((z27.fWords.length : Int) > (4 : Int)))), SP.eq (.bool (decide ((z27.fWords.length : Int) > (4 : Int)))), SP.eq (.bool (decide ((z27.fWords.length : Int) > (4 : Int)))), SP.eq (.int .i64 (i25 : Int)), SP.eq (.bool (decide ((i25 : Int) > (0 : Int)))), SP.eq (.bool (decide ((i25 : Int) > (0 : Int)))), SP.eq undef, SP.eq undef, SP.eq undef, SP.eq undef, SP.eq undef, SP.eq undef, SP.eq undef, SP.eq undef, SP.eq undef, SP.eq undef, SP.eq (.bool false), SP.eq (.bool false)] rfl rfl rfl ⟨?_, ?_, ?_, ?_, ?_, ?_, ?_, ?_, ?_, ?_, ?_, ?_, ?_, ?_, ?_, ?_, ?_, ?_, ?_, ?_, ?_, ?_, ?_, ?_, ?_, ?_, ?_, ?_, ?_, ?_, ?_, ?_, trivial⟩ ?_
    · intro a w2 hfr hN hds hb hd
      exact op_plain Θ_ok ⟨hN, hds, rows_get (E := [(6, (bp b42))]) ⟨hb 6 rfl _ rfl, trivial⟩⟩ rfl rfl rfl rfl rfl
    · intro a w2 hfr hN hds hb hd
      have hb42 := hb42.fr0 hfr
      exact op_load Θ_ok ⟨hN, hds, rows_get (E := [(54, (bp b42))]) ⟨(hd 0 rfl _ _ rfl rfl), trivial⟩⟩ rfl rfl rfl rfl rfl rfl hb42 [(.int .u64 z27.fPid)] rfl rfl (.inr rfl) (.int .u64 z27.fPid) rfl
    · intro a w2 hfr hN hds hb hd
      exact (op_call ⟨hN, hds, rows_get (E := [(55, (.int .u64 z27.fPid))]) ⟨(hd 1 rfl _ _ rfl rfl), trivial⟩⟩ rfl rfl rfl rfl ent34 rfl (i_isPid_c (hfr.ob hO) (int_is.2 rfl))).weaken (fun u w3 ⟨hu, hf⟩ => ⟨bool_is.1 hu, hf⟩)
    · intro a w2 hfr hN hds hb hd
      exact op_plain Θ_ok ⟨hN, hds, rows_get (E := [(56, (.bool ((i_isPid z27.fPid))))]) ⟨(hd 2 rfl _ _ rfl rfl), trivial⟩⟩ rfl rfl rfl rfl rfl
    · intro a w2 hfr hN hds hb hd
      exact op_plain Θ_ok ⟨hN, hds, rows_get (E := [(57, (.bool (!(i_isPid z27.fPid))))]) ⟨(hd 3 rfl _ _ rfl rfl), trivial⟩⟩ rfl rfl rfl rfl rfl
    · intro a w2 hfr hN hds hb hd
      exact op_plain Θ_ok ⟨hN, hds, rows_get (E := [(6, (bp b42)), (58, (.bool false))]) ⟨hb 6 rfl _ rfl, ((hd 4 rfl _ _ rfl rfl).trans (congrArg _ hc49)), trivial⟩⟩ rfl rfl rfl rfl rfl
    · intro a w2 hfr hN hds hb hd
      have hb42 := hb42.fr0 hfr
      exact op_load Θ_ok ⟨hN, hds, rows_get (E := [(58, (.bool false)), (59, (.pointer (some ⟨b42, 1, none⟩)))]) ⟨((hd 4 rfl _ _ rfl rfl).trans (congrArg _ hc49)), (hd 5 rfl _ _ rfl rfl), trivial⟩⟩ rfl rfl rfl rfl rfl rfl hb42 [(.slice A45 z27.fWords.length c46)] rfl rfl (.inr rfl) (.slice A45 z27.fWords.length c46) rfl
    · intro a w2 hfr hN hds hb hd
      have h41 := h41.tr hfr.tr0
      exact op_plain Θ_ok ⟨hN, hds, rows_get (E := [(58, (.bool false)), (60, (.slice A45 z27.fWords.length c46))]) ⟨((hd 4 rfl _ _ rfl rfl).trans (congrArg _ hc49)), (hd 6 rfl _ _ rfl rfl), trivial⟩⟩ rfl rfl rfl rfl rfl
    · intro a w2 hfr hN hds hb hd
      exact op_plain Θ_ok ⟨hN, hds, rows_get (E := [(58, (.bool false)), (61, (.int .i64 (z27.fWords.length : Int)))]) ⟨((hd 4 rfl _ _ rfl rfl).trans (congrArg _ hc49)), (hd 7 rfl _ _ rfl rfl), trivial⟩⟩ rfl rfl rfl rfl rfl
    · intro a w2 hfr hN hds hb hd
      exact op_plain Θ_ok ⟨hN, hds, rows_get (E := [(58, (.bool false)), (62, (.bool (decide ((z27.fWords.length : Int) < (1 : Int)))))]) ⟨((hd 4 rfl _ _ rfl rfl).trans (congrArg _ hc49)), (hd 8 rfl _ _ rfl rfl), trivial⟩⟩ rfl rfl rfl rfl rfl
    · intro a w2 hfr hN hds hb hd
      exact op_plain Θ_ok ⟨hN, hds, rows_get (E := [(63, (.bool (decide ((z27.fWords.length : Int) < (1 : Int)))))]) ⟨(hd 9 rfl _ _ rfl rfl), trivial⟩⟩ rfl rfl rfl rfl rfl
    · intro a w2 hfr hN hds hb hd
      exact op_plain Θ_ok ⟨hN, hds, rows_get (E := [(6, (bp b42)), (64, (.bool false))]) ⟨hb 6 rfl _ rfl, ((hd 10 rfl _ _ rfl rfl).trans (congrArg _ hc52)), trivial⟩⟩ rfl rfl rfl rfl rfl
    · intro a w2 hfr hN hds hb hd
      have hb42 := hb42.fr0 hfr
      exact op_load Θ_ok ⟨hN, hds, rows_get (E := [(64, (.bool false)), (65, (.pointer (some ⟨b42, 1, none⟩)))]) ⟨((hd 10 rfl _ _ rfl rfl).trans (congrArg _ hc52)), (hd 11 rfl _ _ rfl rfl), trivial⟩⟩ rfl rfl rfl rfl rfl rfl hb42 [(.slice A45 z27.fWords.length c46)] rfl rfl (.inr rfl) (.slice A45 z27.fWords.length c46) rfl
    · intro a w2 hfr hN hds hb hd
      have h41 := h41.tr hfr.tr0
      exact op_plain Θ_ok ⟨hN, hds, rows_get (E := [(64, (.bool false)), (66, (.slice A45 z27.fWords.length c46))]) ⟨((hd 10 rfl _ _ rfl rfl).trans (congrArg _ hc52)), (hd 12 rfl _ _ rfl rfl), trivial⟩⟩ rfl rfl rfl rfl rfl
    · intro a w2 hfr hN hds hb hd
      exact op_plain Θ_ok ⟨hN, hds, rows_get (E := [(64, (.bool false)), (67, (.int .i64 (z27.fWords.length : Int)))]) ⟨((hd 10 rfl _ _ rfl rfl).trans (congrArg _ hc52)), (hd 13 rfl _ _ rfl rfl), trivial⟩⟩ rfl rfl rfl rfl rfl
    · intro a w2 hfr hN hds hb hd
      exact op_plain Θ_ok ⟨hN, hds, rows_get (E := [(64, (.bool false)), (68, (.bool (decide ((z27.fWords.length : Int) > (4 : Int)))))]) ⟨((hd 10 rfl _ _ rfl rfl).trans (congrArg _ hc52)), (hd 14 rfl _ _ rfl rfl), trivial⟩⟩ rfl rfl rfl rfl rfl
    · intro a w2 hfr hN hds hb hd
      exact op_plain Θ_ok ⟨hN, hds, rows_get (E := [(69, (.bool (decide ((z27.fWords.length : Int) > (4 : Int)))))]) ⟨(hd 15 rfl _ _ rfl rfl), trivial⟩⟩ rfl rfl rfl rfl rfl
    · intro a w2 hfr hN hds hb hd
      exact op_plain Θ_ok ⟨hN, hds, rows_get (E := [(5, (.int .i64 (i25 : Int))), (70, (.bool false))]) ⟨hb 5 rfl _ rfl, ((hd 16 rfl _ _ rfl rfl).trans (congrArg _ hc55)), trivial⟩⟩ rfl rfl rfl rfl rfl
    · intro a w2 hfr hN hds hb hd
      exact op_plain Θ_ok ⟨hN, hds, rows_get (E := [(70, (.bool false)), (71, (.int .i64 (i25 : Int)))]) ⟨((hd 16 rfl _ _ rfl rfl).trans (congrArg _ hc55)), (hd 17 rfl _ _ rfl rfl), trivial⟩⟩ rfl rfl rfl rfl rfl
    · intro a w2 hfr hN hds hb hd
      exact op_plain Θ_ok ⟨hN, hds, rows_get (E := [(70, (.bool false)), (72, (.bool (decide ((i25 : Int) > (0 : Int)))))]) ⟨((hd 16 rfl _ _ rfl rfl).trans (congrArg _ hc55)), (hd 18 rfl _ _ rfl rfl), trivial⟩⟩ rfl rfl rfl rfl rfl
    · intro a w2 hfr hN hds hb hd
      exact op_skip ⟨hN, hds, rows_get (E := [(1, (bp b2)), (73, (.bool false))]) ⟨hb 1 rfl _ rfl, ((hd 19 rfl _ _ rfl rfl).trans (congrArg _ hc58)), trivial⟩⟩ rfl rfl rfl
    · intro a w2 hfr hN hds hb hd
      exact op_skip ⟨hN, hds, rows_get (E := [(73, (.bool false)), (74, undef)]) ⟨((hd 19 rfl _ _ rfl rfl).trans (congrArg _ hc58)), (hd 20 rfl _ _ rfl rfl), trivial⟩⟩ rfl rfl rfl
    · intro a w2 hfr hN hds hb hd
      exact op_skip ⟨hN, hds, rows_get (E := [(5, (.int .i64 (i25 : Int))), (73, (.bool false))]) ⟨hb 5 rfl _ rfl, ((hd 19 rfl _ _ rfl rfl).trans (congrArg _ hc58)), trivial⟩⟩ rfl rfl rfl
    · intro a w2 hfr hN hds hb hd
      exact op_skip ⟨hN, hds, rows_get (E := [(73, (.bool false)), (76, undef)]) ⟨((hd 19 rfl _ _ rfl rfl).trans (congrArg _ hc58)), (hd 22 rfl _ _ rfl rfl), trivial⟩⟩ rfl rfl rfl
    · intro a w2 hfr hN hds hb hd
      exact op_skip ⟨hN, hds, rows_get (E := [(73, (.bool false)), (75, undef), (77, undef)]) ⟨((hd 19 rfl _ _ rfl rfl).trans (congrArg _ hc58)), (hd 21 rfl _ _ rfl rfl), (hd 23 rfl _ _ rfl rfl), trivial⟩⟩ rfl rfl rfl
    · intro a w2 hfr hN hds hb hd
      exact op_skip ⟨hN, hds, rows_get (E := [(73, (.bool false)), (78, undef)]) ⟨((hd 19 rfl _ _ rfl rfl).trans (congrArg _ hc58)), (hd 24 rfl _ _ rfl rfl), trivial⟩⟩ rfl rfl rfl
    · intro a w2 hfr hN hds hb hd
      exact op_skip ⟨hN, hds, rows_get (E := [(73, (.bool false)), (79, undef)]) ⟨((hd 19 rfl _ _ rfl rfl).trans (congrArg _ hc58)), (hd 25 rfl _ _ rfl rfl), trivial⟩⟩ rfl rfl rfl
    · intro a w2 hfr hN hds hb hd
      exact op_skip ⟨hN, hds, rows_get (E := [(6, (bp b42)), (73, (.bool false))]) ⟨hb 6 rfl _ rfl, ((hd 19 rfl _ _ rfl rfl).trans (congrArg _ hc58)), trivial⟩⟩ rfl rfl rfl
    · intro a w2 hfr hN hds hb hd
      exact op_skip ⟨hN, hds, rows_get (E := [(73, (.bool false)), (81, undef)]) ⟨((hd 19 rfl _ _ rfl rfl).trans (congrArg _ hc58)), (hd 27 rfl _ _ rfl rfl), trivial⟩⟩ rfl rfl rfl
    · intro a w2 hfr hN hds hb hd
      exact op_skip ⟨hN, hds, rows_get (E := [(73, (.bool false)), (80, undef), (82, undef)]) ⟨((hd 19 rfl _ _ rfl rfl).trans (congrArg _ hc58)), (hd 26 rfl _ _ rfl rfl), (hd 28 rfl _ _ rfl rfl), trivial⟩⟩ rfl rfl rfl
    · intro a w2 hfr hN hds hb hd
      exact op_plain Θ_ok ⟨hN, hds, rows_get (E := [(70, (.bool false)), (73, (.bool false)), (83, undef)]) ⟨((hd 16 rfl _ _ rfl rfl).trans (congrArg _ hc55)), ((hd 19 rfl _ _ rfl rfl).trans (congrArg _ hc58)), (hd 29 rfl _ _ rfl rfl), trivial⟩⟩ rfl rfl rfl rfl rfl
    · intro a w2 hfr hN hds hb hd
      exact op_plain Θ_ok ⟨hN, hds, rows_get (E := [(70, (.bool false)), (84, (.bool false))]) ⟨((hd 16 rfl _ _ rfl rfl).trans (congrArg _ hc55)), (hd 30 rfl _ _ rfl rfl), trivial⟩⟩ rfl rfl rfl rfl rfl
    intro a w73 f72 hN hds hb hr
    have h0_2 := h0_2.tr f72.tr0
    have h0_1 := h0_1.tr f72.tr0
    have hb2 := hb2.fr0 f72
    have T15 := T15.trans f72.tr0
    have T24 := T24.trans f72.tr0
    have hO := f72.ob hO
    have hF := hF.trans f72
    refine wq_go (E := [(1, (bp b2)), (47, (.slice A22 x0.fBoxes.length c23)), (48, (.int .i64 (x0.fBoxes.length : Int))), (49, (.int .i64 (i25 : Int))), (85, (.bool false))]) hN hds ⟨hb 1 _ rfl rfl, hb 47 _ rfl rfl, hb 48 _ rfl rfl, hb 49 _ rfl rfl, (hr 31 _ _ rfl rfl), trivial⟩ ?_
    refine wq_seq ?_
    refine wc_false rfl ?_
    refine wc_skip ?_
    refine wq_block (wq_seq ?_)
    refine wc_region (l := [0, 1]) rfl ?_
    refine wo_seg Θ_ok [0, 1] [(1, (bp b2)), (47, (.slice A22 x0.fBoxes.length c23)), (48, (.int .i64 (x0.fBoxes.length : Int))), (49, (.int .i64 (IntKind.i64.wrap ((i25 : Int) + (1 : Int)))))] rfl ⟨rfl, rfl, rfl, rfl, trivial⟩ ?_
    refine wo_nil ?_
    exact wq_next rest26.length [(1, (bp b2)), (47, (.slice A22 x0.fBoxes.length c23)), (48, (.int .i64 (x0.fBoxes.length : Int))), (49, (.int .i64 ((i25 + 1 : Nat) : Int)))] (Nat.lt_succ_self _) ⟨rfl, rfl, rfl, congrArg (fun z => some (Value.int .i64 z)) (wrap_succ hl35 (Nat.le_trans hlc23 hmc23)), trivial⟩ ⟨rest26, i25 + 1, b42 :: O29, rfl, hd28, rfl, T24, hO, hS, hF, ib2, hb2, h⟩
  obtain ⟨y59, hz60, h⟩ := bind_some h
  refine wc_draw mixed [⟨54, [], [6]⟩, ⟨55, [0], []⟩, ⟨56, [1], []⟩, ⟨57, [2], []⟩, ⟨58, [3], []⟩, ⟨59, [4], [6]⟩, ⟨60, [4, 5], []⟩, ⟨61, [4, 6], []⟩, ⟨62, [4, 7], []⟩, ⟨63, [4, 8], []⟩, ⟨64, [9], []⟩, ⟨65, [10], [6]⟩, ⟨66, [10, 11], []⟩, ⟨67, [10, 12], []⟩, ⟨68, [10, 13], []⟩, ⟨69, [10, 14], []⟩, ⟨70, [15], []⟩, ⟨71, [16], [5]⟩, ⟨72, [16, 17], []⟩, ⟨73, [16, 18], []⟩, ⟨74, [19], [1]⟩, ⟨75, [19, 20], []⟩, ⟨76, [19], [5]⟩, ⟨77, [19, 22], []⟩, ⟨78, [19, 21, 23], []⟩, ⟨79, [19, 24], []⟩, ⟨80, [19, 25], []⟩, ⟨81, [19], [6]⟩, ⟨82, [19, 27], []⟩, ⟨83, [19, 26, 28], []⟩, ⟨84, [16, 19, 29], []⟩, ⟨85, [16, 30], []⟩] [SP.eq (bp b42), SP.eq (.int .u64 z27.fPid), SP.eq (.bool ((i_isPid z27.fPid))), SP.eq (.bool (!(i_isPid z27.fPid))), SP.eq (.bool (!(i_isPid z27.fPid))), SP.eq (.pointer (some ⟨b42, 1, none⟩)), SP.eq (.slice A45 z27.fWords.length c46), SP.eq (.int .i64 (z27.fWords.length : Int)), SP.eq (.bool (decide ((z27.fWords.length : Int) < (1 : Int)))), SP.eq (.bool (decide ((z27.fWords.length : Int) < (1 : Int)))), SP.eq (.bool (decide ((z27.fWords.length : Int) < (1 : Int)))), SP.eq (.pointer (some ⟨b42, 1, none⟩)), SP.eq (.slice A45 z27.fWords.length c46), SP.eq (.int .i64 (z27.fWords.length : Int)), SP.eq (.bool (decide ((z27.fWords.length : Int) > (4 : Int)))), SP.eq (.bool (decide ((z27.fWords.length : Int) > (4 : Int)))), SP.eq (.bool (decide ((z27.fWords.length : Int) > (4 : Int)))), SP.eq (.int .i64 (i25 : Int)), SP.eq (.bool (decide ((i25 : Int) > (0 : Int)))), SP.eq (.bool (decide ((i25 : Int) > (0 : Int)))), SP.eq (.pointer (some ⟨b2, 1, none⟩)), SP.eq (.slice A22 x0.fBoxes.length c23), SP.eq (.int .i64 (i25 : Int)), SP.eq (.int .i64 (IntKind.i64.wrap ((i25 : Int) - (1 : Int)))), SP.is (Ty.ptr tGBox) (b42 :: O29) y59, SP.is (Ty.ptr (Ty.int .u64)) (b42 :: O29) y59.fPid, SP.eq (.int .u64 y59.fPid), SP.eq (bp b42), SP.eq (.int .u64 z27.fPid), SP.eq (.bool (decide (y59.fPid ≥ z27.fPid))), SP.eq (.bool (decide (y59.fPid ≥ z27.fPid))), SP.eq (.bool (decide (y59.fPid ≥ z27.fPid)))] rfl rfl rfl ⟨?_, ?_, ?_, ?_, ?_, ?_, ?_, ?_, ?_, ?_, ?_, ?_, ?_, ?_, ?_, ?_, ?_, ?_, ?_, ?_, ?_, ?_, ?_, ?_, ?_, ?_, ?_, ?_, ?_, ?_, ?_, ?_, trivial⟩ ?_
  · intro a w2 hfr hN hds hb hd
    exact op_plain Θ_ok ⟨hN, hds, rows_get (E := [(6, (bp b42))]) ⟨hb 6 rfl _ rfl, trivial⟩⟩ rfl rfl rfl rfl rfl
  · intro a w2 hfr hN hds hb hd
    have hb42 := hb42.fr0 hfr
    exact op_load Θ_ok ⟨hN, hds, rows_get (E := [(54, (bp b42))]) ⟨(hd 0 rfl _ _ rfl rfl), trivial⟩⟩ rfl rfl rfl rfl rfl rfl hb42 [(.int .u64 z27.fPid)] rfl rfl (.inr rfl) (.int .u64 z27.fPid) rfl
  · intro a w2 hfr hN hds hb hd
    exact (op_call ⟨hN, hds, rows_get (E := [(55, (.int .u64 z27.fPid))]) ⟨(hd 1 rfl _ _ rfl rfl), trivial⟩⟩ rfl rfl rfl rfl ent34 rfl (i_isPid_c (hfr.ob hO) (int_is.2 rfl))).weaken (fun u w3 ⟨hu, hf⟩ => ⟨bool_is.1 hu, hf⟩)
  · intro a w2 hfr hN hds hb hd
    exact op_plain Θ_ok ⟨hN, hds, rows_get (E := [(56, (.bool ((i_isPid z27.fPid))))]) ⟨(hd 2 rfl _ _ rfl rfl), trivial⟩⟩ rfl rfl rfl rfl rfl
  · intro a w2 hfr hN hds hb hd
    exact op_plain Θ_ok ⟨hN, hds, rows_get (E := [(57, (.bool (!(i_isPid z27.fPid))))]) ⟨(hd 3 rfl _ _ rfl rfl), trivial⟩⟩ rfl rfl rfl rfl rfl
  · intro a w2 hfr hN hds hb hd
    exact op_plain Θ_ok ⟨hN, hds, rows_get (E := [(6, (bp b42)), (58, (.bool false))]) ⟨hb 6 rfl _ rfl, ((hd 4 rfl _ _ rfl rfl).trans (congrArg _ hc49)), trivial⟩⟩ rfl rfl rfl rfl rfl
  · intro a w2 hfr hN hds hb hd
    have hb42 := hb42.fr0 hfr
    exact op_load Θ_ok ⟨hN, hds, rows_get (E := [(58, (.bool false)), (59, (.pointer (some ⟨b42, 1, none⟩)))]) ⟨((hd 4 rfl _ _ rfl rfl).trans (congrArg _ hc49)), (hd 5 rfl _ _ rfl rfl), trivial⟩⟩ rfl rfl rfl rfl rfl rfl hb42 [(.slice A45 z27.fWords.length c46)] rfl rfl (.inr rfl) (.slice A45 z27.fWords.length c46) rfl
  · intro a w2 hfr hN hds hb hd
    have h41 := h41.tr hfr.tr0
    exact op_plain Θ_ok ⟨hN, hds, rows_get (E := [(58, (.bool false)), (60, (.slice A45 z27.fWords.length c46))]) ⟨((hd 4 rfl _ _ rfl rfl).trans (congrArg _ hc49)), (hd 6 rfl _ _ rfl rfl), trivial⟩⟩ rfl rfl rfl rfl rfl
  · intro a w2 hfr hN hds hb hd
    exact op_plain Θ_ok ⟨hN, hds, rows_get (E := [(58, (.bool false)), (61, (.int .i64 (z27.fWords.length : Int)))]) ⟨((hd 4 rfl _ _ rfl rfl).trans (congrArg _ hc49)), (hd 7 rfl _ _ rfl rfl), trivial⟩⟩ rfl rfl rfl rfl rfl
  · intro a w2 hfr hN hds hb hd
    exact op_plain Θ_ok ⟨hN, hds, rows_get (E := [(58, (.bool false)), (62, (.bool (decide ((z27.fWords.length : Int) < (1 : Int)))))]) ⟨((hd 4 rfl _ _ rfl rfl).trans (congrArg _ hc49)), (hd 8 rfl _ _ rfl rfl), trivial⟩⟩ rfl rfl rfl rfl rfl
  · intro a w2 hfr hN hds hb hd
    exact op_plain Θ_ok ⟨hN, hds, rows_get (E := [(63, (.bool (decide ((z27.fWords.length : Int) < (1 : Int)))))]) ⟨(hd 9 rfl _ _ rfl rfl), trivial⟩⟩ rfl rfl rfl rfl rfl
  · intro a w2 hfr hN hds hb hd
    exact op_plain Θ_ok ⟨hN, hds, rows_get (E := [(6, (bp b42)), (64, (.bool false))]) ⟨hb 6 rfl _ rfl, ((hd 10 rfl _ _ rfl rfl).trans (congrArg _ hc52)), trivial⟩⟩ rfl rfl rfl rfl rfl
  · intro a w2 hfr hN hds hb hd
    have hb42 := hb42.fr0 hfr
    exact op_load Θ_ok ⟨hN, hds, rows_get (E := [(64, (.bool false)), (65, (.pointer (some ⟨b42, 1, none⟩)))]) ⟨((hd 10 rfl _ _ rfl rfl).trans (congrArg _ hc52)), (hd 11 rfl _ _ rfl rfl), trivial⟩⟩ rfl rfl rfl rfl rfl rfl hb42 [(.slice A45 z27.fWords.length c46)] rfl rfl (.inr rfl) (.slice A45 z27.fWords.length c46) rfl
  · intro a w2 hfr hN hds hb hd
    have h41 := h41.tr hfr.tr0
    exact op_plain Θ_ok ⟨hN, hds, rows_get (E := [(64, (.bool false)), (66, (.slice A45 z27.fWords.length c46))]) ⟨((hd 10 rfl _ _ rfl rfl).trans (congrArg _ hc52)), (hd 12 rfl _ _ rfl rfl), trivial⟩⟩ rfl rfl rfl rfl rfl
  · intro a w2 hfr hN hds hb hd
    exact op_plain Θ_ok ⟨hN, hds, rows_get (E := [(64, (.bool false)), (67, (.int .i64 (z27.fWords.length : Int)))]) ⟨((hd 10 rfl _ _ rfl rfl).trans (congrArg _ hc52)), (hd 13 rfl _ _ rfl rfl), trivial⟩⟩ rfl rfl rfl rfl rfl
  · intro a w2 hfr hN hds hb hd
    exact op_plain Θ_ok ⟨hN, hds, rows_get (E := [(64, (.bool false)), (68, (.bool (decide ((z27.fWords.length : Int) > (4 : Int)))))]) ⟨((hd 10 rfl _ _ rfl rfl).trans (congrArg _ hc52)), (hd 14 rfl _ _ rfl rfl), trivial⟩⟩ rfl rfl rfl rfl rfl
  · intro a w2 hfr hN hds hb hd
    exact op_plain Θ_ok ⟨hN, hds, rows_get (E := [(69, (.bool (decide ((z27.fWords.length : Int) > (4 : Int)))))]) ⟨(hd 15 rfl _ _ rfl rfl), trivial⟩⟩ rfl rfl rfl rfl rfl
  · intro a w2 hfr hN hds hb hd
    exact op_plain Θ_ok ⟨hN, hds, rows_get (E := [(5, (.int .i64 (i25 : Int))), (70, (.bool false))]) ⟨hb 5 rfl _ rfl, ((hd 16 rfl _ _ rfl rfl).trans (congrArg _ hc55)), trivial⟩⟩ rfl rfl rfl rfl rfl
  · intro a w2 hfr hN hds hb hd
    exact op_plain Θ_ok ⟨hN, hds, rows_get (E := [(70, (.bool false)), (71, (.int .i64 (i25 : Int)))]) ⟨((hd 16 rfl _ _ rfl rfl).trans (congrArg _ hc55)), (hd 17 rfl _ _ rfl rfl), trivial⟩⟩ rfl rfl rfl rfl rfl
  · intro a w2 hfr hN hds hb hd
    exact op_plain Θ_ok ⟨hN, hds, rows_get (E := [(70, (.bool false)), (72, (.bool (decide ((i25 : Int) > (0 : Int)))))]) ⟨((hd 16 rfl _ _ rfl rfl).trans (congrArg _ hc55)), (hd 18 rfl _ _ rfl rfl), trivial⟩⟩ rfl rfl rfl rfl rfl
  · intro a w2 hfr hN hds hb hd
    exact op_plain Θ_ok ⟨hN, hds, rows_get (E := [(1, (bp b2)), (73, (.bool true))]) ⟨hb 1 rfl _ rfl, ((hd 19 rfl _ _ rfl rfl).trans (congrArg _ hc58)), trivial⟩⟩ rfl rfl rfl rfl rfl
  · intro a w2 hfr hN hds hb hd
    have hb2 := hb2.fr0 hfr
    exact op_load Θ_ok ⟨hN, hds, rows_get (E := [(73, (.bool true)), (74, (.pointer (some ⟨b2, 1, none⟩)))]) ⟨((hd 19 rfl _ _ rfl rfl).trans (congrArg _ hc58)), (hd 20 rfl _ _ rfl rfl), trivial⟩⟩ rfl rfl rfl rfl rfl rfl hb2 [(.slice A22 x0.fBoxes.length c23)] rfl rfl (.inr rfl) (.slice A22 x0.fBoxes.length c23) rfl
  · intro a w2 hfr hN hds hb hd
    exact op_plain Θ_ok ⟨hN, hds, rows_get (E := [(5, (.int .i64 (i25 : Int))), (73, (.bool true))]) ⟨hb 5 rfl _ rfl, ((hd 19 rfl _ _ rfl rfl).trans (congrArg _ hc58)), trivial⟩⟩ rfl rfl rfl rfl rfl
  · intro a w2 hfr hN hds hb hd
    exact op_plain Θ_ok ⟨hN, hds, rows_get (E := [(73, (.bool true)), (76, (.int .i64 (i25 : Int)))]) ⟨((hd 19 rfl _ _ rfl rfl).trans (congrArg _ hc58)), (hd 22 rfl _ _ rfl rfl), trivial⟩⟩ rfl rfl rfl rfl rfl
  · intro a w2 hfr hN hds hb hd
    have h0_2 := h0_2.tr hfr.tr0
    exact op_index (j := (IntKind.i64.wrap ((i25 : Int) - (1 : Int)))) Θ_ok ⟨hN, hds, rows_get (E := [(73, (.bool true)), (75, (.slice A22 x0.fBoxes.length c23)), (77, (.int .i64 (IntKind.i64.wrap ((i25 : Int) - (1 : Int)))))]) ⟨((hd 19 rfl _ _ rfl rfl).trans (congrArg _ hc58)), (hd 21 rfl _ _ rfl rfl), (hd 23 rfl _ _ rfl rfl), trivial⟩⟩ rfl rfl rfl rfl rfl rfl rfl rfl rfl h0_2 rfl (idx_some hz60).1 (idx_some hz60).2
  · intro a w2 hfr hN hds hb hd
    have d63 : (Ty.ptr tGBox).is (b42 :: O29) w2 (a.tmps.getD 78 undef) y59 := hd 24 rfl _ _ rfl rfl
    obtain ⟨u61, e62⟩ : ∃ v, a.tmps.getD 78 undef = v := ⟨_, rfl⟩
    rw [e62] at d63
    obtain ⟨ad64, rfl⟩ := ptr_form d63
    have h65 := ptr_sub (S := (Ty.int .u64)) (off := 0) (y := y59.fPid) d63 (fun cs hr => by obtain ⟨z0, rfl, y0⟩ := tGBox_rep hr; exact rfl)
    exact (op_plain (v := (.pointer (some (ad64.add 0)))) Θ_ok ⟨hN, hds, rows_get (E := [(73, (.bool true)), (78, (.pointer (some ad64)))]) ⟨((hd 19 rfl _ _ rfl rfl).trans (congrArg _ hc58)), e62, trivial⟩⟩ rfl rfl rfl rfl rfl).weaken (fun u w3 ⟨hu, hf⟩ => by subst hu; exact ⟨h65.tr hf.tr0, hf⟩)
  · intro a w2 hfr hN hds hb hd
    have d68 : (Ty.ptr (Ty.int .u64)).is (b42 :: O29) w2 (a.tmps.getD 79 undef) y59.fPid := hd 25 rfl _ _ rfl rfl
    obtain ⟨u66, e67⟩ : ∃ v, a.tmps.getD 79 undef = v := ⟨_, rfl⟩
    rw [e67] at d68
    exact (op_loadp Θ_ok ⟨hN, hds, rows_get (E := [(73, (.bool true)), (79, u66)]) ⟨((hd 19 rfl _ _ rfl rfl).trans (congrArg _ hc58)), e67, trivial⟩⟩ rfl rfl rfl rfl rfl rfl d68 rfl rfl).weaken (fun u w3 ⟨hu, hf⟩ => ⟨int_is.1 hu, hf⟩)
  · intro a w2 hfr hN hds hb hd
    exact op_plain Θ_ok ⟨hN, hds, rows_get (E := [(6, (bp b42)), (73, (.bool true))]) ⟨hb 6 rfl _ rfl, ((hd 19 rfl _ _ rfl rfl).trans (congrArg _ hc58)), trivial⟩⟩ rfl rfl rfl rfl rfl
  · intro a w2 hfr hN hds hb hd
    have hb42 := hb42.fr0 hfr
    exact op_load Θ_ok ⟨hN, hds, rows_get (E := [(73, (.bool true)), (81, (bp b42))]) ⟨((hd 19 rfl _ _ rfl rfl).trans (congrArg _ hc58)), (hd 27 rfl _ _ rfl rfl), trivial⟩⟩ rfl rfl rfl rfl rfl rfl hb42 [(.int .u64 z27.fPid)] rfl rfl (.inr rfl) (.int .u64 z27.fPid) rfl
  · intro a w2 hfr hN hds hb hd
    exact op_plain Θ_ok ⟨hN, hds, rows_get (E := [(73, (.bool true)), (80, (.int .u64 y59.fPid)), (82, (.int .u64 z27.fPid))]) ⟨((hd 19 rfl _ _ rfl rfl).trans (congrArg _ hc58)), (hd 26 rfl _ _ rfl rfl), (hd 28 rfl _ _ rfl rfl), trivial⟩⟩ rfl rfl rfl rfl rfl
  · intro a w2 hfr hN hds hb hd
    exact op_plain Θ_ok ⟨hN, hds, rows_get (E := [(70, (.bool false)), (73, (.bool true)), (83, (.bool (decide (y59.fPid ≥ z27.fPid))))]) ⟨((hd 16 rfl _ _ rfl rfl).trans (congrArg _ hc55)), ((hd 19 rfl _ _ rfl rfl).trans (congrArg _ hc58)), (hd 29 rfl _ _ rfl rfl), trivial⟩⟩ rfl rfl rfl rfl rfl
  · intro a w2 hfr hN hds hb hd
    exact op_plain Θ_ok ⟨hN, hds, rows_get (E := [(70, (.bool false)), (84, (.bool (decide (y59.fPid ≥ z27.fPid))))]) ⟨((hd 16 rfl _ _ rfl rfl).trans (congrArg _ hc55)), (hd 30 rfl _ _ rfl rfl), trivial⟩⟩ rfl rfl rfl rfl rfl
  intro a w70 f69 hN hds hb hr
  have h0_2 := h0_2.tr f69.tr0
  have h0_1 := h0_1.tr f69.tr0
  have hb2 := hb2.fr0 f69
  have T15 := T15.trans f69.tr0
  have T24 := T24.trans f69.tr0
  have hO := f69.ob hO
  have hF := hF.trans f69
  refine wq_go (E := [(1, (bp b2)), (47, (.slice A22 x0.fBoxes.length c23)), (48, (.int .i64 (x0.fBoxes.length : Int))), (49, (.int .i64 (i25 : Int))), (85, (.bool (decide (y59.fPid ≥ z27.fPid))))]) hN hds ⟨hb 1 _ rfl rfl, hb 47 _ rfl rfl, hb 48 _ rfl rfl, hb 49 _ rfl rfl, (hr 31 _ _ rfl rfl), trivial⟩ ?_
  refine wq_seq ?_
  rcases bif_some h with ⟨hc71, h⟩ | ⟨hc71, h⟩
  rotate_left
  · refine wc_known_false rfl hc71 ?_
    refine wc_skip ?_
    refine wq_block (wq_seq ?_)
    refine wc_region (l := [0, 1]) rfl ?_
    refine wo_seg Θ_ok [0, 1] [(1, (bp b2)), (47, (.slice A22 x0.fBoxes.length c23)), (48, (.int .i64 (x0.fBoxes.length : Int))), (49, (.int .i64 (IntKind.i64.wrap ((i25 : Int) + (1 : Int)))))] rfl ⟨rfl, rfl, rfl, rfl, trivial⟩ ?_
    refine wo_nil ?_
    exact wq_next rest26.length [(1, (bp b2)), (47, (.slice A22 x0.fBoxes.length c23)), (48, (.int .i64 (x0.fBoxes.length : Int))), (49, (.int .i64 ((i25 + 1 : Nat) : Int)))] (Nat.lt_succ_self _) ⟨rfl, rfl, rfl, congrArg (fun z => some (Value.int .i64 z)) (wrap_succ hl35 (Nat.le_trans hlc23 hmc23)), trivial⟩ ⟨rest26, i25 + 1, b42 :: O29, rfl, hd28, rfl, T24, hO, hS, hF, ib2, hb2, h⟩
  refine wc_known_true rfl hc71 ?_
  refine wc_seq ?_
  refine wc_region (l := [0]) rfl ?_
  refine wo_seg Θ_ok [0] [(2, (.int .i64 350))] rfl ⟨rfl, trivial⟩ ?_
  refine wo_nil ?_
  refine wq_seq ?_
  refine wc_ret ?_
  cases h
  exact wq_block_ret (wq_then_ret (wq_then_ret (wq_block_ret (wq_then_ret (wq_ret rfl ⟨_, rfl, (int_is.2 rfl), hF⟩)))))
end Go.Proofs.Ytjdeaihnpgkphaa
