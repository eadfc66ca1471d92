/-
  The program's functions compute the plain ones (printed by a tool of the prover's).
-/
import Derived.Test.YtbaffpifmfddeaaDoorGWalk2
namespace Go.Proofs.YtbaffpifmfddeaaDoor
open Go.RowKit Go.Dc Go.Shelf
set_option maxRecDepth 100000 in
set_option maxHeartbeats 4000000 in
theorem b_Pack_c {O : List Nat} {w : World} (hO : OB O w) {v0 : Value} {x0 : List GField} (h0 : (Ty.slice tGField).is O w v0 x0) {v1 : Value} {x1 : List Int} (h1 : (Ty.slice (Ty.int .u64)).is O w v1 x1) {r : Int × Int} (h : b_Pack x0 x1 = some r) : Calls Tryd.prog 36 #[v0, v1] w (Gives (rt2 (Ty.int .u64) (Ty.int .i64)) O w r) := by
  have hF := Fr.refl [] w
  have hO0 := hO
  have hS := Sub.refl O
  refine calls_of (args := [v0, v1]) (N := 45) Tryd.func36 rfl rfl rfl ?_
  unfold b_Pack at h
  refine wc_seq ?_
  refine wc_region (l := [0, 1]) rfl ?_
  refine wo_seg Θ_ok [0, 1] [(0, v0), (1, v1)] rfl ⟨rfl, rfl, trivial⟩ ?_
  refine wo_nil ?_
  refine wq_seq ?_
  refine wc_seq ?_
  refine wc_seq ?_
  refine wc_region (l := [0, 1, 2]) rfl ?_
  refine wo_seg Θ_ok [0] [(0, v0), (1, v1), (12, v0)] rfl ⟨rfl, rfl, rfl, trivial⟩ ?_
  obtain ⟨y5, hy6, h⟩ := bind_some h
  refine wo_gives rfl rfl rfl rfl rfl ent44 rfl (b_Check_c hO h0 hy6) (fun v1 w2 h3 f4 => ?_)
  have h0 := h0.tr f4.tr0
  have h1 := h1.tr f4.tr0
  have hO := f4.ob hO
  have hF := hF.trans f4
  obtain rfl := int_is.1 h3
  refine wo_seg Θ_ok [2] [(0, v0), (1, v1), (6, (.int .i64 y5))] rfl ⟨rfl, rfl, rfl, trivial⟩ ?_
  refine wo_nil ?_
  refine wq_seq ?_
  refine wc_seq ?_
  refine wc_region (l := [0, 1]) rfl ?_
  refine wo_seg Θ_ok [0, 1] [(0, v0), (1, v1), (6, (.int .i64 y5)), (15, (.bool (y5 != (0 : Int))))] rfl ⟨rfl, rfl, rfl, rfl, trivial⟩ ?_
  refine wo_nil ?_
  refine wq_seq ?_
  rcases bif_some h with ⟨hc7, h⟩ | ⟨hc7, h⟩
  · refine wc_known_true rfl hc7 ?_
    refine wc_seq ?_
    refine wc_region (l := [0, 1, 2]) rfl ?_
    refine wo_seg Θ_ok [0, 1, 2] [(4, (.int .u64 0)), (5, (.int .i64 y5))] rfl ⟨rfl, rfl, trivial⟩ ?_
    refine wo_nil ?_
    refine wq_seq ?_
    refine wc_ret ?_
    cases h
    exact wq_then_ret (wq_ret rfl ⟨_, rfl, ⟨_, _, rfl, (int_is.2 rfl), (int_is.2 rfl)⟩, hF⟩)
  refine wc_known_false rfl hc7 ?_
  refine wc_skip ?_
  refine wq_seq ?_
  refine wc_seq ?_
  refine wc_seq ?_
  refine wc_region (l := [0, 1, 2, 3, 4]) rfl ?_
  refine wo_seg Θ_ok [0] [(0, v0), (1, v1), (17, v1)] rfl ⟨rfl, rfl, rfl, trivial⟩ ?_
  obtain ⟨A8, c9, rfl, hlc9, hmc9⟩ := slice_form h1
  refine wo_seg Θ_ok [1] [(0, v0), (1, (.slice A8 x1.length c9)), (18, (.int .i64 (x1.length : Int)))] rfl ⟨rfl, rfl, rfl, trivial⟩ ?_
  refine wo_seg Θ_ok [2] [(0, v0), (1, (.slice A8 x1.length c9)), (18, (.int .i64 (x1.length : Int))), (19, v0)] rfl ⟨rfl, rfl, rfl, rfl, trivial⟩ ?_
  obtain ⟨A10, c11, rfl, hlc11, hmc11⟩ := slice_form h0
  refine wo_seg Θ_ok [3] [(0, (.slice A10 x0.length c11)), (1, (.slice A8 x1.length c9)), (18, (.int .i64 (x1.length : Int))), (20, (.int .i64 (x0.length : Int)))] rfl ⟨rfl, rfl, rfl, rfl, trivial⟩ ?_
  refine wo_seg Θ_ok [4] [(0, (.slice A10 x0.length c11)), (1, (.slice A8 x1.length c9)), (21, (.bool ((x1.length : Int) != (x0.length : Int))))] rfl ⟨rfl, rfl, rfl, trivial⟩ ?_
  refine wo_nil ?_
  refine wq_seq ?_
  rcases bif_some h with ⟨hc12, h⟩ | ⟨hc12, h⟩
  · refine wc_known_true rfl hc12 ?_
    refine wc_seq ?_
    refine wc_region (l := [0, 1]) rfl ?_
    refine wo_seg Θ_ok [0, 1] [(4, (.int .u64 0)), (5, (.int .i64 2))] rfl ⟨rfl, rfl, trivial⟩ ?_
    refine wo_nil ?_
    refine wq_seq ?_
    refine wc_ret ?_
    cases h
    exact wq_then_ret (wq_ret rfl ⟨_, rfl, ⟨_, _, rfl, (int_is.2 rfl), (int_is.2 rfl)⟩, hF⟩)
  refine wc_known_false rfl hc12 ?_
  refine wc_skip ?_
  refine wq_seq ?_
  refine wc_seq ?_
  refine wc_region (l := [0]) rfl ?_
  refine wo_seg Θ_ok [0] [(0, (.slice A10 x0.length c11)), (1, (.slice A8 x1.length c9)), (7, (.int .u64 0))] rfl ⟨rfl, rfl, rfl, trivial⟩ ?_
  refine wo_nil ?_
  refine wq_seq ?_
  obtain ⟨k14, hk15, h⟩ := letk_some h
  refine wc_join (fun E W => ∃ (O19 : List Nat) (p18 : Int), E = [(7, (.int .u64 p18))] ∧ Tr O w2 O19 W ∧ OB O19 W ∧ Sub O O19 ∧ Fr [] w W ∧ k14 p18 = some r) ?_ (fun K16 hK17 => ?_)
  · rintro E w20 ⟨O19, p18, rfl, T13, hO, hS, hF, h⟩
    subst hk15
    (try dsimp only at h)
    refine wc_seq ?_
    refine wc_region (l := [0, 1, 2]) rfl ?_
    refine wo_seg Θ_ok [0, 1, 2] [(4, (.int .u64 p18)), (5, (.int .i64 0))] rfl ⟨rfl, rfl, trivial⟩ ?_
    refine wo_nil ?_
    refine wq_seq ?_
    refine wc_ret ?_
    cases h
    exact wq_ret rfl ⟨_, rfl, ⟨_, _, rfl, (int_is.2 rfl), (int_is.2 rfl)⟩, hF⟩
  clear hk15
  have T13 := Tr.refl O w2
  refine wc_seq ?_
  refine wc_region (l := [0, 1, 2]) rfl ?_
  refine wo_seg Θ_ok [0, 1, 2] [(1, (.slice A8 x1.length c9)), (7, (.int .u64 0)), (22, (.slice A10 x0.length c11)), (23, (.int .i64 (x0.length : Int))), (24, (.int .i64 0))] rfl ⟨rfl, rfl, rfl, rfl, rfl, trivial⟩ ?_
  refine wo_nil ?_
  refine wq_seq ?_
  refine wc_block ?_
  refine wc_loop (fun m E W => ∃ (rest24 : List GField) (i23 : Nat) (O27 : List Nat) (p22 : Int), rest24.length = m ∧ x0.drop i23 = rest24 ∧ E = [(1, (.slice A8 x1.length c9)), (7, (.int .u64 p22)), (22, (.slice A10 x0.length c11)), (23, (.int .i64 (x0.length : Int))), (24, (.int .i64 (i23 : Int)))] ∧ Tr O w2 O27 W ∧ OB O27 W ∧ Sub O O27 ∧ Fr [] w W ∧ b_Pack_l1 x1 k14 rest24 i23 p22 = some r) _ [(1, (.slice A8 x1.length c9)), (7, (.int .u64 0)), (22, (.slice A10 x0.length c11)), (23, (.int .i64 (x0.length : Int))), (24, (.int .i64 ((0 : Nat) : Int)))] ⟨rfl, rfl, rfl, rfl, rfl, trivial⟩ ⟨x0, 0, O, (0 : Int), rfl, rfl, rfl, Tr.refl _ _, hO, hS, hF, h⟩ ?_
  rintro m E w28 ⟨rest24, i23, O27, p22, rfl, hd26, rfl, T21, hO, hS, hF, h⟩
  have T13 := T13.trans T21
  have h1 := h1.tr T21
  have h0 := h0.tr T21
  rcases rest24 with _ | ⟨z25, rest24⟩
  · rw [b_Pack_l1] at h
    have hl32 := drop_nil hd26
    have hc29 : (decide ((i23 : Int) < (x0.length : Int))) = false := decide_eq_false (by omega)
    refine wc_seq ?_
    refine wc_region (l := [0]) rfl ?_
    refine wo_seg Θ_ok [0] [(1, (.slice A8 x1.length c9)), (7, (.int .u64 p22)), (22, (.slice A10 x0.length c11)), (23, (.int .i64 (x0.length : Int))), (24, (.int .i64 (i23 : Int))), (25, (.bool (decide ((i23 : Int) < (x0.length : Int)))))] rfl ⟨rfl, rfl, rfl, rfl, rfl, rfl, trivial⟩ ?_
    refine wo_nil ?_
    refine wq_seq ?_
    refine wc_seq ?_
    refine wc_known_false rfl hc29 ?_
    refine wc_exit ?_
    exact wq_then_exit (wq_then_exit (wq_block_exit (wq_join hK17 [(7, (.int .u64 p22))] ⟨rfl, trivial⟩ ⟨O27, p22, rfl, T13, hO, hS, hF, h⟩)))
  rw [b_Pack_l1] at h
  obtain ⟨hl33, hg31, hd26⟩ := drop_cons hd26
  have hc30 : (decide ((i23 : Int) < (x0.length : Int))) = true := decide_eq_true (by omega)
  refine wc_seq ?_
  refine wc_region (l := [0]) rfl ?_
  refine wo_seg Θ_ok [0] [(1, (.slice A8 x1.length c9)), (7, (.int .u64 p22)), (22, (.slice A10 x0.length c11)), (23, (.int .i64 (x0.length : Int))), (24, (.int .i64 (i23 : Int))), (25, (.bool (decide ((i23 : Int) < (x0.length : Int)))))] rfl ⟨rfl, rfl, rfl, rfl, rfl, rfl, trivial⟩ ?_
  refine wo_nil ?_
  refine wq_seq ?_
  refine wc_seq ?_
  refine wc_known_true rfl hc30 ?_
  refine wc_skip ?_
  refine wq_seq ?_
  refine wc_seq ?_
  refine wc_block ?_
  refine wc_seq ?_
  refine wc_region (l := [0, 1, 2, 3, 4, 5]) rfl ?_
  refine wo_seg Θ_ok [0] [(1, (.slice A8 x1.length c9)), (7, (.int .u64 p22)), (22, (.slice A10 x0.length c11)), (23, (.int .i64 (x0.length : Int))), (24, (.int .i64 (i23 : Int))), (26, (.int .i64 (i23 : Int)))] rfl ⟨rfl, rfl, rfl, rfl, rfl, rfl, trivial⟩ ?_
  refine wo_index Θ_ok rfl rfl rfl rfl rfl rfl rfl rfl rfl rfl h0 rfl (by omega) hg31 (fun p34 h35 => ?_)
  refine wo_loadp Θ_ok rfl rfl rfl rfl rfl rfl rfl h35 rfl rfl (fun v36 h37 => ?_)
  obtain rfl := tGField_is.1 h37
  refine wo_alloc Θ_ok rfl rfl rfl rfl rfl rfl [(.int .i64 0), (.int .i64 0)] rfl hO (fun b38 w39 n40 => ?_)
  have h1 := h1.tr n40.tr
  have h0 := h0.tr n40.tr
  have T13 := T13.trans n40.tr
  have T21 := T21.trans n40.tr
  have hb38 := n40.blk
  have gb38 := n40.ge0 hF
  have ib38 : b38 ∈ b38 :: O27 := List.mem_cons_self
  have hO := n40.ob
  have hF := hF.trans n40.fr
  have hS := Sub.cons hS b38
  refine wo_seg Θ_ok [4] [(1, (.slice A8 x1.length c9)), (7, (.int .u64 p22)), (8, (.int .i64 (i23 : Int))), (9, (.pointer (some ⟨b38, 0, none⟩))), (22, (.slice A10 x0.length c11)), (23, (.int .i64 (x0.length : Int))), (24, (.int .i64 (i23 : Int))), (28, (.agg #[(.int .i64 z25.fAt), (.int .i64 z25.fWide)]))] rfl ⟨rfl, rfl, rfl, rfl, rfl, rfl, rfl, rfl, trivial⟩ ?_
  refine wo_store Θ_ok rfl rfl rfl rfl rfl rfl rfl hb38 [(.int .i64 z25.fAt), (.int .i64 z25.fWide)] rfl rfl (by simp [Value.oneCell']) rfl [(.int .i64 z25.fAt), (.int .i64 z25.fWide)] rfl (fun w41 hb38 f42 => ?_)
  have h1 := h1.tr (f42.tr (one_in ib38))
  have h0 := h0.tr (f42.tr (one_in ib38))
  have T13 := T13.trans (f42.tr (one_in ib38))
  have T21 := T21.trans (f42.tr (one_in ib38))
  have hO := f42.ob hO
  have hF := hF.own f42 gb38
  refine wo_nil ?_
  refine wq_seq ?_
  refine wc_seq ?_
  obtain ⟨y43, hz44, h⟩ := bind_some h
  obtain ⟨y45, hy46, h⟩ := bind_some h
  refine wc_draw mixed [⟨30, [], [7]⟩, ⟨31, [], [9]⟩, ⟨32, [], [1]⟩, ⟨33, [], [8]⟩, ⟨34, [2, 3], []⟩, ⟨35, [4], []⟩, ⟨36, [0, 1, 5], []⟩, ⟨29, [6], []⟩, ⟨37, [7], []⟩, ⟨38, [7], []⟩, ⟨10, [8], []⟩, ⟨11, [9], []⟩] [SP.eq (.int .u64 p22), SP.eq (.agg #[(.int .i64 z25.fAt), (.int .i64 z25.fWide)]), SP.is (Ty.slice (Ty.int .u64)) (b38 :: O27) x1, SP.eq (.int .i64 (i23 : Int)), SP.is (Ty.ptr (Ty.int .u64)) (b38 :: O27) y43, SP.eq (.int .u64 y43), SP.rt2 (Ty.int .u64) (Ty.int .i64) (b38 :: O27) y45, SP.rt2 (Ty.int .u64) (Ty.int .i64) (b38 :: O27) y45, SP.eq (.int .u64 y45.1), SP.eq (.int .i64 y45.2), SP.eq (.int .u64 y45.1), SP.eq (.int .i64 y45.2)] rfl rfl rfl ⟨?_, ?_, ?_, ?_, ?_, ?_, ?_, ?_, ?_, ?_, ?_, ?_, trivial⟩ ?_
  · intro a w2 hfr hN hds hb hd
    exact op_plain Θ_ok ⟨hN, hds, rows_get (E := [(7, (.int .u64 p22))]) ⟨hb 7 rfl _ rfl, trivial⟩⟩ rfl rfl rfl rfl rfl
  · intro a w2 hfr hN hds hb hd
    have hb38 := hb38.fr0 hfr
    exact op_load Θ_ok ⟨hN, hds, rows_get (E := [(9, (.pointer (some ⟨b38, 0, none⟩)))]) ⟨hb 9 rfl _ rfl, trivial⟩⟩ rfl rfl rfl rfl rfl rfl hb38 [(.int .i64 z25.fAt), (.int .i64 z25.fWide)] rfl rfl (.inl rfl) (.agg #[(.int .i64 z25.fAt), (.int .i64 z25.fWide)]) rfl
  · intro a w2 hfr hN hds hb hd
    have h1 := h1.tr hfr.tr0
    exact (op_plain Θ_ok ⟨hN, hds, rows_get (E := [(1, (.slice A8 x1.length c9))]) ⟨hb 1 rfl _ rfl, trivial⟩⟩ rfl rfl rfl rfl rfl).weaken (fun u w3 ⟨hu, hf⟩ => by subst hu; exact ⟨h1.tr hf.tr0, hf⟩)
  · intro a w2 hfr hN hds hb hd
    exact op_plain Θ_ok ⟨hN, hds, rows_get (E := [(8, (.int .i64 (i23 : Int)))]) ⟨hb 8 rfl _ rfl, trivial⟩⟩ rfl rfl rfl rfl rfl
  · intro a w2 hfr hN hds hb hd
    have d49 : (Ty.slice (Ty.int .u64)).is (b38 :: O27) w2 (a.tmps.getD 32 undef) x1 := hd 2 rfl _ _ rfl rfl
    obtain ⟨u47, e48⟩ : ∃ v, a.tmps.getD 32 undef = v := ⟨_, rfl⟩
    rw [e48] at d49
    exact op_index (j := (i23 : Int)) Θ_ok ⟨hN, hds, rows_get (E := [(32, u47), (33, (.int .i64 (i23 : Int)))]) ⟨e48, (hd 3 rfl _ _ rfl rfl), trivial⟩⟩ rfl rfl rfl rfl rfl rfl rfl rfl rfl d49 rfl (idx_some hz44).1 (idx_some hz44).2
  · intro a w2 hfr hN hds hb hd
    have d52 : (Ty.ptr (Ty.int .u64)).is (b38 :: O27) w2 (a.tmps.getD 34 undef) y43 := hd 4 rfl _ _ rfl rfl
    obtain ⟨u50, e51⟩ : ∃ v, a.tmps.getD 34 undef = v := ⟨_, rfl⟩
    rw [e51] at d52
    exact (op_loadp Θ_ok ⟨hN, hds, rows_get (E := [(34, u50)]) ⟨e51, trivial⟩⟩ rfl rfl rfl rfl rfl rfl d52 rfl rfl).weaken (fun u w3 ⟨hu, hf⟩ => ⟨int_is.1 hu, hf⟩)
  · intro a w2 hfr hN hds hb hd
    exact (op_call ⟨hN, hds, rows_get (E := [(30, (.int .u64 p22)), (31, (.agg #[(.int .i64 z25.fAt), (.int .i64 z25.fWide)])), (35, (.int .u64 y43))]) ⟨(hd 0 rfl _ _ rfl rfl), (hd 1 rfl _ _ rfl rfl), (hd 5 rfl _ _ rfl rfl), trivial⟩⟩ rfl rfl rfl rfl ent45 rfl (b_Set_c (hfr.ob hO) (int_is.2 rfl) ((tGField_is (x := z25)).2 rfl) (int_is.2 rfl) hy46)).weaken (fun u w3 ⟨hu, hf⟩ => ⟨hu, hf⟩)
  · intro a w2 hfr hN hds hb hd
    obtain ⟨u53, u55, e57, d54, d56⟩ := hd 6 rfl _ _ rfl rfl
    obtain rfl := int_is.1 d54
    obtain rfl := int_is.1 d56
    exact (op_plain Θ_ok ⟨hN, hds, rows_get (E := [(36, (.tuple #[(.int .u64 y45.1), (.int .i64 y45.2)]))]) ⟨e57, trivial⟩⟩ rfl rfl rfl rfl rfl).weaken (fun u w3 ⟨hu, hf⟩ => by subst hu; exact ⟨⟨_, _, rfl, (int_is.2 rfl), (int_is.2 rfl)⟩, hf⟩)
  · intro a w2 hfr hN hds hb hd
    obtain ⟨u58, u60, e62, d59, d61⟩ := hd 7 rfl _ _ rfl rfl
    obtain rfl := int_is.1 d59
    obtain rfl := int_is.1 d61
    exact op_plain Θ_ok ⟨hN, hds, rows_get (E := [(29, (.tuple #[(.int .u64 y45.1), (.int .i64 y45.2)]))]) ⟨e62, trivial⟩⟩ rfl rfl rfl rfl rfl
  · intro a w2 hfr hN hds hb hd
    obtain ⟨u63, u65, e67, d64, d66⟩ := hd 7 rfl _ _ rfl rfl
    obtain rfl := int_is.1 d64
    obtain rfl := int_is.1 d66
    exact op_plain Θ_ok ⟨hN, hds, rows_get (E := [(29, (.tuple #[(.int .u64 y45.1), (.int .i64 y45.2)]))]) ⟨e67, trivial⟩⟩ rfl rfl rfl rfl rfl
  · intro a w2 hfr hN hds hb hd
    exact op_plain Θ_ok ⟨hN, hds, rows_get (E := [(37, (.int .u64 y45.1))]) ⟨(hd 8 rfl _ _ rfl rfl), trivial⟩⟩ rfl rfl rfl rfl rfl
  · intro a w2 hfr hN hds hb hd
    exact op_plain Θ_ok ⟨hN, hds, rows_get (E := [(38, (.int .i64 y45.2))]) ⟨(hd 9 rfl _ _ rfl rfl), trivial⟩⟩ rfl rfl rfl rfl rfl
  intro a w69 f68 hN hds hb hr
  have h1 := h1.tr f68.tr0
  have h0 := h0.tr f68.tr0
  have T13 := T13.trans f68.tr0
  have T21 := T21.trans f68.tr0
  have hO := f68.ob hO
  have hF := hF.trans f68
  refine wq_go (E := [(1, (.slice A8 x1.length c9)), (22, (.slice A10 x0.length c11)), (23, (.int .i64 (x0.length : Int))), (24, (.int .i64 (i23 : Int))), (10, (.int .u64 y45.1)), (11, (.int .i64 y45.2))]) hN hds ⟨hb 1 _ rfl rfl, hb 22 _ rfl rfl, hb 23 _ rfl rfl, hb 24 _ rfl rfl, (hr 10 _ _ rfl rfl), (hr 11 _ _ rfl rfl), trivial⟩ ?_
  refine wq_seq ?_
  refine wc_seq ?_
  refine wc_seq ?_
  refine wc_region (l := [0, 1]) rfl ?_
  refine wo_seg Θ_ok [0, 1] [(1, (.slice A8 x1.length c9)), (10, (.int .u64 y45.1)), (11, (.int .i64 y45.2)), (22, (.slice A10 x0.length c11)), (23, (.int .i64 (x0.length : Int))), (24, (.int .i64 (i23 : Int))), (40, (.bool (y45.2 != (0 : Int))))] rfl ⟨rfl, rfl, rfl, rfl, rfl, rfl, rfl, trivial⟩ ?_
  refine wo_nil ?_
  refine wq_seq ?_
  rcases bif_some h with ⟨hc70, h⟩ | ⟨hc70, h⟩
  · refine wc_known_true rfl hc70 ?_
    refine wc_seq ?_
    refine wc_region (l := [0, 1, 2]) rfl ?_
    refine wo_seg Θ_ok [0, 1, 2] [(4, (.int .u64 0)), (5, (.int .i64 y45.2))] rfl ⟨rfl, rfl, trivial⟩ ?_
    refine wo_nil ?_
    refine wq_seq ?_
    refine wc_ret ?_
    cases h
    exact wq_then_ret (wq_block_ret (wq_then_ret (wq_then_ret (wq_block_ret (wq_then_ret (wq_ret rfl ⟨_, rfl, ⟨_, _, rfl, (int_is.2 rfl), (int_is.2 rfl)⟩, hF⟩))))))
  refine wc_known_false rfl hc70 ?_
  refine wc_skip ?_
  refine wq_seq ?_
  refine wc_region (l := [0, 1]) rfl ?_
  refine wo_seg Θ_ok [0, 1] [(1, (.slice A8 x1.length c9)), (7, (.int .u64 y45.1)), (22, (.slice A10 x0.length c11)), (23, (.int .i64 (x0.length : Int))), (24, (.int .i64 (i23 : Int)))] rfl ⟨rfl, rfl, rfl, rfl, rfl, trivial⟩ ?_
  refine wo_nil ?_
  refine wq_block (wq_seq ?_)
  refine wc_region (l := [0, 1]) rfl ?_
  refine wo_seg Θ_ok [0, 1] [(1, (.slice A8 x1.length c9)), (7, (.int .u64 y45.1)), (22, (.slice A10 x0.length c11)), (23, (.int .i64 (x0.length : Int))), (24, (.int .i64 (IntKind.i64.wrap ((i23 : Int) + (1 : Int)))))] rfl ⟨rfl, rfl, rfl, rfl, rfl, trivial⟩ ?_
  refine wo_nil ?_
  exact wq_next rest24.length [(1, (.slice A8 x1.length c9)), (7, (.int .u64 y45.1)), (22, (.slice A10 x0.length c11)), (23, (.int .i64 (x0.length : Int))), (24, (.int .i64 ((i23 + 1 : Nat) : Int)))] (Nat.lt_succ_self _) ⟨rfl, rfl, rfl, rfl, congrArg (fun z => some (Value.int .i64 z)) (wrap_succ hl33 (Nat.le_trans hlc11 hmc11)), trivial⟩ ⟨rest24, i23 + 1, b38 :: O27, y45.1, rfl, hd26, rfl, T21, hO, hS, hF, h⟩
set_option maxRecDepth 100000 in
set_option maxHeartbeats 4000000 in
theorem b_Split_c {O : List Nat} {w : World} (hO : OB O w) {v0 : Value} {x0 : Int} (h0 : (Ty.int .u64).is O w v0 x0) {v1 : Value} {x1 : List GField} (h1 : (Ty.slice tGField).is O w v1 x1) {r : (List Int) × Int} (h : b_Split x0 x1 = some r) : Calls Tryd.prog 37 #[v0, v1] w (Gives (rt2 (Ty.slice (Ty.int .u64)) (Ty.int .i64)) O w r) := by
  obtain rfl := int_is.1 h0
  have hF := Fr.refl [] w
  have hO0 := hO
  have hS := Sub.refl O
  refine calls_of (args := [(.int .u64 x0), v1]) (N := 30) Tryd.func37 rfl rfl rfl ?_
  unfold b_Split at h
  refine wc_seq ?_
  refine wc_region (l := [0, 1]) rfl ?_
  refine wo_seg Θ_ok [0, 1] [(0, (.int .u64 x0)), (1, v1)] rfl ⟨rfl, rfl, trivial⟩ ?_
  refine wo_nil ?_
  refine wq_seq ?_
  refine wc_seq ?_
  refine wc_seq ?_
  refine wc_region (l := [0, 1, 2]) rfl ?_
  refine wo_seg Θ_ok [0] [(0, (.int .u64 x0)), (1, v1), (10, v1)] rfl ⟨rfl, rfl, rfl, trivial⟩ ?_
  obtain ⟨y5, hy6, h⟩ := bind_some h
  refine wo_gives rfl rfl rfl rfl rfl ent44 rfl (b_Check_c hO h1 hy6) (fun v1 w2 h3 f4 => ?_)
  have h1 := h1.tr f4.tr0
  have hO := f4.ob hO
  have hF := hF.trans f4
  obtain rfl := int_is.1 h3
  refine wo_seg Θ_ok [2] [(0, (.int .u64 x0)), (1, v1), (6, (.int .i64 y5))] rfl ⟨rfl, rfl, rfl, trivial⟩ ?_
  refine wo_nil ?_
  refine wq_seq ?_
  refine wc_seq ?_
  refine wc_region (l := [0, 1]) rfl ?_
  refine wo_seg Θ_ok [0, 1] [(0, (.int .u64 x0)), (1, v1), (6, (.int .i64 y5)), (13, (.bool (y5 != (0 : Int))))] rfl ⟨rfl, rfl, rfl, rfl, trivial⟩ ?_
  refine wo_nil ?_
  refine wq_seq ?_
  rcases bif_some h with ⟨hc7, h⟩ | ⟨hc7, h⟩
  · refine wc_known_true rfl hc7 ?_
    refine wc_seq ?_
    refine wc_region (l := [0, 1, 2]) rfl ?_
    refine wo_seg Θ_ok [0, 1, 2] [(4, (.slice none 0 0)), (5, (.int .i64 y5))] rfl ⟨rfl, rfl, trivial⟩ ?_
    refine wo_nil ?_
    refine wq_seq ?_
    refine wc_ret ?_
    cases h
    exact wq_then_ret (wq_ret rfl ⟨_, rfl, ⟨_, _, rfl, (slice_nil _ _ _), (int_is.2 rfl)⟩, hF⟩)
  refine wc_known_false rfl hc7 ?_
  refine wc_skip ?_
  refine wq_seq ?_
  refine wc_seq ?_
  refine wc_region (l := [0]) rfl ?_
  refine wo_seg Θ_ok [0] [(0, (.int .u64 x0)), (1, v1), (7, (.slice none 0 0))] rfl ⟨rfl, rfl, rfl, trivial⟩ ?_
  refine wo_nil ?_
  refine wq_seq ?_
  obtain ⟨k9, hk10, h⟩ := letk_some h
  refine wc_join (fun E W => ∃ (O16 : List Nat) (p13 : List Int) (v14 : Value), E = [(7, v14)] ∧ Tr O w2 O16 W ∧ OB O16 W ∧ Sub O O16 ∧ Fr [] w W ∧ Go.Dc.Own (Ty.int .u64) 27 w.heap.size O16 W v14 p13 ∧ k9 p13 = some r) ?_ (fun K11 hK12 => ?_)
  · rintro E w17 ⟨O16, p13, v14, rfl, T8, hO, hS, hF, h15, h⟩
    subst hk10
    (try dsimp only at h)
    refine wc_seq ?_
    refine wc_region (l := [0, 1, 2]) rfl ?_
    refine wo_seg Θ_ok [0, 1, 2] [(4, v14), (5, (.int .i64 0))] rfl ⟨rfl, rfl, trivial⟩ ?_
    refine wo_nil ?_
    refine wq_seq ?_
    refine wc_ret ?_
    cases h
    exact wq_ret rfl ⟨_, rfl, ⟨_, _, rfl, (h15.share0 hS hO0), (int_is.2 rfl)⟩, hF⟩
  clear hk10
  have T8 := Tr.refl O w2
  refine wc_seq ?_
  refine wc_region (l := [0, 1, 2]) rfl ?_
  refine wo_seg Θ_ok [0] [(0, (.int .u64 x0)), (7, (.slice none 0 0)), (15, v1)] rfl ⟨rfl, rfl, rfl, trivial⟩ ?_
  obtain ⟨A18, c19, rfl, hlc19, hmc19⟩ := slice_form h1
  refine wo_seg Θ_ok [1] [(0, (.int .u64 x0)), (7, (.slice none 0 0)), (15, (.slice A18 x1.length c19)), (16, (.int .i64 (x1.length : Int)))] rfl ⟨rfl, rfl, rfl, rfl, trivial⟩ ?_
  refine wo_seg Θ_ok [2] [(0, (.int .u64 x0)), (7, (.slice none 0 0)), (15, (.slice A18 x1.length c19)), (16, (.int .i64 (x1.length : Int))), (17, (.int .i64 0))] rfl ⟨rfl, rfl, rfl, rfl, rfl, trivial⟩ ?_
  refine wo_nil ?_
  refine wq_seq ?_
  refine wc_block ?_
  refine wc_loop (fun m E W => ∃ (rest25 : List GField) (i24 : Nat) (O28 : List Nat) (p21 : List Int) (v22 : Value), rest25.length = m ∧ x1.drop i24 = rest25 ∧ E = [(0, (.int .u64 x0)), (7, v22), (15, (.slice A18 x1.length c19)), (16, (.int .i64 (x1.length : Int))), (17, (.int .i64 (i24 : Int)))] ∧ Tr O w2 O28 W ∧ OB O28 W ∧ Sub O O28 ∧ Fr [] w W ∧ Go.Dc.Own (Ty.int .u64) 27 w.heap.size O28 W v22 p21 ∧ b_Split_l1 x0 k9 rest25 i24 p21 = some r) _ [(0, (.int .u64 x0)), (7, (.slice none 0 0)), (15, (.slice A18 x1.length c19)), (16, (.int .i64 (x1.length : Int))), (17, (.int .i64 ((0 : Nat) : Int)))] ⟨rfl, rfl, rfl, rfl, rfl, trivial⟩ ⟨x1, 0, O, ([] : List Int), (.slice none 0 0), rfl, rfl, rfl, Tr.refl _ _, hO, hS, hF, (Go.Dc.Own.nil_ : Go.Dc.Own (Ty.int .u64) 27 w.heap.size _ _ _ _), h⟩ ?_
  rintro m E w29 ⟨rest25, i24, O28, p21, v22, rfl, hd27, rfl, T20, hO, hS, hF, h23, h⟩
  have T8 := T8.trans T20
  have h1 := h1.tr T20
  rcases rest25 with _ | ⟨z26, rest25⟩
  · rw [b_Split_l1] at h
    have hl33 := drop_nil hd27
    have hc30 : (decide ((i24 : Int) < (x1.length : Int))) = false := decide_eq_false (by omega)
    refine wc_seq ?_
    refine wc_region (l := [0]) rfl ?_
    refine wo_seg Θ_ok [0] [(0, (.int .u64 x0)), (7, v22), (15, (.slice A18 x1.length c19)), (16, (.int .i64 (x1.length : Int))), (17, (.int .i64 (i24 : Int))), (18, (.bool (decide ((i24 : Int) < (x1.length : Int)))))] rfl ⟨rfl, rfl, rfl, rfl, rfl, rfl, trivial⟩ ?_
    refine wo_nil ?_
    refine wq_seq ?_
    refine wc_seq ?_
    refine wc_known_false rfl hc30 ?_
    refine wc_exit ?_
    exact wq_then_exit (wq_then_exit (wq_block_exit (wq_join hK12 [(7, v22)] ⟨rfl, trivial⟩ ⟨O28, p21, v22, rfl, T8, hO, hS, hF, h23, h⟩)))
  rw [b_Split_l1] at h
  obtain ⟨hl34, hg32, hd27⟩ := drop_cons hd27
  have hc31 : (decide ((i24 : Int) < (x1.length : Int))) = true := decide_eq_true (by omega)
  refine wc_seq ?_
  refine wc_region (l := [0]) rfl ?_
  refine wo_seg Θ_ok [0] [(0, (.int .u64 x0)), (7, v22), (15, (.slice A18 x1.length c19)), (16, (.int .i64 (x1.length : Int))), (17, (.int .i64 (i24 : Int))), (18, (.bool (decide ((i24 : Int) < (x1.length : Int)))))] rfl ⟨rfl, rfl, rfl, rfl, rfl, rfl, trivial⟩ ?_
  refine wo_nil ?_
  refine wq_seq ?_
  refine wc_seq ?_
  refine wc_known_true rfl hc31 ?_
  refine wc_skip ?_
  refine wq_seq ?_
  refine wc_seq ?_
  refine wc_block ?_
  refine wc_seq ?_
  refine wc_region (l := [0, 1, 2, 3]) rfl ?_
  refine wo_index Θ_ok rfl rfl rfl rfl rfl rfl rfl rfl rfl rfl h1 rfl (by omega) hg32 (fun p35 h36 => ?_)
  refine wo_loadp Θ_ok rfl rfl rfl rfl rfl rfl rfl h36 rfl rfl (fun v37 h38 => ?_)
  obtain rfl := tGField_is.1 h38
  refine wo_alloc Θ_ok rfl rfl rfl rfl rfl rfl [(.int .i64 0), (.int .i64 0)] rfl hO (fun b39 w40 n41 => ?_)
  have h1 := h1.tr n41.tr
  have T8 := T8.trans n41.tr
  have T20 := T20.trans n41.tr
  have qh23b39 := h23.ne_new n41
  have h23 := h23.new n41
  have hb39 := n41.blk
  have gb39 := n41.ge0 hF
  have ib39 : b39 ∈ b39 :: O28 := List.mem_cons_self
  have hO := n41.ob
  have hF := hF.trans n41.fr
  have hS := Sub.cons hS b39
  refine wo_store Θ_ok rfl rfl rfl rfl rfl rfl rfl hb39 [(.int .i64 z26.fAt), (.int .i64 z26.fWide)] rfl rfl (by simp [Value.oneCell']) rfl [(.int .i64 z26.fAt), (.int .i64 z26.fWide)] rfl (fun w42 hb39 f43 => ?_)
  have h1 := h1.tr (f43.tr (one_in ib39))
  have T8 := T8.trans (f43.tr (one_in ib39))
  have T20 := T20.trans (f43.tr (one_in ib39))
  have h23 := h23.st f43 ib39 qh23b39
  have hO := f43.ob hO
  have hF := hF.own f43 gb39
  refine wo_nil ?_
  refine wq_seq ?_
  refine wc_region (l := [0, 1, 2, 3, 4, 5, 6, 7]) rfl ?_
  refine wo_seg Θ_ok [0] [(0, (.int .u64 x0)), (9, (.pointer (some ⟨b39, 0, none⟩))), (15, (.slice A18 x1.length c19)), (16, (.int .i64 (x1.length : Int))), (17, (.int .i64 (i24 : Int))), (21, v22)] rfl ⟨rfl, rfl, rfl, rfl, rfl, rfl, trivial⟩ ?_
  refine wo_load Θ_ok rfl rfl rfl rfl rfl rfl rfl hb39 [(.int .i64 z26.fAt), (.int .i64 z26.fWide)] rfl rfl (.inl rfl) (.agg #[(.int .i64 z26.fAt), (.int .i64 z26.fWide)]) rfl ?_
  refine wo_seg Θ_ok [2, 3] [(0, (.int .u64 x0)), (15, (.slice A18 x1.length c19)), (16, (.int .i64 (x1.length : Int))), (17, (.int .i64 (i24 : Int))), (21, v22), (23, (.agg #[(.int .i64 z26.fAt), (.int .i64 z26.fWide)])), (24, (.int .u64 x0))] rfl ⟨rfl, rfl, rfl, rfl, rfl, rfl, rfl, trivial⟩ ?_
  obtain ⟨y48, hy49, h⟩ := bind_some h
  refine wo_gives rfl rfl rfl rfl rfl ent46 rfl (f_get_c hO ((tGBitsField_is (x := (GBitsField.mk z26))).2 rfl) (int_is.2 rfl) hy49) (fun v44 w45 h46 f47 => ?_)
  have h1 := h1.tr f47.tr0
  have h23 := h23.fr0 f47
  have T8 := T8.trans f47.tr0
  have T20 := T20.trans f47.tr0
  have hO := f47.ob hO
  have hF := hF.trans f47
  obtain rfl := int_is.1 h46
  refine wo_litd Θ_ok rfl rfl rfl rfl rfl rfl rfl rfl rfl rfl (T := (Ty.int .u64)) (xs := [y48]) (vs := [(.int .u64 y48)]) rfl ⟨(int_is.2 rfl), trivial⟩ rfl rfl rfl hO (fun v50 w51 h52 f53 => ?_)
  have h1 := h1.tr f53.tr0
  have h23 := h23.fr0 f53
  have T8 := T8.trans f53.tr0
  have T20 := T20.trans f53.tr0
  have hO := f53.ob hO
  have hF := hF.trans f53
  obtain ⟨z54, hz55, h⟩ := bind_some h
  refine wo_app Θ_ok rfl rfl rfl rfl rfl rfl rfl rfl rfl rfl rfl rfl rfl rfl hF hO h23 h52 hz55 (fun v56 w57 O58 ap59 => ?_)
  have h1 := h1.tr ap59.tr
  have T8 := T8.trans ap59.tr
  have T20 := T20.trans ap59.tr
  have hF := ap59.fr0 h23 hF
  have hS := Sub.trans hS ap59.sub
  have hO := ap59.ob
  have h60 := ap59.own
  refine wo_seg Θ_ok [7] [(0, (.int .u64 x0)), (7, v56), (15, (.slice A18 x1.length c19)), (16, (.int .i64 (x1.length : Int))), (17, (.int .i64 (i24 : Int)))] rfl ⟨rfl, rfl, rfl, rfl, rfl, trivial⟩ ?_
  refine wo_nil ?_
  refine wq_block (wq_seq ?_)
  refine wc_region (l := [0, 1]) rfl ?_
  refine wo_seg Θ_ok [0, 1] [(0, (.int .u64 x0)), (7, v56), (15, (.slice A18 x1.length c19)), (16, (.int .i64 (x1.length : Int))), (17, (.int .i64 (IntKind.i64.wrap ((i24 : Int) + (1 : Int)))))] rfl ⟨rfl, rfl, rfl, rfl, rfl, trivial⟩ ?_
  refine wo_nil ?_
  exact wq_next rest25.length [(0, (.int .u64 x0)), (7, v56), (15, (.slice A18 x1.length c19)), (16, (.int .i64 (x1.length : Int))), (17, (.int .i64 ((i24 + 1 : Nat) : Int)))] (Nat.lt_succ_self _) ⟨rfl, rfl, rfl, rfl, congrArg (fun z => some (Value.int .i64 z)) (wrap_succ hl34 (Nat.le_trans hlc19 hmc19)), trivial⟩ ⟨rest25, i24 + 1, O58, z54, v56, rfl, hd27, rfl, T20, hO, hS, hF, h60, h⟩
set_option maxRecDepth 100000 in
set_option maxHeartbeats 4000000 in
theorem d_Key_c {O : List Nat} {w : World} (hO : OB O w) (hg0 : (Ty.ptr (Ty.slice tGField)).is O w (.pointer (some ⟨0, 0, none⟩)) g_parts) {v0 : Value} {x0 : GDesc} (h0 : tGDesc.is O w v0 x0) {r : Int × Int} (h : d_Key x0 = some r) : Calls Tryd.prog 19 #[v0] w (Gives (rt2 (Ty.int .u64) (Ty.int .i64)) O w r) := by
  obtain rfl := tGDesc_is.1 h0
  have hF := Fr.refl [] w
  have hO0 := hO
  have hS := Sub.refl O
  refine calls_of (args := [(.agg #[(.int .u64 x0.fPid), (.int .i64 x0.fFd), (.int .u64 x0.fWhat)])]) (N := 17) Tryd.func19 rfl rfl rfl ?_
  unfold d_Key at h
  refine wc_seq ?_
  refine wc_region (l := [0, 1, 2]) rfl ?_
  refine wo_box rfl rfl rfl rfl rfl rfl [(.int .u64 x0.fPid), (.int .i64 x0.fFd), (.int .u64 x0.fWhat)] rfl hO (fun b1 w2 n3 => ?_)
  have hg0 := hg0.tr n3.tr
  have hb1 := n3.blk
  have gb1 := n3.ge0 hF
  have ib1 : b1 ∈ b1 :: O := List.mem_cons_self
  have hO := n3.ob
  have hF := hF.trans n3.fr
  have hS := Sub.cons hS b1
  refine wo_seg Θ_ok [1, 2] [(1, (.pointer (some ⟨b1, 0, none⟩)))] rfl ⟨rfl, trivial⟩ ?_
  refine wo_nil ?_
  refine wq_seq ?_
  refine wc_seq ?_
  refine wc_seq ?_
  refine wc_region (l := [0, 1, 2]) rfl ?_
  refine wo_load Θ_ok rfl rfl rfl rfl rfl rfl rfl hb1 [(.int .u64 x0.fPid), (.int .i64 x0.fFd), (.int .u64 x0.fWhat)] rfl rfl (.inl rfl) (.agg #[(.int .u64 x0.fPid), (.int .i64 x0.fFd), (.int .u64 x0.fWhat)]) rfl ?_
  refine wo_gives rfl rfl rfl rfl rfl ent25 rfl (d_is_c hO ((tGDesc_is (x := x0)).2 rfl)) (fun v4 w5 h6 f7 => ?_)
  have hg0 := hg0.tr f7.tr0
  have hb1 := hb1.fr0 f7
  have hO := f7.ob hO
  have hF := hF.trans f7
  obtain rfl := bool_is.1 h6
  refine wo_seg Θ_ok [2] [(1, (.pointer (some ⟨b1, 0, none⟩))), (6, (.bool (!(d_is x0))))] rfl ⟨rfl, rfl, trivial⟩ ?_
  refine wo_nil ?_
  refine wq_seq ?_
  rcases bif_some h with ⟨hc8, h⟩ | ⟨hc8, h⟩
  · refine wc_known_true rfl hc8 ?_
    refine wc_seq ?_
    refine wc_region (l := [0, 1]) rfl ?_
    refine wo_seg Θ_ok [0, 1] [(2, (.int .u64 0)), (3, (.int .i64 2))] rfl ⟨rfl, rfl, trivial⟩ ?_
    refine wo_nil ?_
    refine wq_seq ?_
    refine wc_ret ?_
    cases h
    exact wq_then_ret (wq_ret rfl ⟨_, rfl, ⟨_, _, rfl, (int_is.2 rfl), (int_is.2 rfl)⟩, hF⟩)
  refine wc_known_false rfl hc8 ?_
  refine wc_skip ?_
  refine wq_seq ?_
  refine wc_seq ?_
  refine wc_region (l := [0, 1, 2, 3, 4, 5, 6, 7, 8, 9, 10, 11]) rfl ?_
  refine wo_loadp Θ_ok rfl rfl rfl rfl rfl rfl rfl hg0 rfl rfl (fun v9 h10 => ?_)
  refine wo_seg Θ_ok [1] [(1, (.pointer (some ⟨b1, 0, none⟩))), (7, v9), (8, (.pointer (some ⟨b1, 0, none⟩)))] rfl ⟨rfl, rfl, rfl, trivial⟩ ?_
  refine wo_load Θ_ok rfl rfl rfl rfl rfl rfl rfl hb1 [(.int .u64 x0.fPid)] rfl rfl (.inr rfl) (.int .u64 x0.fPid) rfl ?_
  refine wo_seg Θ_ok [3] [(7, v9), (9, (.int .u64 x0.fPid)), (10, (.pointer (some ⟨b1, 1, none⟩)))] rfl ⟨rfl, rfl, rfl, trivial⟩ ?_
  refine wo_load Θ_ok rfl rfl rfl rfl rfl rfl rfl hb1 [(.int .i64 x0.fFd)] rfl rfl (.inr rfl) (.int .i64 x0.fFd) rfl ?_
  refine wo_seg Θ_ok [5] [(7, v9), (9, (.int .u64 x0.fPid)), (12, (.int .u64 (IntKind.u64.wrap x0.fFd)))] rfl ⟨rfl, rfl, rfl, trivial⟩ ?_
  refine wo_litd Θ_ok rfl rfl rfl rfl rfl rfl rfl rfl rfl rfl (T := (Ty.int .u64)) (xs := [x0.fPid, (IntKind.u64.wrap x0.fFd)]) (vs := [(.int .u64 x0.fPid), (.int .u64 (IntKind.u64.wrap x0.fFd))]) rfl ⟨(int_is.2 rfl), (int_is.2 rfl), trivial⟩ rfl rfl rfl hO (fun v11 w12 h13 f14 => ?_)
  have h10 := h10.tr f14.tr0
  have hg0 := hg0.tr f14.tr0
  have hO := f14.ob hO
  have hF := hF.trans f14
  obtain ⟨y19, hy20, h⟩ := bind_some h
  refine wo_gives rfl rfl rfl rfl rfl ent36 rfl (b_Pack_c hO h10 h13 hy20) (fun v15 w16 h17 f18 => ?_)
  have hg0 := hg0.tr f18.tr0
  have hO := f18.ob hO
  have hF := hF.trans f18
  obtain ⟨u21, u23, rfl, h22, h24⟩ := h17
  obtain rfl := int_is.1 h22
  obtain rfl := int_is.1 h24
  refine wo_seg Θ_ok [8, 9, 10, 11] [(2, (.int .u64 y19.1)), (3, (.int .i64 y19.2))] rfl ⟨rfl, rfl, trivial⟩ ?_
  refine wo_nil ?_
  refine wq_seq ?_
  refine wc_ret ?_
  cases h
  exact wq_ret rfl ⟨_, rfl, ⟨_, _, rfl, (int_is.2 rfl), (int_is.2 rfl)⟩, hF⟩
set_option maxRecDepth 100000 in
set_option maxHeartbeats 4000000 in
theorem d_of1_c {O : List Nat} {w : World} (hO : OB O w) {cv0 : Value} {ck0 : List GDesc} (ch0 : (Ty.ptr (Ty.slice tGDesc)).is O w cv0 ck0) {cv1 : Value} {ck1 : Int} (ch1 : (Ty.ptr (Ty.int .u64)).is O w cv1 ck1) : Seq1 Tryd.prog 41 #[cv0, cv1] encGDesc O w (d_of1 ck0 ck1) := by
  intro l0 J Jx Oz wz hT hO0 hJf hJxf hY hJ
  have ch0 := ch0.tr hT
  have ch1 := ch1.tr hT
  have hO := hO0
  have hF := Fr.refl [] wz
  have hS := Sub.refl Oz
  obtain ⟨ys, h⟩ : ∃ ys, d_of1 ck0 ck1 = ys := ⟨_, rfl⟩
  obtain ⟨kk, ekk⟩ : ∃ kk, kk = 0 := ⟨_, rfl⟩
  rw [← ekk] at hJ
  have hd : (d_of1 ck0 ck1).drop kk = ys := by rw [ekk]; exact h
  have hk : kk ≤ (d_of1 ck0 ck1).length := by rw [ekk]; exact Nat.zero_le _
  unfold d_of1 at h
  refine callsIn_of (args := [(.func (.yield l0) #[] #[]), cv0, cv1]) (N := 23) Tryd.func41 rfl rfl rfl ?_
  refine wc_seq ?_
  refine wc_region (l := [0, 1, 2]) rfl ?_
  refine wo_loadp Θ_ok rfl rfl rfl rfl rfl rfl rfl ch0 rfl rfl (fun v1 h2 => ?_)
  obtain ⟨A3, c4, rfl, hlc4, hmc4⟩ := slice_form h2
  refine wo_seg Θ_ok [1] [(0, (.func (.yield l0) #[] #[])), (2, cv1), (6, (.slice A3 ck0.length c4)), (7, (.int .i64 (ck0.length : Int)))] rfl ⟨rfl, rfl, rfl, rfl, trivial⟩ ?_
  refine wo_seg Θ_ok [2] [(0, (.func (.yield l0) #[] #[])), (2, cv1), (6, (.slice A3 ck0.length c4)), (7, (.int .i64 (ck0.length : Int))), (8, (.int .i64 0))] rfl ⟨rfl, rfl, rfl, rfl, rfl, trivial⟩ ?_
  refine wo_nil ?_
  refine wq_seq ?_
  refine wc_block ?_
  refine wc_loop (fun m E W => ∃ (rest7 : List GDesc) (i6 : Nat) (O10 : List Nat) (kk11 : Nat) (ys12 : List GDesc) (Oz13 : List Nat) (wz14 : World), rest7.length = m ∧ ck0.drop i6 = rest7 ∧ E = [(0, (.func (.yield l0) #[] #[])), (2, cv1), (6, (.slice A3 ck0.length c4)), (7, (.int .i64 (ck0.length : Int))), (8, (.int .i64 (i6 : Int)))] ∧ Tr Oz wz O10 W ∧ OB O10 W ∧ Sub Oz13 O10 ∧ Fr [] wz14 W ∧ (d_of1 ck0 ck1).drop kk11 = ys12 ∧ kk11 ≤ (d_of1 ck0 ck1).length ∧ J kk11 Oz13 wz14 ∧ OB Oz13 wz14 ∧ d_of1_l1 ck1 rest7 i6 = ys12) _ [(0, (.func (.yield l0) #[] #[])), (2, cv1), (6, (.slice A3 ck0.length c4)), (7, (.int .i64 (ck0.length : Int))), (8, (.int .i64 ((0 : Nat) : Int)))] ⟨rfl, rfl, rfl, rfl, rfl, trivial⟩ ⟨ck0, 0, Oz, kk, _, Oz, wz, rfl, rfl, rfl, Tr.refl _ _, hO, hS, hF, hd, hk, hJ, hO0, h⟩ ?_
  rintro m E w15 ⟨rest7, i6, O10, kk11, ys12, Oz13, wz14, rfl, hd9, rfl, T5, hO, hS, hF, hd, hk, hJ, hO0, h⟩
  have ch1 := ch1.tr T5
  have h2 := h2.tr T5
  rcases rest7 with _ | ⟨z8, rest7⟩
  · rw [d_of1_l1] at h
    have hl19 := drop_nil hd9
    have hc16 : (decide ((i6 : Int) < (ck0.length : Int))) = false := decide_eq_false (by omega)
    refine wc_seq ?_
    refine wc_region (l := [0]) rfl ?_
    refine wo_seg Θ_ok [0] [(0, (.func (.yield l0) #[] #[])), (2, cv1), (6, (.slice A3 ck0.length c4)), (7, (.int .i64 (ck0.length : Int))), (8, (.int .i64 (i6 : Int))), (9, (.bool (decide ((i6 : Int) < (ck0.length : Int)))))] rfl ⟨rfl, rfl, rfl, rfl, rfl, rfl, trivial⟩ ?_
    refine wo_nil ?_
    refine wq_seq ?_
    refine wc_seq ?_
    refine wc_known_false rfl hc16 ?_
    refine wc_exit ?_
    exact wq_then_exit (wq_then_exit (wq_block_exit (wq_end rfl ⟨⟨_, rfl⟩, .inl ⟨_, iter_done hk (hd.trans h.symm) (hJf _ _ _ _ hJ hF)⟩⟩)))
  rw [d_of1_l1] at h
  obtain ⟨hl20, hg18, hd9⟩ := drop_cons hd9
  have hc17 : (decide ((i6 : Int) < (ck0.length : Int))) = true := decide_eq_true (by omega)
  refine wc_seq ?_
  refine wc_region (l := [0]) rfl ?_
  refine wo_seg Θ_ok [0] [(0, (.func (.yield l0) #[] #[])), (2, cv1), (6, (.slice A3 ck0.length c4)), (7, (.int .i64 (ck0.length : Int))), (8, (.int .i64 (i6 : Int))), (9, (.bool (decide ((i6 : Int) < (ck0.length : Int)))))] rfl ⟨rfl, rfl, rfl, rfl, rfl, rfl, trivial⟩ ?_
  refine wo_nil ?_
  refine wq_seq ?_
  refine wc_seq ?_
  refine wc_known_true rfl hc17 ?_
  refine wc_skip ?_
  refine wq_seq ?_
  refine wc_seq ?_
  refine wc_block ?_
  refine wc_seq ?_
  refine wc_region (l := [0, 1, 2, 3]) rfl ?_
  refine wo_index Θ_ok rfl rfl rfl rfl rfl rfl rfl rfl rfl rfl h2 rfl (by omega) hg18 (fun p21 h22 => ?_)
  refine wo_loadp Θ_ok rfl rfl rfl rfl rfl rfl rfl h22 rfl rfl (fun v23 h24 => ?_)
  obtain rfl := tGDesc_is.1 h24
  refine wo_alloc Θ_ok rfl rfl rfl rfl rfl rfl [(.int .u64 0), (.int .i64 0), (.int .u64 0)] rfl hO (fun b25 w26 n27 => ?_)
  have ch1 := ch1.tr n27.tr
  have h2 := h2.tr n27.tr
  have T5 := T5.trans n27.tr
  have hb25 := n27.blk
  have gb25 := n27.ge0 hF
  have ib25 : b25 ∈ b25 :: O10 := List.mem_cons_self
  have hO := n27.ob
  have hF := hF.trans n27.fr
  have hS := Sub.cons hS b25
  refine wo_store Θ_ok rfl rfl rfl rfl rfl rfl rfl hb25 [(.int .u64 z8.fPid), (.int .i64 z8.fFd), (.int .u64 z8.fWhat)] rfl rfl (by simp [Value.oneCell']) rfl [(.int .u64 z8.fPid), (.int .i64 z8.fFd), (.int .u64 z8.fWhat)] rfl (fun w28 hb25 f29 => ?_)
  have ch1 := ch1.tr (f29.tr (one_in ib25))
  have h2 := h2.tr (f29.tr (one_in ib25))
  have T5 := T5.trans (f29.tr (one_in ib25))
  have hO := f29.ob hO
  have hF := hF.own f29 gb25
  refine wo_nil ?_
  refine wq_seq ?_
  refine wc_seq ?_
  refine wc_region (l := [0, 1, 2, 3, 4, 5, 6, 7, 8, 9]) rfl ?_
  refine wo_seg Θ_ok [0] [(0, (.func (.yield l0) #[] #[])), (2, cv1), (5, (.pointer (some ⟨b25, 0, none⟩))), (6, (.slice A3 ck0.length c4)), (7, (.int .i64 (ck0.length : Int))), (8, (.int .i64 (i6 : Int))), (12, (.pointer (some ⟨b25, 0, none⟩)))] rfl ⟨rfl, rfl, rfl, rfl, rfl, rfl, rfl, trivial⟩ ?_
  refine wo_load Θ_ok rfl rfl rfl rfl rfl rfl rfl hb25 [(.int .u64 z8.fPid)] rfl rfl (.inr rfl) (.int .u64 z8.fPid) rfl ?_
  refine wo_loadp Θ_ok rfl rfl rfl rfl rfl rfl rfl ch1 rfl rfl (fun v30 h31 => ?_)
  obtain rfl := int_is.1 h31
  refine wo_seg Θ_ok [3, 4] [(0, (.func (.yield l0) #[] #[])), (2, cv1), (5, (.pointer (some ⟨b25, 0, none⟩))), (6, (.slice A3 ck0.length c4)), (7, (.int .i64 (ck0.length : Int))), (8, (.int .i64 (i6 : Int))), (16, (.bool (z8.fPid == ck1)))] rfl ⟨rfl, rfl, rfl, rfl, rfl, rfl, rfl, trivial⟩ ?_
  rcases bif_some h with ⟨hc32, h⟩ | ⟨hc32, h⟩
  rotate_left
  · refine wo_know 16 false rfl hc32 ?_
    refine wo_seg Θ_ok [5, 6, 7, 8, 9] [(0, (.func (.yield l0) #[] #[])), (2, cv1), (6, (.slice A3 ck0.length c4)), (7, (.int .i64 (ck0.length : Int))), (8, (.int .i64 (i6 : Int))), (21, (.bool false))] rfl ⟨rfl, rfl, rfl, rfl, rfl, rfl, trivial⟩ ?_
    refine wo_nil ?_
    refine wq_seq ?_
    refine wc_false rfl ?_
    refine wc_skip ?_
    refine wq_block (wq_seq ?_)
    refine wc_region (l := [0, 1]) rfl ?_
    refine wo_seg Θ_ok [0, 1] [(0, (.func (.yield l0) #[] #[])), (2, cv1), (6, (.slice A3 ck0.length c4)), (7, (.int .i64 (ck0.length : Int))), (8, (.int .i64 (IntKind.i64.wrap ((i6 : Int) + (1 : Int)))))] rfl ⟨rfl, rfl, rfl, rfl, rfl, trivial⟩ ?_
    refine wo_nil ?_
    exact wq_next rest7.length [(0, (.func (.yield l0) #[] #[])), (2, cv1), (6, (.slice A3 ck0.length c4)), (7, (.int .i64 (ck0.length : Int))), (8, (.int .i64 ((i6 + 1 : Nat) : Int)))] (Nat.lt_succ_self _) ⟨rfl, rfl, rfl, rfl, congrArg (fun z => some (Value.int .i64 z)) (wrap_succ hl20 (Nat.le_trans hlc4 hmc4)), trivial⟩ ⟨rest7, i6 + 1, b25 :: O10, kk11, _, Oz13, wz14, rfl, hd9, rfl, T5, hO, hS, hF, hd, hk, hJ, hO0, h⟩
  refine wo_know 16 true rfl hc32 ?_
  refine wo_seg Θ_ok [5] [(0, (.func (.yield l0) #[] #[])), (2, cv1), (5, (.pointer (some ⟨b25, 0, none⟩))), (6, (.slice A3 ck0.length c4)), (7, (.int .i64 (ck0.length : Int))), (8, (.int .i64 (i6 : Int))), (16, (.bool true)), (17, (.func (.yield l0) #[] #[]))] rfl ⟨rfl, rfl, rfl, rfl, rfl, rfl, rfl, rfl, trivial⟩ ?_
  refine wo_load Θ_ok rfl rfl rfl rfl rfl rfl rfl hb25 [(.int .u64 z8.fPid), (.int .i64 z8.fFd), (.int .u64 z8.fWhat)] rfl rfl (.inl rfl) (.agg #[(.int .u64 z8.fPid), (.int .i64 z8.fFd), (.int .u64 z8.fWhat)]) rfl ?_
  obtain ⟨hlt, hz, hd⟩ := drop_cons (hd.trans h.symm)
  have hk : (kk11 + 1) ≤ (d_of1 ck0 ck1).length := hlt
  clear h
  refine wo_yield (u := encGDesc z8) rfl rfl rfl rfl rfl rfl rfl (hY kk11 _ Oz13 w28 hz (hJf _ _ _ _ hJ hF) (hF.ob hO0)) ?_
  rintro e w_y (⟨rfl, O33, hJ, T35, hO0⟩ | ⟨rfl, hJx⟩)
  · obtain ⟨w34, rfl⟩ : ∃ u, u = w_y := ⟨_, rfl⟩
    refine ⟨.bool true, rfl, ?_⟩
    have h : _ = (d_of1 ck0 ck1).drop (kk11 + 1) := hd.symm
    have hd : (d_of1 ck0 ck1).drop (kk11 + 1) = (d_of1 ck0 ck1).drop (kk11 + 1) := rfl
    have T35 := T35.more hS
    have ch1 := ch1.tr T35
    have h2 := h2.tr T35
    have T5 := T5.trans T35
    have hF := Fr.refl [] w34
    have hS := Sub.refl O33
    have hO := hO0
    refine wo_seg Θ_ok [8, 9] [(0, (.func (.yield l0) #[] #[])), (2, cv1), (6, (.slice A3 ck0.length c4)), (7, (.int .i64 (ck0.length : Int))), (8, (.int .i64 (i6 : Int))), (21, (.bool false))] rfl ⟨rfl, rfl, rfl, rfl, rfl, rfl, trivial⟩ ?_
    refine wo_nil ?_
    refine wq_seq ?_
    refine wc_false rfl ?_
    refine wc_skip ?_
    refine wq_block (wq_seq ?_)
    refine wc_region (l := [0, 1]) rfl ?_
    refine wo_seg Θ_ok [0, 1] [(0, (.func (.yield l0) #[] #[])), (2, cv1), (6, (.slice A3 ck0.length c4)), (7, (.int .i64 (ck0.length : Int))), (8, (.int .i64 (IntKind.i64.wrap ((i6 : Int) + (1 : Int)))))] rfl ⟨rfl, rfl, rfl, rfl, rfl, trivial⟩ ?_
    refine wo_nil ?_
    exact wq_next rest7.length [(0, (.func (.yield l0) #[] #[])), (2, cv1), (6, (.slice A3 ck0.length c4)), (7, (.int .i64 (ck0.length : Int))), (8, (.int .i64 ((i6 + 1 : Nat) : Int)))] (Nat.lt_succ_self _) ⟨rfl, rfl, rfl, rfl, congrArg (fun z => some (Value.int .i64 z)) (wrap_succ hl20 (Nat.le_trans hlc4 hmc4)), trivial⟩ ⟨rest7, i6 + 1, O33, (kk11 + 1), _, O33, w34, rfl, hd9, rfl, T5, hO, hS, hF, hd, hk, hJ, hO0, h⟩
  · obtain ⟨w36, rfl⟩ : ∃ u, u = w_y := ⟨_, rfl⟩
    refine ⟨.bool false, rfl, ?_⟩
    have hF := Fr.refl [] w36
    refine wo_seg Θ_ok [8, 9] [(7, (.int .i64 (ck0.length : Int))), (8, (.int .i64 (i6 : Int))), (21, (.bool true))] rfl ⟨rfl, rfl, rfl, trivial⟩ ?_
    refine wo_nil ?_
    refine wq_seq ?_
    refine wc_true rfl ?_
    refine wc_ret ?_
    exact wq_block_ret (wq_then_ret (wq_then_ret (wq_block_ret (wq_ret rfl ⟨⟨_, rfl⟩, .inr (hJxf _ _ hJx hF)⟩))))
set_option maxRecDepth 100000 in
set_option maxHeartbeats 4000000 in
theorem d_of_c {O : List Nat} {w : World} (hO : OB O w) {v0 : Value} {x0 : List GDesc} (h0 : (Ty.slice tGDesc).is O w v0 x0) {v1 : Value} {x1 : Int} (h1 : (Ty.int .u64).is O w v1 x1) : Calls Tryd.prog 29 #[v0, v1] w (Gives (rt1 (Ty.seq Tryd.prog encGDesc)) O w (d_of x0 x1)) := by
  obtain rfl := int_is.1 h1
  have hF := Fr.refl [] w
  have hO0 := hO
  have hS := Sub.refl O
  obtain ⟨r, h⟩ : ∃ r, d_of x0 x1 = r := ⟨_, rfl⟩
  rw [h]
  refine calls_of (args := [v0, (.int .u64 x1)]) (N := 6) Tryd.func29 rfl rfl rfl ?_
  unfold d_of at h
  refine wc_seq ?_
  refine wc_region (l := [0, 1, 2]) rfl ?_
  refine wo_box rfl rfl rfl rfl rfl rfl [v0] (cells_of rfl h0) hO (fun b1 w2 n3 => ?_)
  have h0 := h0.tr n3.tr
  have hb1 := n3.blk
  have gb1 := n3.ge0 hF
  have ib1 : b1 ∈ b1 :: O := List.mem_cons_self
  have hO := n3.ob
  have hF := hF.trans n3.fr
  have hS := Sub.cons hS b1
  refine wo_box rfl rfl rfl rfl rfl rfl [(.int .u64 x1)] rfl hO (fun b4 w5 n6 => ?_)
  have h0 := h0.tr n6.tr
  have nb4b1 : b4 ≠ b1 := by have := hb1.lt; have := n6.ge; omega
  have hb1 := hb1.fr0 n6.fr
  have ib1 := List.mem_cons_of_mem b4 ib1
  have hb4 := n6.blk
  have gb4 := n6.ge0 hF
  have ib4 : b4 ∈ b4 :: (b1 :: O) := List.mem_cons_self
  have hO := n6.ob
  have hF := hF.trans n6.fr
  have hS := Sub.cons hS b4
  refine wo_seg Θ_ok [2] [(2, (.pointer (some ⟨b1, 0, none⟩))), (3, (.pointer (some ⟨b4, 0, none⟩)))] rfl ⟨rfl, rfl, trivial⟩ ?_
  refine wo_nil ?_
  refine wq_seq ?_
  refine wc_seq ?_
  refine wc_region (l := [0, 1]) rfl ?_
  have p7 := rel_ptr (T := (Ty.slice tGDesc)) hb1 (Ty.tr _ (rel_tr b1 (b4 :: b1 :: O) w5) (rep_of rfl h0))
  have h0 := h0.tr (rel_tr b1 (b4 :: b1 :: O) w5)
  have ib4 := rel_in ib4 nb4b1
  have hO := rel_ob (b := b1) hO
  have hS := rel_sub hS hO0 gb1
  have p8 := rel_ptr (T := (Ty.int .u64)) hb4 (Ty.tr _ (rel_tr b4 (rel b1 (b4 :: b1 :: O)) w5) (rep_of rfl (int_is.2 rfl)))
  have h0 := h0.tr (rel_tr b4 (rel b1 (b4 :: b1 :: O)) w5)
  have p7 := p7.tr (rel_tr b4 (rel b1 (b4 :: b1 :: O)) w5)
  have hO := rel_ob (b := b4) hO
  have hS := rel_sub hS hO0 gb4
  refine wo_seg Θ_ok [0, 1] [(4, (.func (.func 41) #[] #[(.pointer (some ⟨b1, 0, none⟩)), (.pointer (some ⟨b4, 0, none⟩))]))] rfl ⟨rfl, trivial⟩ ?_
  refine wo_nil ?_
  refine wq_seq ?_
  refine wc_ret ?_
  have h9 : (Ty.seq Tryd.prog encGDesc).is (rel b4 (rel b1 (b4 :: b1 :: O))) w5 (.func (.func 41) #[] #[(.pointer (some ⟨b1, 0, none⟩)), (.pointer (some ⟨b4, 0, none⟩))]) (d_of1 x0 x1) := (seq_is (lb := [(.pointer (some ⟨b1, 0, none⟩)), (.pointer (some ⟨b4, 0, none⟩))]) ent41 (fun O' w' ht hO => d_of1_c hO (p7.tr ht) (p8.tr ht)))
  subst h
  exact wq_ret rfl ⟨_, rfl, (h9.tr (Tr.less hS)), hF⟩
set_option maxRecDepth 100000 in
set_option maxHeartbeats 4000000 in
theorem d_Has_c {O : List Nat} {w : World} (hO : OB O w) {v0 : Value} {x0 : List GDesc} (h0 : (Ty.slice tGDesc).is O w v0 x0) {v1 : Value} {x1 : Int} (h1 : (Ty.int .u64).is O w v1 x1) {v2 : Value} {x2 : Int} (h2 : (Ty.int .i64).is O w v2 x2) {r : Int × Bool} (h : d_Has x0 x1 x2 = some r) : Calls Tryd.prog 15 #[v0, v1, v2] w (Gives (rt2 (Ty.int .u64) Ty.bool) O w r) := by
  obtain rfl := int_is.1 h1
  obtain rfl := int_is.1 h2
  have hF := Fr.refl [] w
  have hO0 := hO
  have hS := Sub.refl O
  refine calls_of (args := [v0, (.int .u64 x1), (.int .i64 x2)]) (N := 22) Tryd.func15 rfl rfl rfl ?_
  unfold d_Has at h
  refine wc_seq ?_
  refine wc_region (l := [0, 1, 2]) rfl ?_
  refine wo_box rfl rfl rfl rfl rfl rfl [(.int .i64 x2)] rfl hO (fun b1 w2 n3 => ?_)
  have h0 := h0.tr n3.tr
  have hb1 := n3.blk
  have gb1 := n3.ge0 hF
  have ib1 : b1 ∈ b1 :: O := List.mem_cons_self
  have hO := n3.ob
  have hF := hF.trans n3.fr
  have hS := Sub.cons hS b1
  refine wo_alloc Θ_ok rfl rfl rfl rfl rfl rfl [(.int .u64 0)] rfl hO (fun b4 w5 n6 => ?_)
  have h0 := h0.tr n6.tr
  have nb4b1 : b4 ≠ b1 := by have := hb1.lt; have := n6.ge; omega
  have hb1 := hb1.fr0 n6.fr
  have ib1 := List.mem_cons_of_mem b4 ib1
  have hb4 := n6.blk
  have gb4 := n6.ge0 hF
  have ib4 : b4 ∈ b4 :: (b1 :: O) := List.mem_cons_self
  have hO := n6.ob
  have hF := hF.trans n6.fr
  have hS := Sub.cons hS b4
  refine wo_alloc Θ_ok rfl rfl rfl rfl rfl rfl [(.bool false)] rfl hO (fun b7 w8 n9 => ?_)
  have h0 := h0.tr n9.tr
  have nb7b1 : b7 ≠ b1 := by have := hb1.lt; have := n9.ge; omega
  have hb1 := hb1.fr0 n9.fr
  have ib1 := List.mem_cons_of_mem b7 ib1
  have nb7b4 : b7 ≠ b4 := by have := hb4.lt; have := n9.ge; omega
  have hb4 := hb4.fr0 n9.fr
  have ib4 := List.mem_cons_of_mem b7 ib4
  have hb7 := n9.blk
  have gb7 := n9.ge0 hF
  have ib7 : b7 ∈ b7 :: (b4 :: b1 :: O) := List.mem_cons_self
  have hO := n9.ob
  have hF := hF.trans n9.fr
  have hS := Sub.cons hS b7
  refine wo_nil ?_
  refine wq_seq ?_
  refine wc_seq ?_
  refine wc_seq ?_
  refine wc_region (l := [0, 1, 2]) rfl ?_
  refine wo_seg Θ_ok [0] [(0, v0), (1, (.int .u64 x1)), (5, (.pointer (some ⟨b1, 0, none⟩))), (6, (.pointer (some ⟨b4, 0, none⟩))), (7, (.pointer (some ⟨b7, 0, none⟩))), (9, v0)] rfl ⟨rfl, rfl, rfl, rfl, rfl, rfl, trivial⟩ ?_
  obtain ⟨y14, hy15, h⟩ := bind_some h
  refine wo_gives rfl rfl rfl rfl rfl ent8 rfl (d_Check_c hO h0 hy15) (fun v10 w11 h12 f13 => ?_)
  have h0 := h0.tr f13.tr0
  have hb1 := hb1.fr0 f13
  have hb4 := hb4.fr0 f13
  have hb7 := hb7.fr0 f13
  have hO := f13.ob hO
  have hF := hF.trans f13
  obtain rfl := int_is.1 h12
  refine wo_seg Θ_ok [2] [(0, v0), (1, (.int .u64 x1)), (5, (.pointer (some ⟨b1, 0, none⟩))), (6, (.pointer (some ⟨b4, 0, none⟩))), (7, (.pointer (some ⟨b7, 0, none⟩))), (11, (.bool (y14 != (0 : Int))))] rfl ⟨rfl, rfl, rfl, rfl, rfl, rfl, trivial⟩ ?_
  refine wo_nil ?_
  refine wq_seq ?_
  rcases bif_some h with ⟨hc16, h⟩ | ⟨hc16, h⟩
  · refine wc_known_true rfl hc16 ?_
    refine wc_seq ?_
    refine wc_region (l := [0, 1]) rfl ?_
    refine wo_store Θ_ok rfl rfl rfl rfl rfl rfl rfl hb4 [(.int .u64 0)] rfl rfl (by simp [Value.oneCell']) rfl [(.int .u64 0)] rfl (fun w17 hb4 f18 => ?_)
    have hb7 := hb7.fr f18 (nin nb7b4)
    have hO := f18.ob hO
    have hF := hF.own f18 gb4
    refine wo_store Θ_ok rfl rfl rfl rfl rfl rfl rfl hb7 [(.bool false)] rfl rfl (by simp [Value.oneCell']) rfl [(.bool false)] rfl (fun w19 hb7 f20 => ?_)
    have hb4 := hb4.fr f20 (nin nb7b4.symm)
    have hO := f20.ob hO
    have hF := hF.own f20 gb7
    refine wo_nil ?_
    refine wq_seq ?_
    refine wc_ret ?_
    cases h
    exact wq_then_ret (wq_retc Θ_ok (vs := [(.int .u64 0), (.bool false)]) ⟨(.int .u64 0), _, rfl, ⟨_, _, _, _, rfl, hb4, rfl, rfl, .inr rfl, rfl⟩, ⟨(.bool false), _, rfl, ⟨_, _, _, _, rfl, hb7, rfl, rfl, .inr rfl, rfl⟩, rfl⟩⟩ ⟨_, rfl, ⟨_, _, rfl, (int_is.2 rfl), (bool_is.2 rfl)⟩, hF⟩)
  refine wc_known_false rfl hc16 ?_
  refine wc_skip ?_
  refine wq_seq ?_
  refine wc_seq ?_
  refine wc_seq ?_
  refine wc_region (l := [0, 1, 2]) rfl ?_
  refine wo_seg Θ_ok [0, 1] [(5, (.pointer (some ⟨b1, 0, none⟩))), (6, (.pointer (some ⟨b4, 0, none⟩))), (7, (.pointer (some ⟨b7, 0, none⟩))), (12, v0), (13, (.int .u64 x1))] rfl ⟨rfl, rfl, rfl, rfl, rfl, trivial⟩ ?_
  refine wo_gives rfl rfl rfl rfl rfl ent29 rfl (d_of_c hO h0 (int_is.2 rfl)) (fun v21 w22 h23 f24 => ?_)
  have hb1 := hb1.fr0 f24
  have hb4 := hb4.fr0 f24
  have hb7 := hb7.fr0 f24
  have hO := f24.ob hO
  have hF := hF.trans f24
  refine wo_nil ?_
  refine wq_seq ?_
  refine wc_block ?_
  have hFed_Has_l1 := hF
  obtain ⟨k29, hk30, h⟩ := letk_some h
  refine wc_rangeFunc rfl h23 hO rfl (fun k O39 W => ∃ (rest36 : List GDesc) (p25 : Int) (p26 : Bool), (d_of x0 x1).drop k = rest36 ∧ Sub O O39 ∧ Fr [] w W ∧ b1 ∈ O39 ∧ Blk W b1 3 [(.int .i64 x2)] ∧ b4 ∈ O39 ∧ Blk W b4 27 [(.int .u64 p25)] ∧ b7 ∈ O39 ∧ Blk W b7 4 [(.bool p26)] ∧ d_Has_l1 x2 k29 rest36 p25 p26 = some r) (fun c O2 W => (c = .ret ∧ ∃ (p27 : Int) (p28 : Bool), Tr (b7 :: b4 :: b1 :: O) w22 O2 W ∧ Sub O O2 ∧ Fr [] w W ∧ b1 ∈ O2 ∧ Blk W b1 3 [(.int .i64 x2)] ∧ b4 ∈ O2 ∧ Blk W b4 27 [(.int .u64 p27)] ∧ b7 ∈ O2 ∧ Blk W b7 4 [(.bool p28)] ∧ k29 p27 p28 = some r)) (by rintro k O39 W W' hk ⟨rest36, p25, p26, hd37, hS, hF, ib1, hb1, ib4, hb4, ib7, hb7, h⟩; exact ⟨rest36, p25, p26, hd37, hS, hk.fr hF hFed_Has_l1.size, ib1, hb1.bk hk, ib4, hb4.bk hk, ib7, hb7.bk hk, h⟩) (by rintro k O39 W W' hk ⟨rest36, p25, p26, hd37, hS, hF, ib1, hb1, ib4, hb4, ib7, hb7, h⟩; exact ⟨rest36, p25, p26, hd37, hS, hF.trans hk, ib1, hb1.fr0 hk, ib4, hb4.fr0 hk, ib7, hb7.fr0 hk, h⟩) (by rintro c O2 W W' hk (⟨rfl, ⟨p27, p28, T31, hS, hF, ib1, hb1, ib4, hb4, ib7, hb7, h⟩⟩); exact ⟨rfl, p27, p28, T31.trans hk.tr, hS, hk.fr hF hFed_Has_l1.size, ib1, hb1.bk hk, ib4, hb4.bk hk, ib7, hb7.bk hk, h⟩) (by rintro c O2 W W' hk (⟨rfl, ⟨p27, p28, T31, hS, hF, ib1, hb1, ib4, hb4, ib7, hb7, h⟩⟩); exact ⟨rfl, p27, p28, T31.trans hk.tr0, hS, hF.trans hk, ib1, hb1.fr0 hk, ib4, hb4.fr0 hk, ib7, hb7.fr0 hk, h⟩) (fun O' W' T S B hk => ⟨(d_of x0 x1), (0 : Int), false, (by simp), Sub.trans hS S, hF.trans hk, S _ ib1, hb1.fr0 hk, S _ ib4, hb4.fr0 hk, S _ ib7, hb7.fr0 hk, h⟩) ?_ ?_ ?_
  · rintro D40 l41 k rec rec' z43 O39 w42 hz44 T38 hO grD40 grl41 irD40 irl41 nel41 hrl41 hrD40 ⟨rest36, p25, p26, hd37, hS, hF, ib1, hb1, ib4, hb4, ib7, hb7, h⟩
    have T_ll41 := T38
    rw [drop_get hz44] at hd37
    subst hd37
    rw [d_Has_l1] at h
    have h23 := h23.tr T38
    have T45 := Tr.refl O39 w42
    refine wc_region (l := [0, 1]) rfl ?_
    refine wo_alloc Θ_ok rfl rfl rfl rfl rfl rfl [(.int .u64 0), (.int .i64 0), (.int .u64 0)] rfl hO (fun b46 w47 n48 => ?_)
    have h23 := h23.tr n48.tr
    have T45 := T45.trans n48.tr
    have hrl41 := hrl41.fr0 n48.fr
    have hrD40 := hrD40.fr0 n48.fr
    have irl41 := List.mem_cons_of_mem b46 irl41
    have irD40 := List.mem_cons_of_mem b46 irD40
    have nb46b1 : b46 ≠ b1 := by have := hb1.lt; have := n48.ge; omega
    have hb1 := hb1.fr0 n48.fr
    have ib1 := List.mem_cons_of_mem b46 ib1
    have nb46b4 : b46 ≠ b4 := by have := hb4.lt; have := n48.ge; omega
    have hb4 := hb4.fr0 n48.fr
    have ib4 := List.mem_cons_of_mem b46 ib4
    have nb46b7 : b46 ≠ b7 := by have := hb7.lt; have := n48.ge; omega
    have hb7 := hb7.fr0 n48.fr
    have ib7 := List.mem_cons_of_mem b46 ib7
    have hb46 := n48.blk
    have gb46 := n48.ge0 hF
    have ib46 : b46 ∈ b46 :: O39 := List.mem_cons_self
    have hO := n48.ob
    have hF := hF.trans n48.fr
    have hS := Sub.cons hS b46
    have ehrl41 := hrl41.ne hb46
    have ehrD40 := hrD40.ne hb46
    refine wo_store Θ_ok rfl rfl rfl rfl rfl rfl rfl hb46 [(.int .u64 z43.fPid), (.int .i64 z43.fFd), (.int .u64 z43.fWhat)] rfl rfl (by simp [Value.oneCell']) rfl [(.int .u64 z43.fPid), (.int .i64 z43.fFd), (.int .u64 z43.fWhat)] rfl (fun w49 hb46 f50 => ?_)
    have h23 := h23.tr (f50.tr (one_in ib46))
    have T45 := T45.trans (f50.tr (one_in ib46))
    have hb1 := hb1.fr f50 (nin nb46b1.symm)
    have hb4 := hb4.fr f50 (nin nb46b4.symm)
    have hb7 := hb7.fr f50 (nin nb46b7.symm)
    have hrl41 := hrl41.keep f50 ehrl41
    have hrD40 := hrD40.keep f50 ehrD40
    have hO := f50.ob hO
    have hF := hF.own f50 gb46
    refine wo_nil ?_
    refine wq_begin (O2 := (b46 :: O39)) irl41 nel41 hrl41 grl41 hrD40 (fun w52 hk51 hrl41 hrD40 => ?_)
    have h23 := h23.tr hk51.tr
    have hb1 := hb1.bk hk51
    have hb4 := hb4.bk hk51
    have hb7 := hb7.bk hk51
    have hb46 := hb46.bk hk51
    have T45 := T45.trans hk51.tr
    have hF := hk51.fr hF hFed_Has_l1.size
    have hO := hk51.ob hO
    refine wc_block ?_
    refine wc_seq ?_
    refine wc_region (l := [0, 1, 2, 3]) rfl ?_
    refine wo_seg Θ_ok [0] [(5, (.pointer (some ⟨b1, 0, none⟩))), (6, (.pointer (some ⟨b4, 0, none⟩))), (7, (.pointer (some ⟨b7, 0, none⟩))), (8, (.pointer (some ⟨b46, 0, none⟩))), (14, v21), (16, (.pointer (some ⟨b46, 1, none⟩)))] rfl ⟨rfl, rfl, rfl, rfl, rfl, rfl, trivial⟩ ?_
    refine wo_load Θ_ok rfl rfl rfl rfl rfl rfl rfl hb46 [(.int .i64 z43.fFd)] rfl rfl (.inr rfl) (.int .i64 z43.fFd) rfl ?_
    refine wo_load Θ_ok rfl rfl rfl rfl rfl rfl rfl hb1 [(.int .i64 x2)] rfl rfl (.inr rfl) (.int .i64 x2) rfl ?_
    refine wo_seg Θ_ok [3] [(5, (.pointer (some ⟨b1, 0, none⟩))), (6, (.pointer (some ⟨b4, 0, none⟩))), (7, (.pointer (some ⟨b7, 0, none⟩))), (8, (.pointer (some ⟨b46, 0, none⟩))), (14, v21), (19, (.bool (z43.fFd == x2)))] rfl ⟨rfl, rfl, rfl, rfl, rfl, rfl, trivial⟩ ?_
    refine wo_nil ?_
    refine wq_seq ?_
    rcases bif_some h with ⟨hc53, h⟩ | ⟨hc53, h⟩
    rotate_left
    · refine wc_known_false rfl hc53 ?_
      refine wc_skip ?_
      exact wq_block (wq_round T45 hO irD40 irl41 hrl41 hrD40 ⟨((d_of x0 x1).drop (k + 1)), p25, p26, rfl, hS, hF, ib1, hb1, ib4, hb4, ib7, hb7, h⟩)
    refine wc_known_true rfl hc53 ?_
    refine wc_seq ?_
    refine wc_region (l := [0, 1, 2, 3]) rfl ?_
    refine wo_seg Θ_ok [0] [(5, (.pointer (some ⟨b1, 0, none⟩))), (6, (.pointer (some ⟨b4, 0, none⟩))), (7, (.pointer (some ⟨b7, 0, none⟩))), (14, v21), (20, (.pointer (some ⟨b46, 2, none⟩)))] rfl ⟨rfl, rfl, rfl, rfl, rfl, trivial⟩ ?_
    refine wo_load Θ_ok rfl rfl rfl rfl rfl rfl rfl hb46 [(.int .u64 z43.fWhat)] rfl rfl (.inr rfl) (.int .u64 z43.fWhat) rfl ?_
    have ehrl41 := hrl41.ne hb4
    have ehrD40 := hrD40.ne hb4
    refine wo_store Θ_ok rfl rfl rfl rfl rfl rfl rfl hb4 [(.int .u64 z43.fWhat)] rfl rfl (by simp [Value.oneCell']) rfl [(.int .u64 z43.fWhat)] rfl (fun w54 hb4 f55 => ?_)
    have h23 := h23.tr (f55.tr (one_in ib4))
    have T45 := T45.trans (f55.tr (one_in ib4))
    have hb1 := hb1.fr f55 (nin nb4b1.symm)
    have hb7 := hb7.fr f55 (nin nb7b4)
    have hrl41 := hrl41.keep f55 ehrl41
    have hrD40 := hrD40.keep f55 ehrD40
    have hO := f55.ob hO
    have hF := hF.own f55 gb4
    have ehrl41 := hrl41.ne hb7
    have ehrD40 := hrD40.ne hb7
    refine wo_store Θ_ok rfl rfl rfl rfl rfl rfl rfl hb7 [(.bool true)] rfl rfl (by simp [Value.oneCell']) rfl [(.bool true)] rfl (fun w56 hb7 f57 => ?_)
    have h23 := h23.tr (f57.tr (one_in ib7))
    have T45 := T45.trans (f57.tr (one_in ib7))
    have hb1 := hb1.fr f57 (nin nb7b1.symm)
    have hb4 := hb4.fr f57 (nin nb7b4.symm)
    have hrl41 := hrl41.keep f57 ehrl41
    have hrD40 := hrD40.keep f57 ehrD40
    have hO := f57.ob hO
    have hF := hF.own f57 gb7
    refine wo_nil ?_
    refine wq_seq ?_
    refine wc_ret ?_
    have T_e := T_ll41.trans T45
    exact wq_block_ret (wq_round_ret hO irD40 irl41 hrl41 hrD40 (⟨rfl, z43.fWhat, true, T_e, hS, hF, ib1, hb1, ib4, hb4, ib7, hb7, h⟩))
  · rintro D58 O39 w59 grD58 T38 hO irD58 hrD58 ⟨rest36, p25, p26, hd37, hS, hF, ib1, hb1, ib4, hb4, ib7, hb7, h⟩
    rw [List.drop_length] at hd37
    subst hd37
    rw [d_Has_l1] at h
    have grD58 := Nat.le_trans hFed_Has_l1.size grD58
    have h23 := h23.tr T38
    refine wq_block (wq_seq ?_)
    refine wc_seq ?_
    refine wc_region (l := [0, 1]) rfl ?_
    have ehrD58 := hrD58.ne hb4
    refine wo_store Θ_ok rfl rfl rfl rfl rfl rfl rfl hb4 [(.int .u64 0)] rfl rfl (by simp [Value.oneCell']) rfl [(.int .u64 0)] rfl (fun w60 hb4 f61 => ?_)
    have hb7 := hb7.fr f61 (nin nb7b4)
    have hrD58 := hrD58.keep f61 ehrD58
    have hO := f61.ob hO
    have hF := hF.own f61 gb4
    have ehrD58 := hrD58.ne hb7
    refine wo_store Θ_ok rfl rfl rfl rfl rfl rfl rfl hb7 [(.bool false)] rfl rfl (by simp [Value.oneCell']) rfl [(.bool false)] rfl (fun w62 hb7 f63 => ?_)
    have hb4 := hb4.fr f63 (nin nb7b4.symm)
    have hrD58 := hrD58.keep f63 ehrD58
    have hO := f63.ob hO
    have hF := hF.own f63 gb7
    refine wo_nil ?_
    refine wq_seq ?_
    refine wc_ret ?_
    refine wq_mark_ret (n0 := w.heap.size) hrD58 irD58 grD58 (fun w65 hk64 => ?_)
    have hb4 := hb4.bk hk64
    have hb7 := hb7.bk hk64
    have hF := hk64.fr hF (Nat.le_refl _)
    have hO := hk64.ob hO
    cases h
    exact wq_retc Θ_ok (vs := [(.int .u64 0), (.bool false)]) ⟨(.int .u64 0), _, rfl, ⟨_, _, _, _, rfl, hb4, rfl, rfl, .inr rfl, rfl⟩, ⟨(.bool false), _, rfl, ⟨_, _, _, _, rfl, hb7, rfl, rfl, .inr rfl, rfl⟩, rfl⟩⟩ ⟨_, rfl, ⟨_, _, rfl, (int_is.2 rfl), (bool_is.2 rfl)⟩, hF⟩
  · rintro D_s c O_s w_s gr_s hO ir_s hr_s (⟨rfl, ⟨p27, p28, T31, hS, hF, ib1, hb1, ib4, hb4, ib7, hb7, h⟩⟩)
    · obtain ⟨D32, rfl⟩ : ∃ u, u = D_s := ⟨_, rfl⟩
      obtain ⟨O2, rfl⟩ : ∃ u, u = O_s := ⟨_, rfl⟩
      obtain ⟨w33, rfl⟩ : ∃ u, u = w_s := ⟨_, rfl⟩
      have grD32 := gr_s
      have irD32 := ir_s
      have hrD32 := hr_s
      have grD32 := Nat.le_trans hFed_Has_l1.size grD32
      have h23 := h23.tr T31
      subst hk30
      (try dsimp only at h)
      refine wc_ret ?_
      refine wq_block_ret (wq_then_ret (wq_mark_ret (n0 := w.heap.size) hrD32 irD32 grD32 (fun w35 hk34 => ?_)))
      have h23 := h23.tr hk34.tr
      have hb1 := hb1.bk hk34
      have hb4 := hb4.bk hk34
      have hb7 := hb7.bk hk34
      have hF := hk34.fr hF (Nat.le_refl _)
      have hO := hk34.ob hO
      cases h
      exact wq_retc Θ_ok (vs := [(.int .u64 p27), (.bool p28)]) ⟨(.int .u64 p27), _, rfl, ⟨_, _, _, _, rfl, hb4, rfl, rfl, .inr rfl, rfl⟩, ⟨(.bool p28), _, rfl, ⟨_, _, _, _, rfl, hb7, rfl, rfl, .inr rfl, rfl⟩, rfl⟩⟩ ⟨_, rfl, ⟨_, _, rfl, (int_is.2 rfl), (bool_is.2 rfl)⟩, hF⟩
set_option maxRecDepth 100000 in
set_option maxHeartbeats 4000000 in
theorem s_Clone_c {O : List Nat} {w : World} (hO : OB O w) {v0 : Value} {x0 : List GDesc} (h0 : (Ty.slice tGDesc).is O w v0 x0) {r : List GDesc} (h : s_Clone x0 = some r) : Calls Tryd.prog 24 #[v0] w (Gives (rt1 (Ty.slice tGDesc)) O w r) := by
  have hF := Fr.refl [] w
  have hO0 := hO
  have hS := Sub.refl O
  refine calls_of (args := [v0]) (N := 8) Tryd.func24 rfl rfl rfl ?_
  unfold s_Clone at h
  refine wc_seq ?_
  refine wc_region (l := [0]) rfl ?_
  refine wo_seg Θ_ok [0] [(0, v0)] rfl ⟨rfl, trivial⟩ ?_
  refine wo_nil ?_
  refine wq_seq ?_
  refine wc_seq ?_
  refine wc_seq ?_
  refine wc_region (l := [0, 1]) rfl ?_
  refine wo_seg Θ_ok [0] [(0, v0), (3, v0)] rfl ⟨rfl, rfl, trivial⟩ ?_
  obtain ⟨A1, c2, rfl, hlc2, hmc2⟩ := slice_form h0
  refine wo_seg Θ_ok [1] [(0, (.slice A1 x0.length c2)), (4, (.bool A1.isNone))] rfl ⟨rfl, rfl, trivial⟩ ?_
  refine wo_nil ?_
  refine wq_seq ?_
  rcases A1 with _ | ad15
  · obtain rfl := slice_none h0
    (try simp [app] at h)
    (try subst h)
    refine wc_true rfl ?_
    refine wc_seq ?_
    refine wc_region (l := [0]) rfl ?_
    refine wo_seg Θ_ok [0] [(2, (.slice none 0 0))] rfl ⟨rfl, trivial⟩ ?_
    refine wo_nil ?_
    refine wq_seq ?_
    refine wc_ret ?_
    exact wq_then_ret (wq_ret rfl ⟨_, rfl, (slice_nil _ _ _), hF⟩)
  refine wc_false rfl ?_
  refine wc_skip ?_
  refine wq_seq ?_
  refine wc_seq ?_
  refine wc_region (l := [0, 1, 2, 3]) rfl ?_
  refine wo_lit Θ_ok rfl rfl rfl rfl rfl rfl rfl rfl rfl rfl (T := tGDesc) (xs := ([] : List GDesc)) (vs := []) rfl trivial rfl rfl rfl hO (fun b3 w4 q5 => ?_)
  obtain ⟨_, nq5, _⟩ := q5.new
  have h6 := q5.own hF.size
  have h0 := h0.tr nq5.tr
  have hO := nq5.ob
  have hF := hF.trans nq5.fr
  have hS := Sub.cons hS b3
  generalize (Value.slice (some ⟨b3, 0, none⟩) 0 0) = v7 at *
  refine wo_seg Θ_ok [1] [(5, v7), (6, (.slice (some ad15) x0.length c2))] rfl ⟨rfl, rfl, trivial⟩ ?_
  obtain ⟨z8, hz9, h⟩ := bind_some h
  refine wo_app Θ_ok rfl rfl rfl rfl rfl rfl rfl rfl rfl rfl rfl rfl rfl rfl hF hO h6 h0 hz9 (fun v10 w11 O12 ap13 => ?_)
  have hF := ap13.fr0 h6 hF
  have hS := Sub.trans hS ap13.sub
  have hO := ap13.ob
  have h14 := ap13.own
  refine wo_seg Θ_ok [3] [(2, v10)] rfl ⟨rfl, trivial⟩ ?_
  refine wo_nil ?_
  refine wq_seq ?_
  refine wc_ret ?_
  cases h
  exact wq_ret rfl ⟨_, rfl, (h14.share0 hS hO0), hF⟩
set_option maxRecDepth 100000 in
set_option maxHeartbeats 4000000 in
theorem own_c {O : List Nat} {w : World} (hO : OB O w) {v0 : Value} {x0 : List GDesc} (h0 : (Ty.slice tGDesc).is O w v0 x0) {r : List GDesc} (h : own x0 = some r) : Calls Tryd.prog 7 #[v0] w (Gives (rt1 (Ty.slice tGDesc)) O w r) := by
  have hF := Fr.refl [] w
  have hO0 := hO
  have hS := Sub.refl O
  refine calls_of (args := [v0]) (N := 9) Tryd.func7 rfl rfl rfl ?_
  unfold own at h
  refine wc_seq ?_
  refine wc_region (l := [0]) rfl ?_
  refine wo_seg Θ_ok [0] [(0, v0)] rfl ⟨rfl, trivial⟩ ?_
  refine wo_nil ?_
  refine wq_seq ?_
  refine wc_seq ?_
  refine wc_region (l := [0, 1, 2, 3, 4, 5, 6]) rfl ?_
  refine wo_seg Θ_ok [0, 1] [(3, v0), (4, v0)] rfl ⟨rfl, rfl, trivial⟩ ?_
  obtain ⟨A1, c2, rfl, hlc2, hmc2⟩ := slice_form h0
  refine wo_seg Θ_ok [2] [(3, (.slice A1 x0.length c2)), (5, (.int .i64 (x0.length : Int)))] rfl ⟨rfl, rfl, trivial⟩ ?_
  refine wo_seg Θ_ok [3] [(3, (.slice A1 x0.length c2)), (6, (.int .i64 (if (70 : Int) < (x0.length : Int) then (70 : Int) else (x0.length : Int))))] rfl ⟨rfl, rfl, trivial⟩ ?_
  obtain ⟨y3, hz4, h⟩ := bind_some h
  refine wo_cut (l' := none) (h' := some (.i64, (if (70 : Int) < (x0.length : Int) then (70 : Int) else (x0.length : Int)))) (m' := none) Θ_ok rfl rfl rfl rfl rfl rfl rfl rfl rfl rfl rfl rfl rfl h0 hz4 (fun v5 h6 => ?_)
  obtain ⟨y11, hy12, h⟩ := bind_some h
  refine wo_gives rfl rfl rfl rfl rfl ent24 rfl (s_Clone_c hO h6 hy12) (fun v7 w8 h9 f10 => ?_)
  have hO := f10.ob hO
  have hF := hF.trans f10
  refine wo_seg Θ_ok [6] [(2, v7)] rfl ⟨rfl, trivial⟩ ?_
  refine wo_nil ?_
  refine wq_seq ?_
  refine wc_ret ?_
  cases h
  exact wq_ret rfl ⟨_, rfl, (h9.tr (Tr.less hS)), hF⟩
set_option maxRecDepth 100000 in
set_option maxHeartbeats 4000000 in
theorem d_Close_c {O : List Nat} {w : World} (hO : OB O w) {v0 : Value} {x0 : List GDesc} (h0 : (Ty.slice tGDesc).is O w v0 x0) {v1 : Value} {x1 : Int} (h1 : (Ty.int .u64).is O w v1 x1) {v2 : Value} {x2 : List Int} (h2 : (Ty.slice (Ty.int .i64)).is O w v2 x2) {r : (List GDesc) × Int} (h : d_Close x0 x1 x2 = some r) : Calls Tryd.prog 12 #[v0, v1, v2] w (Gives (rt2 (Ty.slice tGDesc) (Ty.int .i64)) O w r) := by
  obtain rfl := int_is.1 h1
  have hF := Fr.refl [] w
  have hO0 := hO
  have hS := Sub.refl O
  refine calls_of (args := [v0, (.int .u64 x1), v2]) (N := 50) Tryd.func12 rfl rfl rfl ?_
  unfold d_Close at h
  refine wc_seq ?_
  refine wc_region (l := [0, 1]) rfl ?_
  refine wo_seg Θ_ok [0, 1] [(0, v0), (1, (.int .u64 x1)), (2, v2)] rfl ⟨rfl, rfl, rfl, trivial⟩ ?_
  refine wo_nil ?_
  refine wq_seq ?_
  refine wc_scope ?_
  refine wc_seq ?_
  refine wc_seq ?_
  refine wc_region (l := [0, 1, 2]) rfl ?_
  refine wo_seg Θ_ok [0] [(0, v0), (1, (.int .u64 x1)), (2, v2), (16, v0)] rfl ⟨rfl, rfl, rfl, rfl, trivial⟩ ?_
  obtain ⟨y5, hy6, h⟩ := bind_some h
  refine wo_gives rfl rfl rfl rfl rfl ent8 rfl (d_Check_c hO h0 hy6) (fun v1 w2 h3 f4 => ?_)
  have h0 := h0.tr f4.tr0
  have h2 := h2.tr f4.tr0
  have hO := f4.ob hO
  have hF := hF.trans f4
  obtain rfl := int_is.1 h3
  refine wo_seg Θ_ok [2] [(0, v0), (1, (.int .u64 x1)), (2, v2), (8, (.int .i64 y5))] rfl ⟨rfl, rfl, rfl, rfl, trivial⟩ ?_
  refine wo_nil ?_
  refine wq_seq ?_
  refine wc_seq ?_
  refine wc_region (l := [0, 1]) rfl ?_
  refine wo_seg Θ_ok [0, 1] [(0, v0), (1, (.int .u64 x1)), (2, v2), (8, (.int .i64 y5)), (19, (.bool (y5 != (0 : Int))))] rfl ⟨rfl, rfl, rfl, rfl, rfl, trivial⟩ ?_
  refine wo_nil ?_
  refine wq_seq ?_
  rcases bif_some h with ⟨hc7, h⟩ | ⟨hc7, h⟩
  · refine wc_known_true rfl hc7 ?_
    refine wc_seq ?_
    refine wc_region (l := [0, 1, 2]) rfl ?_
    refine wo_seg Θ_ok [0, 1, 2] [(6, (.slice none 0 0)), (7, (.int .i64 y5))] rfl ⟨rfl, rfl, trivial⟩ ?_
    refine wo_nil ?_
    refine wq_seq ?_
    refine wc_ret ?_
    cases h
    exact wq_then_ret (wq_scope (by simp) (wq_ret rfl ⟨_, rfl, ⟨_, _, rfl, (slice_nil _ _ _), (int_is.2 rfl)⟩, hF⟩))
  refine wc_known_false rfl hc7 ?_
  refine wc_skip ?_
  refine wq_seq ?_
  refine wc_seq ?_
  refine wc_region (l := [0, 1, 2]) rfl ?_
  refine wo_seg Θ_ok [0] [(1, (.int .u64 x1)), (2, v2), (21, v0)] rfl ⟨rfl, rfl, rfl, trivial⟩ ?_
  obtain ⟨y12, hy13, h⟩ := bind_some h
  refine wo_gives rfl rfl rfl rfl rfl ent24 rfl (s_Clone_c hO h0 hy13) (fun v8 w9 h10 f11 => ?_)
  have h2 := h2.tr f11.tr0
  have hO := f11.ob hO
  have hF := hF.trans f11
  refine wo_seg Θ_ok [2] [(1, (.int .u64 x1)), (2, v2), (9, v8)] rfl ⟨rfl, rfl, rfl, trivial⟩ ?_
  refine wo_nil ?_
  refine wq_seq ?_
  refine wc_seq ?_
  refine wc_region (l := [0]) rfl ?_
  refine wo_seg Θ_ok [0] [(1, (.int .u64 x1)), (2, v2), (9, v8), (10, (.bool true))] rfl ⟨rfl, rfl, rfl, rfl, trivial⟩ ?_
  refine wo_nil ?_
  refine wq_seq ?_
  refine wc_seq ?_
  refine wc_label ?_
  refine wq_seq ?_
  obtain ⟨k15, hk16, h⟩ := letk_some h
  refine wc_join (fun E W => ∃ (O23 : List Nat) (p19 : List GDesc) (p22 : Bool) (v20 : Value), E = [(9, v20), (10, (.bool p22))] ∧ Tr O w9 O23 W ∧ OB O23 W ∧ Sub O O23 ∧ Fr [] w W ∧ (Ty.slice tGDesc).is O23 W v20 p19 ∧ k15 p19 p22 = some r) ?_ (fun K17 hK18 => ?_)
  · rintro E w24 ⟨O23, p19, p22, v20, rfl, T14, hO, hS, hF, h21, h⟩
    subst hk16
    (try dsimp only at h)
    refine wc_seq ?_
    refine wc_seq ?_
    refine wc_region (l := [0, 1]) rfl ?_
    refine wo_seg Θ_ok [0, 1] [(9, v20), (48, (.bool (!p22)))] rfl ⟨rfl, rfl, trivial⟩ ?_
    refine wo_nil ?_
    refine wq_seq ?_
    rcases bif_some h with ⟨hc25, h⟩ | ⟨hc25, h⟩
    · refine wc_known_true rfl hc25 ?_
      refine wc_seq ?_
      refine wc_region (l := [0, 1]) rfl ?_
      refine wo_seg Θ_ok [0, 1] [(6, (.slice none 0 0)), (7, (.int .i64 4))] rfl ⟨rfl, rfl, trivial⟩ ?_
      refine wo_nil ?_
      refine wq_seq ?_
      refine wc_ret ?_
      cases h
      exact wq_then_ret (wq_scope (by simp) (wq_ret rfl ⟨_, rfl, ⟨_, _, rfl, (slice_nil _ _ _), (int_is.2 rfl)⟩, hF⟩))
    refine wc_known_false rfl hc25 ?_
    refine wc_skip ?_
    refine wq_seq ?_
    refine wc_seq ?_
    refine wc_region (l := [0, 1, 2]) rfl ?_
    refine wo_seg Θ_ok [0, 1, 2] [(6, v20), (7, (.int .i64 0))] rfl ⟨rfl, rfl, trivial⟩ ?_
    refine wo_nil ?_
    refine wq_seq ?_
    refine wc_ret ?_
    cases h
    exact wq_scope (by simp) (wq_ret rfl ⟨_, rfl, ⟨_, _, rfl, (h21.tr (Tr.less hS)), (int_is.2 rfl)⟩, hF⟩)
  clear hk16
  have T14 := Tr.refl O w9
  refine wc_seq ?_
  refine wc_region (l := [0, 1, 2]) rfl ?_
  refine wo_seg Θ_ok [0] [(1, (.int .u64 x1)), (9, v8), (10, (.bool true)), (23, v2)] rfl ⟨rfl, rfl, rfl, rfl, trivial⟩ ?_
  obtain ⟨A26, c27, rfl, hlc27, hmc27⟩ := slice_form h2
  refine wo_seg Θ_ok [1] [(1, (.int .u64 x1)), (9, v8), (10, (.bool true)), (23, (.slice A26 x2.length c27)), (24, (.int .i64 (x2.length : Int)))] rfl ⟨rfl, rfl, rfl, rfl, rfl, trivial⟩ ?_
  refine wo_seg Θ_ok [2] [(1, (.int .u64 x1)), (9, v8), (10, (.bool true)), (23, (.slice A26 x2.length c27)), (24, (.int .i64 (x2.length : Int))), (25, (.int .i64 0))] rfl ⟨rfl, rfl, rfl, rfl, rfl, rfl, trivial⟩ ?_
  refine wo_nil ?_
  refine wq_seq ?_
  refine wc_block ?_
  refine wc_loop (fun m E W => ∃ (rest34 : List Int) (i33 : Nat) (O37 : List Nat) (p29 : List GDesc) (p32 : Bool) (v30 : Value), rest34.length = m ∧ x2.drop i33 = rest34 ∧ E = [(1, (.int .u64 x1)), (9, v30), (10, (.bool p32)), (23, (.slice A26 x2.length c27)), (24, (.int .i64 (x2.length : Int))), (25, (.int .i64 (i33 : Int)))] ∧ Tr O w9 O37 W ∧ OB O37 W ∧ Sub O O37 ∧ Fr [] w W ∧ (Ty.slice tGDesc).is O37 W v30 p29 ∧ d_Close_l1 x1 k15 rest34 i33 p29 p32 = some r) _ [(1, (.int .u64 x1)), (9, v8), (10, (.bool true)), (23, (.slice A26 x2.length c27)), (24, (.int .i64 (x2.length : Int))), (25, (.int .i64 ((0 : Nat) : Int)))] ⟨rfl, rfl, rfl, rfl, rfl, rfl, trivial⟩ ⟨x2, 0, O, y12, true, v8, rfl, rfl, rfl, Tr.refl _ _, hO, hS, hF, h10, h⟩ ?_
  rintro m E w38 ⟨rest34, i33, O37, p29, p32, v30, rfl, hd36, rfl, T28, hO, hS, hF, h31, h⟩
  have T14 := T14.trans T28
  have h2 := h2.tr T28
  rcases rest34 with _ | ⟨z35, rest34⟩
  · rw [d_Close_l1] at h
    have hl42 := drop_nil hd36
    have hc39 : (decide ((i33 : Int) < (x2.length : Int))) = false := decide_eq_false (by omega)
    refine wc_seq ?_
    refine wc_region (l := [0]) rfl ?_
    refine wo_seg Θ_ok [0] [(1, (.int .u64 x1)), (9, v30), (10, (.bool p32)), (23, (.slice A26 x2.length c27)), (24, (.int .i64 (x2.length : Int))), (25, (.int .i64 (i33 : Int))), (26, (.bool (decide ((i33 : Int) < (x2.length : Int)))))] rfl ⟨rfl, rfl, rfl, rfl, rfl, rfl, rfl, trivial⟩ ?_
    refine wo_nil ?_
    refine wq_seq ?_
    refine wc_seq ?_
    refine wc_known_false rfl hc39 ?_
    refine wc_exit ?_
    exact wq_then_exit (wq_then_exit (wq_block_exit (wq_join hK18 [(9, v30), (10, (.bool p32))] ⟨rfl, rfl, trivial⟩ ⟨O37, p29, p32, v30, rfl, T14, hO, hS, hF, h31, h⟩)))
  rw [d_Close_l1] at h
  obtain ⟨hl43, hg41, hd36⟩ := drop_cons hd36
  have hc40 : (decide ((i33 : Int) < (x2.length : Int))) = true := decide_eq_true (by omega)
  refine wc_seq ?_
  refine wc_region (l := [0]) rfl ?_
  refine wo_seg Θ_ok [0] [(1, (.int .u64 x1)), (9, v30), (10, (.bool p32)), (23, (.slice A26 x2.length c27)), (24, (.int .i64 (x2.length : Int))), (25, (.int .i64 (i33 : Int))), (26, (.bool (decide ((i33 : Int) < (x2.length : Int)))))] rfl ⟨rfl, rfl, rfl, rfl, rfl, rfl, rfl, trivial⟩ ?_
  refine wo_nil ?_
  refine wq_seq ?_
  refine wc_seq ?_
  refine wc_known_true rfl hc40 ?_
  refine wc_skip ?_
  refine wq_seq ?_
  refine wc_seq ?_
  refine wc_block ?_
  refine wc_seq ?_
  refine wc_region (l := [0, 1, 2]) rfl ?_
  refine wo_index Θ_ok rfl rfl rfl rfl rfl rfl rfl rfl rfl rfl h2 rfl (by omega) hg41 (fun p44 h45 => ?_)
  refine wo_loadp Θ_ok rfl rfl rfl rfl rfl rfl rfl h45 rfl rfl (fun v46 h47 => ?_)
  obtain rfl := int_is.1 h47
  refine wo_seg Θ_ok [2] [(1, (.int .u64 x1)), (9, v30), (12, (.int .i64 z35)), (23, (.slice A26 x2.length c27)), (24, (.int .i64 (x2.length : Int))), (25, (.int .i64 (i33 : Int)))] rfl ⟨rfl, rfl, rfl, rfl, rfl, rfl, trivial⟩ ?_
  refine wo_nil ?_
  refine wq_seq ?_
  refine wc_seq ?_
  refine wc_region (l := [0, 1, 2, 3, 4, 5, 6, 7, 8]) rfl ?_
  refine wo_seg Θ_ok [0, 1, 2] [(1, (.int .u64 x1)), (9, v30), (12, (.int .i64 z35)), (23, (.slice A26 x2.length c27)), (24, (.int .i64 (x2.length : Int))), (25, (.int .i64 (i33 : Int))), (30, v30), (31, (.int .u64 x1)), (32, (.int .i64 z35))] rfl ⟨rfl, rfl, rfl, rfl, rfl, rfl, rfl, rfl, rfl, trivial⟩ ?_
  obtain ⟨y52, hy53, h⟩ := bind_some h
  refine wo_gives rfl rfl rfl rfl rfl ent15 rfl (d_Has_c hO h31 (int_is.2 rfl) (int_is.2 rfl) hy53) (fun v48 w49 h50 f51 => ?_)
  have h31 := h31.tr f51.tr0
  have h2 := h2.tr f51.tr0
  have T14 := T14.trans f51.tr0
  have T28 := T28.trans f51.tr0
  have hO := f51.ob hO
  have hF := hF.trans f51
  obtain ⟨u54, u56, rfl, h55, h57⟩ := h50
  obtain rfl := int_is.1 h55
  obtain rfl := bool_is.1 h57
  refine wo_seg Θ_ok [4, 5, 6, 7, 8] [(1, (.int .u64 x1)), (9, v30), (12, (.int .i64 z35)), (13, (.int .u64 y52.1)), (14, (.bool y52.2)), (23, (.slice A26 x2.length c27)), (24, (.int .i64 (x2.length : Int))), (25, (.int .i64 (i33 : Int)))] rfl ⟨rfl, rfl, rfl, rfl, rfl, rfl, rfl, rfl, trivial⟩ ?_
  refine wo_nil ?_
  refine wq_seq ?_
  refine wc_seq ?_
  refine wc_seq ?_
  refine wc_region (l := [0, 1]) rfl ?_
  refine wo_seg Θ_ok [0, 1] [(1, (.int .u64 x1)), (9, v30), (10, (.bool y52.2)), (12, (.int .i64 z35)), (13, (.int .u64 y52.1)), (23, (.slice A26 x2.length c27)), (24, (.int .i64 (x2.length : Int))), (25, (.int .i64 (i33 : Int)))] rfl ⟨rfl, rfl, rfl, rfl, rfl, rfl, rfl, rfl, trivial⟩ ?_
  refine wo_nil ?_
  refine wq_seq ?_
  refine wc_seq ?_
  refine wc_region (l := [0, 1]) rfl ?_
  refine wo_seg Θ_ok [0, 1] [(1, (.int .u64 x1)), (9, v30), (10, (.bool y52.2)), (12, (.int .i64 z35)), (13, (.int .u64 y52.1)), (23, (.slice A26 x2.length c27)), (24, (.int .i64 (x2.length : Int))), (25, (.int .i64 (i33 : Int))), (38, (.bool (!y52.2)))] rfl ⟨rfl, rfl, rfl, rfl, rfl, rfl, rfl, rfl, rfl, trivial⟩ ?_
  refine wo_nil ?_
  refine wq_seq ?_
  rcases bif_some h with ⟨hc58, h⟩ | ⟨hc58, h⟩
  · refine wc_known_true rfl hc58 ?_
    refine wc_exit ?_
    exact wq_then_exit (wq_block_past rfl (wq_then_exit (wq_then_exit (wq_block_exit (wq_join hK18 [(9, v30), (10, (.bool y52.2))] ⟨rfl, rfl, trivial⟩ ⟨O37, p29, y52.2, v30, rfl, T14, hO, hS, hF, h31, h⟩)))))
  refine wc_known_false rfl hc58 ?_
  refine wc_skip ?_
  refine wq_seq ?_
  refine wc_seq ?_
  refine wc_region (l := [0, 1, 2, 3, 4, 5]) rfl ?_
  refine wo_seg Θ_ok [0, 1, 2, 3] [(1, (.int .u64 x1)), (9, v30), (10, (.bool y52.2)), (23, (.slice A26 x2.length c27)), (24, (.int .i64 (x2.length : Int))), (25, (.int .i64 (i33 : Int))), (42, (.agg #[(.int .u64 x1), (.int .i64 z35), (.int .u64 y52.1)]))] rfl ⟨rfl, rfl, rfl, rfl, rfl, rfl, rfl, trivial⟩ ?_
  refine wo_alloc Θ_ok rfl rfl rfl rfl rfl rfl [(.int .u64 0), (.int .i64 0), (.int .u64 0)] rfl hO (fun b59 w60 n61 => ?_)
  have h31 := h31.tr n61.tr
  have h2 := h2.tr n61.tr
  have T14 := T14.trans n61.tr
  have T28 := T28.trans n61.tr
  have hb59 := n61.blk
  have gb59 := n61.ge0 hF
  have ib59 : b59 ∈ b59 :: O37 := List.mem_cons_self
  have hO := n61.ob
  have hF := hF.trans n61.fr
  have hS := Sub.cons hS b59
  refine wo_store Θ_ok rfl rfl rfl rfl rfl rfl rfl hb59 [(.int .u64 x1), (.int .i64 z35), (.int .u64 y52.1)] rfl rfl (by simp [Value.oneCell']) rfl [(.int .u64 x1), (.int .i64 z35), (.int .u64 y52.1)] rfl (fun w62 hb59 f63 => ?_)
  have h31 := h31.tr (f63.tr (one_in ib59))
  have h2 := h2.tr (f63.tr (one_in ib59))
  have T14 := T14.trans (f63.tr (one_in ib59))
  have T28 := T28.trans (f63.tr (one_in ib59))
  have hO := f63.ob hO
  have hF := hF.own f63 gb59
  refine wo_nil ?_
  refine wq_seq ?_
  refine wc_region (l := [0, 1, 2, 3]) rfl ?_
  refine wo_seg Θ_ok [0] [(1, (.int .u64 x1)), (10, (.bool y52.2)), (15, (.pointer (some ⟨b59, 0, none⟩))), (23, (.slice A26 x2.length c27)), (24, (.int .i64 (x2.length : Int))), (25, (.int .i64 (i33 : Int))), (43, v30)] rfl ⟨rfl, rfl, rfl, rfl, rfl, rfl, rfl, trivial⟩ ?_
  have p64 := rel_ptr (T := tGDesc) hb59 (Ty.tr _ (rel_tr b59 (b59 :: O37) w62) (rep_cells (v := (.agg #[(.int .u64 x1), (.int .i64 z35), (.int .u64 y52.1)])) ((tGDesc_is (x := (GDesc.mk x1 z35 y52.1))).2 rfl)))
  have h2 := h2.tr (rel_tr b59 (b59 :: O37) w62)
  have h31 := h31.tr (rel_tr b59 (b59 :: O37) w62)
  have T14 := T14.trans (rel_tr b59 (b59 :: O37) w62)
  have T28 := T28.trans (rel_tr b59 (b59 :: O37) w62)
  have hO := rel_ob (b := b59) hO
  have hS := rel_sub hS hO0 gb59
  refine wo_seg Θ_ok [1] [(1, (.int .u64 x1)), (10, (.bool y52.2)), (23, (.slice A26 x2.length c27)), (24, (.int .i64 (x2.length : Int))), (25, (.int .i64 (i33 : Int))), (43, v30), (44, (.func (.func 33) #[] #[(.pointer (some ⟨b59, 0, none⟩))]))] rfl ⟨rfl, rfl, rfl, rfl, rfl, rfl, rfl, trivial⟩ ?_
  obtain ⟨y69, hy70, h⟩ := bind_some h
  refine wo_gives rfl rfl rfl rfl rfl ent27 rfl (d_kept_c hO h31 (fn1_is (first := []) (cap := [(.pointer (some ⟨b59, 0, none⟩))]) ent33 (fun O' w' ht hO u0 z0 q0 y hy => by cases hy; exact Close1_c hO q0 (p64.tr ht))) hy70) (fun v65 w66 h67 f68 => ?_)
  have h2 := h2.tr f68.tr0
  have T14 := T14.trans f68.tr0
  have T28 := T28.trans f68.tr0
  have hO := f68.ob hO
  have hF := hF.trans f68
  refine wo_seg Θ_ok [3] [(1, (.int .u64 x1)), (9, v65), (10, (.bool y52.2)), (23, (.slice A26 x2.length c27)), (24, (.int .i64 (x2.length : Int))), (25, (.int .i64 (i33 : Int)))] rfl ⟨rfl, rfl, rfl, rfl, rfl, rfl, trivial⟩ ?_
  refine wo_nil ?_
  refine wq_block (wq_seq ?_)
  refine wc_region (l := [0, 1]) rfl ?_
  refine wo_seg Θ_ok [0, 1] [(1, (.int .u64 x1)), (9, v65), (10, (.bool y52.2)), (23, (.slice A26 x2.length c27)), (24, (.int .i64 (x2.length : Int))), (25, (.int .i64 (IntKind.i64.wrap ((i33 : Int) + (1 : Int)))))] rfl ⟨rfl, rfl, rfl, rfl, rfl, rfl, trivial⟩ ?_
  refine wo_nil ?_
  exact wq_next rest34.length [(1, (.int .u64 x1)), (9, v65), (10, (.bool y52.2)), (23, (.slice A26 x2.length c27)), (24, (.int .i64 (x2.length : Int))), (25, (.int .i64 ((i33 + 1 : Nat) : Int)))] (Nat.lt_succ_self _) ⟨rfl, rfl, rfl, rfl, rfl, congrArg (fun z => some (Value.int .i64 z)) (wrap_succ hl43 (Nat.le_trans hlc27 hmc27)), trivial⟩ ⟨rest34, i33 + 1, rel b59 (b59 :: O37), y69, y52.2, v65, rfl, hd36, rfl, T28, hO, hS, hF, h67, h⟩
set_option maxRecDepth 100000 in
set_option maxHeartbeats 4000000 in
theorem d_Back_c {O : List Nat} {w : World} (hO : OB O w) (hg0 : (Ty.ptr (Ty.slice tGField)).is O w (.pointer (some ⟨0, 0, none⟩)) g_parts) {v0 : Value} {x0 : Int} (h0 : (Ty.int .u64).is O w v0 x0) {v1 : Value} {x1 : Int} (h1 : (Ty.int .u64).is O w v1 x1) {r : GDesc × Int} (h : d_Back x0 x1 = some r) : Calls Tryd.prog 22 #[v0, v1] w (Gives (rt2 tGDesc (Ty.int .i64)) O w r) := by
  obtain rfl := int_is.1 h0
  obtain rfl := int_is.1 h1
  have hF := Fr.refl [] w
  have hO0 := hO
  have hS := Sub.refl O
  refine calls_of (args := [(.int .u64 x0), (.int .u64 x1)]) (N := 40) Tryd.func22 rfl rfl rfl ?_
  unfold d_Back at h
  refine wc_seq ?_
  refine wc_region (l := [0, 1]) rfl ?_
  refine wo_alloc Θ_ok rfl rfl rfl rfl rfl rfl [(.int .u64 0), (.int .i64 0), (.int .u64 0)] rfl hO (fun b1 w2 n3 => ?_)
  have hg0 := hg0.tr n3.tr
  have hb1 := n3.blk
  have gb1 := n3.ge0 hF
  have ib1 : b1 ∈ b1 :: O := List.mem_cons_self
  have hO := n3.ob
  have hF := hF.trans n3.fr
  have hS := Sub.cons hS b1
  refine wo_seg Θ_ok [1] [(0, (.int .u64 x0)), (1, (.int .u64 x1)), (4, (.pointer (some ⟨b1, 0, none⟩)))] rfl ⟨rfl, rfl, rfl, trivial⟩ ?_
  refine wo_nil ?_
  refine wq_seq ?_
  refine wc_seq ?_
  refine wc_region (l := [0, 1, 2, 3, 4, 5, 6, 7]) rfl ?_
  refine wo_seg Θ_ok [0] [(0, (.int .u64 x0)), (1, (.int .u64 x1)), (4, (.pointer (some ⟨b1, 0, none⟩))), (12, (.int .u64 x0))] rfl ⟨rfl, rfl, rfl, rfl, trivial⟩ ?_
  refine wo_loadp Θ_ok rfl rfl rfl rfl rfl rfl rfl hg0 rfl rfl (fun v4 h5 => ?_)
  obtain ⟨y10, hy11, h⟩ := bind_some h
  refine wo_gives rfl rfl rfl rfl rfl ent37 rfl (b_Split_c hO (int_is.2 rfl) h5 hy11) (fun v6 w7 h8 f9 => ?_)
  have hg0 := hg0.tr f9.tr0
  have hb1 := hb1.fr0 f9
  have hO := f9.ob hO
  have hF := hF.trans f9
  obtain ⟨u12, u14, rfl, h13, h15⟩ := h8
  obtain rfl := int_is.1 h15
  refine wo_seg Θ_ok [3, 4, 5, 6, 7] [(0, (.int .u64 x0)), (1, (.int .u64 x1)), (4, (.pointer (some ⟨b1, 0, none⟩))), (6, u12)] rfl ⟨rfl, rfl, rfl, rfl, trivial⟩ ?_
  refine wo_nil ?_
  refine wq_seq ?_
  refine wc_seq ?_
  obtain ⟨y16, hz17, h⟩ := bind_some h
  obtain ⟨y18, hz19, h⟩ := bind_some h
  refine wc_drawT mixed [⟨17, [], [6]⟩, ⟨18, [0], []⟩, ⟨19, [1], []⟩, ⟨20, [], [6]⟩, ⟨21, [3], []⟩, ⟨22, [4], []⟩, ⟨23, [5], []⟩, ⟨24, [], [1]⟩, ⟨25, [2, 6, 7], []⟩, ⟨8, [], []⟩] [SP.is (Ty.slice (Ty.int .u64)) (b1 :: O) y10.1, SP.is (Ty.ptr (Ty.int .u64)) (b1 :: O) y16, SP.eq (.int .u64 y16), SP.is (Ty.slice (Ty.int .u64)) (b1 :: O) y10.1, SP.is (Ty.ptr (Ty.int .u64)) (b1 :: O) y18, SP.eq (.int .u64 y18), SP.eq (.int .i64 (IntKind.i64.wrap y18)), SP.eq (.int .u64 x1), SP.eq (.agg #[(.int .u64 y16), (.int .i64 (IntKind.i64.wrap y18)), (.int .u64 x1)]), SP.box w7.heap.size 29 [(.int .u64 0), (.int .i64 0), (.int .u64 0)]] rfl rfl rfl rfl ⟨?_, ?_, ?_, ?_, ?_, ?_, ?_, ?_, ?_, ?_, trivial⟩ ?_
  · intro a w2 hfr hN hds hb hd
    have h13 := h13.tr hfr.tr0
    exact (op_plain Θ_ok ⟨hN, hds, rows_get (E := [(6, u12)]) ⟨hb 6 rfl _ rfl, trivial⟩⟩ rfl rfl rfl rfl rfl).weaken (fun u w3 ⟨hu, hf⟩ => by subst hu; exact ⟨h13.tr hf.tr0, hf⟩)
  · intro a w2 hfr hN hds hb hd
    have d22 : (Ty.slice (Ty.int .u64)).is (b1 :: O) w2 (a.tmps.getD 17 undef) y10.1 := hd 0 rfl _ _ rfl rfl
    obtain ⟨u20, e21⟩ : ∃ v, a.tmps.getD 17 undef = v := ⟨_, rfl⟩
    rw [e21] at d22
    exact op_index (j := (0 : Int)) Θ_ok ⟨hN, hds, rows_get (E := [(17, u20)]) ⟨e21, trivial⟩⟩ rfl rfl rfl rfl rfl rfl rfl rfl rfl d22 rfl (idx_some hz17).1 (idx_some hz17).2
  · intro a w2 hfr hN hds hb hd
    have d25 : (Ty.ptr (Ty.int .u64)).is (b1 :: O) w2 (a.tmps.getD 18 undef) y16 := hd 1 rfl _ _ rfl rfl
    obtain ⟨u23, e24⟩ : ∃ v, a.tmps.getD 18 undef = v := ⟨_, rfl⟩
    rw [e24] at d25
    exact (op_loadp Θ_ok ⟨hN, hds, rows_get (E := [(18, u23)]) ⟨e24, trivial⟩⟩ rfl rfl rfl rfl rfl rfl d25 rfl rfl).weaken (fun u w3 ⟨hu, hf⟩ => ⟨int_is.1 hu, hf⟩)
  · intro a w2 hfr hN hds hb hd
    have h13 := h13.tr hfr.tr0
    exact (op_plain Θ_ok ⟨hN, hds, rows_get (E := [(6, u12)]) ⟨hb 6 rfl _ rfl, trivial⟩⟩ rfl rfl rfl rfl rfl).weaken (fun u w3 ⟨hu, hf⟩ => by subst hu; exact ⟨h13.tr hf.tr0, hf⟩)
  · intro a w2 hfr hN hds hb hd
    have d28 : (Ty.slice (Ty.int .u64)).is (b1 :: O) w2 (a.tmps.getD 20 undef) y10.1 := hd 3 rfl _ _ rfl rfl
    obtain ⟨u26, e27⟩ : ∃ v, a.tmps.getD 20 undef = v := ⟨_, rfl⟩
    rw [e27] at d28
    exact op_index (j := (1 : Int)) Θ_ok ⟨hN, hds, rows_get (E := [(20, u26)]) ⟨e27, trivial⟩⟩ rfl rfl rfl rfl rfl rfl rfl rfl rfl d28 rfl (idx_some hz19).1 (idx_some hz19).2
  · intro a w2 hfr hN hds hb hd
    have d31 : (Ty.ptr (Ty.int .u64)).is (b1 :: O) w2 (a.tmps.getD 21 undef) y18 := hd 4 rfl _ _ rfl rfl
    obtain ⟨u29, e30⟩ : ∃ v, a.tmps.getD 21 undef = v := ⟨_, rfl⟩
    rw [e30] at d31
    exact (op_loadp Θ_ok ⟨hN, hds, rows_get (E := [(21, u29)]) ⟨e30, trivial⟩⟩ rfl rfl rfl rfl rfl rfl d31 rfl rfl).weaken (fun u w3 ⟨hu, hf⟩ => ⟨int_is.1 hu, hf⟩)
  · intro a w2 hfr hN hds hb hd
    exact op_plain Θ_ok ⟨hN, hds, rows_get (E := [(22, (.int .u64 y18))]) ⟨(hd 5 rfl _ _ rfl rfl), trivial⟩⟩ rfl rfl rfl rfl rfl
  · intro a w2 hfr hN hds hb hd
    exact op_plain Θ_ok ⟨hN, hds, rows_get (E := [(1, (.int .u64 x1))]) ⟨hb 1 rfl _ rfl, trivial⟩⟩ rfl rfl rfl rfl rfl
  · intro a w2 hfr hN hds hb hd
    exact op_plain Θ_ok ⟨hN, hds, rows_get (E := [(19, (.int .u64 y16)), (23, (.int .i64 (IntKind.i64.wrap y18))), (24, (.int .u64 x1))]) ⟨(hd 2 rfl _ _ rfl rfl), (hd 6 rfl _ _ rfl rfl), (hd 7 rfl _ _ rfl rfl), trivial⟩⟩ rfl rfl rfl rfl rfl
  · intro a w2 hfr hN hds hb hd
    exact op_alloc Θ_ok ⟨hN, hds, rows_get (E := []) trivial⟩ rfl rfl rfl rfl rfl [(.int .u64 0), (.int .i64 0), (.int .u64 0)] rfl (hfr.ob hO) hfr.size
  intro a w33 f32 hN hds hb hr
  have hF_b34 := hF
  obtain ⟨b34, e35, hb34, geb34⟩ := hr 9 _ _ rfl rfl
  have tbb34 := tr_box (O := b1 :: O) f32 geb34
  have nb34b1 : b34 ≠ b1 := by have := hb1.lt; omega
  have hg0 := hg0.tr tbb34
  have hb1 := hb1.fr0 f32
  have hO := f32.ob hO
  have hF := hF.trans f32
  have ib1 := List.mem_cons_of_mem b34 ib1
  have gb34 := Nat.le_trans hF_b34.size geb34
  have ib34 : b34 ∈ b34 :: (b1 :: O) := List.mem_cons_self
  have hO := ob_box hO hb34
  have hS := Sub.cons hS b34
  refine wo_go (E := [(0, (.int .u64 x0)), (4, (.pointer (some ⟨b1, 0, none⟩))), (8, (.pointer (some ⟨b34, 0, none⟩))), (25, (.agg #[(.int .u64 y16), (.int .i64 (IntKind.i64.wrap y18)), (.int .u64 x1)]))]) (l := [10]) hN hds ⟨hb 0 _ rfl rfl, hb 4 _ rfl rfl, e35, (hr 8 _ _ rfl rfl), trivial⟩ rfl ?_
  refine wo_store Θ_ok rfl rfl rfl rfl rfl rfl rfl hb34 [(.int .u64 y16), (.int .i64 (IntKind.i64.wrap y18)), (.int .u64 x1)] rfl rfl (by simp [Value.oneCell']) rfl [(.int .u64 y16), (.int .i64 (IntKind.i64.wrap y18)), (.int .u64 x1)] rfl (fun w36 hb34 f37 => ?_)
  have hg0 := hg0.tr (f37.tr (one_in ib34))
  have hb1 := hb1.fr f37 (nin nb34b1.symm)
  have hO := f37.ob hO
  have hF := hF.own f37 gb34
  refine wo_nil ?_
  refine wq_seq ?_
  refine wc_seq ?_
  refine wc_seq ?_
  refine wc_region (l := [0, 1, 2, 3, 4, 5, 6]) rfl ?_
  refine wo_load Θ_ok rfl rfl rfl rfl rfl rfl rfl hb34 [(.int .u64 y16), (.int .i64 (IntKind.i64.wrap y18)), (.int .u64 x1)] rfl rfl (.inl rfl) (.agg #[(.int .u64 y16), (.int .i64 (IntKind.i64.wrap y18)), (.int .u64 x1)]) rfl ?_
  obtain ⟨y42, hy43, h⟩ := bind_some h
  refine wo_gives rfl rfl rfl rfl rfl ent19 rfl (d_Key_c hO hg0 ((tGDesc_is (x := (GDesc.mk y16 (IntKind.i64.wrap y18) x1))).2 rfl) hy43) (fun v38 w39 h40 f41 => ?_)
  have hg0 := hg0.tr f41.tr0
  have hb1 := hb1.fr0 f41
  have hb34 := hb34.fr0 f41
  have hO := f41.ob hO
  have hF := hF.trans f41
  obtain ⟨u44, u46, rfl, h45, h47⟩ := h40
  obtain rfl := int_is.1 h45
  obtain rfl := int_is.1 h47
  refine wo_seg Θ_ok [2, 3, 4, 5, 6] [(0, (.int .u64 x0)), (4, (.pointer (some ⟨b1, 0, none⟩))), (8, (.pointer (some ⟨b34, 0, none⟩))), (9, (.int .u64 y42.1)), (10, (.int .i64 y42.2))] rfl ⟨rfl, rfl, rfl, rfl, rfl, trivial⟩ ?_
  refine wo_nil ?_
  refine wq_seq ?_
  refine wc_seq ?_
  refine wc_region (l := [0, 1, 2, 3, 4, 5, 6]) rfl ?_
  refine wo_seg Θ_ok [0, 1, 2] [(0, (.int .u64 x0)), (4, (.pointer (some ⟨b1, 0, none⟩))), (8, (.pointer (some ⟨b34, 0, none⟩))), (9, (.int .u64 y42.1)), (33, (.bool (y42.2 != (0 : Int))))] rfl ⟨rfl, rfl, rfl, rfl, rfl, trivial⟩ ?_
  rcases bif_some h with ⟨hc48, h⟩ | ⟨hc48, h⟩
  · refine wo_know 33 true rfl hc48 ?_
    refine wo_seg Θ_ok [3, 4, 5, 6] [(4, (.pointer (some ⟨b1, 0, none⟩))), (8, (.pointer (some ⟨b34, 0, none⟩))), (37, (.bool true))] rfl ⟨rfl, rfl, rfl, trivial⟩ ?_
    refine wo_nil ?_
    refine wq_seq ?_
    refine wc_true rfl ?_
    refine wc_seq ?_
    refine wc_region (l := [0, 1, 2]) rfl ?_
    refine wo_seg Θ_ok [0] [(4, (.pointer (some ⟨b1, 0, none⟩))), (38, (.agg #[(.int .u64 0), (.int .i64 0), (.int .u64 0)]))] rfl ⟨rfl, rfl, trivial⟩ ?_
    refine wo_store Θ_ok rfl rfl rfl rfl rfl rfl rfl hb1 [(.int .u64 0), (.int .i64 0), (.int .u64 0)] rfl rfl (by simp [Value.oneCell']) rfl [(.int .u64 0), (.int .i64 0), (.int .u64 0)] rfl (fun w49 hb1 f50 => ?_)
    have hg0 := hg0.tr (f50.tr (one_in ib1))
    have hO := f50.ob hO
    have hF := hF.own f50 gb1
    refine wo_seg Θ_ok [2] [(4, (.pointer (some ⟨b1, 0, none⟩))), (5, (.int .i64 2))] rfl ⟨rfl, rfl, trivial⟩ ?_
    refine wo_nil ?_
    refine wq_seq ?_
    refine wc_ret ?_
    cases h
    exact wq_then_ret (wq_retc Θ_ok (vs := [(.agg #[(.int .u64 0), (.int .i64 0), (.int .u64 0)]), (.int .i64 2)]) ⟨(.agg #[(.int .u64 0), (.int .i64 0), (.int .u64 0)]), _, rfl, ⟨_, _, _, _, rfl, hb1, rfl, rfl, .inl rfl, rfl⟩, ⟨(.int .i64 2), _, rfl, rfl, rfl⟩⟩ ⟨_, rfl, ⟨_, _, rfl, (((tGDesc_is (x := (GDesc.mk (0 : Int) (0 : Int) (0 : Int)))).2 rfl).tr (Tr.less hS)), (int_is.2 rfl)⟩, hF⟩)
  refine wo_know 33 false rfl hc48 ?_
  refine wo_seg Θ_ok [3, 4, 5, 6] [(4, (.pointer (some ⟨b1, 0, none⟩))), (8, (.pointer (some ⟨b34, 0, none⟩))), (37, (.bool (y42.1 != x0)))] rfl ⟨rfl, rfl, rfl, trivial⟩ ?_
  refine wo_nil ?_
  refine wq_seq ?_
  rcases bif_some h with ⟨hc51, h⟩ | ⟨hc51, h⟩
  · refine wc_known_true rfl hc51 ?_
    refine wc_seq ?_
    refine wc_region (l := [0, 1, 2]) rfl ?_
    refine wo_seg Θ_ok [0] [(4, (.pointer (some ⟨b1, 0, none⟩))), (38, (.agg #[(.int .u64 0), (.int .i64 0), (.int .u64 0)]))] rfl ⟨rfl, rfl, trivial⟩ ?_
    refine wo_store Θ_ok rfl rfl rfl rfl rfl rfl rfl hb1 [(.int .u64 0), (.int .i64 0), (.int .u64 0)] rfl rfl (by simp [Value.oneCell']) rfl [(.int .u64 0), (.int .i64 0), (.int .u64 0)] rfl (fun w52 hb1 f53 => ?_)
    have hg0 := hg0.tr (f53.tr (one_in ib1))
    have hO := f53.ob hO
    have hF := hF.own f53 gb1
    refine wo_seg Θ_ok [2] [(4, (.pointer (some ⟨b1, 0, none⟩))), (5, (.int .i64 2))] rfl ⟨rfl, rfl, trivial⟩ ?_
    refine wo_nil ?_
    refine wq_seq ?_
    refine wc_ret ?_
    cases h
    exact wq_then_ret (wq_retc Θ_ok (vs := [(.agg #[(.int .u64 0), (.int .i64 0), (.int .u64 0)]), (.int .i64 2)]) ⟨(.agg #[(.int .u64 0), (.int .i64 0), (.int .u64 0)]), _, rfl, ⟨_, _, _, _, rfl, hb1, rfl, rfl, .inl rfl, rfl⟩, ⟨(.int .i64 2), _, rfl, rfl, rfl⟩⟩ ⟨_, rfl, ⟨_, _, rfl, (((tGDesc_is (x := (GDesc.mk (0 : Int) (0 : Int) (0 : Int)))).2 rfl).tr (Tr.less hS)), (int_is.2 rfl)⟩, hF⟩)
  refine wc_known_false rfl hc51 ?_
  refine wc_skip ?_
  refine wq_seq ?_
  refine wc_seq ?_
  refine wc_region (l := [0, 1, 2]) rfl ?_
  refine wo_load Θ_ok rfl rfl rfl rfl rfl rfl rfl hb34 [(.int .u64 y16), (.int .i64 (IntKind.i64.wrap y18)), (.int .u64 x1)] rfl rfl (.inl rfl) (.agg #[(.int .u64 y16), (.int .i64 (IntKind.i64.wrap y18)), (.int .u64 x1)]) rfl ?_
  refine wo_store Θ_ok rfl rfl rfl rfl rfl rfl rfl hb1 [(.int .u64 y16), (.int .i64 (IntKind.i64.wrap y18)), (.int .u64 x1)] rfl rfl (by simp [Value.oneCell']) rfl [(.int .u64 y16), (.int .i64 (IntKind.i64.wrap y18)), (.int .u64 x1)] rfl (fun w54 hb1 f55 => ?_)
  have hg0 := hg0.tr (f55.tr (one_in ib1))
  have hO := f55.ob hO
  have hF := hF.own f55 gb1
  refine wo_seg Θ_ok [2] [(4, (.pointer (some ⟨b1, 0, none⟩))), (5, (.int .i64 0))] rfl ⟨rfl, rfl, trivial⟩ ?_
  refine wo_nil ?_
  refine wq_seq ?_
  refine wc_ret ?_
  cases h
  exact wq_retc Θ_ok (vs := [(.agg #[(.int .u64 y16), (.int .i64 (IntKind.i64.wrap y18)), (.int .u64 x1)]), (.int .i64 0)]) ⟨(.agg #[(.int .u64 y16), (.int .i64 (IntKind.i64.wrap y18)), (.int .u64 x1)]), _, rfl, ⟨_, _, _, _, rfl, hb1, rfl, rfl, .inl rfl, rfl⟩, ⟨(.int .i64 0), _, rfl, rfl, rfl⟩⟩ ⟨_, rfl, ⟨_, _, rfl, (((tGDesc_is (x := (GDesc.mk y16 (IntKind.i64.wrap y18) x1))).2 rfl).tr (Tr.less hS)), (int_is.2 rfl)⟩, hF⟩
end Go.Proofs.YtbaffpifmfddeaaDoor
