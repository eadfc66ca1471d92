/-
  The program's functions compute the plain ones (printed by a tool of the prover's).
-/
import Derived.Test.YtjdeaihnpgkphaaGWalk7
namespace Go.Proofs.Ytjdeaihnpgkphaa
open Go.RowKit Go.Dc Go.Shelf
set_option maxRecDepth 100000 in
set_option maxHeartbeats 4000000 in
theorem l_Order_c {O : List Nat} {w : World} (hO : OB O w) {fuel : Nat} {v0 : Value} {x0 : GIpc} (h0 : tGIpc.is O w v0 x0) {v1 : Value} {x1 : GTwo} (h1 : tGTwo.is O w v1 x1) {v2 : Value} {x2 : List Int} (h2 : (Ty.slice (Ty.int .u64)).is O w v2 x2) {r : Bool} (h : l_Order fuel x0 x1 x2 = some r) : Calls Try.prog 4 #[v0, v1, v2] w (Gives (rt1 Ty.bool) O w r) := by
  obtain ⟨v0_1, v0_2, rfl, h0_1, h0_2⟩ := tGIpc_is.1 h0
  obtain rfl := tGTwo_is.1 h1
  have hF := Fr.refl [] w
  have hO0 := hO
  have hS := Sub.refl O
  refine calls_of (args := [(.agg #[v0_1, v0_2]), (.agg #[(.int .u64 x1.f0), (.int .u64 x1.f1)]), v2]) (N := 165) Try.func4 rfl rfl rfl ?_
  unfold l_Order at h
  refine wc_seq ?_
  refine wc_region (l := [0, 1, 2]) rfl ?_
  refine wo_box rfl rfl rfl rfl rfl rfl [v0_1, v0_2] rfl hO (fun b4 w5 n6 => ?_)
  have h2 := h2.tr n6.tr
  have h0_1 := h0_1.tr n6.tr
  have h0_2 := h0_2.tr n6.tr
  have hb4 := n6.blk
  have gb4 := n6.ge0 hF
  have ib4 : b4 ∈ b4 :: O := List.mem_cons_self
  have hO := n6.ob
  have hF := hF.trans n6.fr
  have hS := Sub.cons hS b4
  refine wo_box rfl rfl rfl rfl rfl rfl [(.int .u64 x1.f0), (.int .u64 x1.f1)] rfl hO (fun b7 w8 n9 => ?_)
  have h2 := h2.tr n9.tr
  have h0_1 := h0_1.tr n9.tr
  have h0_2 := h0_2.tr n9.tr
  have nb7b4 : b7 ≠ b4 := by have := hb4.lt; have := n9.ge; omega
  have hb4 := hb4.fr0 n9.fr
  have ib4 := List.mem_cons_of_mem b7 ib4
  have hb7 := n9.blk
  have gb7 := n9.ge0 hF
  have ib7 : b7 ∈ b7 :: (b4 :: O) := List.mem_cons_self
  have hO := n9.ob
  have hF := hF.trans n9.fr
  have hS := Sub.cons hS b7
  refine wo_seg Θ_ok [2] [(2, v2), (3, (bp b4)), (4, (bp b7))] rfl ⟨rfl, rfl, rfl, trivial⟩ ?_
  refine wo_nil ?_
  refine wq_seq ?_
  refine wc_seq ?_
  refine wc_seq ?_
  refine wc_region (l := [0, 1]) rfl ?_
  obtain ⟨y14, hy15, h⟩ := bind_some h
  refine wo_gives rfl rfl rfl rfl rfl ent7 rfl (wakes_c hO hy15) (fun v10 w11 h12 f13 => ?_)
  have h2 := h2.tr f13.tr0
  have h0_1 := h0_1.tr f13.tr0
  have h0_2 := h0_2.tr f13.tr0
  have hb4 := hb4.fr0 f13
  have hb7 := hb7.fr0 f13
  have hO := f13.ob hO
  have hF := hF.trans f13
  obtain rfl := bool_is.1 h12
  refine wo_seg Θ_ok [1] [(2, v2), (3, (bp b4)), (4, (bp b7)), (25, (.bool (!y14)))] rfl ⟨rfl, rfl, rfl, rfl, trivial⟩ ?_
  refine wo_nil ?_
  refine wq_seq ?_
  rcases bif_some h with ⟨hc16, h⟩ | ⟨hc16, h⟩
  · refine wc_known_true rfl hc16 ?_
    refine wc_seq ?_
    refine wc_region (l := [0]) rfl ?_
    refine wo_seg Θ_ok [0] [(6, (.bool false))] rfl ⟨rfl, trivial⟩ ?_
    refine wo_nil ?_
    refine wq_seq ?_
    refine wc_ret ?_
    cases h
    exact wq_then_ret (wq_ret rfl ⟨_, rfl, (bool_is.2 rfl), hF⟩)
  refine wc_known_false rfl hc16 ?_
  refine wc_skip ?_
  refine wq_seq ?_
  refine wc_seq ?_
  refine wc_region (l := [0, 1, 2, 3]) rfl ?_
  refine wo_load Θ_ok rfl rfl rfl rfl rfl rfl rfl hb4 [v0_1, v0_2] rfl rfl (.inl rfl) (.agg #[v0_1, v0_2]) rfl ?_
  obtain ⟨y21, hy22, h⟩ := bind_some h
  refine wo_gives rfl rfl rfl rfl rfl ent8 rfl (own_c hO ((tGIpc_is (x := x0)).2 ⟨_, _, rfl, h0_1, h0_2⟩) hy22) (fun v17 w18 h19 f20 => ?_)
  have h2 := h2.tr f20.tr0
  have hb7 := hb7.fr0 f20
  have hO := f20.ob hO
  have hF := hF.trans f20
  obtain ⟨v23, v25, rfl, h24, h26⟩ := tGIpc_is.1 h19
  refine wo_alloc Θ_ok rfl rfl rfl rfl rfl rfl [(.slice none 0 0), (.slice none 0 0)] rfl hO (fun b27 w28 n29 => ?_)
  have h2 := h2.tr n29.tr
  have h24 := h24.tr n29.tr
  have h26 := h26.tr n29.tr
  have nb27b7 : b27 ≠ b7 := by have := hb7.lt; have := n29.ge; omega
  have hb7 := hb7.fr0 n29.fr
  have ib7 := List.mem_cons_of_mem b27 ib7
  have hb27 := n29.blk
  have gb27 := n29.ge0 hF
  have ib27 : b27 ∈ b27 :: (b7 :: b4 :: O) := List.mem_cons_self
  have hO := n29.ob
  have hF := hF.trans n29.fr
  have hS := Sub.cons hS b27
  obtain ⟨A30, c31, rfl, hlc31, hmc31⟩ := slice_form h24
  obtain ⟨A32, c33, rfl, hlc33, hmc33⟩ := slice_form h26
  refine wo_store Θ_ok rfl rfl rfl rfl rfl rfl rfl hb27 [(.slice A30 y21.fNames.length c31), (.slice A32 y21.fBoxes.length c33)] rfl rfl (by simp [Value.oneCell']) rfl [(.slice A30 y21.fNames.length c31), (.slice A32 y21.fBoxes.length c33)] rfl (fun w34 hb27 f35 => ?_)
  have h2 := h2.tr (f35.tr (one_in ib27))
  have h24 := h24.tr (f35.tr (one_in ib27))
  have h26 := h26.tr (f35.tr (one_in ib27))
  have hb7 := hb7.fr f35 (nin nb27b7.symm)
  have hO := f35.ob hO
  have hF := hF.own f35 gb27
  refine wo_nil ?_
  refine wq_seq ?_
  refine wc_seq ?_
  refine wc_seq ?_
  refine wc_region (l := [0, 1, 2, 3, 4, 5, 6, 7, 8, 9]) rfl ?_
  refine wo_load Θ_ok rfl rfl rfl rfl rfl rfl rfl hb27 [(.slice A30 y21.fNames.length c31), (.slice A32 y21.fBoxes.length c33)] rfl rfl (.inl rfl) (.agg #[(.slice A30 y21.fNames.length c31), (.slice A32 y21.fBoxes.length c33)]) rfl ?_
  obtain ⟨y40, hy41, h⟩ := bind_some h
  refine wo_gives rfl rfl rfl rfl rfl ent16 rfl (i_Check_c hO ((tGIpc_is (x := y21)).2 ⟨_, _, rfl, h24, h26⟩) hy41) (fun v36 w37 h38 f39 => ?_)
  have h2 := h2.tr f39.tr0
  have h24 := h24.tr f39.tr0
  have h26 := h26.tr f39.tr0
  have hb7 := hb7.fr0 f39
  have hb27 := hb27.fr0 f39
  have hO := f39.ob hO
  have hF := hF.trans f39
  obtain rfl := int_is.1 h38
  refine wo_seg Θ_ok [2, 3] [(2, v2), (4, (bp b7)), (7, (bp b27)), (31, (.bool (y40 != (0 : Int))))] rfl ⟨rfl, rfl, rfl, rfl, trivial⟩ ?_
  rcases bif_some h with ⟨hc42, h⟩ | ⟨hc42, h⟩
  · refine wo_know 31 true rfl hc42 ?_
    refine wo_seg Θ_ok [4, 5, 6, 7, 8, 9] [(2, v2), (4, (bp b7)), (7, (bp b27)), (37, (.bool true))] rfl ⟨rfl, rfl, rfl, rfl, trivial⟩ ?_
    refine wo_nil ?_
    refine wq_seq ?_
    refine wc_true rfl ?_
    refine wc_seq ?_
    refine wc_region (l := [0]) rfl ?_
    refine wo_seg Θ_ok [0] [(6, (.bool true))] rfl ⟨rfl, trivial⟩ ?_
    refine wo_nil ?_
    refine wq_seq ?_
    refine wc_ret ?_
    cases h
    exact wq_then_ret (wq_ret rfl ⟨_, rfl, (bool_is.2 rfl), hF⟩)
  refine wo_know 31 false rfl hc42 ?_
  refine wo_aindexC (j := 0) Θ_ok rfl rfl rfl rfl rfl rfl rfl rfl rfl rfl rfl rfl ?_
  refine wo_load Θ_ok rfl rfl rfl rfl rfl rfl rfl hb7 [(.int .u64 x1.f0)] rfl rfl (.inr rfl) (.int .u64 x1.f0) rfl ?_
  refine wo_aindexC (j := 1) Θ_ok rfl rfl rfl rfl rfl rfl rfl rfl rfl rfl rfl rfl ?_
  refine wo_load Θ_ok rfl rfl rfl rfl rfl rfl rfl hb7 [(.int .u64 x1.f1)] rfl rfl (.inr rfl) (.int .u64 x1.f1) rfl ?_
  refine wo_seg Θ_ok [8, 9] [(2, v2), (4, (bp b7)), (7, (bp b27)), (37, (.bool (x1.f0 == x1.f1)))] rfl ⟨rfl, rfl, rfl, rfl, trivial⟩ ?_
  refine wo_nil ?_
  refine wq_seq ?_
  rcases bif_some h with ⟨hc43, h⟩ | ⟨hc43, h⟩
  · refine wc_known_true rfl hc43 ?_
    refine wc_seq ?_
    refine wc_region (l := [0]) rfl ?_
    refine wo_seg Θ_ok [0] [(6, (.bool true))] rfl ⟨rfl, trivial⟩ ?_
    refine wo_nil ?_
    refine wq_seq ?_
    refine wc_ret ?_
    cases h
    exact wq_then_ret (wq_ret rfl ⟨_, rfl, (bool_is.2 rfl), hF⟩)
  refine wc_known_false rfl hc43 ?_
  refine wc_skip ?_
  refine wq_seq ?_
  refine wc_seq ?_
  refine wc_region (l := [0, 1, 2, 3, 4, 5, 6, 7, 8, 9, 10]) rfl ?_
  refine wo_load Θ_ok rfl rfl rfl rfl rfl rfl rfl hb27 [(.slice A30 y21.fNames.length c31), (.slice A32 y21.fBoxes.length c33)] rfl rfl (.inl rfl) (.agg #[(.slice A30 y21.fNames.length c31), (.slice A32 y21.fBoxes.length c33)]) rfl ?_
  refine wo_aindexC (j := 0) Θ_ok rfl rfl rfl rfl rfl rfl rfl rfl rfl rfl rfl rfl ?_
  refine wo_load Θ_ok rfl rfl rfl rfl rfl rfl rfl hb7 [(.int .u64 x1.f0)] rfl rfl (.inr rfl) (.int .u64 x1.f0) rfl ?_
  obtain ⟨y48, hy49, h⟩ := bind_some h
  refine wo_gives rfl rfl rfl rfl rfl ent17 rfl (i_Clear_c hO ((tGIpc_is (x := y21)).2 ⟨_, _, rfl, h24, h26⟩) (int_is.2 rfl) hy49) (fun v44 w45 h46 f47 => ?_)
  have h2 := h2.tr f47.tr0
  have h24 := h24.tr f47.tr0
  have h26 := h26.tr f47.tr0
  have hb7 := hb7.fr0 f47
  have hb27 := hb27.fr0 f47
  have hO := f47.ob hO
  have hF := hF.trans f47
  obtain ⟨u50, u52, u54, rfl, h51, h53, h55⟩ := h46
  obtain ⟨v56, v58, rfl, h57, h59⟩ := tGIpc_is.1 h51
  obtain rfl := int_is.1 h53
  obtain rfl := int_is.1 h55
  refine wo_seg Θ_ok [4, 5, 6, 7] [(2, v2), (4, (bp b7)), (7, (bp b27)), (43, (.agg #[v56, v58])), (44, (.int .i64 y48.2.1)), (45, (.int .i64 y48.2.2))] rfl ⟨rfl, rfl, rfl, rfl, rfl, rfl, trivial⟩ ?_
  obtain ⟨A60, c61, rfl, hlc61, hmc61⟩ := slice_form h57
  obtain ⟨A62, c63, rfl, hlc63, hmc63⟩ := slice_form h59
  refine wo_store Θ_ok rfl rfl rfl rfl rfl rfl rfl hb27 [(.slice A60 y48.1.fNames.length c61), (.slice A62 y48.1.fBoxes.length c63)] rfl rfl (by simp [Value.oneCell']) rfl [(.slice A60 y48.1.fNames.length c61), (.slice A62 y48.1.fBoxes.length c63)] rfl (fun w64 hb27 f65 => ?_)
  have h2 := h2.tr (f65.tr (one_in ib27))
  have h57 := h57.tr (f65.tr (one_in ib27))
  have h59 := h59.tr (f65.tr (one_in ib27))
  have hb7 := hb7.fr f65 (nin nb27b7.symm)
  have hO := f65.ob hO
  have hF := hF.own f65 gb27
  refine wo_seg Θ_ok [9, 10] [(2, v2), (4, (bp b7)), (7, (bp b27)), (9, (.int .i64 y48.2.2))] rfl ⟨rfl, rfl, rfl, rfl, trivial⟩ ?_
  refine wo_nil ?_
  refine wq_seq ?_
  refine wc_seq ?_
  refine wc_seq ?_
  refine wc_region (l := [0, 1]) rfl ?_
  refine wo_seg Θ_ok [0, 1] [(2, v2), (4, (bp b7)), (7, (bp b27)), (9, (.int .i64 y48.2.2)), (47, (.bool (y48.2.2 != (0 : Int))))] rfl ⟨rfl, rfl, rfl, rfl, rfl, trivial⟩ ?_
  refine wo_nil ?_
  refine wq_seq ?_
  rcases bif_some h with ⟨hc66, h⟩ | ⟨hc66, h⟩
  · refine wc_known_true rfl hc66 ?_
    refine wc_seq ?_
    refine wc_region (l := [0, 1, 2]) rfl ?_
    refine wo_seg Θ_ok [0, 1, 2] [(6, (.bool (y48.2.2 == (2 : Int))))] rfl ⟨rfl, trivial⟩ ?_
    refine wo_nil ?_
    refine wq_seq ?_
    refine wc_ret ?_
    cases h
    exact wq_then_ret (wq_ret rfl ⟨_, rfl, (bool_is.2 rfl), hF⟩)
  refine wc_known_false rfl hc66 ?_
  refine wc_skip ?_
  refine wq_seq ?_
  refine wc_seq ?_
  obtain ⟨y67, hy68, h⟩ := bind_some h
  obtain ⟨y69, hy70, h⟩ := bind_some h
  refine wc_draw mixed [⟨50, [], [7]⟩, ⟨51, [], [4]⟩, ⟨52, [1], []⟩, ⟨53, [0, 2], []⟩, ⟨54, [], [7]⟩, ⟨55, [], [4]⟩, ⟨56, [5], []⟩, ⟨57, [4, 6], []⟩, ⟨10, [3], []⟩, ⟨11, [7], []⟩] [SP.eq (.agg #[(.slice A60 y48.1.fNames.length c61), (.slice A62 y48.1.fBoxes.length c63)]), SP.eq (bp b7), SP.eq (.int .u64 x1.f0), SP.is (Ty.slice (Ty.int .u64)) (b27 :: b7 :: b4 :: O) y67, SP.eq (.agg #[(.slice A60 y48.1.fNames.length c61), (.slice A62 y48.1.fBoxes.length c63)]), SP.eq (.pointer (some ⟨b7, 1, none⟩)), SP.eq (.int .u64 x1.f1), SP.is (Ty.slice (Ty.int .u64)) (b27 :: b7 :: b4 :: O) y69, SP.is (Ty.slice (Ty.int .u64)) (b27 :: b7 :: b4 :: O) y67, SP.is (Ty.slice (Ty.int .u64)) (b27 :: b7 :: b4 :: O) y69] rfl rfl rfl ⟨?_, ?_, ?_, ?_, ?_, ?_, ?_, ?_, ?_, ?_, trivial⟩ ?_
  · intro a w2 hfr hN hds hb hd
    have hb27 := hb27.fr0 hfr
    exact op_load Θ_ok ⟨hN, hds, rows_get (E := [(7, (bp b27))]) ⟨hb 7 rfl _ rfl, trivial⟩⟩ rfl rfl rfl rfl rfl rfl hb27 [(.slice A60 y48.1.fNames.length c61), (.slice A62 y48.1.fBoxes.length c63)] rfl rfl (.inl rfl) (.agg #[(.slice A60 y48.1.fNames.length c61), (.slice A62 y48.1.fBoxes.length c63)]) rfl
  · intro a w2 hfr hN hds hb hd
    exact op_aindexC (j := 0) Θ_ok ⟨hN, hds, rows_get (E := [(4, (bp b7))]) ⟨hb 4 rfl _ rfl, trivial⟩⟩ rfl rfl rfl rfl rfl rfl rfl rfl rfl rfl rfl
  · intro a w2 hfr hN hds hb hd
    have hb7 := hb7.fr0 hfr
    exact op_load Θ_ok ⟨hN, hds, rows_get (E := [(51, (bp b7))]) ⟨(hd 1 rfl _ _ rfl rfl), trivial⟩⟩ rfl rfl rfl rfl rfl rfl hb7 [(.int .u64 x1.f0)] rfl rfl (.inr rfl) (.int .u64 x1.f0) rfl
  · intro a w2 hfr hN hds hb hd
    have h57 := h57.tr hfr.tr0
    have h59 := h59.tr hfr.tr0
    exact (op_call ⟨hN, hds, rows_get (E := [(50, (.agg #[(.slice A60 y48.1.fNames.length c61), (.slice A62 y48.1.fBoxes.length c63)])), (52, (.int .u64 x1.f0))]) ⟨(hd 0 rfl _ _ rfl rfl), (hd 2 rfl _ _ rfl rfl), trivial⟩⟩ rfl rfl rfl rfl ent18 rfl (i_Held_c (hfr.ob hO) ((tGIpc_is (x := y48.1)).2 ⟨_, _, rfl, h57, h59⟩) (int_is.2 rfl) hy68)).weaken (fun u w3 ⟨hu, hf⟩ => ⟨hu, hf⟩)
  · intro a w2 hfr hN hds hb hd
    have hb27 := hb27.fr0 hfr
    exact op_load Θ_ok ⟨hN, hds, rows_get (E := [(7, (bp b27))]) ⟨hb 7 rfl _ rfl, trivial⟩⟩ rfl rfl rfl rfl rfl rfl hb27 [(.slice A60 y48.1.fNames.length c61), (.slice A62 y48.1.fBoxes.length c63)] rfl rfl (.inl rfl) (.agg #[(.slice A60 y48.1.fNames.length c61), (.slice A62 y48.1.fBoxes.length c63)]) rfl
  · intro a w2 hfr hN hds hb hd
    exact op_aindexC (j := 1) Θ_ok ⟨hN, hds, rows_get (E := [(4, (bp b7))]) ⟨hb 4 rfl _ rfl, trivial⟩⟩ rfl rfl rfl rfl rfl rfl rfl rfl rfl rfl rfl
  · intro a w2 hfr hN hds hb hd
    have hb7 := hb7.fr0 hfr
    exact op_load Θ_ok ⟨hN, hds, rows_get (E := [(55, (.pointer (some ⟨b7, 1, none⟩)))]) ⟨(hd 5 rfl _ _ rfl rfl), trivial⟩⟩ rfl rfl rfl rfl rfl rfl hb7 [(.int .u64 x1.f1)] rfl rfl (.inr rfl) (.int .u64 x1.f1) rfl
  · intro a w2 hfr hN hds hb hd
    have h57 := h57.tr hfr.tr0
    have h59 := h59.tr hfr.tr0
    exact (op_call ⟨hN, hds, rows_get (E := [(54, (.agg #[(.slice A60 y48.1.fNames.length c61), (.slice A62 y48.1.fBoxes.length c63)])), (56, (.int .u64 x1.f1))]) ⟨(hd 4 rfl _ _ rfl rfl), (hd 6 rfl _ _ rfl rfl), trivial⟩⟩ rfl rfl rfl rfl ent18 rfl (i_Held_c (hfr.ob hO) ((tGIpc_is (x := y48.1)).2 ⟨_, _, rfl, h57, h59⟩) (int_is.2 rfl) hy70)).weaken (fun u w3 ⟨hu, hf⟩ => ⟨hu, hf⟩)
  · intro a w2 hfr hN hds hb hd
    have d73 : (Ty.slice (Ty.int .u64)).is (b27 :: b7 :: b4 :: O) w2 (a.tmps.getD 53 undef) y67 := hd 3 rfl _ _ rfl rfl
    obtain ⟨u71, e72⟩ : ∃ v, a.tmps.getD 53 undef = v := ⟨_, rfl⟩
    rw [e72] at d73
    exact (op_plain Θ_ok ⟨hN, hds, rows_get (E := [(53, u71)]) ⟨e72, trivial⟩⟩ rfl rfl rfl rfl rfl).weaken (fun u w3 ⟨hu, hf⟩ => by subst hu; exact ⟨d73.tr hf.tr0, hf⟩)
  · intro a w2 hfr hN hds hb hd
    have d76 : (Ty.slice (Ty.int .u64)).is (b27 :: b7 :: b4 :: O) w2 (a.tmps.getD 57 undef) y69 := hd 7 rfl _ _ rfl rfl
    obtain ⟨u74, e75⟩ : ∃ v, a.tmps.getD 57 undef = v := ⟨_, rfl⟩
    rw [e75] at d76
    exact (op_plain Θ_ok ⟨hN, hds, rows_get (E := [(57, u74)]) ⟨e75, trivial⟩⟩ rfl rfl rfl rfl rfl).weaken (fun u w3 ⟨hu, hf⟩ => by subst hu; exact ⟨d76.tr hf.tr0, hf⟩)
  intro a w78 f77 hN hds hb hr
  have h2 := h2.tr f77.tr0
  have h57 := h57.tr f77.tr0
  have h59 := h59.tr f77.tr0
  have hb7 := hb7.fr0 f77
  have hb27 := hb27.fr0 f77
  have hO := f77.ob hO
  have hF := hF.trans f77
  have h81 : (Ty.slice (Ty.int .u64)).is (b27 :: b7 :: b4 :: O) w78 (a.tmps.getD 10 undef) y67 := hr 8 _ _ rfl rfl
  obtain ⟨v79, e80⟩ : ∃ v, a.tmps.getD 10 undef = v := ⟨_, rfl⟩
  rw [e80] at h81
  have h84 : (Ty.slice (Ty.int .u64)).is (b27 :: b7 :: b4 :: O) w78 (a.tmps.getD 11 undef) y69 := hr 9 _ _ rfl rfl
  obtain ⟨v82, e83⟩ : ∃ v, a.tmps.getD 11 undef = v := ⟨_, rfl⟩
  rw [e83] at h84
  refine wq_go (E := [(2, v2), (4, (bp b7)), (7, (bp b27)), (10, v79), (11, v82)]) hN hds ⟨hb 2 _ rfl rfl, hb 4 _ rfl rfl, hb 7 _ rfl rfl, e80, e83, trivial⟩ ?_
  refine wq_seq ?_
  refine wc_seq ?_
  refine wc_region (l := [0]) rfl ?_
  refine wo_seg Θ_ok [0] [(2, v2), (4, (bp b7)), (7, (bp b27)), (10, v79), (11, v82), (12, (.slice none 0 0))] rfl ⟨rfl, rfl, rfl, rfl, rfl, rfl, trivial⟩ ?_
  refine wo_nil ?_
  refine wq_seq ?_
  obtain ⟨k86, hk87, h⟩ := letk_some h
  refine wc_join (fun E W => ∃ (O98 : List Nat) (p90 : List Int) (p93 : GIpc) (v91 : Value) (v94 : Value) (v96 : Value), E = [(4, (bp b7)), (7, (bp b27)), (10, v79), (11, v82), (12, v91)] ∧ Tr (b27 :: b7 :: b4 :: O) w78 O98 W ∧ OB O98 W ∧ Sub O O98 ∧ Fr [] w W ∧ b7 ∈ O98 ∧ Blk W b7 39 [(.int .u64 x1.f0), (.int .u64 x1.f1)] ∧ b27 ∈ O98 ∧ Blk W b27 25 [v94, v96] ∧ Go.Dc.OwnD (Ty.int .u64) 29 w.heap.size O98 W v91 p90 ∧ v91.ownBlock ≠ some b7 ∧ v91.ownBlock ≠ some b27 ∧ (Ty.slice tGName).is O98 W v94 p93.fNames ∧ (Ty.slice tGBox).is O98 W v96 p93.fBoxes ∧ k86 p90 p93 = some r) ?_ (fun K88 hK89 => ?_)
  · rintro E w99 ⟨O98, p90, p93, v91, v94, v96, rfl, T85, hO, hS, hF, ib7, hb7, ib27, hb27, h92, qh92b7, qh92b27, h95, h97, h⟩
    have h81 := h81.tr T85
    have h84 := h84.tr T85
    subst hk87
    (try dsimp only at h)
    refine wc_seq ?_
    refine wc_region (l := [0, 1, 2, 3, 4, 5, 6, 7, 8, 9, 10, 11]) rfl ?_
    refine wo_load Θ_ok rfl rfl rfl rfl rfl rfl rfl hb27 [v94, v96] rfl rfl (.inl rfl) (.agg #[v94, v96]) rfl ?_
    refine wo_aindexC (j := 0) Θ_ok rfl rfl rfl rfl rfl rfl rfl rfl rfl rfl rfl rfl ?_
    refine wo_load Θ_ok rfl rfl rfl rfl rfl rfl rfl hb7 [(.int .u64 x1.f0)] rfl rfl (.inr rfl) (.int .u64 x1.f0) rfl ?_
    obtain ⟨y104, hy105, h⟩ := bind_some h
    refine wo_gives rfl rfl rfl rfl rfl ent17 rfl (i_Clear_c hO ((tGIpc_is (x := p93)).2 ⟨_, _, rfl, h95, h97⟩) (int_is.2 rfl) hy105) (fun v100 w101 h102 f103 => ?_)
    have h81 := h81.tr f103.tr0
    have h84 := h84.tr f103.tr0
    have h95 := h95.tr f103.tr0
    have h97 := h97.tr f103.tr0
    have hb7 := hb7.fr0 f103
    have hb27 := hb27.fr0 f103
    have h92 := h92.fr0 f103
    have hO := f103.ob hO
    have hF := hF.trans f103
    obtain ⟨u106, u108, u110, rfl, h107, h109, h111⟩ := h102
    obtain ⟨v112, v114, rfl, h113, h115⟩ := tGIpc_is.1 h107
    obtain rfl := int_is.1 h109
    obtain rfl := int_is.1 h111
    refine wo_seg Θ_ok [4, 5, 6, 7] [(4, (bp b7)), (7, (bp b27)), (10, v79), (11, v82), (12, v91), (138, (.agg #[v112, v114])), (139, (.int .i64 y104.2.1)), (140, (.int .i64 y104.2.2))] rfl ⟨rfl, rfl, rfl, rfl, rfl, rfl, rfl, rfl, trivial⟩ ?_
    refine wo_alloc Θ_ok rfl rfl rfl rfl rfl rfl [(.slice none 0 0), (.slice none 0 0)] rfl hO (fun b116 w117 n118 => ?_)
    have h81 := h81.tr n118.tr
    have h84 := h84.tr n118.tr
    have h113 := h113.tr n118.tr
    have h115 := h115.tr n118.tr
    have h95 := h95.tr n118.tr
    have h97 := h97.tr n118.tr
    have qh92b116 := h92.ne_new n118
    have h92 := h92.new n118
    have nb116b7 : b116 ≠ b7 := by have := hb7.lt; have := n118.ge; omega
    have hb7 := hb7.fr0 n118.fr
    have ib7 := List.mem_cons_of_mem b116 ib7
    have nb116b27 : b116 ≠ b27 := by have := hb27.lt; have := n118.ge; omega
    have hb27 := hb27.fr0 n118.fr
    have ib27 := List.mem_cons_of_mem b116 ib27
    have hb116 := n118.blk
    have gb116 := n118.ge0 hF
    have ib116 : b116 ∈ b116 :: O98 := List.mem_cons_self
    have hO := n118.ob
    have hF := hF.trans n118.fr
    have hS := Sub.cons hS b116
    obtain ⟨A119, c120, rfl, hlc120, hmc120⟩ := slice_form h113
    obtain ⟨A121, c122, rfl, hlc122, hmc122⟩ := slice_form h115
    refine wo_store Θ_ok rfl rfl rfl rfl rfl rfl rfl hb116 [(.slice A119 y104.1.fNames.length c120), (.slice A121 y104.1.fBoxes.length c122)] rfl rfl (by simp [Value.oneCell']) rfl [(.slice A119 y104.1.fNames.length c120), (.slice A121 y104.1.fBoxes.length c122)] rfl (fun w123 hb116 f124 => ?_)
    have h81 := h81.tr (f124.tr (one_in ib116))
    have h84 := h84.tr (f124.tr (one_in ib116))
    have h95 := h95.tr (f124.tr (one_in ib116))
    have h97 := h97.tr (f124.tr (one_in ib116))
    have hb7 := hb7.fr f124 (nin nb116b7.symm)
    have hb27 := hb27.fr f124 (nin nb116b27.symm)
    have h92 := h92.st f124 ib116 qh92b116
    have hO := f124.ob hO
    have hF := hF.own f124 gb116
    refine wo_seg Θ_ok [10, 11] [(4, (bp b7)), (7, (bp b27)), (9, (.int .i64 y104.2.2)), (10, v79), (11, v82), (12, v91), (23, (.int .i64 y104.2.1))] rfl ⟨rfl, rfl, rfl, rfl, rfl, rfl, rfl, trivial⟩ ?_
    refine wo_nil ?_
    refine wq_seq ?_
    refine wc_seq ?_
    refine wc_region (l := [0, 1, 2, 3, 4, 5, 6, 7, 8, 9, 10, 11, 12, 13, 14, 15, 16, 17, 18, 19, 20, 21, 22, 23, 24]) rfl ?_
    refine wo_seg Θ_ok [0, 1, 2] [(4, (bp b7)), (7, (bp b27)), (10, v79), (11, v82), (12, v91), (23, (.int .i64 y104.2.1)), (143, (.bool (y104.2.2 == (0 : Int))))] rfl ⟨rfl, rfl, rfl, rfl, rfl, rfl, rfl, trivial⟩ ?_
    rcases bif_some h with ⟨hc125, h⟩ | ⟨hc125, h⟩
    rotate_left
    · refine wo_know 143 false rfl hc125 ?_
      refine wo_seg Θ_ok [3, 4, 5, 6, 7, 8, 9, 10, 11, 12, 13, 14, 15, 16, 17, 18, 19, 20, 21, 22, 23, 24] [(6, (.bool false))] rfl ⟨rfl, trivial⟩ ?_
      refine wo_nil ?_
      refine wq_seq ?_
      refine wc_ret ?_
      cases h
      exact wq_ret rfl ⟨_, rfl, (bool_is.2 rfl), hF⟩
    refine wo_know 143 true rfl hc125 ?_
    refine wo_seg Θ_ok [3, 4] [(4, (bp b7)), (7, (bp b27)), (10, v79), (11, v82), (143, (.bool true)), (144, (.int .i64 y104.2.1)), (145, v91)] rfl ⟨rfl, rfl, rfl, rfl, rfl, rfl, rfl, trivial⟩ ?_
    obtain ⟨A126, c127, rfl, hlc127, hmc127⟩ := h92.form
    refine wo_seg Θ_ok [5] [(4, (bp b7)), (7, (bp b27)), (10, v79), (11, v82), (143, (.bool true)), (144, (.int .i64 y104.2.1)), (146, (.int .i64 (p90.length : Int)))] rfl ⟨rfl, rfl, rfl, rfl, rfl, rfl, rfl, trivial⟩ ?_
    refine wo_seg Θ_ok [6, 7, 8] [(4, (bp b7)), (7, (bp b27)), (10, v79), (11, v82), (149, (.bool (y104.2.1 == (p90.length : Int))))] rfl ⟨rfl, rfl, rfl, rfl, rfl, trivial⟩ ?_
    rcases bif_some h with ⟨hc128, h⟩ | ⟨hc128, h⟩
    rotate_left
    · refine wo_know 149 false rfl hc128 ?_
      refine wo_seg Θ_ok [9, 10, 11, 12, 13, 14, 15, 16, 17, 18, 19, 20, 21, 22, 23, 24] [(6, (.bool false))] rfl ⟨rfl, trivial⟩ ?_
      refine wo_nil ?_
      refine wq_seq ?_
      refine wc_ret ?_
      cases h
      exact wq_ret rfl ⟨_, rfl, (bool_is.2 rfl), hF⟩
    refine wo_know 149 true rfl hc128 ?_
    refine wo_load Θ_ok rfl rfl rfl rfl rfl rfl rfl hb27 [v94, v96] rfl rfl (.inl rfl) (.agg #[v94, v96]) rfl ?_
    refine wo_aindexC (j := 0) Θ_ok rfl rfl rfl rfl rfl rfl rfl rfl rfl rfl rfl rfl ?_
    refine wo_load Θ_ok rfl rfl rfl rfl rfl rfl rfl hb7 [(.int .u64 x1.f0)] rfl rfl (.inr rfl) (.int .u64 x1.f0) rfl ?_
    obtain ⟨y133, hy134, h⟩ := bind_some h
    refine wo_gives rfl rfl rfl rfl rfl ent18 rfl (i_Held_c hO ((tGIpc_is (x := p93)).2 ⟨_, _, rfl, h95, h97⟩) (int_is.2 rfl) hy134) (fun v129 w130 h131 f132 => ?_)
    have h81 := h81.tr f132.tr0
    have h84 := h84.tr f132.tr0
    have h95 := h95.tr f132.tr0
    have h97 := h97.tr f132.tr0
    have hb7 := hb7.fr0 f132
    have hb27 := hb27.fr0 f132
    have hO := f132.ob hO
    have hF := hF.trans f132
    refine wo_seg Θ_ok [13] [(4, (bp b7)), (7, (bp b27)), (11, v82), (149, (.bool true)), (153, v129), (154, v79)] rfl ⟨rfl, rfl, rfl, rfl, rfl, rfl, trivial⟩ ?_
    obtain ⟨y139, hy140, h⟩ := bind_some h
    refine wo_gives rfl rfl rfl rfl rfl ent21 rfl (s_Equal_c hO h131 h81 hy140) (fun v135 w136 h137 f138 => ?_)
    have h84 := h84.tr f138.tr0
    have h95 := h95.tr f138.tr0
    have h97 := h97.tr f138.tr0
    have hb7 := hb7.fr0 f138
    have hb27 := hb27.fr0 f138
    have hO := f138.ob hO
    have hF := hF.trans f138
    obtain rfl := bool_is.1 h137
    refine wo_seg Θ_ok [15, 16] [(4, (bp b7)), (7, (bp b27)), (11, v82), (157, (.bool y139))] rfl ⟨rfl, rfl, rfl, rfl, trivial⟩ ?_
    rcases bif_some h with ⟨hc141, h⟩ | ⟨hc141, h⟩
    rotate_left
    · refine wo_know 157 false rfl hc141 ?_
      refine wo_seg Θ_ok [17, 18, 19, 20, 21, 22, 23, 24] [(6, (.bool false))] rfl ⟨rfl, trivial⟩ ?_
      refine wo_nil ?_
      refine wq_seq ?_
      refine wc_ret ?_
      cases h
      exact wq_ret rfl ⟨_, rfl, (bool_is.2 rfl), hF⟩
    refine wo_know 157 true rfl hc141 ?_
    refine wo_load Θ_ok rfl rfl rfl rfl rfl rfl rfl hb27 [v94, v96] rfl rfl (.inl rfl) (.agg #[v94, v96]) rfl ?_
    refine wo_aindexC (j := 1) Θ_ok rfl rfl rfl rfl rfl rfl rfl rfl rfl rfl rfl rfl ?_
    refine wo_load Θ_ok rfl rfl rfl rfl rfl rfl rfl hb7 [(.int .u64 x1.f1)] rfl rfl (.inr rfl) (.int .u64 x1.f1) rfl ?_
    obtain ⟨y146, hy147, h⟩ := bind_some h
    refine wo_gives rfl rfl rfl rfl rfl ent18 rfl (i_Held_c hO ((tGIpc_is (x := p93)).2 ⟨_, _, rfl, h95, h97⟩) (int_is.2 rfl) hy147) (fun v142 w143 h144 f145 => ?_)
    have h84 := h84.tr f145.tr0
    have hO := f145.ob hO
    have hF := hF.trans f145
    refine wo_seg Θ_ok [21] [(157, (.bool true)), (161, v142), (162, v82)] rfl ⟨rfl, rfl, rfl, trivial⟩ ?_
    obtain ⟨y152, hy153, h⟩ := bind_some h
    refine wo_gives rfl rfl rfl rfl rfl ent21 rfl (s_Equal_c hO h144 h84 hy153) (fun v148 w149 h150 f151 => ?_)
    have hO := f151.ob hO
    have hF := hF.trans f151
    obtain rfl := bool_is.1 h150
    refine wo_seg Θ_ok [23, 24] [(6, (.bool y152))] rfl ⟨rfl, trivial⟩ ?_
    refine wo_nil ?_
    refine wq_seq ?_
    refine wc_ret ?_
    cases h
    exact wq_ret rfl ⟨_, rfl, (bool_is.2 rfl), hF⟩
  clear hk87
  have T85 := Tr.refl (b27 :: b7 :: b4 :: O) w78
  refine wc_seq ?_
  refine wc_region (l := [0, 1, 2]) rfl ?_
  refine wo_seg Θ_ok [0] [(4, (bp b7)), (7, (bp b27)), (10, v79), (11, v82), (12, (.slice none 0 0)), (58, v2)] rfl ⟨rfl, rfl, rfl, rfl, rfl, rfl, trivial⟩ ?_
  obtain ⟨A154, c155, rfl, hlc155, hmc155⟩ := slice_form h2
  refine wo_seg Θ_ok [1] [(4, (bp b7)), (7, (bp b27)), (10, v79), (11, v82), (12, (.slice none 0 0)), (58, (.slice A154 x2.length c155)), (59, (.int .i64 (x2.length : Int)))] rfl ⟨rfl, rfl, rfl, rfl, rfl, rfl, rfl, trivial⟩ ?_
  refine wo_seg Θ_ok [2] [(4, (bp b7)), (7, (bp b27)), (10, v79), (11, v82), (12, (.slice none 0 0)), (58, (.slice A154 x2.length c155)), (59, (.int .i64 (x2.length : Int))), (60, (.int .i64 0))] rfl ⟨rfl, rfl, rfl, rfl, rfl, rfl, rfl, rfl, trivial⟩ ?_
  refine wo_nil ?_
  refine wq_seq ?_
  refine wc_block ?_
  refine wc_loop (fun m E W => ∃ (rest166 : List Int) (i165 : Nat) (O169 : List Nat) (p157 : List Int) (p160 : GIpc) (v158 : Value) (v161 : Value) (v163 : Value), rest166.length = m ∧ x2.drop i165 = rest166 ∧ E = [(4, (bp b7)), (7, (bp b27)), (10, v79), (11, v82), (12, v158), (58, (.slice A154 x2.length c155)), (59, (.int .i64 (x2.length : Int))), (60, (.int .i64 (i165 : Int)))] ∧ Tr (b27 :: b7 :: b4 :: O) w78 O169 W ∧ OB O169 W ∧ Sub O O169 ∧ Fr [] w W ∧ b7 ∈ O169 ∧ Blk W b7 39 [(.int .u64 x1.f0), (.int .u64 x1.f1)] ∧ b27 ∈ O169 ∧ Blk W b27 25 [v161, v163] ∧ Go.Dc.OwnD (Ty.int .u64) 29 w.heap.size O169 W v158 p157 ∧ v158.ownBlock ≠ some b7 ∧ v158.ownBlock ≠ some b27 ∧ (Ty.slice tGName).is O169 W v161 p160.fNames ∧ (Ty.slice tGBox).is O169 W v163 p160.fBoxes ∧ l_Order_l1 x1 k86 fuel rest166 i165 p157 p160 = some r) _ [(4, (bp b7)), (7, (bp b27)), (10, v79), (11, v82), (12, (.slice none 0 0)), (58, (.slice A154 x2.length c155)), (59, (.int .i64 (x2.length : Int))), (60, (.int .i64 ((0 : Nat) : Int)))] ⟨rfl, rfl, rfl, rfl, rfl, rfl, rfl, rfl, trivial⟩ ⟨x2, 0, b27 :: b7 :: b4 :: O, ([] : List Int), y48.1, (.slice none 0 0), (.slice A60 y48.1.fNames.length c61), (.slice A62 y48.1.fBoxes.length c63), rfl, rfl, rfl, Tr.refl _ _, hO, hS, hF, ib7, hb7, ib27, hb27, (Go.Dc.OwnD.nil_ : Go.Dc.OwnD (Ty.int .u64) 29 w.heap.size _ _ _ _), (nil_ne _), (nil_ne _), h57, h59, h⟩ ?_
  rintro m E w170 ⟨rest166, i165, O169, p157, p160, v158, v161, v163, rfl, hd168, rfl, T156, hO, hS, hF, ib7, hb7, ib27, hb27, h159, qh159b7, qh159b27, h162, h164, h⟩
  have T85 := T85.trans T156
  have h81 := h81.tr T156
  have h84 := h84.tr T156
  have h2 := h2.tr T156
  rcases rest166 with _ | ⟨z167, rest166⟩
  · rw [l_Order_l1] at h
    have hl174 := drop_nil hd168
    have hc171 : (decide ((i165 : Int) < (x2.length : Int))) = false := decide_eq_false (by omega)
    refine wc_seq ?_
    refine wc_region (l := [0]) rfl ?_
    refine wo_seg Θ_ok [0] [(4, (bp b7)), (7, (bp b27)), (10, v79), (11, v82), (12, v158), (58, (.slice A154 x2.length c155)), (59, (.int .i64 (x2.length : Int))), (60, (.int .i64 (i165 : Int))), (61, (.bool (decide ((i165 : Int) < (x2.length : Int)))))] rfl ⟨rfl, rfl, rfl, rfl, rfl, rfl, rfl, rfl, rfl, trivial⟩ ?_
    refine wo_nil ?_
    refine wq_seq ?_
    refine wc_seq ?_
    refine wc_known_false rfl hc171 ?_
    refine wc_exit ?_
    exact wq_then_exit (wq_then_exit (wq_block_exit (wq_join hK89 [(4, (bp b7)), (7, (bp b27)), (10, v79), (11, v82), (12, v158)] ⟨rfl, rfl, rfl, rfl, rfl, trivial⟩ ⟨O169, p157, p160, v158, v161, v163, rfl, T85, hO, hS, hF, ib7, hb7, ib27, hb27, h159, qh159b7, qh159b27, h162, h164, h⟩)))
  rw [l_Order_l1] at h
  obtain ⟨hl175, hg173, hd168⟩ := drop_cons hd168
  have hc172 : (decide ((i165 : Int) < (x2.length : Int))) = true := decide_eq_true (by omega)
  refine wc_seq ?_
  refine wc_region (l := [0]) rfl ?_
  refine wo_seg Θ_ok [0] [(4, (bp b7)), (7, (bp b27)), (10, v79), (11, v82), (12, v158), (58, (.slice A154 x2.length c155)), (59, (.int .i64 (x2.length : Int))), (60, (.int .i64 (i165 : Int))), (61, (.bool (decide ((i165 : Int) < (x2.length : Int)))))] rfl ⟨rfl, rfl, rfl, rfl, rfl, rfl, rfl, rfl, rfl, trivial⟩ ?_
  refine wo_nil ?_
  refine wq_seq ?_
  refine wc_seq ?_
  refine wc_known_true rfl hc172 ?_
  refine wc_skip ?_
  refine wq_seq ?_
  refine wc_seq ?_
  refine wc_block ?_
  refine wc_seq ?_
  refine wc_region (l := [0, 1, 2, 3, 4]) rfl ?_
  refine wo_seg Θ_ok [0] [(4, (bp b7)), (7, (bp b27)), (10, v79), (11, v82), (12, v158), (58, (.slice A154 x2.length c155)), (59, (.int .i64 (x2.length : Int))), (60, (.int .i64 (i165 : Int))), (62, (.int .i64 (i165 : Int)))] rfl ⟨rfl, rfl, rfl, rfl, rfl, rfl, rfl, rfl, rfl, trivial⟩ ?_
  refine wo_index Θ_ok rfl rfl rfl rfl rfl rfl rfl rfl rfl rfl h2 rfl (by omega) hg173 (fun p176 h177 => ?_)
  refine wo_loadp Θ_ok rfl rfl rfl rfl rfl rfl rfl h177 rfl rfl (fun v178 h179 => ?_)
  obtain rfl := int_is.1 h179
  refine wo_seg Θ_ok [3, 4] [(4, (bp b7)), (7, (bp b27)), (10, v79), (11, v82), (12, v158), (13, (.int .i64 (i165 : Int))), (14, (.int .u64 z167)), (58, (.slice A154 x2.length c155)), (59, (.int .i64 (x2.length : Int))), (60, (.int .i64 (i165 : Int)))] rfl ⟨rfl, rfl, rfl, rfl, rfl, rfl, rfl, rfl, rfl, rfl, trivial⟩ ?_
  refine wo_nil ?_
  refine wq_seq ?_
  refine wc_seq ?_
  refine wc_seq ?_
  refine wc_region (l := [0, 1]) rfl ?_
  refine wo_seg Θ_ok [0, 1] [(4, (bp b7)), (7, (bp b27)), (10, v79), (11, v82), (12, v158), (14, (.int .u64 z167)), (58, (.slice A154 x2.length c155)), (59, (.int .i64 (x2.length : Int))), (60, (.int .i64 (i165 : Int))), (66, (.bool ((i165 : Int) == (20 : Int))))] rfl ⟨rfl, rfl, rfl, rfl, rfl, rfl, rfl, rfl, rfl, rfl, trivial⟩ ?_
  refine wo_nil ?_
  refine wq_seq ?_
  rcases bif_some h with ⟨hc180, h⟩ | ⟨hc180, h⟩
  · refine wc_known_true rfl hc180 ?_
    refine wc_exit ?_
    exact wq_then_exit (wq_block_past rfl (wq_then_exit (wq_then_exit (wq_block_exit (wq_join hK89 [(4, (bp b7)), (7, (bp b27)), (10, v79), (11, v82), (12, v158)] ⟨rfl, rfl, rfl, rfl, rfl, trivial⟩ ⟨O169, p157, p160, v158, v161, v163, rfl, T85, hO, hS, hF, ib7, hb7, ib27, hb27, h159, qh159b7, qh159b27, h162, h164, h⟩)))))
  refine wc_known_false rfl hc180 ?_
  refine wc_skip ?_
  refine wq_seq ?_
  refine wc_seq ?_
  obtain ⟨k182, hk183, h⟩ := letk_some h
  refine wc_join (fun E W => ∃ (O187 : List Nat) (p186 : Bool), E = [(4, (bp b7)), (7, (bp b27)), (10, v79), (11, v82), (12, v158), (14, (.int .u64 z167)), (58, (.slice A154 x2.length c155)), (59, (.int .i64 (x2.length : Int))), (60, (.int .i64 (i165 : Int))), (74, (.bool p186))] ∧ Tr O169 w170 O187 W ∧ OB O187 W ∧ Sub O O187 ∧ Fr [] w W ∧ b7 ∈ O187 ∧ Blk W b7 39 [(.int .u64 x1.f0), (.int .u64 x1.f1)] ∧ b27 ∈ O187 ∧ Blk W b27 25 [v161, v163] ∧ Go.Dc.OwnD (Ty.int .u64) 29 w.heap.size O187 W v158 p157 ∧ v158.ownBlock ≠ some b7 ∧ v158.ownBlock ≠ some b27 ∧ k182 p186 = some r) ?_ (fun K184 hK185 => ?_)
  rotate_left
  · clear hk183
    have T181 := Tr.refl O169 w170
    refine wc_region (l := [0, 1, 2, 3, 4, 5, 6, 7]) rfl ?_
    refine wo_seg Θ_ok [0, 1, 2, 3] [(4, (bp b7)), (7, (bp b27)), (10, v79), (11, v82), (12, v158), (14, (.int .u64 z167)), (58, (.slice A154 x2.length c155)), (59, (.int .i64 (x2.length : Int))), (60, (.int .i64 (i165 : Int))), (70, (.bool ((z167.tmod (3 : Int)) == (0 : Int))))] rfl ⟨rfl, rfl, rfl, rfl, rfl, rfl, rfl, rfl, rfl, rfl, trivial⟩ ?_
    rcases bif_some h with ⟨hc346, h⟩ | ⟨hc346, h⟩
    rotate_left
    · refine wo_know 70 false rfl hc346 ?_
      refine wo_seg Θ_ok [4, 5, 6, 7] [(4, (bp b7)), (7, (bp b27)), (10, v79), (11, v82), (12, v158), (14, (.int .u64 z167)), (58, (.slice A154 x2.length c155)), (59, (.int .i64 (x2.length : Int))), (60, (.int .i64 (i165 : Int))), (74, (.bool false))] rfl ⟨rfl, rfl, rfl, rfl, rfl, rfl, rfl, rfl, rfl, rfl, trivial⟩ ?_
      refine wo_nil ?_
      exact wq_join hK185 [(4, (bp b7)), (7, (bp b27)), (10, v79), (11, v82), (12, v158), (14, (.int .u64 z167)), (58, (.slice A154 x2.length c155)), (59, (.int .i64 (x2.length : Int))), (60, (.int .i64 (i165 : Int))), (74, (.bool false))] ⟨rfl, rfl, rfl, rfl, rfl, rfl, rfl, rfl, rfl, rfl, trivial⟩ ⟨O169, false, rfl, T181, hO, hS, hF, ib7, hb7, ib27, hb27, h159, qh159b7, qh159b27, h⟩
    refine wo_know 70 true rfl hc346 ?_
    refine wo_seg Θ_ok [4] [(4, (bp b7)), (7, (bp b27)), (10, v79), (11, v82), (12, v158), (14, (.int .u64 z167)), (58, (.slice A154 x2.length c155)), (59, (.int .i64 (x2.length : Int))), (60, (.int .i64 (i165 : Int))), (70, (.bool true)), (71, v158)] rfl ⟨rfl, rfl, rfl, rfl, rfl, rfl, rfl, rfl, rfl, rfl, rfl, trivial⟩ ?_
    obtain ⟨A347, c348, rfl, hlc348, hmc348⟩ := h159.form
    refine wo_seg Θ_ok [5] [(4, (bp b7)), (7, (bp b27)), (10, v79), (11, v82), (12, (.slice A347 p157.length c348)), (14, (.int .u64 z167)), (58, (.slice A154 x2.length c155)), (59, (.int .i64 (x2.length : Int))), (60, (.int .i64 (i165 : Int))), (70, (.bool true)), (72, (.int .i64 (p157.length : Int)))] rfl ⟨rfl, rfl, rfl, rfl, rfl, rfl, rfl, rfl, rfl, rfl, rfl, trivial⟩ ?_
    refine wo_seg Θ_ok [6, 7] [(4, (bp b7)), (7, (bp b27)), (10, v79), (11, v82), (12, (.slice A347 p157.length c348)), (14, (.int .u64 z167)), (58, (.slice A154 x2.length c155)), (59, (.int .i64 (x2.length : Int))), (60, (.int .i64 (i165 : Int))), (74, (.bool (decide ((p157.length : Int) > (0 : Int)))))] rfl ⟨rfl, rfl, rfl, rfl, rfl, rfl, rfl, rfl, rfl, rfl, trivial⟩ ?_
    refine wo_nil ?_
    exact wq_join hK185 [(4, (bp b7)), (7, (bp b27)), (10, v79), (11, v82), (12, (.slice A347 p157.length c348)), (14, (.int .u64 z167)), (58, (.slice A154 x2.length c155)), (59, (.int .i64 (x2.length : Int))), (60, (.int .i64 (i165 : Int))), (74, (.bool (decide ((p157.length : Int) > (0 : Int)))))] ⟨rfl, rfl, rfl, rfl, rfl, rfl, rfl, rfl, rfl, rfl, trivial⟩ ⟨O169, (decide ((p157.length : Int) > (0 : Int))), rfl, T181, hO, hS, hF, ib7, hb7, ib27, hb27, h159, qh159b7, qh159b27, h⟩
  rintro E w188 ⟨O187, p186, rfl, T181, hO, hS, hF, ib7, hb7, ib27, hb27, h159, qh159b7, qh159b27, h⟩
  have T85 := T85.trans T181
  have T156 := T156.trans T181
  have h81 := h81.tr T181
  have h84 := h84.tr T181
  have h2 := h2.tr T181
  have h162 := h162.tr T181
  have h164 := h164.tr T181
  subst hk183
  (try dsimp only at h)
  rcases bif_some h with ⟨hc189, h⟩ | ⟨hc189, h⟩
  · refine wc_known_true rfl hc189 ?_
    refine wc_seq ?_
    refine wc_region (l := [0, 1, 2, 3, 4, 5, 6, 7, 8, 9, 10, 11]) rfl ?_
    refine wo_load Θ_ok rfl rfl rfl rfl rfl rfl rfl hb27 [v161, v163] rfl rfl (.inl rfl) (.agg #[v161, v163]) rfl ?_
    refine wo_aindexC (j := 0) Θ_ok rfl rfl rfl rfl rfl rfl rfl rfl rfl rfl rfl rfl ?_
    refine wo_load Θ_ok rfl rfl rfl rfl rfl rfl rfl hb7 [(.int .u64 x1.f0)] rfl rfl (.inr rfl) (.int .u64 x1.f0) rfl ?_
    obtain ⟨y194, hy195, h⟩ := bind_some h
    refine wo_gives rfl rfl rfl rfl rfl ent19 rfl (i_Receive_c hO ((tGIpc_is (x := p160)).2 ⟨_, _, rfl, h162, h164⟩) (int_is.2 rfl) hy195) (fun v190 w191 h192 f193 => ?_)
    have h81 := h81.tr f193.tr0
    have h84 := h84.tr f193.tr0
    have h2 := h2.tr f193.tr0
    have h162 := h162.tr f193.tr0
    have h164 := h164.tr f193.tr0
    have hb7 := hb7.fr0 f193
    have hb27 := hb27.fr0 f193
    have h159 := h159.fr0 f193
    have T85 := T85.trans f193.tr0
    have T156 := T156.trans f193.tr0
    have hO := f193.ob hO
    have hF := hF.trans f193
    obtain ⟨u196, u198, u200, rfl, h197, h199, h201⟩ := h192
    obtain ⟨v202, v204, rfl, h203, h205⟩ := tGIpc_is.1 h197
    obtain rfl := int_is.1 h199
    obtain rfl := int_is.1 h201
    refine wo_seg Θ_ok [4, 5, 6, 7] [(4, (bp b7)), (7, (bp b27)), (10, v79), (11, v82), (12, v158), (58, (.slice A154 x2.length c155)), (59, (.int .i64 (x2.length : Int))), (60, (.int .i64 (i165 : Int))), (80, (.agg #[v202, v204])), (81, (.int .u64 y194.2.1)), (82, (.int .i64 y194.2.2))] rfl ⟨rfl, rfl, rfl, rfl, rfl, rfl, rfl, rfl, rfl, rfl, rfl, trivial⟩ ?_
    refine wo_alloc Θ_ok rfl rfl rfl rfl rfl rfl [(.slice none 0 0), (.slice none 0 0)] rfl hO (fun b206 w207 n208 => ?_)
    have h81 := h81.tr n208.tr
    have h84 := h84.tr n208.tr
    have h2 := h2.tr n208.tr
    have h203 := h203.tr n208.tr
    have h205 := h205.tr n208.tr
    have h162 := h162.tr n208.tr
    have h164 := h164.tr n208.tr
    have T85 := T85.trans n208.tr
    have T156 := T156.trans n208.tr
    have qh159b206 := h159.ne_new n208
    have h159 := h159.new n208
    have nb206b7 : b206 ≠ b7 := by have := hb7.lt; have := n208.ge; omega
    have hb7 := hb7.fr0 n208.fr
    have ib7 := List.mem_cons_of_mem b206 ib7
    have nb206b27 : b206 ≠ b27 := by have := hb27.lt; have := n208.ge; omega
    have hb27 := hb27.fr0 n208.fr
    have ib27 := List.mem_cons_of_mem b206 ib27
    have hb206 := n208.blk
    have gb206 := n208.ge0 hF
    have ib206 : b206 ∈ b206 :: O187 := List.mem_cons_self
    have hO := n208.ob
    have hF := hF.trans n208.fr
    have hS := Sub.cons hS b206
    obtain ⟨A209, c210, rfl, hlc210, hmc210⟩ := slice_form h203
    obtain ⟨A211, c212, rfl, hlc212, hmc212⟩ := slice_form h205
    refine wo_store Θ_ok rfl rfl rfl rfl rfl rfl rfl hb206 [(.slice A209 y194.1.fNames.length c210), (.slice A211 y194.1.fBoxes.length c212)] rfl rfl (by simp [Value.oneCell']) rfl [(.slice A209 y194.1.fNames.length c210), (.slice A211 y194.1.fBoxes.length c212)] rfl (fun w213 hb206 f214 => ?_)
    have h81 := h81.tr (f214.tr (one_in ib206))
    have h84 := h84.tr (f214.tr (one_in ib206))
    have h2 := h2.tr (f214.tr (one_in ib206))
    have h162 := h162.tr (f214.tr (one_in ib206))
    have h164 := h164.tr (f214.tr (one_in ib206))
    have h203 := h203.tr (f214.tr (one_in ib206))
    have h205 := h205.tr (f214.tr (one_in ib206))
    have T85 := T85.trans (f214.tr (one_in ib206))
    have T156 := T156.trans (f214.tr (one_in ib206))
    have hb7 := hb7.fr f214 (nin nb206b7.symm)
    have hb27 := hb27.fr f214 (nin nb206b27.symm)
    have h159 := h159.st f214 ib206 qh159b206
    have hO := f214.ob hO
    have hF := hF.own f214 gb206
    refine wo_seg Θ_ok [10, 11] [(4, (bp b7)), (7, (bp b27)), (10, v79), (11, v82), (12, v158), (15, (bp b206)), (16, (.int .u64 y194.2.1)), (17, (.int .i64 y194.2.2)), (58, (.slice A154 x2.length c155)), (59, (.int .i64 (x2.length : Int))), (60, (.int .i64 (i165 : Int)))] rfl ⟨rfl, rfl, rfl, rfl, rfl, rfl, rfl, rfl, rfl, rfl, rfl, trivial⟩ ?_
    refine wo_nil ?_
    refine wq_seq ?_
    refine wc_seq ?_
    refine wc_seq ?_
    refine wc_region (l := [0, 1, 2, 3, 4, 5, 6, 7, 8]) rfl ?_
    refine wo_seg Θ_ok [0, 1, 2] [(4, (bp b7)), (7, (bp b27)), (10, v79), (11, v82), (12, v158), (15, (bp b206)), (16, (.int .u64 y194.2.1)), (58, (.slice A154 x2.length c155)), (59, (.int .i64 (x2.length : Int))), (60, (.int .i64 (i165 : Int))), (85, (.bool (y194.2.2 != (0 : Int))))] rfl ⟨rfl, rfl, rfl, rfl, rfl, rfl, rfl, rfl, rfl, rfl, rfl, trivial⟩ ?_
    rcases bif_some h with ⟨hc215, h⟩ | ⟨hc215, h⟩
    · refine wo_know 85 true rfl hc215 ?_
      refine wo_seg Θ_ok [3, 4, 5, 6, 7, 8] [(4, (bp b7)), (7, (bp b27)), (10, v79), (11, v82), (12, v158), (15, (bp b206)), (58, (.slice A154 x2.length c155)), (59, (.int .i64 (x2.length : Int))), (60, (.int .i64 (i165 : Int))), (91, (.bool true))] rfl ⟨rfl, rfl, rfl, rfl, rfl, rfl, rfl, rfl, rfl, rfl, trivial⟩ ?_
      refine wo_nil ?_
      refine wq_seq ?_
      refine wc_true rfl ?_
      refine wc_seq ?_
      refine wc_region (l := [0]) rfl ?_
      refine wo_seg Θ_ok [0] [(6, (.bool false))] rfl ⟨rfl, trivial⟩ ?_
      refine wo_nil ?_
      refine wq_seq ?_
      refine wc_ret ?_
      cases h
      exact wq_then_ret (wq_then_ret (wq_block_ret (wq_then_ret (wq_then_ret (wq_block_ret (wq_then_ret (wq_ret rfl ⟨_, rfl, (bool_is.2 rfl), hF⟩)))))))
    refine wo_know 85 false rfl hc215 ?_
    refine wo_seg Θ_ok [3, 4] [(4, (bp b7)), (7, (bp b27)), (10, v79), (11, v82), (12, v158), (15, (bp b206)), (58, (.slice A154 x2.length c155)), (59, (.int .i64 (x2.length : Int))), (60, (.int .i64 (i165 : Int))), (85, (.bool false)), (86, (.int .u64 y194.2.1)), (87, v158)] rfl ⟨rfl, rfl, rfl, rfl, rfl, rfl, rfl, rfl, rfl, rfl, rfl, rfl, trivial⟩ ?_
    obtain ⟨y218, hz219, h⟩ := bind_some h
    refine wo_index Θ_ok rfl rfl rfl rfl rfl rfl rfl rfl rfl rfl h159.weak rfl (idx_some hz219).1 (idx_some hz219).2 (fun p216 h217 => ?_)
    refine wo_loadp Θ_ok rfl rfl rfl rfl rfl rfl rfl h217 rfl rfl (fun v220 h221 => ?_)
    obtain rfl := int_is.1 h221
    refine wo_seg Θ_ok [7, 8] [(4, (bp b7)), (7, (bp b27)), (10, v79), (11, v82), (12, v158), (15, (bp b206)), (58, (.slice A154 x2.length c155)), (59, (.int .i64 (x2.length : Int))), (60, (.int .i64 (i165 : Int))), (91, (.bool (y194.2.1 != y218)))] rfl ⟨rfl, rfl, rfl, rfl, rfl, rfl, rfl, rfl, rfl, rfl, trivial⟩ ?_
    refine wo_nil ?_
    refine wq_seq ?_
    rcases bif_some h with ⟨hc222, h⟩ | ⟨hc222, h⟩
    · refine wc_known_true rfl hc222 ?_
      refine wc_seq ?_
      refine wc_region (l := [0]) rfl ?_
      refine wo_seg Θ_ok [0] [(6, (.bool false))] rfl ⟨rfl, trivial⟩ ?_
      refine wo_nil ?_
      refine wq_seq ?_
      refine wc_ret ?_
      cases h
      exact wq_then_ret (wq_then_ret (wq_block_ret (wq_then_ret (wq_then_ret (wq_block_ret (wq_then_ret (wq_ret rfl ⟨_, rfl, (bool_is.2 rfl), hF⟩)))))))
    refine wc_known_false rfl hc222 ?_
    refine wc_skip ?_
    refine wq_seq ?_
    refine wc_seq ?_
    obtain ⟨y223, hz224, h⟩ := bind_some h
    obtain ⟨v225, hr226, h227, hq228⟩ := OwnD.cut_ (P := Try.prog) (t := 40) (k := .i64) Θ_ok rfl rfl rfl rfl h159 hz224
    have qh227b7 : v225.ownBlock ≠ some b7 := fun e => qh159b7 (hq228 _ e)
    have qh227b27 : v225.ownBlock ≠ some b27 := fun e => qh159b27 (hq228 _ e)
    refine wc_drawS mixed (b := b27) [⟨92, [], [15]⟩, ⟨93, [], [12]⟩, ⟨94, [1], []⟩, ⟨165, [0], [7]⟩] [SB.eq b27 (.agg #[(.slice A209 y194.1.fNames.length c210), (.slice A211 y194.1.fBoxes.length c212)]), SB.eq b27 v158, SB.eq b27 v225, SB.none b27] 3 hb27 tGIpc ib27 y194.1 rfl rfl rfl rfl rfl (fun p hp => by cases hp; rfl) rfl rfl ⟨?_, ?_, ?_, ?_, trivial⟩ ?_
    · intro a w2 hfr hN hds hb hd
      have hb206 := hb206.fr hfr (nin nb206b27)
      exact op_load Θ_ok ⟨hN, hds, rows_get (E := [(15, (bp b206))]) ⟨hb 15 rfl _ rfl, trivial⟩⟩ rfl rfl rfl rfl rfl rfl hb206 [(.slice A209 y194.1.fNames.length c210), (.slice A211 y194.1.fBoxes.length c212)] rfl rfl (.inl rfl) (.agg #[(.slice A209 y194.1.fNames.length c210), (.slice A211 y194.1.fBoxes.length c212)]) rfl
    · intro a w2 hfr hN hds hb hd
      exact op_plain Θ_ok ⟨hN, hds, rows_get (E := [(12, v158)]) ⟨hb 12 rfl _ rfl, trivial⟩⟩ rfl rfl rfl rfl rfl
    · intro a w2 hfr hN hds hb hd
      exact op_cutD ⟨hN, hds, rows_get (E := [(93, v158)]) ⟨(hd 1 rfl _ _ rfl rfl), trivial⟩⟩ rfl rfl rfl rfl rfl rfl hr226
    · intro a w2 hfr hN hds hb hd
      have h203 := h203.tr (hfr.tr (one_in ib27))
      have h205 := h205.tr (hfr.tr (one_in ib27))
      exact fun hbs => op_storeS Θ_ok ⟨hN, hds, rows_get (E := [(7, (bp b27)), (92, (.agg #[(.slice A209 y194.1.fNames.length c210), (.slice A211 y194.1.fBoxes.length c212)]))]) ⟨hb 7 rfl _ rfl, (hd 0 rfl _ _ rfl rfl), trivial⟩⟩ rfl rfl rfl rfl rfl rfl rfl hbs ib27 ((tGIpc_is (x := y194.1)).2 ⟨_, _, rfl, h203, h205⟩) rfl rfl
    intro a w230 cs f229 hcs hbk hN hds hb hr
    have h81 := h81.tr (f229.tr (one_in ib27))
    have h84 := h84.tr (f229.tr (one_in ib27))
    have h2 := h2.tr (f229.tr (one_in ib27))
    have h162 := h162.tr (f229.tr (one_in ib27))
    have h164 := h164.tr (f229.tr (one_in ib27))
    have T85 := T85.trans (f229.tr (one_in ib27))
    have T156 := T156.trans (f229.tr (one_in ib27))
    have hb7 := hb7.fr f229 (nin nb27b7.symm)
    have hO := f229.ob hO
    have hF := hF.own f229 gb27
    have hb27 := hbk
    obtain ⟨z231, e232⟩ : ∃ z, Ty.mk' tGIpc cs = z := ⟨_, rfl⟩
    have h233 : tGIpc.is (b206 :: O187) w230 z231 y194.1 := ⟨cs, hcs, e232.symm⟩
    obtain ⟨v234, v236, rfl, h235, h237⟩ := tGIpc_is.1 h233
    obtain rfl := mk_agg (us := [v234, v236]) e232
    have h227 := h227.st f229 ib27 qh227b27
    refine wo_go (E := [(4, (bp b7)), (7, (bp b27)), (10, v79), (11, v82), (58, (.slice A154 x2.length c155)), (59, (.int .i64 (x2.length : Int))), (60, (.int .i64 (i165 : Int))), (94, v225)]) (l := [4]) hN hds ⟨hb 4 _ rfl rfl, hb 7 _ rfl rfl, hb 10 _ rfl rfl, hb 11 _ rfl rfl, hb 58 _ rfl rfl, hb 59 _ rfl rfl, hb 60 _ rfl rfl, (hr 2 _ _ rfl rfl), trivial⟩ rfl ?_
    refine wo_seg Θ_ok [4] [(4, (bp b7)), (7, (bp b27)), (10, v79), (11, v82), (12, v225), (58, (.slice A154 x2.length c155)), (59, (.int .i64 (x2.length : Int))), (60, (.int .i64 (i165 : Int)))] rfl ⟨rfl, rfl, rfl, rfl, rfl, rfl, rfl, rfl, trivial⟩ ?_
    refine wo_nil ?_
    refine wq_seq ?_
    refine wc_exit ?_
    refine wq_then_exit (wq_block_exit (wq_seq ?_))
    refine wc_region (l := [0, 1]) rfl ?_
    refine wo_seg Θ_ok [0, 1] [(4, (bp b7)), (7, (bp b27)), (10, v79), (11, v82), (12, v225), (58, (.slice A154 x2.length c155)), (59, (.int .i64 (x2.length : Int))), (60, (.int .i64 (IntKind.i64.wrap ((i165 : Int) + (1 : Int)))))] rfl ⟨rfl, rfl, rfl, rfl, rfl, rfl, rfl, rfl, trivial⟩ ?_
    refine wo_nil ?_
    exact wq_next rest166.length [(4, (bp b7)), (7, (bp b27)), (10, v79), (11, v82), (12, v225), (58, (.slice A154 x2.length c155)), (59, (.int .i64 (x2.length : Int))), (60, (.int .i64 ((i165 + 1 : Nat) : Int)))] (Nat.lt_succ_self _) ⟨rfl, rfl, rfl, rfl, rfl, rfl, rfl, congrArg (fun z => some (Value.int .i64 z)) (wrap_succ hl175 (Nat.le_trans hlc155 hmc155)), trivial⟩ ⟨rest166, i165 + 1, b206 :: O187, y223, y194.1, v225, v234, v236, rfl, hd168, rfl, T156, hO, hS, hF, ib7, hb7, ib27, hb27, h227, qh227b7, qh227b27, h235, h237, h⟩
  refine wc_known_false rfl hc189 ?_
  refine wc_skip ?_
  refine wq_seq ?_
  obtain ⟨k239, hk240, h⟩ := letk_some h
  refine wc_join (fun E W => ∃ (O248 : List Nat) (p243 : GIpc) (v244 : Value) (v246 : Value), E = [(4, (bp b7)), (7, (bp b27)), (10, v79), (11, v82), (12, v158), (14, (.int .u64 z167)), (58, (.slice A154 x2.length c155)), (59, (.int .i64 (x2.length : Int))), (60, (.int .i64 (i165 : Int)))] ∧ Tr O187 w188 O248 W ∧ OB O248 W ∧ Sub O O248 ∧ Fr [] w W ∧ b7 ∈ O248 ∧ Blk W b7 39 [(.int .u64 x1.f0), (.int .u64 x1.f1)] ∧ b27 ∈ O248 ∧ Blk W b27 25 [v244, v246] ∧ Go.Dc.OwnD (Ty.int .u64) 29 w.heap.size O248 W v158 p157 ∧ v158.ownBlock ≠ some b7 ∧ v158.ownBlock ≠ some b27 ∧ (Ty.slice tGName).is O248 W v244 p243.fNames ∧ (Ty.slice tGBox).is O248 W v246 p243.fBoxes ∧ k239 p243 = some r) ?_ (fun K241 hK242 => ?_)
  rotate_left
  · clear hk240
    have T238 := Tr.refl O187 w188
    refine wc_seq ?_
    refine wc_region (l := [0, 1, 2, 3, 4, 5, 6, 7, 8, 9, 10, 11]) rfl ?_
    refine wo_load Θ_ok rfl rfl rfl rfl rfl rfl rfl hb27 [v161, v163] rfl rfl (.inl rfl) (.agg #[v161, v163]) rfl ?_
    refine wo_aindexC (j := 1) Θ_ok rfl rfl rfl rfl rfl rfl rfl rfl rfl rfl rfl rfl ?_
    refine wo_load Θ_ok rfl rfl rfl rfl rfl rfl rfl hb7 [(.int .u64 x1.f1)] rfl rfl (.inr rfl) (.int .u64 x1.f1) rfl ?_
    refine wo_seg Θ_ok [3] [(4, (bp b7)), (7, (bp b27)), (10, v79), (11, v82), (12, v158), (14, (.int .u64 z167)), (58, (.slice A154 x2.length c155)), (59, (.int .i64 (x2.length : Int))), (60, (.int .i64 (i165 : Int))), (96, (.agg #[v161, v163])), (98, (.int .u64 x1.f1)), (99, (.int .u64 z167))] rfl ⟨rfl, rfl, rfl, rfl, rfl, rfl, rfl, rfl, rfl, rfl, rfl, rfl, trivial⟩ ?_
    refine wo_litd Θ_ok rfl rfl rfl rfl rfl rfl rfl rfl rfl rfl (T := (Ty.int .u64)) (xs := [z167]) (vs := [(.int .u64 z167)]) rfl ⟨(int_is.2 rfl), trivial⟩ rfl rfl rfl hO (fun v316 w317 h318 f319 => ?_)
    have h81 := h81.tr f319.tr0
    have h84 := h84.tr f319.tr0
    have h2 := h2.tr f319.tr0
    have h162 := h162.tr f319.tr0
    have h164 := h164.tr f319.tr0
    have hb7 := hb7.fr0 f319
    have hb27 := hb27.fr0 f319
    have h159 := h159.fr0 f319
    have T85 := T85.trans f319.tr0
    have T156 := T156.trans f319.tr0
    have T238 := T238.trans f319.tr0
    have hO := f319.ob hO
    have hF := hF.trans f319
    obtain ⟨y324, hy325, h⟩ := bind_some h
    refine wo_gives rfl rfl rfl rfl rfl ent20 rfl (i_Send_c hO ((tGIpc_is (x := p160)).2 ⟨_, _, rfl, h162, h164⟩) (int_is.2 rfl) h318 hy325) (fun v320 w321 h322 f323 => ?_)
    have h81 := h81.tr f323.tr0
    have h84 := h84.tr f323.tr0
    have h2 := h2.tr f323.tr0
    have h162 := h162.tr f323.tr0
    have h164 := h164.tr f323.tr0
    have hb7 := hb7.fr0 f323
    have hb27 := hb27.fr0 f323
    have h159 := h159.fr0 f323
    have T85 := T85.trans f323.tr0
    have T156 := T156.trans f323.tr0
    have T238 := T238.trans f323.tr0
    have hO := f323.ob hO
    have hF := hF.trans f323
    obtain ⟨u326, u328, rfl, h327, h329⟩ := h322
    obtain ⟨v330, v332, rfl, h331, h333⟩ := tGIpc_is.1 h327
    obtain rfl := int_is.1 h329
    refine wo_seg Θ_ok [6, 7, 8] [(4, (bp b7)), (7, (bp b27)), (10, v79), (11, v82), (12, v158), (14, (.int .u64 z167)), (58, (.slice A154 x2.length c155)), (59, (.int .i64 (x2.length : Int))), (60, (.int .i64 (i165 : Int))), (102, (.agg #[v330, v332])), (103, (.int .i64 y324.2))] rfl ⟨rfl, rfl, rfl, rfl, rfl, rfl, rfl, rfl, rfl, rfl, rfl, trivial⟩ ?_
    refine wo_alloc Θ_ok rfl rfl rfl rfl rfl rfl [(.slice none 0 0), (.slice none 0 0)] rfl hO (fun b334 w335 n336 => ?_)
    have h81 := h81.tr n336.tr
    have h84 := h84.tr n336.tr
    have h2 := h2.tr n336.tr
    have h331 := h331.tr n336.tr
    have h333 := h333.tr n336.tr
    have h162 := h162.tr n336.tr
    have h164 := h164.tr n336.tr
    have T85 := T85.trans n336.tr
    have T156 := T156.trans n336.tr
    have T238 := T238.trans n336.tr
    have qh159b334 := h159.ne_new n336
    have h159 := h159.new n336
    have nb334b7 : b334 ≠ b7 := by have := hb7.lt; have := n336.ge; omega
    have hb7 := hb7.fr0 n336.fr
    have ib7 := List.mem_cons_of_mem b334 ib7
    have nb334b27 : b334 ≠ b27 := by have := hb27.lt; have := n336.ge; omega
    have hb27 := hb27.fr0 n336.fr
    have ib27 := List.mem_cons_of_mem b334 ib27
    have hb334 := n336.blk
    have gb334 := n336.ge0 hF
    have ib334 : b334 ∈ b334 :: O187 := List.mem_cons_self
    have hO := n336.ob
    have hF := hF.trans n336.fr
    have hS := Sub.cons hS b334
    obtain ⟨A337, c338, rfl, hlc338, hmc338⟩ := slice_form h331
    obtain ⟨A339, c340, rfl, hlc340, hmc340⟩ := slice_form h333
    refine wo_store Θ_ok rfl rfl rfl rfl rfl rfl rfl hb334 [(.slice A337 y324.1.fNames.length c338), (.slice A339 y324.1.fBoxes.length c340)] rfl rfl (by simp [Value.oneCell']) rfl [(.slice A337 y324.1.fNames.length c338), (.slice A339 y324.1.fBoxes.length c340)] rfl (fun w341 hb334 f342 => ?_)
    have h81 := h81.tr (f342.tr (one_in ib334))
    have h84 := h84.tr (f342.tr (one_in ib334))
    have h2 := h2.tr (f342.tr (one_in ib334))
    have h162 := h162.tr (f342.tr (one_in ib334))
    have h164 := h164.tr (f342.tr (one_in ib334))
    have h331 := h331.tr (f342.tr (one_in ib334))
    have h333 := h333.tr (f342.tr (one_in ib334))
    have T85 := T85.trans (f342.tr (one_in ib334))
    have T156 := T156.trans (f342.tr (one_in ib334))
    have T238 := T238.trans (f342.tr (one_in ib334))
    have hb7 := hb7.fr f342 (nin nb334b7.symm)
    have hb27 := hb27.fr f342 (nin nb334b27.symm)
    have h159 := h159.st f342 ib334 qh159b334
    have hO := f342.ob hO
    have hF := hF.own f342 gb334
    refine wo_seg Θ_ok [11] [(4, (bp b7)), (7, (bp b27)), (10, v79), (11, v82), (12, v158), (14, (.int .u64 z167)), (18, (bp b334)), (19, (.int .i64 y324.2)), (58, (.slice A154 x2.length c155)), (59, (.int .i64 (x2.length : Int))), (60, (.int .i64 (i165 : Int)))] rfl ⟨rfl, rfl, rfl, rfl, rfl, rfl, rfl, rfl, rfl, rfl, rfl, trivial⟩ ?_
    refine wo_nil ?_
    refine wq_seq ?_
    refine wc_seq ?_
    refine wc_region (l := [0, 1]) rfl ?_
    refine wo_seg Θ_ok [0, 1] [(4, (bp b7)), (7, (bp b27)), (10, v79), (11, v82), (12, v158), (14, (.int .u64 z167)), (18, (bp b334)), (58, (.slice A154 x2.length c155)), (59, (.int .i64 (x2.length : Int))), (60, (.int .i64 (i165 : Int))), (105, (.bool (y324.2 == (0 : Int))))] rfl ⟨rfl, rfl, rfl, rfl, rfl, rfl, rfl, rfl, rfl, rfl, rfl, trivial⟩ ?_
    refine wo_nil ?_
    refine wq_seq ?_
    rcases bif_some h with ⟨hc343, h⟩ | ⟨hc343, h⟩
    rotate_left
    · refine wc_known_false rfl hc343 ?_
      refine wc_skip ?_
      exact wq_join hK242 [(4, (bp b7)), (7, (bp b27)), (10, v79), (11, v82), (12, v158), (14, (.int .u64 z167)), (58, (.slice A154 x2.length c155)), (59, (.int .i64 (x2.length : Int))), (60, (.int .i64 (i165 : Int)))] ⟨rfl, rfl, rfl, rfl, rfl, rfl, rfl, rfl, rfl, trivial⟩ ⟨b334 :: O187, p160, v161, v163, rfl, T238, hO, hS, hF, ib7, hb7, ib27, hb27, h159, qh159b7, qh159b27, h162, h164, h⟩
    refine wc_known_true rfl hc343 ?_
    refine wc_region (l := [0, 1]) rfl ?_
    refine wo_load Θ_ok rfl rfl rfl rfl rfl rfl rfl hb334 [(.slice A337 y324.1.fNames.length c338), (.slice A339 y324.1.fBoxes.length c340)] rfl rfl (.inl rfl) (.agg #[(.slice A337 y324.1.fNames.length c338), (.slice A339 y324.1.fBoxes.length c340)]) rfl ?_
    refine wo_store Θ_ok rfl rfl rfl rfl rfl rfl rfl hb27 [(.slice A337 y324.1.fNames.length c338), (.slice A339 y324.1.fBoxes.length c340)] rfl rfl (by simp [Value.oneCell']) rfl [(.slice A337 y324.1.fNames.length c338), (.slice A339 y324.1.fBoxes.length c340)] rfl (fun w344 hb27 f345 => ?_)
    have h81 := h81.tr (f345.tr (one_in ib27))
    have h84 := h84.tr (f345.tr (one_in ib27))
    have h2 := h2.tr (f345.tr (one_in ib27))
    have h331 := h331.tr (f345.tr (one_in ib27))
    have h333 := h333.tr (f345.tr (one_in ib27))
    have T85 := T85.trans (f345.tr (one_in ib27))
    have T156 := T156.trans (f345.tr (one_in ib27))
    have T238 := T238.trans (f345.tr (one_in ib27))
    have hb7 := hb7.fr f345 (nin nb27b7.symm)
    have h159 := h159.st f345 ib27 qh159b27
    have hO := f345.ob hO
    have hF := hF.own f345 gb27
    refine wo_nil ?_
    exact wq_join hK242 [(4, (bp b7)), (7, (bp b27)), (10, v79), (11, v82), (12, v158), (14, (.int .u64 z167)), (58, (.slice A154 x2.length c155)), (59, (.int .i64 (x2.length : Int))), (60, (.int .i64 (i165 : Int)))] ⟨rfl, rfl, rfl, rfl, rfl, rfl, rfl, rfl, rfl, trivial⟩ ⟨b334 :: O187, y324.1, (.slice A337 y324.1.fNames.length c338), (.slice A339 y324.1.fBoxes.length c340), rfl, T238, hO, hS, hF, ib7, hb7, ib27, hb27, h159, qh159b7, qh159b27, h331, h333, h⟩
  rintro E w249 ⟨O248, p243, v244, v246, rfl, T238, hO, hS, hF, ib7, hb7, ib27, hb27, h159, qh159b7, qh159b27, h245, h247, h⟩
  have T85 := T85.trans T238
  have T156 := T156.trans T238
  have h81 := h81.tr T238
  have h84 := h84.tr T238
  have h2 := h2.tr T238
  subst hk240
  (try dsimp only at h)
  refine wc_seq ?_
  refine wc_region (l := [0, 1, 2, 3, 4, 5, 6, 7, 8, 9, 10, 11]) rfl ?_
  refine wo_load Θ_ok rfl rfl rfl rfl rfl rfl rfl hb27 [v244, v246] rfl rfl (.inl rfl) (.agg #[v244, v246]) rfl ?_
  refine wo_aindexC (j := 0) Θ_ok rfl rfl rfl rfl rfl rfl rfl rfl rfl rfl rfl rfl ?_
  refine wo_load Θ_ok rfl rfl rfl rfl rfl rfl rfl hb7 [(.int .u64 x1.f0)] rfl rfl (.inr rfl) (.int .u64 x1.f0) rfl ?_
  refine wo_seg Θ_ok [3] [(4, (bp b7)), (7, (bp b27)), (10, v79), (11, v82), (12, v158), (14, (.int .u64 z167)), (58, (.slice A154 x2.length c155)), (59, (.int .i64 (x2.length : Int))), (60, (.int .i64 (i165 : Int))), (108, (.agg #[v244, v246])), (110, (.int .u64 x1.f0)), (111, (.int .u64 z167))] rfl ⟨rfl, rfl, rfl, rfl, rfl, rfl, rfl, rfl, rfl, rfl, rfl, rfl, trivial⟩ ?_
  refine wo_litd Θ_ok rfl rfl rfl rfl rfl rfl rfl rfl rfl rfl (T := (Ty.int .u64)) (xs := [z167]) (vs := [(.int .u64 z167)]) rfl ⟨(int_is.2 rfl), trivial⟩ rfl rfl rfl hO (fun v250 w251 h252 f253 => ?_)
  have h81 := h81.tr f253.tr0
  have h84 := h84.tr f253.tr0
  have h2 := h2.tr f253.tr0
  have h245 := h245.tr f253.tr0
  have h247 := h247.tr f253.tr0
  have hb7 := hb7.fr0 f253
  have hb27 := hb27.fr0 f253
  have h159 := h159.fr0 f253
  have T85 := T85.trans f253.tr0
  have T156 := T156.trans f253.tr0
  have hO := f253.ob hO
  have hF := hF.trans f253
  obtain ⟨y258, hy259, h⟩ := bind_some h
  refine wo_gives rfl rfl rfl rfl rfl ent20 rfl (i_Send_c hO ((tGIpc_is (x := p243)).2 ⟨_, _, rfl, h245, h247⟩) (int_is.2 rfl) h252 hy259) (fun v254 w255 h256 f257 => ?_)
  have h81 := h81.tr f257.tr0
  have h84 := h84.tr f257.tr0
  have h2 := h2.tr f257.tr0
  have h245 := h245.tr f257.tr0
  have h247 := h247.tr f257.tr0
  have hb7 := hb7.fr0 f257
  have hb27 := hb27.fr0 f257
  have h159 := h159.fr0 f257
  have T85 := T85.trans f257.tr0
  have T156 := T156.trans f257.tr0
  have hO := f257.ob hO
  have hF := hF.trans f257
  obtain ⟨u260, u262, rfl, h261, h263⟩ := h256
  obtain ⟨v264, v266, rfl, h265, h267⟩ := tGIpc_is.1 h261
  obtain rfl := int_is.1 h263
  refine wo_seg Θ_ok [6, 7, 8] [(4, (bp b7)), (7, (bp b27)), (10, v79), (11, v82), (12, v158), (14, (.int .u64 z167)), (58, (.slice A154 x2.length c155)), (59, (.int .i64 (x2.length : Int))), (60, (.int .i64 (i165 : Int))), (114, (.agg #[v264, v266])), (115, (.int .i64 y258.2))] rfl ⟨rfl, rfl, rfl, rfl, rfl, rfl, rfl, rfl, rfl, rfl, rfl, trivial⟩ ?_
  refine wo_alloc Θ_ok rfl rfl rfl rfl rfl rfl [(.slice none 0 0), (.slice none 0 0)] rfl hO (fun b268 w269 n270 => ?_)
  have h81 := h81.tr n270.tr
  have h84 := h84.tr n270.tr
  have h2 := h2.tr n270.tr
  have h265 := h265.tr n270.tr
  have h267 := h267.tr n270.tr
  have h245 := h245.tr n270.tr
  have h247 := h247.tr n270.tr
  have T85 := T85.trans n270.tr
  have T156 := T156.trans n270.tr
  have qh159b268 := h159.ne_new n270
  have h159 := h159.new n270
  have nb268b7 : b268 ≠ b7 := by have := hb7.lt; have := n270.ge; omega
  have hb7 := hb7.fr0 n270.fr
  have ib7 := List.mem_cons_of_mem b268 ib7
  have nb268b27 : b268 ≠ b27 := by have := hb27.lt; have := n270.ge; omega
  have hb27 := hb27.fr0 n270.fr
  have ib27 := List.mem_cons_of_mem b268 ib27
  have hb268 := n270.blk
  have gb268 := n270.ge0 hF
  have ib268 : b268 ∈ b268 :: O248 := List.mem_cons_self
  have hO := n270.ob
  have hF := hF.trans n270.fr
  have hS := Sub.cons hS b268
  obtain ⟨A271, c272, rfl, hlc272, hmc272⟩ := slice_form h265
  obtain ⟨A273, c274, rfl, hlc274, hmc274⟩ := slice_form h267
  refine wo_store Θ_ok rfl rfl rfl rfl rfl rfl rfl hb268 [(.slice A271 y258.1.fNames.length c272), (.slice A273 y258.1.fBoxes.length c274)] rfl rfl (by simp [Value.oneCell']) rfl [(.slice A271 y258.1.fNames.length c272), (.slice A273 y258.1.fBoxes.length c274)] rfl (fun w275 hb268 f276 => ?_)
  have h81 := h81.tr (f276.tr (one_in ib268))
  have h84 := h84.tr (f276.tr (one_in ib268))
  have h2 := h2.tr (f276.tr (one_in ib268))
  have h245 := h245.tr (f276.tr (one_in ib268))
  have h247 := h247.tr (f276.tr (one_in ib268))
  have h265 := h265.tr (f276.tr (one_in ib268))
  have h267 := h267.tr (f276.tr (one_in ib268))
  have T85 := T85.trans (f276.tr (one_in ib268))
  have T156 := T156.trans (f276.tr (one_in ib268))
  have hb7 := hb7.fr f276 (nin nb268b7.symm)
  have hb27 := hb27.fr f276 (nin nb268b27.symm)
  have h159 := h159.st f276 ib268 qh159b268
  have hO := f276.ob hO
  have hF := hF.own f276 gb268
  refine wo_seg Θ_ok [11] [(4, (bp b7)), (7, (bp b27)), (10, v79), (11, v82), (12, v158), (14, (.int .u64 z167)), (20, (bp b268)), (21, (.int .i64 y258.2)), (58, (.slice A154 x2.length c155)), (59, (.int .i64 (x2.length : Int))), (60, (.int .i64 (i165 : Int)))] rfl ⟨rfl, rfl, rfl, rfl, rfl, rfl, rfl, rfl, rfl, rfl, rfl, trivial⟩ ?_
  refine wo_nil ?_
  refine wq_seq ?_
  refine wc_seq ?_
  refine wc_seq ?_
  refine wc_region (l := [0, 1, 2, 3, 4, 5]) rfl ?_
  refine wo_seg Θ_ok [0, 1, 2] [(4, (bp b7)), (7, (bp b27)), (10, v79), (11, v82), (12, v158), (14, (.int .u64 z167)), (20, (bp b268)), (21, (.int .i64 y258.2)), (58, (.slice A154 x2.length c155)), (59, (.int .i64 (x2.length : Int))), (60, (.int .i64 (i165 : Int))), (117, (.bool (y258.2 == (0 : Int)))), (118, v158)] rfl ⟨rfl, rfl, rfl, rfl, rfl, rfl, rfl, rfl, rfl, rfl, rfl, rfl, rfl, trivial⟩ ?_
  obtain ⟨A277, c278, rfl, hlc278, hmc278⟩ := h159.form
  refine wo_seg Θ_ok [3] [(4, (bp b7)), (7, (bp b27)), (10, v79), (11, v82), (12, (.slice A277 p157.length c278)), (14, (.int .u64 z167)), (20, (bp b268)), (21, (.int .i64 y258.2)), (58, (.slice A154 x2.length c155)), (59, (.int .i64 (x2.length : Int))), (60, (.int .i64 (i165 : Int))), (117, (.bool (y258.2 == (0 : Int)))), (119, (.int .i64 (p157.length : Int)))] rfl ⟨rfl, rfl, rfl, rfl, rfl, rfl, rfl, rfl, rfl, rfl, rfl, rfl, rfl, trivial⟩ ?_
  refine wo_seg Θ_ok [4, 5] [(4, (bp b7)), (7, (bp b27)), (10, v79), (11, v82), (12, (.slice A277 p157.length c278)), (14, (.int .u64 z167)), (20, (bp b268)), (21, (.int .i64 y258.2)), (58, (.slice A154 x2.length c155)), (59, (.int .i64 (x2.length : Int))), (60, (.int .i64 (i165 : Int))), (121, (.bool (!((y258.2 == (0 : Int)) == (decide ((p157.length : Int) < (4 : Int)))))))] rfl ⟨rfl, rfl, rfl, rfl, rfl, rfl, rfl, rfl, rfl, rfl, rfl, rfl, trivial⟩ ?_
  refine wo_nil ?_
  refine wq_seq ?_
  rcases bif_some h with ⟨hc279, h⟩ | ⟨hc279, h⟩
  · refine wc_known_true rfl hc279 ?_
    refine wc_seq ?_
    refine wc_region (l := [0]) rfl ?_
    refine wo_seg Θ_ok [0] [(6, (.bool false))] rfl ⟨rfl, trivial⟩ ?_
    refine wo_nil ?_
    refine wq_seq ?_
    refine wc_ret ?_
    cases h
    exact wq_then_ret (wq_block_ret (wq_then_ret (wq_then_ret (wq_block_ret (wq_then_ret (wq_ret rfl ⟨_, rfl, (bool_is.2 rfl), hF⟩))))))
  refine wc_known_false rfl hc279 ?_
  refine wc_skip ?_
  refine wq_seq ?_
  obtain ⟨k281, hk282, h⟩ := letk_some h
  refine wc_join (fun E W => ∃ (O293 : List Nat) (p285 : List Int) (p288 : GIpc) (v286 : Value) (v289 : Value) (v291 : Value), E = [(4, (bp b7)), (7, (bp b27)), (10, v79), (11, v82), (12, v286), (58, (.slice A154 x2.length c155)), (59, (.int .i64 (x2.length : Int))), (60, (.int .i64 (i165 : Int)))] ∧ Tr (b268 :: O248) w275 O293 W ∧ OB O293 W ∧ Sub O O293 ∧ Fr [] w W ∧ b7 ∈ O293 ∧ Blk W b7 39 [(.int .u64 x1.f0), (.int .u64 x1.f1)] ∧ b27 ∈ O293 ∧ Blk W b27 25 [v289, v291] ∧ Go.Dc.OwnD (Ty.int .u64) 29 w.heap.size O293 W v286 p285 ∧ v286.ownBlock ≠ some b7 ∧ v286.ownBlock ≠ some b27 ∧ (Ty.slice tGName).is O293 W v289 p288.fNames ∧ (Ty.slice tGBox).is O293 W v291 p288.fBoxes ∧ k281 p285 p288 = some r) ?_ (fun K283 hK284 => ?_)
  · rintro E w294 ⟨O293, p285, p288, v286, v289, v291, rfl, T280, hO, hS, hF, ib7, hb7, ib27, hb27, h287, qh287b7, qh287b27, h290, h292, h⟩
    have T85 := T85.trans T280
    have T156 := T156.trans T280
    have h81 := h81.tr T280
    have h84 := h84.tr T280
    have h2 := h2.tr T280
    subst hk282
    (try dsimp only at h)
    refine wc_seq ?_
    refine wc_region (l := [0, 1, 2]) rfl ?_
    refine wo_load Θ_ok rfl rfl rfl rfl rfl rfl rfl hb27 [v289, v291] rfl rfl (.inl rfl) (.agg #[v289, v291]) rfl ?_
    obtain ⟨y299, hy300, h⟩ := bind_some h
    refine wo_gives rfl rfl rfl rfl rfl ent16 rfl (i_Check_c hO ((tGIpc_is (x := p288)).2 ⟨_, _, rfl, h290, h292⟩) hy300) (fun v295 w296 h297 f298 => ?_)
    have h81 := h81.tr f298.tr0
    have h84 := h84.tr f298.tr0
    have h2 := h2.tr f298.tr0
    have h290 := h290.tr f298.tr0
    have h292 := h292.tr f298.tr0
    have hb7 := hb7.fr0 f298
    have hb27 := hb27.fr0 f298
    have h287 := h287.fr0 f298
    have T85 := T85.trans f298.tr0
    have T156 := T156.trans f298.tr0
    have hO := f298.ob hO
    have hF := hF.trans f298
    obtain rfl := int_is.1 h297
    refine wo_seg Θ_ok [2] [(4, (bp b7)), (7, (bp b27)), (10, v79), (11, v82), (12, v286), (58, (.slice A154 x2.length c155)), (59, (.int .i64 (x2.length : Int))), (60, (.int .i64 (i165 : Int))), (131, (.bool (y299 != (0 : Int))))] rfl ⟨rfl, rfl, rfl, rfl, rfl, rfl, rfl, rfl, rfl, trivial⟩ ?_
    refine wo_nil ?_
    refine wq_seq ?_
    rcases bif_some h with ⟨hc301, h⟩ | ⟨hc301, h⟩
    rotate_left
    · refine wc_known_false rfl hc301 ?_
      refine wc_skip ?_
      refine wq_block (wq_seq ?_)
      refine wc_region (l := [0, 1]) rfl ?_
      refine wo_seg Θ_ok [0, 1] [(4, (bp b7)), (7, (bp b27)), (10, v79), (11, v82), (12, v286), (58, (.slice A154 x2.length c155)), (59, (.int .i64 (x2.length : Int))), (60, (.int .i64 (IntKind.i64.wrap ((i165 : Int) + (1 : Int)))))] rfl ⟨rfl, rfl, rfl, rfl, rfl, rfl, rfl, rfl, trivial⟩ ?_
      refine wo_nil ?_
      exact wq_next rest166.length [(4, (bp b7)), (7, (bp b27)), (10, v79), (11, v82), (12, v286), (58, (.slice A154 x2.length c155)), (59, (.int .i64 (x2.length : Int))), (60, (.int .i64 ((i165 + 1 : Nat) : Int)))] (Nat.lt_succ_self _) ⟨rfl, rfl, rfl, rfl, rfl, rfl, rfl, congrArg (fun z => some (Value.int .i64 z)) (wrap_succ hl175 (Nat.le_trans hlc155 hmc155)), trivial⟩ ⟨rest166, i165 + 1, O293, p285, p288, v286, v289, v291, rfl, hd168, rfl, T156, hO, hS, hF, ib7, hb7, ib27, hb27, h287, qh287b7, qh287b27, h290, h292, h⟩
    refine wc_known_true rfl hc301 ?_
    refine wc_seq ?_
    refine wc_region (l := [0]) rfl ?_
    refine wo_seg Θ_ok [0] [(6, (.bool false))] rfl ⟨rfl, trivial⟩ ?_
    refine wo_nil ?_
    refine wq_seq ?_
    refine wc_ret ?_
    cases h
    exact wq_block_ret (wq_then_ret (wq_then_ret (wq_block_ret (wq_then_ret (wq_ret rfl ⟨_, rfl, (bool_is.2 rfl), hF⟩)))))
  clear hk282
  have T280 := Tr.refl (b268 :: O248) w275
  refine wc_seq ?_
  refine wc_region (l := [0, 1]) rfl ?_
  refine wo_seg Θ_ok [0, 1] [(4, (bp b7)), (7, (bp b27)), (10, v79), (11, v82), (12, (.slice A277 p157.length c278)), (14, (.int .u64 z167)), (20, (bp b268)), (58, (.slice A154 x2.length c155)), (59, (.int .i64 (x2.length : Int))), (60, (.int .i64 (i165 : Int))), (123, (.bool (y258.2 == (0 : Int))))] rfl ⟨rfl, rfl, rfl, rfl, rfl, rfl, rfl, rfl, rfl, rfl, rfl, trivial⟩ ?_
  refine wo_nil ?_
  refine wq_seq ?_
  rcases bif_some h with ⟨hc302, h⟩ | ⟨hc302, h⟩
  rotate_left
  · refine wc_known_false rfl hc302 ?_
    refine wc_skip ?_
    exact wq_join hK284 [(4, (bp b7)), (7, (bp b27)), (10, v79), (11, v82), (12, (.slice A277 p157.length c278)), (58, (.slice A154 x2.length c155)), (59, (.int .i64 (x2.length : Int))), (60, (.int .i64 (i165 : Int)))] ⟨rfl, rfl, rfl, rfl, rfl, rfl, rfl, rfl, trivial⟩ ⟨b268 :: O248, p157, p243, (.slice A277 p157.length c278), v244, v246, rfl, T280, hO, hS, hF, ib7, hb7, ib27, hb27, h159, qh159b7, qh159b27, h245, h247, h⟩
  refine wc_known_true rfl hc302 ?_
  obtain ⟨z303, hz304, h⟩ := bind_some h
  refine wc_drawK mixed [⟨124, [], [20]⟩, ⟨125, [], [12]⟩, ⟨126, [], [14]⟩, ⟨127, [2], []⟩] [SP.eq (.agg #[(.slice A271 y258.1.fNames.length c272), (.slice A273 y258.1.fBoxes.length c274)]), SP.eq (.slice A277 p157.length c278), SP.eq (.int .u64 z167), SP.is (Ty.slice (Ty.int .u64)) (b268 :: O248) [z167]] [some (.agg #[(.slice A271 y258.1.fNames.length c272), (.slice A273 y258.1.fBoxes.length c274)]), none, none, none] 128 [1, 3] [1, 2, 3] (fun w1 w2 u => ∃ O', AppendedD (Ty.int .u64) 29 w.heap.size (b268 :: O248) w1 (.slice A277 p157.length c278) z303 O' w2 u) rfl rfl rfl rfl rfl rfl ⟨fun _ _ h => h, trivial⟩ ⟨?_, ?_, ?_, ?_, trivial⟩ ?_ ⟨?_, rfl, rfl, rfl, trivial⟩ ?_
  · intro a w2 hfr hN hds hb hd
    exact op_load Θ_ok ⟨hN, hds, rows_get (E := [(20, (bp b268))]) ⟨hb 20 rfl _ rfl, trivial⟩⟩ rfl rfl rfl rfl rfl rfl (hb268.fr0 hfr) [(.slice A271 y258.1.fNames.length c272), (.slice A273 y258.1.fBoxes.length c274)] rfl rfl (.inl rfl) (.agg #[(.slice A271 y258.1.fNames.length c272), (.slice A273 y258.1.fBoxes.length c274)]) rfl
  · intro a w2 hfr hN hds hb hd
    exact op_plain Θ_ok ⟨hN, hds, rows_get (E := [(12, (.slice A277 p157.length c278))]) ⟨hb 12 rfl _ rfl, trivial⟩⟩ rfl rfl rfl rfl rfl
  · intro a w2 hfr hN hds hb hd
    exact op_plain Θ_ok ⟨hN, hds, rows_get (E := [(14, (.int .u64 z167))]) ⟨hb 14 rfl _ rfl, trivial⟩⟩ rfl rfl rfl rfl rfl
  · intro a w2 hfr hN hds hb hd
    exact op_lit Θ_ok ⟨hN, hds, rows_get (E := [(126, (.int .u64 z167))]) ⟨(hd 2 rfl _ _ rfl rfl), trivial⟩⟩ rfl rfl rfl rfl rfl rfl rfl rfl rfl (T := (Ty.int .u64)) (xs := [z167]) (vs := [(.int .u64 z167)]) rfl ⟨(int_is.2 rfl), trivial⟩ rfl rfl rfl (hfr.ob hO)
  · intro a w2 hfr hN hds hd
    have hlit : (Ty.slice (Ty.int .u64)).is (b268 :: O248) w2 (a.tmps.getD 127 undef) [z167] := hd 3 rfl _ _ rfl rfl
    obtain ⟨lt, el⟩ : ∃ v, a.tmps.getD 127 undef = v := ⟨_, rfl⟩
    rw [el] at hlit
    exact OpK.weaken (op_appD Θ_ok ⟨hN, hds, rows_get (E := [(125, (.slice A277 p157.length c278)), (127, lt)]) ⟨hd 1 rfl _ _ rfl rfl, el, trivial⟩⟩ rfl rfl rfl rfl rfl rfl rfl rfl rfl rfl rfl rfl rfl rfl rfl (hF.trans hfr) (hfr.ob hO) (h159.fr0 hfr) hlit hz304) (fun _ _ h => h)
  · rintro w1 w2 u hf1 ⟨O', ap⟩ a w' hfr hN hds hb
    exact op_load Θ_ok ⟨hN, hds, rows_get (E := [(20, (bp b268))]) ⟨hb 20 rfl _ rfl, trivial⟩⟩ rfl rfl rfl rfl rfl rfl ((ap.blk (hb268.fr0 hf1) qh159b268).fr0 hfr) [(.slice A271 y258.1.fNames.length c272), (.slice A273 y258.1.fBoxes.length c274)] rfl rfl (.inl rfl) (.agg #[(.slice A271 y258.1.fNames.length c272), (.slice A273 y258.1.fBoxes.length c274)]) rfl
  rintro w308 w309 v312 a w305 f306 ⟨O310, ap311⟩ f307 hN hds hbs hkp hu
  have h81 := ((h81.tr f306.tr0).tr ap311.tr).tr f307.tr0
  have h84 := ((h84.tr f306.tr0).tr ap311.tr).tr f307.tr0
  have h2 := ((h2.tr f306.tr0).tr ap311.tr).tr f307.tr0
  have h265 := ((h265.tr f306.tr0).tr ap311.tr).tr f307.tr0
  have h267 := ((h267.tr f306.tr0).tr ap311.tr).tr f307.tr0
  have h245 := ((h245.tr f306.tr0).tr ap311.tr).tr f307.tr0
  have h247 := ((h247.tr f306.tr0).tr ap311.tr).tr f307.tr0
  have T85 := ((T85.trans f306.tr0).trans ap311.tr).trans f307.tr0
  have T156 := ((T156.trans f306.tr0).trans ap311.tr).trans f307.tr0
  have T280 := ((T280.trans f306.tr0).trans ap311.tr).trans f307.tr0
  have qh313b7 := ap311.ne _ (hb7.fr0 f306).lt qh159b7
  have hb7 := (ap311.blk (hb7.fr0 f306) qh159b7).fr0 f307
  have ib7 := ap311.sub _ ib7
  have qh313b27 := ap311.ne _ (hb27.fr0 f306).lt qh159b27
  have hb27 := (ap311.blk (hb27.fr0 f306) qh159b27).fr0 f307
  have ib27 := ap311.sub _ ib27
  have hF := (ap311.fr0 (h159.fr0 f306) (hF.trans f306)).trans f307
  have hO := f307.ob ap311.ob
  have hS := Sub.trans hS ap311.sub
  have h313 := ap311.own.fr0 f307
  refine wo_go (E := [(124, (.agg #[(.slice A271 y258.1.fNames.length c272), (.slice A273 y258.1.fBoxes.length c274)])), (128, v312), (4, (bp b7)), (7, (bp b27)), (10, v79), (11, v82), (58, (.slice A154 x2.length c155)), (59, (.int .i64 (x2.length : Int))), (60, (.int .i64 (i165 : Int)))]) (l := [5, 6]) hN hds ⟨(hkp 0 _ _ rfl rfl), hu, hbs 4 _ rfl rfl, hbs 7 _ rfl rfl, hbs 10 _ rfl rfl, hbs 11 _ rfl rfl, hbs 58 _ rfl rfl, hbs 59 _ rfl rfl, hbs 60 _ rfl rfl, trivial⟩ rfl ?_
  refine wo_store Θ_ok rfl rfl rfl rfl rfl rfl rfl hb27 [(.slice A271 y258.1.fNames.length c272), (.slice A273 y258.1.fBoxes.length c274)] rfl rfl (by simp [Value.oneCell']) rfl [(.slice A271 y258.1.fNames.length c272), (.slice A273 y258.1.fBoxes.length c274)] rfl (fun w314 hb27 f315 => ?_)
  have h81 := h81.tr (f315.tr (one_in ib27))
  have h84 := h84.tr (f315.tr (one_in ib27))
  have h2 := h2.tr (f315.tr (one_in ib27))
  have h265 := h265.tr (f315.tr (one_in ib27))
  have h267 := h267.tr (f315.tr (one_in ib27))
  have T85 := T85.trans (f315.tr (one_in ib27))
  have T156 := T156.trans (f315.tr (one_in ib27))
  have T280 := T280.trans (f315.tr (one_in ib27))
  have hb7 := hb7.fr f315 (nin nb27b7.symm)
  have h313 := h313.st f315 ib27 qh313b27
  have hO := f315.ob hO
  have hF := hF.own f315 gb27
  refine wo_seg Θ_ok [6] [(4, (bp b7)), (7, (bp b27)), (10, v79), (11, v82), (12, v312), (58, (.slice A154 x2.length c155)), (59, (.int .i64 (x2.length : Int))), (60, (.int .i64 (i165 : Int)))] rfl ⟨rfl, rfl, rfl, rfl, rfl, rfl, rfl, rfl, trivial⟩ ?_
  refine wo_nil ?_
  exact wq_join hK284 [(4, (bp b7)), (7, (bp b27)), (10, v79), (11, v82), (12, v312), (58, (.slice A154 x2.length c155)), (59, (.int .i64 (x2.length : Int))), (60, (.int .i64 (i165 : Int)))] ⟨rfl, rfl, rfl, rfl, rfl, rfl, rfl, rfl, trivial⟩ ⟨O310, z303, y258.1, v312, (.slice A271 y258.1.fNames.length c272), (.slice A273 y258.1.fBoxes.length c274), rfl, T280, hO, hS, hF, ib7, hb7, ib27, hb27, h313, qh313b7, qh313b27, h265, h267, h⟩
end Go.Proofs.Ytjdeaihnpgkphaa
