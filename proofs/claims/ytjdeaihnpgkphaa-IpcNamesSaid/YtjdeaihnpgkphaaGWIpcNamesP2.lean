/-
  The program's functions compute the plain ones (printed by a tool of the prover's).
-/
import Derived.Test.YtjdeaihnpgkphaaGWIpcNamesP1
namespace Go.Proofs.Ytjdeaihnpgkphaa
open Go.RowKit Go.Dc Go.Shelf
set_option maxRecDepth 100000 in
set_option maxHeartbeats 4000000 in
theorem r_Register_c {O : List Nat} {w : World} (hO : OB O w) {fuel : Nat} {v0 : Value} {x0 : GIpc} (h0 : tGIpc.is O w v0 x0) {v1 : Value} {x1 : Int} (h1 : (Ty.int .u64).is O w v1 x1) {v2 : Value} {x2 : Int} (h2 : (Ty.int .u64).is O w v2 x2) {r : GIpc × Int} (h : r_Register fuel x0 x1 x2 = some r) : Calls Try.prog 12 #[v0, v1, v2] w (Gives (rt2 tGIpc (Ty.int .i64)) O w r) := by
  obtain ⟨v0_1, v0_2, rfl, h0_1, h0_2⟩ := tGIpc_is.1 h0
  obtain rfl := int_is.1 h1
  obtain rfl := int_is.1 h2
  have hF := Fr.refl [] w
  have hO0 := hO
  have hS := Sub.refl O
  refine calls_of (args := [(.agg #[v0_1, v0_2]), (.int .u64 x1), (.int .u64 x2)]) (N := 84) Try.func12 rfl rfl rfl ?_
  unfold r_Register at h
  refine wc_seq ?_
  refine wc_region (l := [0, 1, 2]) rfl ?_
  refine wo_box rfl rfl rfl rfl rfl rfl [v0_1, v0_2] rfl hO (fun b4 w5 n6 => ?_)
  have h0_1 := h0_1.tr n6.tr
  have h0_2 := h0_2.tr n6.tr
  have hb4 := n6.blk
  have gb4 := n6.ge0 hF
  have ib4 : b4 ∈ b4 :: O := List.mem_cons_self
  have hO := n6.ob
  have hF := hF.trans n6.fr
  have hS := Sub.cons hS b4
  refine wo_alloc Θ_ok rfl rfl rfl rfl rfl rfl [(.slice none 0 0), (.slice none 0 0)] rfl hO (fun b7 w8 n9 => ?_)
  have h0_1 := h0_1.tr n9.tr
  have h0_2 := h0_2.tr n9.tr
  have nb7b4 : b7 ≠ b4 := by have := hb4.lt; have := n9.ge; omega
  have hb4 := hb4.fr0 n9.fr
  have ib4 := List.mem_cons_of_mem b7 ib4
  have hb7 := n9.blk
  have gb7 := n9.ge0 hF
  have ib7 : b7 ∈ b7 :: (b4 :: O) := List.mem_cons_self
  have hO := n9.ob
  have hF := hF.trans n9.fr
  have hS := Sub.cons hS b7
  refine wo_seg Θ_ok [2] [(1, (.int .u64 x1)), (2, (.int .u64 x2)), (3, (.pointer (some ⟨b4, 0, none⟩))), (6, (.pointer (some ⟨b7, 0, none⟩)))] rfl ⟨rfl, rfl, rfl, rfl, trivial⟩ ?_
  refine wo_nil ?_
  refine wq_seq ?_
  refine wc_seq ?_
  refine wc_seq ?_
  refine wc_region (l := [0, 1, 2]) rfl ?_
  refine wo_seg Θ_ok [0] [(1, (.int .u64 x1)), (2, (.int .u64 x2)), (3, (.pointer (some ⟨b4, 0, none⟩))), (6, (.pointer (some ⟨b7, 0, none⟩))), (15, (.int .u64 x1))] rfl ⟨rfl, rfl, rfl, rfl, rfl, trivial⟩ ?_
  obtain ⟨y14, hy15, h⟩ := bind_some h
  refine wo_gives rfl rfl rfl rfl rfl ent32 rfl (r_Is_c hO (int_is.2 rfl) hy15) (fun v10 w11 h12 f13 => ?_)
  have h0_1 := h0_1.tr f13.tr0
  have h0_2 := h0_2.tr f13.tr0
  have hb4 := hb4.fr0 f13
  have hb7 := hb7.fr0 f13
  have hO := f13.ob hO
  have hF := hF.trans f13
  obtain rfl := bool_is.1 h12
  refine wo_seg Θ_ok [2] [(1, (.int .u64 x1)), (2, (.int .u64 x2)), (3, (.pointer (some ⟨b4, 0, none⟩))), (6, (.pointer (some ⟨b7, 0, none⟩))), (17, (.bool (!y14)))] rfl ⟨rfl, rfl, rfl, rfl, rfl, trivial⟩ ?_
  refine wo_nil ?_
  refine wq_seq ?_
  rcases bif_some h with ⟨hc16, h⟩ | ⟨hc16, h⟩
  · refine wc_known_true rfl hc16 ?_
    refine wc_seq ?_
    refine wc_region (l := [0, 1, 2]) rfl ?_
    refine wo_seg Θ_ok [0] [(6, (.pointer (some ⟨b7, 0, none⟩))), (18, (.agg #[(.slice none 0 0), (.slice none 0 0)]))] rfl ⟨rfl, rfl, trivial⟩ ?_
    refine wo_store Θ_ok rfl rfl rfl rfl rfl rfl rfl hb7 [(.slice none 0 0), (.slice none 0 0)] rfl rfl (by simp [Value.oneCell']) rfl [(.slice none 0 0), (.slice none 0 0)] rfl (fun w17 hb7 f18 => ?_)
    have hO := f18.ob hO
    have hF := hF.own f18 gb7
    refine wo_seg Θ_ok [2] [(6, (.pointer (some ⟨b7, 0, none⟩))), (7, (.int .i64 351))] rfl ⟨rfl, rfl, trivial⟩ ?_
    refine wo_nil ?_
    refine wq_seq ?_
    refine wc_ret ?_
    have h := Option.some.inj h; subst h
    exact wq_then_ret (wq_retc Θ_ok (vs := [(.agg #[(.slice none 0 0), (.slice none 0 0)]), (.int .i64 351)]) ⟨(.agg #[(.slice none 0 0), (.slice none 0 0)]), _, rfl, ⟨_, _, _, _, rfl, hb7, rfl, rfl, .inl rfl, rfl⟩, ⟨(.int .i64 351), _, rfl, rfl, rfl⟩⟩ ⟨_, rfl, ⟨_, _, rfl, (((tGIpc_is (x := (GIpc.mk ([] : List GName) ([] : List GBox)))).2 ⟨_, _, rfl, (slice_nil _ _ _), (slice_nil _ _ _)⟩).tr (Tr.less hS)), (int_is.2 rfl)⟩, hF⟩)
  refine wc_known_false rfl hc16 ?_
  refine wc_skip ?_
  refine wq_seq ?_
  refine wc_seq ?_
  refine wc_seq ?_
  refine wc_region (l := [0, 1, 2]) rfl ?_
  refine wo_seg Θ_ok [0] [(1, (.int .u64 x1)), (2, (.int .u64 x2)), (3, (.pointer (some ⟨b4, 0, none⟩))), (6, (.pointer (some ⟨b7, 0, none⟩))), (19, (.int .u64 x2))] rfl ⟨rfl, rfl, rfl, rfl, rfl, trivial⟩ ?_
  refine wo_gives rfl rfl rfl rfl rfl ent26 rfl (r_Pid_c hO (int_is.2 rfl)) (fun v19 w20 h21 f22 => ?_)
  have h0_1 := h0_1.tr f22.tr0
  have h0_2 := h0_2.tr f22.tr0
  have hb4 := hb4.fr0 f22
  have hb7 := hb7.fr0 f22
  have hO := f22.ob hO
  have hF := hF.trans f22
  obtain rfl := bool_is.1 h21
  refine wo_seg Θ_ok [2] [(1, (.int .u64 x1)), (2, (.int .u64 x2)), (3, (.pointer (some ⟨b4, 0, none⟩))), (6, (.pointer (some ⟨b7, 0, none⟩))), (21, (.bool (!(r_Pid x2))))] rfl ⟨rfl, rfl, rfl, rfl, rfl, trivial⟩ ?_
  refine wo_nil ?_
  refine wq_seq ?_
  rcases bif_some h with ⟨hc23, h⟩ | ⟨hc23, h⟩
  · refine wc_known_true rfl hc23 ?_
    refine wc_seq ?_
    refine wc_region (l := [0, 1, 2]) rfl ?_
    refine wo_seg Θ_ok [0] [(6, (.pointer (some ⟨b7, 0, none⟩))), (22, (.agg #[(.slice none 0 0), (.slice none 0 0)]))] rfl ⟨rfl, rfl, trivial⟩ ?_
    refine wo_store Θ_ok rfl rfl rfl rfl rfl rfl rfl hb7 [(.slice none 0 0), (.slice none 0 0)] rfl rfl (by simp [Value.oneCell']) rfl [(.slice none 0 0), (.slice none 0 0)] rfl (fun w24 hb7 f25 => ?_)
    have hO := f25.ob hO
    have hF := hF.own f25 gb7
    refine wo_seg Θ_ok [2] [(6, (.pointer (some ⟨b7, 0, none⟩))), (7, (.int .i64 2))] rfl ⟨rfl, rfl, trivial⟩ ?_
    refine wo_nil ?_
    refine wq_seq ?_
    refine wc_ret ?_
    have h := Option.some.inj h; subst h
    exact wq_then_ret (wq_retc Θ_ok (vs := [(.agg #[(.slice none 0 0), (.slice none 0 0)]), (.int .i64 2)]) ⟨(.agg #[(.slice none 0 0), (.slice none 0 0)]), _, rfl, ⟨_, _, _, _, rfl, hb7, rfl, rfl, .inl rfl, rfl⟩, ⟨(.int .i64 2), _, rfl, rfl, rfl⟩⟩ ⟨_, rfl, ⟨_, _, rfl, (((tGIpc_is (x := (GIpc.mk ([] : List GName) ([] : List GBox)))).2 ⟨_, _, rfl, (slice_nil _ _ _), (slice_nil _ _ _)⟩).tr (Tr.less hS)), (int_is.2 rfl)⟩, hF⟩)
  refine wc_known_false rfl hc23 ?_
  refine wc_skip ?_
  refine wq_seq ?_
  refine wc_seq ?_
  refine wc_seq ?_
  refine wc_region (l := [0, 1, 2, 3, 4, 5, 6, 7]) rfl ?_
  refine wo_load Θ_ok rfl rfl rfl rfl rfl rfl rfl hb4 [v0_1, v0_2] rfl rfl (.inl rfl) (.agg #[v0_1, v0_2]) rfl ?_
  refine wo_seg Θ_ok [1] [(1, (.int .u64 x1)), (2, (.int .u64 x2)), (3, (.pointer (some ⟨b4, 0, none⟩))), (6, (.pointer (some ⟨b7, 0, none⟩))), (24, (.agg #[v0_1, v0_2])), (25, (.int .u64 x1))] rfl ⟨rfl, rfl, rfl, rfl, rfl, rfl, trivial⟩ ?_
  refine wo_gives rfl rfl rfl rfl rfl ent39 rfl (r_Lookup_c hO ((tGIpc_is (x := x0)).2 ⟨_, _, rfl, h0_1, h0_2⟩) (int_is.2 rfl)) (fun v26 w27 h28 f29 => ?_)
  have h0_1 := h0_1.tr f29.tr0
  have h0_2 := h0_2.tr f29.tr0
  have hb4 := hb4.fr0 f29
  have hb7 := hb7.fr0 f29
  have hO := f29.ob hO
  have hF := hF.trans f29
  obtain ⟨u30, u32, rfl, h31, h33⟩ := h28
  obtain rfl := int_is.1 h31
  obtain rfl := bool_is.1 h33
  refine wo_seg Θ_ok [3, 4, 5, 6, 7] [(1, (.int .u64 x1)), (2, (.int .u64 x2)), (3, (.pointer (some ⟨b4, 0, none⟩))), (6, (.pointer (some ⟨b7, 0, none⟩))), (9, (.bool ((((r_Lookup x0 x1)).2))))] rfl ⟨rfl, rfl, rfl, rfl, rfl, trivial⟩ ?_
  refine wo_nil ?_
  refine wq_seq ?_
  refine wc_seq ?_
  refine wc_region (l := [0]) rfl ?_
  refine wo_seg Θ_ok [0] [(1, (.int .u64 x1)), (2, (.int .u64 x2)), (3, (.pointer (some ⟨b4, 0, none⟩))), (6, (.pointer (some ⟨b7, 0, none⟩))), (29, (.bool ((((r_Lookup x0 x1)).2))))] rfl ⟨rfl, rfl, rfl, rfl, rfl, trivial⟩ ?_
  refine wo_nil ?_
  refine wq_seq ?_
  rcases bif_some h with ⟨hc34, h⟩ | ⟨hc34, h⟩
  · refine wc_known_true rfl hc34 ?_
    refine wc_seq ?_
    refine wc_region (l := [0, 1, 2]) rfl ?_
    refine wo_seg Θ_ok [0] [(6, (.pointer (some ⟨b7, 0, none⟩))), (30, (.agg #[(.slice none 0 0), (.slice none 0 0)]))] rfl ⟨rfl, rfl, trivial⟩ ?_
    refine wo_store Θ_ok rfl rfl rfl rfl rfl rfl rfl hb7 [(.slice none 0 0), (.slice none 0 0)] rfl rfl (by simp [Value.oneCell']) rfl [(.slice none 0 0), (.slice none 0 0)] rfl (fun w35 hb7 f36 => ?_)
    have hO := f36.ob hO
    have hF := hF.own f36 gb7
    refine wo_seg Θ_ok [2] [(6, (.pointer (some ⟨b7, 0, none⟩))), (7, (.int .i64 5))] rfl ⟨rfl, rfl, trivial⟩ ?_
    refine wo_nil ?_
    refine wq_seq ?_
    refine wc_ret ?_
    have h := Option.some.inj h; subst h
    exact wq_then_ret (wq_retc Θ_ok (vs := [(.agg #[(.slice none 0 0), (.slice none 0 0)]), (.int .i64 5)]) ⟨(.agg #[(.slice none 0 0), (.slice none 0 0)]), _, rfl, ⟨_, _, _, _, rfl, hb7, rfl, rfl, .inl rfl, rfl⟩, ⟨(.int .i64 5), _, rfl, rfl, rfl⟩⟩ ⟨_, rfl, ⟨_, _, rfl, (((tGIpc_is (x := (GIpc.mk ([] : List GName) ([] : List GBox)))).2 ⟨_, _, rfl, (slice_nil _ _ _), (slice_nil _ _ _)⟩).tr (Tr.less hS)), (int_is.2 rfl)⟩, hF⟩)
  refine wc_known_false rfl hc34 ?_
  refine wc_skip ?_
  refine wq_seq ?_
  refine wc_seq ?_
  refine wc_seq ?_
  refine wc_region (l := [0, 1, 2, 3]) rfl ?_
  refine wo_seg Θ_ok [0] [(1, (.int .u64 x1)), (2, (.int .u64 x2)), (3, (.pointer (some ⟨b4, 0, none⟩))), (6, (.pointer (some ⟨b7, 0, none⟩))), (31, (.pointer (some ⟨b4, 0, none⟩)))] rfl ⟨rfl, rfl, rfl, rfl, rfl, trivial⟩ ?_
  refine wo_load Θ_ok rfl rfl rfl rfl rfl rfl rfl hb4 [v0_1] rfl rfl (.inr rfl) v0_1 rfl ?_
  obtain ⟨A37, c38, rfl, hlc38, hmc38⟩ := slice_form h0_1
  refine wo_seg Θ_ok [2] [(1, (.int .u64 x1)), (2, (.int .u64 x2)), (3, (.pointer (some ⟨b4, 0, none⟩))), (6, (.pointer (some ⟨b7, 0, none⟩))), (33, (.int .i64 (x0.fNames.length : Int)))] rfl ⟨rfl, rfl, rfl, rfl, rfl, trivial⟩ ?_
  refine wo_seg Θ_ok [3] [(1, (.int .u64 x1)), (2, (.int .u64 x2)), (3, (.pointer (some ⟨b4, 0, none⟩))), (6, (.pointer (some ⟨b7, 0, none⟩))), (34, (.bool ((x0.fNames.length : Int) == (16 : Int))))] rfl ⟨rfl, rfl, rfl, rfl, rfl, trivial⟩ ?_
  refine wo_nil ?_
  refine wq_seq ?_
  rcases bif_some h with ⟨hc39, h⟩ | ⟨hc39, h⟩
  · refine wc_known_true rfl hc39 ?_
    refine wc_seq ?_
    refine wc_region (l := [0, 1, 2]) rfl ?_
    refine wo_seg Θ_ok [0] [(6, (.pointer (some ⟨b7, 0, none⟩))), (35, (.agg #[(.slice none 0 0), (.slice none 0 0)]))] rfl ⟨rfl, rfl, trivial⟩ ?_
    refine wo_store Θ_ok rfl rfl rfl rfl rfl rfl rfl hb7 [(.slice none 0 0), (.slice none 0 0)] rfl rfl (by simp [Value.oneCell']) rfl [(.slice none 0 0), (.slice none 0 0)] rfl (fun w40 hb7 f41 => ?_)
    have hO := f41.ob hO
    have hF := hF.own f41 gb7
    refine wo_seg Θ_ok [2] [(6, (.pointer (some ⟨b7, 0, none⟩))), (7, (.int .i64 6))] rfl ⟨rfl, rfl, trivial⟩ ?_
    refine wo_nil ?_
    refine wq_seq ?_
    refine wc_ret ?_
    have h := Option.some.inj h; subst h
    exact wq_then_ret (wq_retc Θ_ok (vs := [(.agg #[(.slice none 0 0), (.slice none 0 0)]), (.int .i64 6)]) ⟨(.agg #[(.slice none 0 0), (.slice none 0 0)]), _, rfl, ⟨_, _, _, _, rfl, hb7, rfl, rfl, .inl rfl, rfl⟩, ⟨(.int .i64 6), _, rfl, rfl, rfl⟩⟩ ⟨_, rfl, ⟨_, _, rfl, (((tGIpc_is (x := (GIpc.mk ([] : List GName) ([] : List GBox)))).2 ⟨_, _, rfl, (slice_nil _ _ _), (slice_nil _ _ _)⟩).tr (Tr.less hS)), (int_is.2 rfl)⟩, hF⟩)
  refine wc_known_false rfl hc39 ?_
  refine wc_skip ?_
  refine wq_seq ?_
  refine wc_seq ?_
  refine wc_region (l := [0, 1, 2, 3, 4]) rfl ?_
  refine wo_seg Θ_ok [0] [(1, (.int .u64 x1)), (2, (.int .u64 x2)), (3, (.pointer (some ⟨b4, 0, none⟩))), (6, (.pointer (some ⟨b7, 0, none⟩))), (36, (.pointer (some ⟨b4, 1, none⟩)))] rfl ⟨rfl, rfl, rfl, rfl, rfl, trivial⟩ ?_
  refine wo_load Θ_ok rfl rfl rfl rfl rfl rfl rfl hb4 [v0_2] rfl rfl (.inr rfl) v0_2 rfl ?_
  obtain ⟨A42, c43, rfl, hlc43, hmc43⟩ := slice_form h0_2
  refine wo_seg Θ_ok [2] [(1, (.int .u64 x1)), (2, (.int .u64 x2)), (3, (.pointer (some ⟨b4, 0, none⟩))), (6, (.pointer (some ⟨b7, 0, none⟩))), (38, (.agg #[(.slice none 0 0), (.slice A42 x0.fBoxes.length c43)]))] rfl ⟨rfl, rfl, rfl, rfl, rfl, trivial⟩ ?_
  refine wo_alloc Θ_ok rfl rfl rfl rfl rfl rfl [(.slice none 0 0), (.slice none 0 0)] rfl hO (fun b44 w45 n46 => ?_)
  have h0_2 := h0_2.tr n46.tr
  have h0_1 := h0_1.tr n46.tr
  have nb44b4 : b44 ≠ b4 := by have := hb4.lt; have := n46.ge; omega
  have hb4 := hb4.fr0 n46.fr
  have ib4 := List.mem_cons_of_mem b44 ib4
  have nb44b7 : b44 ≠ b7 := by have := hb7.lt; have := n46.ge; omega
  have hb7 := hb7.fr0 n46.fr
  have ib7 := List.mem_cons_of_mem b44 ib7
  have hb44 := n46.blk
  have gb44 := n46.ge0 hF
  have ib44 : b44 ∈ b44 :: (b7 :: b4 :: O) := List.mem_cons_self
  have hO := n46.ob
  have hF := hF.trans n46.fr
  have hS := Sub.cons hS b44
  refine wo_store Θ_ok rfl rfl rfl rfl rfl rfl rfl hb44 [(.slice none 0 0), (.slice A42 x0.fBoxes.length c43)] rfl rfl (by simp [Value.oneCell']) rfl [(.slice none 0 0), (.slice A42 x0.fBoxes.length c43)] rfl (fun w47 hb44 f48 => ?_)
  have h0_1 := h0_1.tr (f48.tr (one_in ib44))
  have h0_2 := h0_2.tr (f48.tr (one_in ib44))
  have hb4 := hb4.fr f48 (nin nb44b4.symm)
  have hb7 := hb7.fr f48 (nin nb44b7.symm)
  have hO := f48.ob hO
  have hF := hF.own f48 gb44
  refine wo_nil ?_
  refine wq_seq ?_
  obtain ⟨k50, hk51, h⟩ := letk_some h
  refine wc_join (fun E W => ∃ (O59 : List Nat) (p54 : GIpc) (v55 : Value) (v57 : Value), E = [(1, (.int .u64 x1)), (2, (.int .u64 x2)), (3, (.pointer (some ⟨b4, 0, none⟩))), (6, (.pointer (some ⟨b7, 0, none⟩))), (10, (.pointer (some ⟨b44, 0, none⟩)))] ∧ Tr (b44 :: b7 :: b4 :: O) w47 O59 W ∧ OB O59 W ∧ Sub O O59 ∧ Fr [] w W ∧ b4 ∈ O59 ∧ Blk W b4 25 [(.slice A37 x0.fNames.length c38), (.slice A42 x0.fBoxes.length c43)] ∧ b7 ∈ O59 ∧ Blk W b7 25 [(.slice none 0 0), (.slice none 0 0)] ∧ b44 ∈ O59 ∧ Blk W b44 25 [v55, v57] ∧ Go.Dc.Own tGName 31 w.heap.size O59 W v55 p54.fNames ∧ v55.ownBlock ≠ some b4 ∧ v55.ownBlock ≠ some b7 ∧ v55.ownBlock ≠ some b44 ∧ (Ty.slice tGBox).is O59 W v57 p54.fBoxes ∧ k50 p54 = some r) ?_ (fun K52 hK53 => ?_)
  rotate_left
  · clear hk51
    have T49 := Tr.refl (b44 :: b7 :: b4 :: O) w47
    refine wc_seq ?_
    refine wc_region (l := [0, 1, 2, 3]) rfl ?_
    refine wo_seg Θ_ok [0] [(1, (.int .u64 x1)), (2, (.int .u64 x2)), (3, (.pointer (some ⟨b4, 0, none⟩))), (6, (.pointer (some ⟨b7, 0, none⟩))), (10, (.pointer (some ⟨b44, 0, none⟩))), (39, (.pointer (some ⟨b4, 0, none⟩)))] rfl ⟨rfl, rfl, rfl, rfl, rfl, rfl, trivial⟩ ?_
    refine wo_load Θ_ok rfl rfl rfl rfl rfl rfl rfl hb4 [(.slice A37 x0.fNames.length c38)] rfl rfl (.inr rfl) (.slice A37 x0.fNames.length c38) rfl ?_
    refine wo_seg Θ_ok [2, 3] [(1, (.int .u64 x1)), (2, (.int .u64 x2)), (3, (.pointer (some ⟨b4, 0, none⟩))), (6, (.pointer (some ⟨b7, 0, none⟩))), (10, (.pointer (some ⟨b44, 0, none⟩))), (40, (.slice A37 x0.fNames.length c38)), (41, (.int .i64 (x0.fNames.length : Int))), (42, (.int .i64 0))] rfl ⟨rfl, rfl, rfl, rfl, rfl, rfl, rfl, rfl, trivial⟩ ?_
    refine wo_nil ?_
    refine wq_seq ?_
    refine wc_block ?_
    refine wc_loop (fun m E W => ∃ (rest143 : List GName) (i142 : Nat) (O146 : List Nat) (p137 : GIpc) (v138 : Value) (v140 : Value), rest143.length = m ∧ x0.fNames.drop i142 = rest143 ∧ E = [(1, (.int .u64 x1)), (2, (.int .u64 x2)), (3, (.pointer (some ⟨b4, 0, none⟩))), (6, (.pointer (some ⟨b7, 0, none⟩))), (10, (.pointer (some ⟨b44, 0, none⟩))), (40, (.slice A37 x0.fNames.length c38)), (41, (.int .i64 (x0.fNames.length : Int))), (42, (.int .i64 (i142 : Int)))] ∧ Tr (b44 :: b7 :: b4 :: O) w47 O146 W ∧ OB O146 W ∧ Sub O O146 ∧ Fr [] w W ∧ b4 ∈ O146 ∧ Blk W b4 25 [(.slice A37 x0.fNames.length c38), (.slice A42 x0.fBoxes.length c43)] ∧ b7 ∈ O146 ∧ Blk W b7 25 [(.slice none 0 0), (.slice none 0 0)] ∧ b44 ∈ O146 ∧ Blk W b44 25 [v138, v140] ∧ Go.Dc.Own tGName 31 w.heap.size O146 W v138 p137.fNames ∧ v138.ownBlock ≠ some b4 ∧ v138.ownBlock ≠ some b7 ∧ v138.ownBlock ≠ some b44 ∧ (Ty.slice tGBox).is O146 W v140 p137.fBoxes ∧ r_Register_l2 x1 k50 rest143 i142 p137 = some r) _ [(1, (.int .u64 x1)), (2, (.int .u64 x2)), (3, (.pointer (some ⟨b4, 0, none⟩))), (6, (.pointer (some ⟨b7, 0, none⟩))), (10, (.pointer (some ⟨b44, 0, none⟩))), (40, (.slice A37 x0.fNames.length c38)), (41, (.int .i64 (x0.fNames.length : Int))), (42, (.int .i64 ((0 : Nat) : Int)))] ⟨rfl, rfl, rfl, rfl, rfl, rfl, rfl, rfl, trivial⟩ ⟨x0.fNames, 0, b44 :: b7 :: b4 :: O, (GIpc.mk ([] : List GName) x0.fBoxes), (.slice none 0 0), (.slice A42 x0.fBoxes.length c43), rfl, rfl, rfl, Tr.refl _ _, hO, hS, hF, ib4, hb4, ib7, hb7, ib44, hb44, (Go.Dc.Own.nil_ : Go.Dc.Own tGName 31 w.heap.size _ _ _ _), (nil_ne _), (nil_ne _), (nil_ne _), h0_2, h⟩ ?_
    rintro m E w147 ⟨rest143, i142, O146, p137, v138, v140, rfl, hd145, rfl, T136, hO, hS, hF, ib4, hb4, ib7, hb7, ib44, hb44, h139, qh139b4, qh139b7, qh139b44, h141, h⟩
    have T49 := T49.trans T136
    have h0_1 := h0_1.tr T136
    have h0_2 := h0_2.tr T136
    rcases rest143 with _ | ⟨z144, rest143⟩
    · rw [r_Register_l2] at h
      have hl151 := drop_nil hd145
      have hc148 : (decide ((i142 : Int) < (x0.fNames.length : Int))) = false := decide_eq_false (by omega)
      refine wc_seq ?_
      refine wc_region (l := [0]) rfl ?_
      refine wo_seg Θ_ok [0] [(1, (.int .u64 x1)), (2, (.int .u64 x2)), (3, (.pointer (some ⟨b4, 0, none⟩))), (6, (.pointer (some ⟨b7, 0, none⟩))), (10, (.pointer (some ⟨b44, 0, none⟩))), (40, (.slice A37 x0.fNames.length c38)), (41, (.int .i64 (x0.fNames.length : Int))), (42, (.int .i64 (i142 : Int))), (43, (.bool (decide ((i142 : Int) < (x0.fNames.length : Int)))))] rfl ⟨rfl, rfl, rfl, rfl, rfl, rfl, rfl, rfl, rfl, trivial⟩ ?_
      refine wo_nil ?_
      refine wq_seq ?_
      refine wc_seq ?_
      refine wc_known_false rfl hc148 ?_
      refine wc_exit ?_
      exact wq_then_exit (wq_then_exit (wq_block_exit (wq_join hK53 [(1, (.int .u64 x1)), (2, (.int .u64 x2)), (3, (.pointer (some ⟨b4, 0, none⟩))), (6, (.pointer (some ⟨b7, 0, none⟩))), (10, (.pointer (some ⟨b44, 0, none⟩)))] ⟨rfl, rfl, rfl, rfl, rfl, trivial⟩ ⟨O146, p137, v138, v140, rfl, T49, hO, hS, hF, ib4, hb4, ib7, hb7, ib44, hb44, h139, qh139b4, qh139b7, qh139b44, h141, h⟩)))
    rw [r_Register_l2] at h
    obtain ⟨hl152, hg150, hd145⟩ := drop_cons hd145
    have hc149 : (decide ((i142 : Int) < (x0.fNames.length : Int))) = true := decide_eq_true (by omega)
    refine wc_seq ?_
    refine wc_region (l := [0]) rfl ?_
    refine wo_seg Θ_ok [0] [(1, (.int .u64 x1)), (2, (.int .u64 x2)), (3, (.pointer (some ⟨b4, 0, none⟩))), (6, (.pointer (some ⟨b7, 0, none⟩))), (10, (.pointer (some ⟨b44, 0, none⟩))), (40, (.slice A37 x0.fNames.length c38)), (41, (.int .i64 (x0.fNames.length : Int))), (42, (.int .i64 (i142 : Int))), (43, (.bool (decide ((i142 : Int) < (x0.fNames.length : Int)))))] rfl ⟨rfl, rfl, rfl, rfl, rfl, rfl, rfl, rfl, rfl, trivial⟩ ?_
    refine wo_nil ?_
    refine wq_seq ?_
    refine wc_seq ?_
    refine wc_known_true rfl hc149 ?_
    refine wc_skip ?_
    refine wq_seq ?_
    refine wc_seq ?_
    refine wc_block ?_
    refine wc_seq ?_
    refine wc_region (l := [0, 1, 2, 3]) rfl ?_
    refine wo_index Θ_ok rfl rfl rfl rfl rfl rfl rfl rfl rfl rfl h0_1 rfl (by omega) hg150 (fun p153 h154 => ?_)
    refine wo_loadp Θ_ok rfl rfl rfl rfl rfl rfl rfl h154 rfl rfl (fun v155 h156 => ?_)
    obtain rfl := tGName_is.1 h156
    refine wo_alloc Θ_ok rfl rfl rfl rfl rfl rfl [(.int .u64 0), (.int .u64 0)] rfl hO (fun b157 w158 n159 => ?_)
    have h0_1 := h0_1.tr n159.tr
    have h0_2 := h0_2.tr n159.tr
    have h141 := h141.tr n159.tr
    have T49 := T49.trans n159.tr
    have T136 := T136.trans n159.tr
    have qh139b157 := h139.ne_new n159
    have h139 := h139.new n159
    have nb157b4 : b157 ≠ b4 := by have := hb4.lt; have := n159.ge; omega
    have hb4 := hb4.fr0 n159.fr
    have ib4 := List.mem_cons_of_mem b157 ib4
    have nb157b7 : b157 ≠ b7 := by have := hb7.lt; have := n159.ge; omega
    have hb7 := hb7.fr0 n159.fr
    have ib7 := List.mem_cons_of_mem b157 ib7
    have nb157b44 : b157 ≠ b44 := by have := hb44.lt; have := n159.ge; omega
    have hb44 := hb44.fr0 n159.fr
    have ib44 := List.mem_cons_of_mem b157 ib44
    have hb157 := n159.blk
    have gb157 := n159.ge0 hF
    have ib157 : b157 ∈ b157 :: O146 := List.mem_cons_self
    have hO := n159.ob
    have hF := hF.trans n159.fr
    have hS := Sub.cons hS b157
    refine wo_store Θ_ok rfl rfl rfl rfl rfl rfl rfl hb157 [(.int .u64 z144.fName), (.int .u64 z144.fPid)] rfl rfl (by simp [Value.oneCell']) rfl [(.int .u64 z144.fName), (.int .u64 z144.fPid)] rfl (fun w160 hb157 f161 => ?_)
    have h0_1 := h0_1.tr (f161.tr (one_in ib157))
    have h0_2 := h0_2.tr (f161.tr (one_in ib157))
    have h141 := h141.tr (f161.tr (one_in ib157))
    have T49 := T49.trans (f161.tr (one_in ib157))
    have T136 := T136.trans (f161.tr (one_in ib157))
    have hb4 := hb4.fr f161 (nin nb157b4.symm)
    have hb7 := hb7.fr f161 (nin nb157b7.symm)
    have hb44 := hb44.fr f161 (nin nb157b44.symm)
    have h139 := h139.st f161 ib157 qh139b157
    have hO := f161.ob hO
    have hF := hF.own f161 gb157
    refine wo_nil ?_
    refine wq_seq ?_
    refine wc_seq ?_
    refine wc_region (l := [0, 1, 2, 3]) rfl ?_
    refine wo_seg Θ_ok [0] [(1, (.int .u64 x1)), (2, (.int .u64 x2)), (3, (.pointer (some ⟨b4, 0, none⟩))), (6, (.pointer (some ⟨b7, 0, none⟩))), (10, (.pointer (some ⟨b44, 0, none⟩))), (12, (.pointer (some ⟨b157, 0, none⟩))), (40, (.slice A37 x0.fNames.length c38)), (41, (.int .i64 (x0.fNames.length : Int))), (42, (.int .i64 (i142 : Int))), (46, (.pointer (some ⟨b157, 0, none⟩)))] rfl ⟨rfl, rfl, rfl, rfl, rfl, rfl, rfl, rfl, rfl, rfl, trivial⟩ ?_
    refine wo_load Θ_ok rfl rfl rfl rfl rfl rfl rfl hb157 [(.int .u64 z144.fName)] rfl rfl (.inr rfl) (.int .u64 z144.fName) rfl ?_
    refine wo_seg Θ_ok [2, 3] [(1, (.int .u64 x1)), (2, (.int .u64 x2)), (3, (.pointer (some ⟨b4, 0, none⟩))), (6, (.pointer (some ⟨b7, 0, none⟩))), (10, (.pointer (some ⟨b44, 0, none⟩))), (12, (.pointer (some ⟨b157, 0, none⟩))), (40, (.slice A37 x0.fNames.length c38)), (41, (.int .i64 (x0.fNames.length : Int))), (42, (.int .i64 (i142 : Int))), (49, (.bool (decide (z144.fName < x1))))] rfl ⟨rfl, rfl, rfl, rfl, rfl, rfl, rfl, rfl, rfl, rfl, trivial⟩ ?_
    refine wo_nil ?_
    refine wq_seq ?_
    rcases bif_some h with ⟨hc162, h⟩ | ⟨hc162, h⟩
    rotate_left
    · refine wc_known_false rfl hc162 ?_
      refine wc_skip ?_
      refine wq_block (wq_seq ?_)
      refine wc_region (l := [0, 1]) rfl ?_
      refine wo_seg Θ_ok [0, 1] [(1, (.int .u64 x1)), (2, (.int .u64 x2)), (3, (.pointer (some ⟨b4, 0, none⟩))), (6, (.pointer (some ⟨b7, 0, none⟩))), (10, (.pointer (some ⟨b44, 0, none⟩))), (40, (.slice A37 x0.fNames.length c38)), (41, (.int .i64 (x0.fNames.length : Int))), (42, (.int .i64 (IntKind.i64.wrap ((i142 : Int) + (1 : Int)))))] rfl ⟨rfl, rfl, rfl, rfl, rfl, rfl, rfl, rfl, trivial⟩ ?_
      refine wo_nil ?_
      exact wq_next rest143.length [(1, (.int .u64 x1)), (2, (.int .u64 x2)), (3, (.pointer (some ⟨b4, 0, none⟩))), (6, (.pointer (some ⟨b7, 0, none⟩))), (10, (.pointer (some ⟨b44, 0, none⟩))), (40, (.slice A37 x0.fNames.length c38)), (41, (.int .i64 (x0.fNames.length : Int))), (42, (.int .i64 ((i142 + 1 : Nat) : Int)))] (Nat.lt_succ_self _) ⟨rfl, rfl, rfl, rfl, rfl, rfl, rfl, congrArg (fun z => some (Value.int .i64 z)) (wrap_succ hl152 (Nat.le_trans hlc38 hmc38)), trivial⟩ ⟨rest143, i142 + 1, b157 :: O146, p137, v138, v140, rfl, hd145, rfl, T136, hO, hS, hF, ib4, hb4, ib7, hb7, ib44, hb44, h139, qh139b4, qh139b7, qh139b44, h141, h⟩
    refine wc_known_true rfl hc162 ?_
    refine wc_region (l := [0, 1, 2, 3, 4, 5, 6]) rfl ?_
    refine wo_seg Θ_ok [0] [(1, (.int .u64 x1)), (2, (.int .u64 x2)), (3, (.pointer (some ⟨b4, 0, none⟩))), (6, (.pointer (some ⟨b7, 0, none⟩))), (10, (.pointer (some ⟨b44, 0, none⟩))), (12, (.pointer (some ⟨b157, 0, none⟩))), (40, (.slice A37 x0.fNames.length c38)), (41, (.int .i64 (x0.fNames.length : Int))), (42, (.int .i64 (i142 : Int))), (50, (.pointer (some ⟨b44, 0, none⟩)))] rfl ⟨rfl, rfl, rfl, rfl, rfl, rfl, rfl, rfl, rfl, rfl, trivial⟩ ?_
    refine wo_load Θ_ok rfl rfl rfl rfl rfl rfl rfl hb44 [v138] rfl rfl (.inr rfl) v138 rfl ?_
    refine wo_load Θ_ok rfl rfl rfl rfl rfl rfl rfl hb157 [(.int .u64 z144.fName), (.int .u64 z144.fPid)] rfl rfl (.inl rfl) (.agg #[(.int .u64 z144.fName), (.int .u64 z144.fPid)]) rfl ?_
    refine wo_litd Θ_ok rfl rfl rfl rfl rfl rfl rfl rfl rfl rfl (T := tGName) (xs := [z144]) (vs := [(.agg #[(.int .u64 z144.fName), (.int .u64 z144.fPid)])]) rfl ⟨((tGName_is (x := z144)).2 rfl), trivial⟩ rfl rfl rfl hO (fun v163 w164 h165 f166 => ?_)
    have h0_1 := h0_1.tr f166.tr0
    have h0_2 := h0_2.tr f166.tr0
    have h141 := h141.tr f166.tr0
    have hb4 := hb4.fr0 f166
    have hb7 := hb7.fr0 f166
    have hb44 := hb44.fr0 f166
    have h139 := h139.fr0 f166
    have T49 := T49.trans f166.tr0
    have T136 := T136.trans f166.tr0
    have hO := f166.ob hO
    have hF := hF.trans f166
    obtain ⟨z167, hz168, h⟩ := bind_some h
    refine wo_app Θ_ok rfl rfl rfl rfl rfl rfl rfl rfl rfl rfl rfl rfl rfl rfl hF hO h139 h165 hz168 (fun v169 w170 O171 ap172 => ?_)
    have h0_1 := h0_1.tr ap172.tr
    have h0_2 := h0_2.tr ap172.tr
    have h141 := h141.tr ap172.tr
    have T49 := T49.trans ap172.tr
    have T136 := T136.trans ap172.tr
    have qh173b4 := ap172.ne _ hb4.lt qh139b4
    have hb4 := ap172.blk hb4 qh139b4
    have ib4 := ap172.sub _ ib4
    have qh173b7 := ap172.ne _ hb7.lt qh139b7
    have hb7 := ap172.blk hb7 qh139b7
    have ib7 := ap172.sub _ ib7
    have qh173b44 := ap172.ne _ hb44.lt qh139b44
    have hb44 := ap172.blk hb44 qh139b44
    have ib44 := ap172.sub _ ib44
    have hF := ap172.fr0 h139 hF
    have hS := Sub.trans hS ap172.sub
    have hO := ap172.ob
    have h173 := ap172.own
    refine wo_seg Θ_ok [5] [(1, (.int .u64 x1)), (2, (.int .u64 x2)), (3, (.pointer (some ⟨b4, 0, none⟩))), (6, (.pointer (some ⟨b7, 0, none⟩))), (10, (.pointer (some ⟨b44, 0, none⟩))), (40, (.slice A37 x0.fNames.length c38)), (41, (.int .i64 (x0.fNames.length : Int))), (42, (.int .i64 (i142 : Int))), (54, v169), (55, (.pointer (some ⟨b44, 0, none⟩)))] rfl ⟨rfl, rfl, rfl, rfl, rfl, rfl, rfl, rfl, rfl, rfl, trivial⟩ ?_
    obtain ⟨A174, c175, rfl, hlc175, hmc175⟩ := h173.form
    refine wo_store Θ_ok rfl rfl rfl rfl rfl rfl rfl hb44 [(.slice A174 z167.length c175)] rfl rfl (by simp [Value.oneCell']) rfl [(.slice A174 z167.length c175), v140] rfl (fun w176 hb44 f177 => ?_)
    have h0_1 := h0_1.tr (f177.tr (one_in ib44))
    have h0_2 := h0_2.tr (f177.tr (one_in ib44))
    have h141 := h141.tr (f177.tr (one_in ib44))
    have T49 := T49.trans (f177.tr (one_in ib44))
    have T136 := T136.trans (f177.tr (one_in ib44))
    have hb4 := hb4.fr f177 (nin nb44b4.symm)
    have hb7 := hb7.fr f177 (nin nb44b7.symm)
    have h173 := h173.st f177 ib44 qh173b44
    have hO := f177.ob hO
    have hF := hF.own f177 gb44
    refine wo_nil ?_
    refine wq_block (wq_seq ?_)
    refine wc_region (l := [0, 1]) rfl ?_
    refine wo_seg Θ_ok [0, 1] [(1, (.int .u64 x1)), (2, (.int .u64 x2)), (3, (.pointer (some ⟨b4, 0, none⟩))), (6, (.pointer (some ⟨b7, 0, none⟩))), (10, (.pointer (some ⟨b44, 0, none⟩))), (40, (.slice A37 x0.fNames.length c38)), (41, (.int .i64 (x0.fNames.length : Int))), (42, (.int .i64 (IntKind.i64.wrap ((i142 : Int) + (1 : Int)))))] rfl ⟨rfl, rfl, rfl, rfl, rfl, rfl, rfl, rfl, trivial⟩ ?_
    refine wo_nil ?_
    exact wq_next rest143.length [(1, (.int .u64 x1)), (2, (.int .u64 x2)), (3, (.pointer (some ⟨b4, 0, none⟩))), (6, (.pointer (some ⟨b7, 0, none⟩))), (10, (.pointer (some ⟨b44, 0, none⟩))), (40, (.slice A37 x0.fNames.length c38)), (41, (.int .i64 (x0.fNames.length : Int))), (42, (.int .i64 ((i142 + 1 : Nat) : Int)))] (Nat.lt_succ_self _) ⟨rfl, rfl, rfl, rfl, rfl, rfl, rfl, congrArg (fun z => some (Value.int .i64 z)) (wrap_succ hl152 (Nat.le_trans hlc38 hmc38)), trivial⟩ ⟨rest143, i142 + 1, O171, (GIpc.mk z167 p137.fBoxes), (.slice A174 z167.length c175), v140, rfl, hd145, rfl, T136, hO, hS, hF, ib4, hb4, ib7, hb7, ib44, hb44, h173, qh173b4, qh173b7, qh173b44, h141, h⟩
  rintro E w60 ⟨O59, p54, v55, v57, rfl, T49, hO, hS, hF, ib4, hb4, ib7, hb7, ib44, hb44, h56, qh56b4, qh56b7, qh56b44, h58, h⟩
  have h0_1 := h0_1.tr T49
  have h0_2 := h0_2.tr T49
  subst hk51
  (try dsimp only at h)
  refine wc_seq ?_
  refine wc_region (l := [0, 1, 2, 3, 4, 5, 6, 7, 8]) rfl ?_
  refine wo_seg Θ_ok [0] [(1, (.int .u64 x1)), (2, (.int .u64 x2)), (3, (.pointer (some ⟨b4, 0, none⟩))), (6, (.pointer (some ⟨b7, 0, none⟩))), (10, (.pointer (some ⟨b44, 0, none⟩))), (57, (.pointer (some ⟨b44, 0, none⟩)))] rfl ⟨rfl, rfl, rfl, rfl, rfl, rfl, trivial⟩ ?_
  refine wo_load Θ_ok rfl rfl rfl rfl rfl rfl rfl hb44 [v55] rfl rfl (.inr rfl) v55 rfl ?_
  refine wo_seg Θ_ok [2, 3, 4] [(1, (.int .u64 x1)), (3, (.pointer (some ⟨b4, 0, none⟩))), (6, (.pointer (some ⟨b7, 0, none⟩))), (10, (.pointer (some ⟨b44, 0, none⟩))), (58, v55), (61, (.agg #[(.int .u64 x1), (.int .u64 x2)]))] rfl ⟨rfl, rfl, rfl, rfl, rfl, rfl, trivial⟩ ?_
  refine wo_litd Θ_ok rfl rfl rfl rfl rfl rfl rfl rfl rfl rfl (T := tGName) (xs := [(GName.mk x1 x2)]) (vs := [(.agg #[(.int .u64 x1), (.int .u64 x2)])]) rfl ⟨((tGName_is (x := (GName.mk x1 x2))).2 rfl), trivial⟩ rfl rfl rfl hO (fun v61 w62 h63 f64 => ?_)
  have h0_1 := h0_1.tr f64.tr0
  have h0_2 := h0_2.tr f64.tr0
  have h58 := h58.tr f64.tr0
  have hb4 := hb4.fr0 f64
  have hb7 := hb7.fr0 f64
  have hb44 := hb44.fr0 f64
  have h56 := h56.fr0 f64
  have hO := f64.ob hO
  have hF := hF.trans f64
  obtain ⟨z65, hz66, h⟩ := bind_some h
  refine wo_app Θ_ok rfl rfl rfl rfl rfl rfl rfl rfl rfl rfl rfl rfl rfl rfl hF hO h56 h63 hz66 (fun v67 w68 O69 ap70 => ?_)
  have h0_1 := h0_1.tr ap70.tr
  have h0_2 := h0_2.tr ap70.tr
  have h58 := h58.tr ap70.tr
  have qh71b4 := ap70.ne _ hb4.lt qh56b4
  have hb4 := ap70.blk hb4 qh56b4
  have ib4 := ap70.sub _ ib4
  have qh71b7 := ap70.ne _ hb7.lt qh56b7
  have hb7 := ap70.blk hb7 qh56b7
  have ib7 := ap70.sub _ ib7
  have qh71b44 := ap70.ne _ hb44.lt qh56b44
  have hb44 := ap70.blk hb44 qh56b44
  have ib44 := ap70.sub _ ib44
  have hF := ap70.fr0 h56 hF
  have hS := Sub.trans hS ap70.sub
  have hO := ap70.ob
  have h71 := ap70.own
  refine wo_seg Θ_ok [7] [(1, (.int .u64 x1)), (3, (.pointer (some ⟨b4, 0, none⟩))), (6, (.pointer (some ⟨b7, 0, none⟩))), (10, (.pointer (some ⟨b44, 0, none⟩))), (63, v67), (64, (.pointer (some ⟨b44, 0, none⟩)))] rfl ⟨rfl, rfl, rfl, rfl, rfl, rfl, trivial⟩ ?_
  obtain ⟨A72, c73, rfl, hlc73, hmc73⟩ := h71.form
  refine wo_store Θ_ok rfl rfl rfl rfl rfl rfl rfl hb44 [(.slice A72 z65.length c73)] rfl rfl (by simp [Value.oneCell']) rfl [(.slice A72 z65.length c73), v57] rfl (fun w74 hb44 f75 => ?_)
  have h0_1 := h0_1.tr (f75.tr (one_in ib44))
  have h0_2 := h0_2.tr (f75.tr (one_in ib44))
  have h58 := h58.tr (f75.tr (one_in ib44))
  have hb4 := hb4.fr f75 (nin nb44b4.symm)
  have hb7 := hb7.fr f75 (nin nb44b7.symm)
  have h71 := h71.st f75 ib44 qh71b44
  have hO := f75.ob hO
  have hF := hF.own f75 gb44
  refine wo_nil ?_
  refine wq_seq ?_
  obtain ⟨k77, hk78, h⟩ := letk_some h
  refine wc_join (fun E W => ∃ (O86 : List Nat) (p81 : GIpc) (v82 : Value) (v84 : Value), E = [(6, (.pointer (some ⟨b7, 0, none⟩))), (10, (.pointer (some ⟨b44, 0, none⟩)))] ∧ Tr O69 w74 O86 W ∧ OB O86 W ∧ Sub O O86 ∧ Fr [] w W ∧ b7 ∈ O86 ∧ Blk W b7 25 [(.slice none 0 0), (.slice none 0 0)] ∧ b44 ∈ O86 ∧ Blk W b44 25 [v82, v84] ∧ Go.Dc.Own tGName 31 w.heap.size O86 W v82 p81.fNames ∧ v82.ownBlock ≠ some b7 ∧ v82.ownBlock ≠ some b44 ∧ (Ty.slice tGBox).is O86 W v84 p81.fBoxes ∧ k77 p81 = some r) ?_ (fun K79 hK80 => ?_)
  · rintro E w87 ⟨O86, p81, v82, v84, rfl, T76, hO, hS, hF, ib7, hb7, ib44, hb44, h83, qh83b7, qh83b44, h85, h⟩
    subst hk78
    (try dsimp only at h)
    refine wc_seq ?_
    refine wc_region (l := [0, 1, 2]) rfl ?_
    refine wo_load Θ_ok rfl rfl rfl rfl rfl rfl rfl hb44 [v82, v84] rfl rfl (.inl rfl) (.agg #[v82, v84]) rfl ?_
    obtain ⟨A88, c89, rfl, hlc89, hmc89⟩ := h83.form
    obtain ⟨A90, c91, rfl, hlc91, hmc91⟩ := slice_form h85
    refine wo_store Θ_ok rfl rfl rfl rfl rfl rfl rfl hb7 [(.slice A88 p81.fNames.length c89), (.slice A90 p81.fBoxes.length c91)] rfl rfl (by simp [Value.oneCell']) rfl [(.slice A88 p81.fNames.length c89), (.slice A90 p81.fBoxes.length c91)] rfl (fun w92 hb7 f93 => ?_)
    have h85 := h85.tr (f93.tr (one_in ib7))
    have h83 := h83.st f93 ib7 qh83b7
    have hO := f93.ob hO
    have hF := hF.own f93 gb7
    refine wo_seg Θ_ok [2] [(6, (.pointer (some ⟨b7, 0, none⟩))), (7, (.int .i64 0))] rfl ⟨rfl, rfl, trivial⟩ ?_
    refine wo_nil ?_
    refine wq_seq ?_
    refine wc_ret ?_
    have h := Option.some.inj h; subst h
    exact wq_retc Θ_ok (vs := [(.agg #[(.slice A88 p81.fNames.length c89), (.slice A90 p81.fBoxes.length c91)]), (.int .i64 0)]) ⟨(.agg #[(.slice A88 p81.fNames.length c89), (.slice A90 p81.fBoxes.length c91)]), _, rfl, ⟨_, _, _, _, rfl, hb7, rfl, rfl, .inl rfl, rfl⟩, ⟨(.int .i64 0), _, rfl, rfl, rfl⟩⟩ ⟨_, rfl, ⟨_, _, rfl, ((tGIpc_is (x := p81)).2 ⟨_, _, rfl, (h83.share0 hS hO0), (h85.tr (Tr.less hS))⟩), (int_is.2 rfl)⟩, hF⟩
  clear hk78
  have T76 := Tr.refl O69 w74
  refine wc_seq ?_
  refine wc_region (l := [0, 1, 2, 3]) rfl ?_
  refine wo_seg Θ_ok [0] [(1, (.int .u64 x1)), (6, (.pointer (some ⟨b7, 0, none⟩))), (10, (.pointer (some ⟨b44, 0, none⟩))), (65, (.pointer (some ⟨b4, 0, none⟩)))] rfl ⟨rfl, rfl, rfl, rfl, trivial⟩ ?_
  refine wo_load Θ_ok rfl rfl rfl rfl rfl rfl rfl hb4 [(.slice A37 x0.fNames.length c38)] rfl rfl (.inr rfl) (.slice A37 x0.fNames.length c38) rfl ?_
  refine wo_seg Θ_ok [2, 3] [(1, (.int .u64 x1)), (6, (.pointer (some ⟨b7, 0, none⟩))), (10, (.pointer (some ⟨b44, 0, none⟩))), (66, (.slice A37 x0.fNames.length c38)), (67, (.int .i64 (x0.fNames.length : Int))), (68, (.int .i64 0))] rfl ⟨rfl, rfl, rfl, rfl, rfl, rfl, trivial⟩ ?_
  refine wo_nil ?_
  refine wq_seq ?_
  refine wc_block ?_
  refine wc_loop (fun m E W => ∃ (rest101 : List GName) (i100 : Nat) (O104 : List Nat) (p95 : GIpc) (v96 : Value) (v98 : Value), rest101.length = m ∧ x0.fNames.drop i100 = rest101 ∧ E = [(1, (.int .u64 x1)), (6, (.pointer (some ⟨b7, 0, none⟩))), (10, (.pointer (some ⟨b44, 0, none⟩))), (66, (.slice A37 x0.fNames.length c38)), (67, (.int .i64 (x0.fNames.length : Int))), (68, (.int .i64 (i100 : Int)))] ∧ Tr O69 w74 O104 W ∧ OB O104 W ∧ Sub O O104 ∧ Fr [] w W ∧ b7 ∈ O104 ∧ Blk W b7 25 [(.slice none 0 0), (.slice none 0 0)] ∧ b44 ∈ O104 ∧ Blk W b44 25 [v96, v98] ∧ Go.Dc.Own tGName 31 w.heap.size O104 W v96 p95.fNames ∧ v96.ownBlock ≠ some b7 ∧ v96.ownBlock ≠ some b44 ∧ (Ty.slice tGBox).is O104 W v98 p95.fBoxes ∧ r_Register_l1 x1 k77 rest101 i100 p95 = some r) _ [(1, (.int .u64 x1)), (6, (.pointer (some ⟨b7, 0, none⟩))), (10, (.pointer (some ⟨b44, 0, none⟩))), (66, (.slice A37 x0.fNames.length c38)), (67, (.int .i64 (x0.fNames.length : Int))), (68, (.int .i64 ((0 : Nat) : Int)))] ⟨rfl, rfl, rfl, rfl, rfl, rfl, trivial⟩ ⟨x0.fNames, 0, O69, (GIpc.mk z65 p54.fBoxes), (.slice A72 z65.length c73), v57, rfl, rfl, rfl, Tr.refl _ _, hO, hS, hF, ib7, hb7, ib44, hb44, h71, qh71b7, qh71b44, h58, h⟩ ?_
  rintro m E w105 ⟨rest101, i100, O104, p95, v96, v98, rfl, hd103, rfl, T94, hO, hS, hF, ib7, hb7, ib44, hb44, h97, qh97b7, qh97b44, h99, h⟩
  have T76 := T76.trans T94
  have h0_1 := h0_1.tr T94
  rcases rest101 with _ | ⟨z102, rest101⟩
  · rw [r_Register_l1] at h
    have hl109 := drop_nil hd103
    have hc106 : (decide ((i100 : Int) < (x0.fNames.length : Int))) = false := decide_eq_false (by omega)
    refine wc_seq ?_
    refine wc_region (l := [0]) rfl ?_
    refine wo_seg Θ_ok [0] [(1, (.int .u64 x1)), (6, (.pointer (some ⟨b7, 0, none⟩))), (10, (.pointer (some ⟨b44, 0, none⟩))), (66, (.slice A37 x0.fNames.length c38)), (67, (.int .i64 (x0.fNames.length : Int))), (68, (.int .i64 (i100 : Int))), (69, (.bool (decide ((i100 : Int) < (x0.fNames.length : Int)))))] rfl ⟨rfl, rfl, rfl, rfl, rfl, rfl, rfl, trivial⟩ ?_
    refine wo_nil ?_
    refine wq_seq ?_
    refine wc_seq ?_
    refine wc_known_false rfl hc106 ?_
    refine wc_exit ?_
    exact wq_then_exit (wq_then_exit (wq_block_exit (wq_join hK80 [(6, (.pointer (some ⟨b7, 0, none⟩))), (10, (.pointer (some ⟨b44, 0, none⟩)))] ⟨rfl, rfl, trivial⟩ ⟨O104, p95, v96, v98, rfl, T76, hO, hS, hF, ib7, hb7, ib44, hb44, h97, qh97b7, qh97b44, h99, h⟩)))
  rw [r_Register_l1] at h
  obtain ⟨hl110, hg108, hd103⟩ := drop_cons hd103
  have hc107 : (decide ((i100 : Int) < (x0.fNames.length : Int))) = true := decide_eq_true (by omega)
  refine wc_seq ?_
  refine wc_region (l := [0]) rfl ?_
  refine wo_seg Θ_ok [0] [(1, (.int .u64 x1)), (6, (.pointer (some ⟨b7, 0, none⟩))), (10, (.pointer (some ⟨b44, 0, none⟩))), (66, (.slice A37 x0.fNames.length c38)), (67, (.int .i64 (x0.fNames.length : Int))), (68, (.int .i64 (i100 : Int))), (69, (.bool (decide ((i100 : Int) < (x0.fNames.length : Int)))))] rfl ⟨rfl, rfl, rfl, rfl, rfl, rfl, rfl, trivial⟩ ?_
  refine wo_nil ?_
  refine wq_seq ?_
  refine wc_seq ?_
  refine wc_known_true rfl hc107 ?_
  refine wc_skip ?_
  refine wq_seq ?_
  refine wc_seq ?_
  refine wc_block ?_
  refine wc_seq ?_
  refine wc_region (l := [0, 1, 2, 3]) rfl ?_
  refine wo_index Θ_ok rfl rfl rfl rfl rfl rfl rfl rfl rfl rfl h0_1 rfl (by omega) hg108 (fun p111 h112 => ?_)
  refine wo_loadp Θ_ok rfl rfl rfl rfl rfl rfl rfl h112 rfl rfl (fun v113 h114 => ?_)
  obtain rfl := tGName_is.1 h114
  refine wo_alloc Θ_ok rfl rfl rfl rfl rfl rfl [(.int .u64 0), (.int .u64 0)] rfl hO (fun b115 w116 n117 => ?_)
  have h0_1 := h0_1.tr n117.tr
  have h99 := h99.tr n117.tr
  have T76 := T76.trans n117.tr
  have T94 := T94.trans n117.tr
  have qh97b115 := h97.ne_new n117
  have h97 := h97.new n117
  have nb115b7 : b115 ≠ b7 := by have := hb7.lt; have := n117.ge; omega
  have hb7 := hb7.fr0 n117.fr
  have ib7 := List.mem_cons_of_mem b115 ib7
  have nb115b44 : b115 ≠ b44 := by have := hb44.lt; have := n117.ge; omega
  have hb44 := hb44.fr0 n117.fr
  have ib44 := List.mem_cons_of_mem b115 ib44
  have hb115 := n117.blk
  have gb115 := n117.ge0 hF
  have ib115 : b115 ∈ b115 :: O104 := List.mem_cons_self
  have hO := n117.ob
  have hF := hF.trans n117.fr
  have hS := Sub.cons hS b115
  refine wo_store Θ_ok rfl rfl rfl rfl rfl rfl rfl hb115 [(.int .u64 z102.fName), (.int .u64 z102.fPid)] rfl rfl (by simp [Value.oneCell']) rfl [(.int .u64 z102.fName), (.int .u64 z102.fPid)] rfl (fun w118 hb115 f119 => ?_)
  have h0_1 := h0_1.tr (f119.tr (one_in ib115))
  have h99 := h99.tr (f119.tr (one_in ib115))
  have T76 := T76.trans (f119.tr (one_in ib115))
  have T94 := T94.trans (f119.tr (one_in ib115))
  have hb7 := hb7.fr f119 (nin nb115b7.symm)
  have hb44 := hb44.fr f119 (nin nb115b44.symm)
  have h97 := h97.st f119 ib115 qh97b115
  have hO := f119.ob hO
  have hF := hF.own f119 gb115
  refine wo_nil ?_
  refine wq_seq ?_
  refine wc_seq ?_
  refine wc_region (l := [0, 1, 2, 3]) rfl ?_
  refine wo_seg Θ_ok [0] [(1, (.int .u64 x1)), (6, (.pointer (some ⟨b7, 0, none⟩))), (10, (.pointer (some ⟨b44, 0, none⟩))), (14, (.pointer (some ⟨b115, 0, none⟩))), (66, (.slice A37 x0.fNames.length c38)), (67, (.int .i64 (x0.fNames.length : Int))), (68, (.int .i64 (i100 : Int))), (72, (.pointer (some ⟨b115, 0, none⟩)))] rfl ⟨rfl, rfl, rfl, rfl, rfl, rfl, rfl, rfl, trivial⟩ ?_
  refine wo_load Θ_ok rfl rfl rfl rfl rfl rfl rfl hb115 [(.int .u64 z102.fName)] rfl rfl (.inr rfl) (.int .u64 z102.fName) rfl ?_
  refine wo_seg Θ_ok [2, 3] [(1, (.int .u64 x1)), (6, (.pointer (some ⟨b7, 0, none⟩))), (10, (.pointer (some ⟨b44, 0, none⟩))), (14, (.pointer (some ⟨b115, 0, none⟩))), (66, (.slice A37 x0.fNames.length c38)), (67, (.int .i64 (x0.fNames.length : Int))), (68, (.int .i64 (i100 : Int))), (75, (.bool (decide (z102.fName > x1))))] rfl ⟨rfl, rfl, rfl, rfl, rfl, rfl, rfl, rfl, trivial⟩ ?_
  refine wo_nil ?_
  refine wq_seq ?_
  rcases bif_some h with ⟨hc120, h⟩ | ⟨hc120, h⟩
  rotate_left
  · refine wc_known_false rfl hc120 ?_
    refine wc_skip ?_
    refine wq_block (wq_seq ?_)
    refine wc_region (l := [0, 1]) rfl ?_
    refine wo_seg Θ_ok [0, 1] [(1, (.int .u64 x1)), (6, (.pointer (some ⟨b7, 0, none⟩))), (10, (.pointer (some ⟨b44, 0, none⟩))), (66, (.slice A37 x0.fNames.length c38)), (67, (.int .i64 (x0.fNames.length : Int))), (68, (.int .i64 (IntKind.i64.wrap ((i100 : Int) + (1 : Int)))))] rfl ⟨rfl, rfl, rfl, rfl, rfl, rfl, trivial⟩ ?_
    refine wo_nil ?_
    exact wq_next rest101.length [(1, (.int .u64 x1)), (6, (.pointer (some ⟨b7, 0, none⟩))), (10, (.pointer (some ⟨b44, 0, none⟩))), (66, (.slice A37 x0.fNames.length c38)), (67, (.int .i64 (x0.fNames.length : Int))), (68, (.int .i64 ((i100 + 1 : Nat) : Int)))] (Nat.lt_succ_self _) ⟨rfl, rfl, rfl, rfl, rfl, congrArg (fun z => some (Value.int .i64 z)) (wrap_succ hl110 (Nat.le_trans hlc38 hmc38)), trivial⟩ ⟨rest101, i100 + 1, b115 :: O104, p95, v96, v98, rfl, hd103, rfl, T94, hO, hS, hF, ib7, hb7, ib44, hb44, h97, qh97b7, qh97b44, h99, h⟩
  refine wc_known_true rfl hc120 ?_
  refine wc_region (l := [0, 1, 2, 3, 4, 5, 6]) rfl ?_
  refine wo_seg Θ_ok [0] [(1, (.int .u64 x1)), (6, (.pointer (some ⟨b7, 0, none⟩))), (10, (.pointer (some ⟨b44, 0, none⟩))), (14, (.pointer (some ⟨b115, 0, none⟩))), (66, (.slice A37 x0.fNames.length c38)), (67, (.int .i64 (x0.fNames.length : Int))), (68, (.int .i64 (i100 : Int))), (76, (.pointer (some ⟨b44, 0, none⟩)))] rfl ⟨rfl, rfl, rfl, rfl, rfl, rfl, rfl, rfl, trivial⟩ ?_
  refine wo_load Θ_ok rfl rfl rfl rfl rfl rfl rfl hb44 [v96] rfl rfl (.inr rfl) v96 rfl ?_
  refine wo_load Θ_ok rfl rfl rfl rfl rfl rfl rfl hb115 [(.int .u64 z102.fName), (.int .u64 z102.fPid)] rfl rfl (.inl rfl) (.agg #[(.int .u64 z102.fName), (.int .u64 z102.fPid)]) rfl ?_
  refine wo_litd Θ_ok rfl rfl rfl rfl rfl rfl rfl rfl rfl rfl (T := tGName) (xs := [z102]) (vs := [(.agg #[(.int .u64 z102.fName), (.int .u64 z102.fPid)])]) rfl ⟨((tGName_is (x := z102)).2 rfl), trivial⟩ rfl rfl rfl hO (fun v121 w122 h123 f124 => ?_)
  have h0_1 := h0_1.tr f124.tr0
  have h99 := h99.tr f124.tr0
  have hb7 := hb7.fr0 f124
  have hb44 := hb44.fr0 f124
  have h97 := h97.fr0 f124
  have T76 := T76.trans f124.tr0
  have T94 := T94.trans f124.tr0
  have hO := f124.ob hO
  have hF := hF.trans f124
  obtain ⟨z125, hz126, h⟩ := bind_some h
  refine wo_app Θ_ok rfl rfl rfl rfl rfl rfl rfl rfl rfl rfl rfl rfl rfl rfl hF hO h97 h123 hz126 (fun v127 w128 O129 ap130 => ?_)
  have h0_1 := h0_1.tr ap130.tr
  have h99 := h99.tr ap130.tr
  have T76 := T76.trans ap130.tr
  have T94 := T94.trans ap130.tr
  have qh131b7 := ap130.ne _ hb7.lt qh97b7
  have hb7 := ap130.blk hb7 qh97b7
  have ib7 := ap130.sub _ ib7
  have qh131b44 := ap130.ne _ hb44.lt qh97b44
  have hb44 := ap130.blk hb44 qh97b44
  have ib44 := ap130.sub _ ib44
  have hF := ap130.fr0 h97 hF
  have hS := Sub.trans hS ap130.sub
  have hO := ap130.ob
  have h131 := ap130.own
  refine wo_seg Θ_ok [5] [(1, (.int .u64 x1)), (6, (.pointer (some ⟨b7, 0, none⟩))), (10, (.pointer (some ⟨b44, 0, none⟩))), (66, (.slice A37 x0.fNames.length c38)), (67, (.int .i64 (x0.fNames.length : Int))), (68, (.int .i64 (i100 : Int))), (80, v127), (81, (.pointer (some ⟨b44, 0, none⟩)))] rfl ⟨rfl, rfl, rfl, rfl, rfl, rfl, rfl, rfl, trivial⟩ ?_
  obtain ⟨A132, c133, rfl, hlc133, hmc133⟩ := h131.form
  refine wo_store Θ_ok rfl rfl rfl rfl rfl rfl rfl hb44 [(.slice A132 z125.length c133)] rfl rfl (by simp [Value.oneCell']) rfl [(.slice A132 z125.length c133), v98] rfl (fun w134 hb44 f135 => ?_)
  have h0_1 := h0_1.tr (f135.tr (one_in ib44))
  have h99 := h99.tr (f135.tr (one_in ib44))
  have T76 := T76.trans (f135.tr (one_in ib44))
  have T94 := T94.trans (f135.tr (one_in ib44))
  have hb7 := hb7.fr f135 (nin nb44b7.symm)
  have h131 := h131.st f135 ib44 qh131b44
  have hO := f135.ob hO
  have hF := hF.own f135 gb44
  refine wo_nil ?_
  refine wq_block (wq_seq ?_)
  refine wc_region (l := [0, 1]) rfl ?_
  refine wo_seg Θ_ok [0, 1] [(1, (.int .u64 x1)), (6, (.pointer (some ⟨b7, 0, none⟩))), (10, (.pointer (some ⟨b44, 0, none⟩))), (66, (.slice A37 x0.fNames.length c38)), (67, (.int .i64 (x0.fNames.length : Int))), (68, (.int .i64 (IntKind.i64.wrap ((i100 : Int) + (1 : Int)))))] rfl ⟨rfl, rfl, rfl, rfl, rfl, rfl, trivial⟩ ?_
  refine wo_nil ?_
  exact wq_next rest101.length [(1, (.int .u64 x1)), (6, (.pointer (some ⟨b7, 0, none⟩))), (10, (.pointer (some ⟨b44, 0, none⟩))), (66, (.slice A37 x0.fNames.length c38)), (67, (.int .i64 (x0.fNames.length : Int))), (68, (.int .i64 ((i100 + 1 : Nat) : Int)))] (Nat.lt_succ_self _) ⟨rfl, rfl, rfl, rfl, rfl, congrArg (fun z => some (Value.int .i64 z)) (wrap_succ hl110 (Nat.le_trans hlc38 hmc38)), trivial⟩ ⟨rest101, i100 + 1, O129, (GIpc.mk z125 p95.fBoxes), (.slice A132 z125.length c133), v98, rfl, hd103, rfl, T94, hO, hS, hF, ib7, hb7, ib44, hb44, h131, qh131b7, qh131b44, h99, h⟩
set_option maxRecDepth 100000 in
set_option maxHeartbeats 4000000 in
theorem r_Unregister_c {O : List Nat} {w : World} (hO : OB O w) {fuel : Nat} {v0 : Value} {x0 : GIpc} (h0 : tGIpc.is O w v0 x0) {v1 : Value} {x1 : Int} (h1 : (Ty.int .u64).is O w v1 x1) {r : GIpc × Int} (h : r_Unregister fuel x0 x1 = some r) : Calls Try.prog 13 #[v0, v1] w (Gives (rt2 tGIpc (Ty.int .i64)) O w r) := by
  obtain ⟨v0_1, v0_2, rfl, h0_1, h0_2⟩ := tGIpc_is.1 h0
  obtain rfl := int_is.1 h1
  have hF := Fr.refl [] w
  have hO0 := hO
  have hS := Sub.refl O
  refine calls_of (args := [(.agg #[v0_1, v0_2]), (.int .u64 x1)]) (N := 46) Try.func13 rfl rfl rfl ?_
  unfold r_Unregister at h
  refine wc_seq ?_
  refine wc_region (l := [0, 1, 2]) rfl ?_
  refine wo_box rfl rfl rfl rfl rfl rfl [v0_1, v0_2] rfl hO (fun b3 w4 n5 => ?_)
  have h0_1 := h0_1.tr n5.tr
  have h0_2 := h0_2.tr n5.tr
  have hb3 := n5.blk
  have gb3 := n5.ge0 hF
  have ib3 : b3 ∈ b3 :: O := List.mem_cons_self
  have hO := n5.ob
  have hF := hF.trans n5.fr
  have hS := Sub.cons hS b3
  refine wo_alloc Θ_ok rfl rfl rfl rfl rfl rfl [(.slice none 0 0), (.slice none 0 0)] rfl hO (fun b6 w7 n8 => ?_)
  have h0_1 := h0_1.tr n8.tr
  have h0_2 := h0_2.tr n8.tr
  have nb6b3 : b6 ≠ b3 := by have := hb3.lt; have := n8.ge; omega
  have hb3 := hb3.fr0 n8.fr
  have ib3 := List.mem_cons_of_mem b6 ib3
  have hb6 := n8.blk
  have gb6 := n8.ge0 hF
  have ib6 : b6 ∈ b6 :: (b3 :: O) := List.mem_cons_self
  have hO := n8.ob
  have hF := hF.trans n8.fr
  have hS := Sub.cons hS b6
  refine wo_seg Θ_ok [2] [(1, (.int .u64 x1)), (2, (.pointer (some ⟨b3, 0, none⟩))), (4, (.pointer (some ⟨b6, 0, none⟩)))] rfl ⟨rfl, rfl, rfl, trivial⟩ ?_
  refine wo_nil ?_
  refine wq_seq ?_
  refine wc_seq ?_
  refine wc_seq ?_
  refine wc_region (l := [0, 1, 2]) rfl ?_
  refine wo_seg Θ_ok [0] [(1, (.int .u64 x1)), (2, (.pointer (some ⟨b3, 0, none⟩))), (4, (.pointer (some ⟨b6, 0, none⟩))), (11, (.int .u64 x1))] rfl ⟨rfl, rfl, rfl, rfl, trivial⟩ ?_
  obtain ⟨y13, hy14, h⟩ := bind_some h
  refine wo_gives rfl rfl rfl rfl rfl ent32 rfl (r_Is_c hO (int_is.2 rfl) hy14) (fun v9 w10 h11 f12 => ?_)
  have h0_1 := h0_1.tr f12.tr0
  have h0_2 := h0_2.tr f12.tr0
  have hb3 := hb3.fr0 f12
  have hb6 := hb6.fr0 f12
  have hO := f12.ob hO
  have hF := hF.trans f12
  obtain rfl := bool_is.1 h11
  refine wo_seg Θ_ok [2] [(1, (.int .u64 x1)), (2, (.pointer (some ⟨b3, 0, none⟩))), (4, (.pointer (some ⟨b6, 0, none⟩))), (13, (.bool (!y13)))] rfl ⟨rfl, rfl, rfl, rfl, trivial⟩ ?_
  refine wo_nil ?_
  refine wq_seq ?_
  rcases bif_some h with ⟨hc15, h⟩ | ⟨hc15, h⟩
  · refine wc_known_true rfl hc15 ?_
    refine wc_seq ?_
    refine wc_region (l := [0, 1, 2]) rfl ?_
    refine wo_seg Θ_ok [0] [(4, (.pointer (some ⟨b6, 0, none⟩))), (14, (.agg #[(.slice none 0 0), (.slice none 0 0)]))] rfl ⟨rfl, rfl, trivial⟩ ?_
    refine wo_store Θ_ok rfl rfl rfl rfl rfl rfl rfl hb6 [(.slice none 0 0), (.slice none 0 0)] rfl rfl (by simp [Value.oneCell']) rfl [(.slice none 0 0), (.slice none 0 0)] rfl (fun w16 hb6 f17 => ?_)
    have hO := f17.ob hO
    have hF := hF.own f17 gb6
    refine wo_seg Θ_ok [2] [(4, (.pointer (some ⟨b6, 0, none⟩))), (5, (.int .i64 351))] rfl ⟨rfl, rfl, trivial⟩ ?_
    refine wo_nil ?_
    refine wq_seq ?_
    refine wc_ret ?_
    have h := Option.some.inj h; subst h
    exact wq_then_ret (wq_retc Θ_ok (vs := [(.agg #[(.slice none 0 0), (.slice none 0 0)]), (.int .i64 351)]) ⟨(.agg #[(.slice none 0 0), (.slice none 0 0)]), _, rfl, ⟨_, _, _, _, rfl, hb6, rfl, rfl, .inl rfl, rfl⟩, ⟨(.int .i64 351), _, rfl, rfl, rfl⟩⟩ ⟨_, rfl, ⟨_, _, rfl, (((tGIpc_is (x := (GIpc.mk ([] : List GName) ([] : List GBox)))).2 ⟨_, _, rfl, (slice_nil _ _ _), (slice_nil _ _ _)⟩).tr (Tr.less hS)), (int_is.2 rfl)⟩, hF⟩)
  refine wc_known_false rfl hc15 ?_
  refine wc_skip ?_
  refine wq_seq ?_
  refine wc_seq ?_
  refine wc_seq ?_
  refine wc_region (l := [0, 1, 2, 3, 4, 5, 6, 7]) rfl ?_
  refine wo_load Θ_ok rfl rfl rfl rfl rfl rfl rfl hb3 [v0_1, v0_2] rfl rfl (.inl rfl) (.agg #[v0_1, v0_2]) rfl ?_
  refine wo_seg Θ_ok [1] [(1, (.int .u64 x1)), (2, (.pointer (some ⟨b3, 0, none⟩))), (4, (.pointer (some ⟨b6, 0, none⟩))), (16, (.agg #[v0_1, v0_2])), (17, (.int .u64 x1))] rfl ⟨rfl, rfl, rfl, rfl, rfl, trivial⟩ ?_
  refine wo_gives rfl rfl rfl rfl rfl ent39 rfl (r_Lookup_c hO ((tGIpc_is (x := x0)).2 ⟨_, _, rfl, h0_1, h0_2⟩) (int_is.2 rfl)) (fun v18 w19 h20 f21 => ?_)
  have h0_1 := h0_1.tr f21.tr0
  have h0_2 := h0_2.tr f21.tr0
  have hb3 := hb3.fr0 f21
  have hb6 := hb6.fr0 f21
  have hO := f21.ob hO
  have hF := hF.trans f21
  obtain ⟨u22, u24, rfl, h23, h25⟩ := h20
  obtain rfl := int_is.1 h23
  obtain rfl := bool_is.1 h25
  refine wo_seg Θ_ok [3, 4, 5, 6, 7] [(1, (.int .u64 x1)), (2, (.pointer (some ⟨b3, 0, none⟩))), (4, (.pointer (some ⟨b6, 0, none⟩))), (7, (.bool ((((r_Lookup x0 x1)).2))))] rfl ⟨rfl, rfl, rfl, rfl, trivial⟩ ?_
  refine wo_nil ?_
  refine wq_seq ?_
  refine wc_seq ?_
  refine wc_region (l := [0, 1]) rfl ?_
  refine wo_seg Θ_ok [0, 1] [(1, (.int .u64 x1)), (2, (.pointer (some ⟨b3, 0, none⟩))), (4, (.pointer (some ⟨b6, 0, none⟩))), (22, (.bool (!(((r_Lookup x0 x1)).2))))] rfl ⟨rfl, rfl, rfl, rfl, trivial⟩ ?_
  refine wo_nil ?_
  refine wq_seq ?_
  rcases bif_some h with ⟨hc26, h⟩ | ⟨hc26, h⟩
  · refine wc_known_true rfl hc26 ?_
    refine wc_seq ?_
    refine wc_region (l := [0, 1, 2]) rfl ?_
    refine wo_seg Θ_ok [0] [(4, (.pointer (some ⟨b6, 0, none⟩))), (23, (.agg #[(.slice none 0 0), (.slice none 0 0)]))] rfl ⟨rfl, rfl, trivial⟩ ?_
    refine wo_store Θ_ok rfl rfl rfl rfl rfl rfl rfl hb6 [(.slice none 0 0), (.slice none 0 0)] rfl rfl (by simp [Value.oneCell']) rfl [(.slice none 0 0), (.slice none 0 0)] rfl (fun w27 hb6 f28 => ?_)
    have hO := f28.ob hO
    have hF := hF.own f28 gb6
    refine wo_seg Θ_ok [2] [(4, (.pointer (some ⟨b6, 0, none⟩))), (5, (.int .i64 4))] rfl ⟨rfl, rfl, trivial⟩ ?_
    refine wo_nil ?_
    refine wq_seq ?_
    refine wc_ret ?_
    have h := Option.some.inj h; subst h
    exact wq_then_ret (wq_retc Θ_ok (vs := [(.agg #[(.slice none 0 0), (.slice none 0 0)]), (.int .i64 4)]) ⟨(.agg #[(.slice none 0 0), (.slice none 0 0)]), _, rfl, ⟨_, _, _, _, rfl, hb6, rfl, rfl, .inl rfl, rfl⟩, ⟨(.int .i64 4), _, rfl, rfl, rfl⟩⟩ ⟨_, rfl, ⟨_, _, rfl, (((tGIpc_is (x := (GIpc.mk ([] : List GName) ([] : List GBox)))).2 ⟨_, _, rfl, (slice_nil _ _ _), (slice_nil _ _ _)⟩).tr (Tr.less hS)), (int_is.2 rfl)⟩, hF⟩)
  refine wc_known_false rfl hc26 ?_
  refine wc_skip ?_
  refine wq_seq ?_
  refine wc_seq ?_
  refine wc_region (l := [0, 1, 2, 3, 4]) rfl ?_
  refine wo_seg Θ_ok [0] [(1, (.int .u64 x1)), (2, (.pointer (some ⟨b3, 0, none⟩))), (4, (.pointer (some ⟨b6, 0, none⟩))), (24, (.pointer (some ⟨b3, 1, none⟩)))] rfl ⟨rfl, rfl, rfl, rfl, trivial⟩ ?_
  refine wo_load Θ_ok rfl rfl rfl rfl rfl rfl rfl hb3 [v0_2] rfl rfl (.inr rfl) v0_2 rfl ?_
  obtain ⟨A29, c30, rfl, hlc30, hmc30⟩ := slice_form h0_2
  refine wo_seg Θ_ok [2] [(1, (.int .u64 x1)), (2, (.pointer (some ⟨b3, 0, none⟩))), (4, (.pointer (some ⟨b6, 0, none⟩))), (26, (.agg #[(.slice none 0 0), (.slice A29 x0.fBoxes.length c30)]))] rfl ⟨rfl, rfl, rfl, rfl, trivial⟩ ?_
  refine wo_alloc Θ_ok rfl rfl rfl rfl rfl rfl [(.slice none 0 0), (.slice none 0 0)] rfl hO (fun b31 w32 n33 => ?_)
  have h0_2 := h0_2.tr n33.tr
  have h0_1 := h0_1.tr n33.tr
  have nb31b3 : b31 ≠ b3 := by have := hb3.lt; have := n33.ge; omega
  have hb3 := hb3.fr0 n33.fr
  have ib3 := List.mem_cons_of_mem b31 ib3
  have nb31b6 : b31 ≠ b6 := by have := hb6.lt; have := n33.ge; omega
  have hb6 := hb6.fr0 n33.fr
  have ib6 := List.mem_cons_of_mem b31 ib6
  have hb31 := n33.blk
  have gb31 := n33.ge0 hF
  have ib31 : b31 ∈ b31 :: (b6 :: b3 :: O) := List.mem_cons_self
  have hO := n33.ob
  have hF := hF.trans n33.fr
  have hS := Sub.cons hS b31
  refine wo_store Θ_ok rfl rfl rfl rfl rfl rfl rfl hb31 [(.slice none 0 0), (.slice A29 x0.fBoxes.length c30)] rfl rfl (by simp [Value.oneCell']) rfl [(.slice none 0 0), (.slice A29 x0.fBoxes.length c30)] rfl (fun w34 hb31 f35 => ?_)
  have h0_1 := h0_1.tr (f35.tr (one_in ib31))
  have h0_2 := h0_2.tr (f35.tr (one_in ib31))
  have hb3 := hb3.fr f35 (nin nb31b3.symm)
  have hb6 := hb6.fr f35 (nin nb31b6.symm)
  have hO := f35.ob hO
  have hF := hF.own f35 gb31
  refine wo_nil ?_
  refine wq_seq ?_
  obtain ⟨k37, hk38, h⟩ := letk_some h
  refine wc_join (fun E W => ∃ (O46 : List Nat) (p41 : GIpc) (v42 : Value) (v44 : Value), E = [(4, (.pointer (some ⟨b6, 0, none⟩))), (8, (.pointer (some ⟨b31, 0, none⟩)))] ∧ Tr (b31 :: b6 :: b3 :: O) w34 O46 W ∧ OB O46 W ∧ Sub O O46 ∧ Fr [] w W ∧ b6 ∈ O46 ∧ Blk W b6 25 [(.slice none 0 0), (.slice none 0 0)] ∧ b31 ∈ O46 ∧ Blk W b31 25 [v42, v44] ∧ Go.Dc.Own tGName 31 w.heap.size O46 W v42 p41.fNames ∧ v42.ownBlock ≠ some b6 ∧ v42.ownBlock ≠ some b31 ∧ (Ty.slice tGBox).is O46 W v44 p41.fBoxes ∧ k37 p41 = some r) ?_ (fun K39 hK40 => ?_)
  · rintro E w47 ⟨O46, p41, v42, v44, rfl, T36, hO, hS, hF, ib6, hb6, ib31, hb31, h43, qh43b6, qh43b31, h45, h⟩
    subst hk38
    (try dsimp only at h)
    refine wc_seq ?_
    refine wc_region (l := [0, 1, 2]) rfl ?_
    refine wo_load Θ_ok rfl rfl rfl rfl rfl rfl rfl hb31 [v42, v44] rfl rfl (.inl rfl) (.agg #[v42, v44]) rfl ?_
    obtain ⟨A48, c49, rfl, hlc49, hmc49⟩ := h43.form
    obtain ⟨A50, c51, rfl, hlc51, hmc51⟩ := slice_form h45
    refine wo_store Θ_ok rfl rfl rfl rfl rfl rfl rfl hb6 [(.slice A48 p41.fNames.length c49), (.slice A50 p41.fBoxes.length c51)] rfl rfl (by simp [Value.oneCell']) rfl [(.slice A48 p41.fNames.length c49), (.slice A50 p41.fBoxes.length c51)] rfl (fun w52 hb6 f53 => ?_)
    have h45 := h45.tr (f53.tr (one_in ib6))
    have h43 := h43.st f53 ib6 qh43b6
    have hO := f53.ob hO
    have hF := hF.own f53 gb6
    refine wo_seg Θ_ok [2] [(4, (.pointer (some ⟨b6, 0, none⟩))), (5, (.int .i64 0))] rfl ⟨rfl, rfl, trivial⟩ ?_
    refine wo_nil ?_
    refine wq_seq ?_
    refine wc_ret ?_
    have h := Option.some.inj h; subst h
    exact wq_retc Θ_ok (vs := [(.agg #[(.slice A48 p41.fNames.length c49), (.slice A50 p41.fBoxes.length c51)]), (.int .i64 0)]) ⟨(.agg #[(.slice A48 p41.fNames.length c49), (.slice A50 p41.fBoxes.length c51)]), _, rfl, ⟨_, _, _, _, rfl, hb6, rfl, rfl, .inl rfl, rfl⟩, ⟨(.int .i64 0), _, rfl, rfl, rfl⟩⟩ ⟨_, rfl, ⟨_, _, rfl, ((tGIpc_is (x := p41)).2 ⟨_, _, rfl, (h43.share0 hS hO0), (h45.tr (Tr.less hS))⟩), (int_is.2 rfl)⟩, hF⟩
  clear hk38
  have T36 := Tr.refl (b31 :: b6 :: b3 :: O) w34
  refine wc_seq ?_
  refine wc_region (l := [0, 1, 2, 3]) rfl ?_
  refine wo_seg Θ_ok [0] [(1, (.int .u64 x1)), (4, (.pointer (some ⟨b6, 0, none⟩))), (8, (.pointer (some ⟨b31, 0, none⟩))), (27, (.pointer (some ⟨b3, 0, none⟩)))] rfl ⟨rfl, rfl, rfl, rfl, trivial⟩ ?_
  refine wo_load Θ_ok rfl rfl rfl rfl rfl rfl rfl hb3 [v0_1] rfl rfl (.inr rfl) v0_1 rfl ?_
  obtain ⟨A54, c55, rfl, hlc55, hmc55⟩ := slice_form h0_1
  refine wo_seg Θ_ok [2] [(1, (.int .u64 x1)), (4, (.pointer (some ⟨b6, 0, none⟩))), (8, (.pointer (some ⟨b31, 0, none⟩))), (28, (.slice A54 x0.fNames.length c55)), (29, (.int .i64 (x0.fNames.length : Int)))] rfl ⟨rfl, rfl, rfl, rfl, rfl, trivial⟩ ?_
  refine wo_seg Θ_ok [3] [(1, (.int .u64 x1)), (4, (.pointer (some ⟨b6, 0, none⟩))), (8, (.pointer (some ⟨b31, 0, none⟩))), (28, (.slice A54 x0.fNames.length c55)), (29, (.int .i64 (x0.fNames.length : Int))), (30, (.int .i64 0))] rfl ⟨rfl, rfl, rfl, rfl, rfl, rfl, trivial⟩ ?_
  refine wo_nil ?_
  refine wq_seq ?_
  refine wc_block ?_
  refine wc_loop (fun m E W => ∃ (rest63 : List GName) (i62 : Nat) (O66 : List Nat) (p57 : GIpc) (v58 : Value) (v60 : Value), rest63.length = m ∧ x0.fNames.drop i62 = rest63 ∧ E = [(1, (.int .u64 x1)), (4, (.pointer (some ⟨b6, 0, none⟩))), (8, (.pointer (some ⟨b31, 0, none⟩))), (28, (.slice A54 x0.fNames.length c55)), (29, (.int .i64 (x0.fNames.length : Int))), (30, (.int .i64 (i62 : Int)))] ∧ Tr (b31 :: b6 :: b3 :: O) w34 O66 W ∧ OB O66 W ∧ Sub O O66 ∧ Fr [] w W ∧ b6 ∈ O66 ∧ Blk W b6 25 [(.slice none 0 0), (.slice none 0 0)] ∧ b31 ∈ O66 ∧ Blk W b31 25 [v58, v60] ∧ Go.Dc.Own tGName 31 w.heap.size O66 W v58 p57.fNames ∧ v58.ownBlock ≠ some b6 ∧ v58.ownBlock ≠ some b31 ∧ (Ty.slice tGBox).is O66 W v60 p57.fBoxes ∧ r_Unregister_l1 x1 k37 rest63 i62 p57 = some r) _ [(1, (.int .u64 x1)), (4, (.pointer (some ⟨b6, 0, none⟩))), (8, (.pointer (some ⟨b31, 0, none⟩))), (28, (.slice A54 x0.fNames.length c55)), (29, (.int .i64 (x0.fNames.length : Int))), (30, (.int .i64 ((0 : Nat) : Int)))] ⟨rfl, rfl, rfl, rfl, rfl, rfl, trivial⟩ ⟨x0.fNames, 0, b31 :: b6 :: b3 :: O, (GIpc.mk ([] : List GName) x0.fBoxes), (.slice none 0 0), (.slice A29 x0.fBoxes.length c30), rfl, rfl, rfl, Tr.refl _ _, hO, hS, hF, ib6, hb6, ib31, hb31, (Go.Dc.Own.nil_ : Go.Dc.Own tGName 31 w.heap.size _ _ _ _), (nil_ne _), (nil_ne _), h0_2, h⟩ ?_
  rintro m E w67 ⟨rest63, i62, O66, p57, v58, v60, rfl, hd65, rfl, T56, hO, hS, hF, ib6, hb6, ib31, hb31, h59, qh59b6, qh59b31, h61, h⟩
  have T36 := T36.trans T56
  have h0_1 := h0_1.tr T56
  rcases rest63 with _ | ⟨z64, rest63⟩
  · rw [r_Unregister_l1] at h
    have hl71 := drop_nil hd65
    have hc68 : (decide ((i62 : Int) < (x0.fNames.length : Int))) = false := decide_eq_false (by omega)
    refine wc_seq ?_
    refine wc_region (l := [0]) rfl ?_
    refine wo_seg Θ_ok [0] [(1, (.int .u64 x1)), (4, (.pointer (some ⟨b6, 0, none⟩))), (8, (.pointer (some ⟨b31, 0, none⟩))), (28, (.slice A54 x0.fNames.length c55)), (29, (.int .i64 (x0.fNames.length : Int))), (30, (.int .i64 (i62 : Int))), (31, (.bool (decide ((i62 : Int) < (x0.fNames.length : Int)))))] rfl ⟨rfl, rfl, rfl, rfl, rfl, rfl, rfl, trivial⟩ ?_
    refine wo_nil ?_
    refine wq_seq ?_
    refine wc_seq ?_
    refine wc_known_false rfl hc68 ?_
    refine wc_exit ?_
    exact wq_then_exit (wq_then_exit (wq_block_exit (wq_join hK40 [(4, (.pointer (some ⟨b6, 0, none⟩))), (8, (.pointer (some ⟨b31, 0, none⟩)))] ⟨rfl, rfl, trivial⟩ ⟨O66, p57, v58, v60, rfl, T36, hO, hS, hF, ib6, hb6, ib31, hb31, h59, qh59b6, qh59b31, h61, h⟩)))
  rw [r_Unregister_l1] at h
  obtain ⟨hl72, hg70, hd65⟩ := drop_cons hd65
  have hc69 : (decide ((i62 : Int) < (x0.fNames.length : Int))) = true := decide_eq_true (by omega)
  refine wc_seq ?_
  refine wc_region (l := [0]) rfl ?_
  refine wo_seg Θ_ok [0] [(1, (.int .u64 x1)), (4, (.pointer (some ⟨b6, 0, none⟩))), (8, (.pointer (some ⟨b31, 0, none⟩))), (28, (.slice A54 x0.fNames.length c55)), (29, (.int .i64 (x0.fNames.length : Int))), (30, (.int .i64 (i62 : Int))), (31, (.bool (decide ((i62 : Int) < (x0.fNames.length : Int)))))] rfl ⟨rfl, rfl, rfl, rfl, rfl, rfl, rfl, trivial⟩ ?_
  refine wo_nil ?_
  refine wq_seq ?_
  refine wc_seq ?_
  refine wc_known_true rfl hc69 ?_
  refine wc_skip ?_
  refine wq_seq ?_
  refine wc_seq ?_
  refine wc_block ?_
  refine wc_seq ?_
  refine wc_region (l := [0, 1, 2, 3]) rfl ?_
  refine wo_index Θ_ok rfl rfl rfl rfl rfl rfl rfl rfl rfl rfl h0_1 rfl (by omega) hg70 (fun p73 h74 => ?_)
  refine wo_loadp Θ_ok rfl rfl rfl rfl rfl rfl rfl h74 rfl rfl (fun v75 h76 => ?_)
  obtain rfl := tGName_is.1 h76
  refine wo_alloc Θ_ok rfl rfl rfl rfl rfl rfl [(.int .u64 0), (.int .u64 0)] rfl hO (fun b77 w78 n79 => ?_)
  have h0_1 := h0_1.tr n79.tr
  have h61 := h61.tr n79.tr
  have T36 := T36.trans n79.tr
  have T56 := T56.trans n79.tr
  have qh59b77 := h59.ne_new n79
  have h59 := h59.new n79
  have nb77b6 : b77 ≠ b6 := by have := hb6.lt; have := n79.ge; omega
  have hb6 := hb6.fr0 n79.fr
  have ib6 := List.mem_cons_of_mem b77 ib6
  have nb77b31 : b77 ≠ b31 := by have := hb31.lt; have := n79.ge; omega
  have hb31 := hb31.fr0 n79.fr
  have ib31 := List.mem_cons_of_mem b77 ib31
  have hb77 := n79.blk
  have gb77 := n79.ge0 hF
  have ib77 : b77 ∈ b77 :: O66 := List.mem_cons_self
  have hO := n79.ob
  have hF := hF.trans n79.fr
  have hS := Sub.cons hS b77
  refine wo_store Θ_ok rfl rfl rfl rfl rfl rfl rfl hb77 [(.int .u64 z64.fName), (.int .u64 z64.fPid)] rfl rfl (by simp [Value.oneCell']) rfl [(.int .u64 z64.fName), (.int .u64 z64.fPid)] rfl (fun w80 hb77 f81 => ?_)
  have h0_1 := h0_1.tr (f81.tr (one_in ib77))
  have h61 := h61.tr (f81.tr (one_in ib77))
  have T36 := T36.trans (f81.tr (one_in ib77))
  have T56 := T56.trans (f81.tr (one_in ib77))
  have hb6 := hb6.fr f81 (nin nb77b6.symm)
  have hb31 := hb31.fr f81 (nin nb77b31.symm)
  have h59 := h59.st f81 ib77 qh59b77
  have hO := f81.ob hO
  have hF := hF.own f81 gb77
  refine wo_nil ?_
  refine wq_seq ?_
  refine wc_seq ?_
  refine wc_region (l := [0, 1, 2, 3]) rfl ?_
  refine wo_seg Θ_ok [0] [(1, (.int .u64 x1)), (4, (.pointer (some ⟨b6, 0, none⟩))), (8, (.pointer (some ⟨b31, 0, none⟩))), (10, (.pointer (some ⟨b77, 0, none⟩))), (28, (.slice A54 x0.fNames.length c55)), (29, (.int .i64 (x0.fNames.length : Int))), (30, (.int .i64 (i62 : Int))), (34, (.pointer (some ⟨b77, 0, none⟩)))] rfl ⟨rfl, rfl, rfl, rfl, rfl, rfl, rfl, rfl, trivial⟩ ?_
  refine wo_load Θ_ok rfl rfl rfl rfl rfl rfl rfl hb77 [(.int .u64 z64.fName)] rfl rfl (.inr rfl) (.int .u64 z64.fName) rfl ?_
  refine wo_seg Θ_ok [2, 3] [(1, (.int .u64 x1)), (4, (.pointer (some ⟨b6, 0, none⟩))), (8, (.pointer (some ⟨b31, 0, none⟩))), (10, (.pointer (some ⟨b77, 0, none⟩))), (28, (.slice A54 x0.fNames.length c55)), (29, (.int .i64 (x0.fNames.length : Int))), (30, (.int .i64 (i62 : Int))), (37, (.bool (z64.fName != x1)))] rfl ⟨rfl, rfl, rfl, rfl, rfl, rfl, rfl, rfl, trivial⟩ ?_
  refine wo_nil ?_
  refine wq_seq ?_
  rcases bif_some h with ⟨hc82, h⟩ | ⟨hc82, h⟩
  rotate_left
  · refine wc_known_false rfl hc82 ?_
    refine wc_skip ?_
    refine wq_block (wq_seq ?_)
    refine wc_region (l := [0, 1]) rfl ?_
    refine wo_seg Θ_ok [0, 1] [(1, (.int .u64 x1)), (4, (.pointer (some ⟨b6, 0, none⟩))), (8, (.pointer (some ⟨b31, 0, none⟩))), (28, (.slice A54 x0.fNames.length c55)), (29, (.int .i64 (x0.fNames.length : Int))), (30, (.int .i64 (IntKind.i64.wrap ((i62 : Int) + (1 : Int)))))] rfl ⟨rfl, rfl, rfl, rfl, rfl, rfl, trivial⟩ ?_
    refine wo_nil ?_
    exact wq_next rest63.length [(1, (.int .u64 x1)), (4, (.pointer (some ⟨b6, 0, none⟩))), (8, (.pointer (some ⟨b31, 0, none⟩))), (28, (.slice A54 x0.fNames.length c55)), (29, (.int .i64 (x0.fNames.length : Int))), (30, (.int .i64 ((i62 + 1 : Nat) : Int)))] (Nat.lt_succ_self _) ⟨rfl, rfl, rfl, rfl, rfl, congrArg (fun z => some (Value.int .i64 z)) (wrap_succ hl72 (Nat.le_trans hlc55 hmc55)), trivial⟩ ⟨rest63, i62 + 1, b77 :: O66, p57, v58, v60, rfl, hd65, rfl, T56, hO, hS, hF, ib6, hb6, ib31, hb31, h59, qh59b6, qh59b31, h61, h⟩
  refine wc_known_true rfl hc82 ?_
  refine wc_region (l := [0, 1, 2, 3, 4, 5, 6]) rfl ?_
  refine wo_seg Θ_ok [0] [(1, (.int .u64 x1)), (4, (.pointer (some ⟨b6, 0, none⟩))), (8, (.pointer (some ⟨b31, 0, none⟩))), (10, (.pointer (some ⟨b77, 0, none⟩))), (28, (.slice A54 x0.fNames.length c55)), (29, (.int .i64 (x0.fNames.length : Int))), (30, (.int .i64 (i62 : Int))), (38, (.pointer (some ⟨b31, 0, none⟩)))] rfl ⟨rfl, rfl, rfl, rfl, rfl, rfl, rfl, rfl, trivial⟩ ?_
  refine wo_load Θ_ok rfl rfl rfl rfl rfl rfl rfl hb31 [v58] rfl rfl (.inr rfl) v58 rfl ?_
  refine wo_load Θ_ok rfl rfl rfl rfl rfl rfl rfl hb77 [(.int .u64 z64.fName), (.int .u64 z64.fPid)] rfl rfl (.inl rfl) (.agg #[(.int .u64 z64.fName), (.int .u64 z64.fPid)]) rfl ?_
  refine wo_litd Θ_ok rfl rfl rfl rfl rfl rfl rfl rfl rfl rfl (T := tGName) (xs := [z64]) (vs := [(.agg #[(.int .u64 z64.fName), (.int .u64 z64.fPid)])]) rfl ⟨((tGName_is (x := z64)).2 rfl), trivial⟩ rfl rfl rfl hO (fun v83 w84 h85 f86 => ?_)
  have h0_1 := h0_1.tr f86.tr0
  have h61 := h61.tr f86.tr0
  have hb6 := hb6.fr0 f86
  have hb31 := hb31.fr0 f86
  have h59 := h59.fr0 f86
  have T36 := T36.trans f86.tr0
  have T56 := T56.trans f86.tr0
  have hO := f86.ob hO
  have hF := hF.trans f86
  obtain ⟨z87, hz88, h⟩ := bind_some h
  refine wo_app Θ_ok rfl rfl rfl rfl rfl rfl rfl rfl rfl rfl rfl rfl rfl rfl hF hO h59 h85 hz88 (fun v89 w90 O91 ap92 => ?_)
  have h0_1 := h0_1.tr ap92.tr
  have h61 := h61.tr ap92.tr
  have T36 := T36.trans ap92.tr
  have T56 := T56.trans ap92.tr
  have qh93b6 := ap92.ne _ hb6.lt qh59b6
  have hb6 := ap92.blk hb6 qh59b6
  have ib6 := ap92.sub _ ib6
  have qh93b31 := ap92.ne _ hb31.lt qh59b31
  have hb31 := ap92.blk hb31 qh59b31
  have ib31 := ap92.sub _ ib31
  have hF := ap92.fr0 h59 hF
  have hS := Sub.trans hS ap92.sub
  have hO := ap92.ob
  have h93 := ap92.own
  refine wo_seg Θ_ok [5] [(1, (.int .u64 x1)), (4, (.pointer (some ⟨b6, 0, none⟩))), (8, (.pointer (some ⟨b31, 0, none⟩))), (28, (.slice A54 x0.fNames.length c55)), (29, (.int .i64 (x0.fNames.length : Int))), (30, (.int .i64 (i62 : Int))), (42, v89), (43, (.pointer (some ⟨b31, 0, none⟩)))] rfl ⟨rfl, rfl, rfl, rfl, rfl, rfl, rfl, rfl, trivial⟩ ?_
  obtain ⟨A94, c95, rfl, hlc95, hmc95⟩ := h93.form
  refine wo_store Θ_ok rfl rfl rfl rfl rfl rfl rfl hb31 [(.slice A94 z87.length c95)] rfl rfl (by simp [Value.oneCell']) rfl [(.slice A94 z87.length c95), v60] rfl (fun w96 hb31 f97 => ?_)
  have h0_1 := h0_1.tr (f97.tr (one_in ib31))
  have h61 := h61.tr (f97.tr (one_in ib31))
  have T36 := T36.trans (f97.tr (one_in ib31))
  have T56 := T56.trans (f97.tr (one_in ib31))
  have hb6 := hb6.fr f97 (nin nb31b6.symm)
  have h93 := h93.st f97 ib31 qh93b31
  have hO := f97.ob hO
  have hF := hF.own f97 gb31
  refine wo_nil ?_
  refine wq_block (wq_seq ?_)
  refine wc_region (l := [0, 1]) rfl ?_
  refine wo_seg Θ_ok [0, 1] [(1, (.int .u64 x1)), (4, (.pointer (some ⟨b6, 0, none⟩))), (8, (.pointer (some ⟨b31, 0, none⟩))), (28, (.slice A54 x0.fNames.length c55)), (29, (.int .i64 (x0.fNames.length : Int))), (30, (.int .i64 (IntKind.i64.wrap ((i62 : Int) + (1 : Int)))))] rfl ⟨rfl, rfl, rfl, rfl, rfl, rfl, trivial⟩ ?_
  refine wo_nil ?_
  exact wq_next rest63.length [(1, (.int .u64 x1)), (4, (.pointer (some ⟨b6, 0, none⟩))), (8, (.pointer (some ⟨b31, 0, none⟩))), (28, (.slice A54 x0.fNames.length c55)), (29, (.int .i64 (x0.fNames.length : Int))), (30, (.int .i64 ((i62 + 1 : Nat) : Int)))] (Nat.lt_succ_self _) ⟨rfl, rfl, rfl, rfl, rfl, congrArg (fun z => some (Value.int .i64 z)) (wrap_succ hl72 (Nat.le_trans hlc55 hmc55)), trivial⟩ ⟨rest63, i62 + 1, O91, (GIpc.mk z87 p57.fBoxes), (.slice A94 z87.length c95), v60, rfl, hd65, rfl, T56, hO, hS, hF, ib6, hb6, ib31, hb31, h93, qh93b6, qh93b31, h61, h⟩
end Go.Proofs.Ytjdeaihnpgkphaa
