/-
  The program's functions compute the plain ones (printed by a tool of the prover's).
-/
import Derived.Test.YtbaffpifmfddeaaDoorGWalk1
namespace Go.Proofs.YtbaffpifmfddeaaDoor
open Go.RowKit Go.Dc Go.Shelf
set_option maxRecDepth 100000 in
set_option maxHeartbeats 4000000 in
theorem d_compare_c {O : List Nat} {w : World} (hO : OB O w) {v0 : Value} {x0 : GDesc} (h0 : tGDesc.is O w v0 x0) {v1 : Value} {x1 : GDesc} (h1 : tGDesc.is O w v1 x1) : Calls Tryd.prog 26 #[v0, v1] w (Gives (rt1 (Ty.int .i64)) O w (d_compare x0 x1)) := by
  obtain rfl := tGDesc_is.1 h0
  obtain rfl := tGDesc_is.1 h1
  have hF := Fr.refl [] w
  have hO0 := hO
  have hS := Sub.refl O
  obtain ⟨r, h⟩ : ∃ r, d_compare x0 x1 = r := ⟨_, rfl⟩
  rw [h]
  refine calls_of (args := [(.agg #[(.int .u64 x0.fPid), (.int .i64 x0.fFd), (.int .u64 x0.fWhat)]), (.agg #[(.int .u64 x1.fPid), (.int .i64 x1.fFd), (.int .u64 x1.fWhat)])]) (N := 17) Tryd.func26 rfl rfl rfl ?_
  unfold d_compare at h
  refine wc_seq ?_
  refine wc_region (l := [0, 1, 2]) rfl ?_
  refine wo_box rfl rfl rfl rfl rfl rfl [(.int .u64 x0.fPid), (.int .i64 x0.fFd), (.int .u64 x0.fWhat)] rfl hO (fun b1 w2 n3 => ?_)
  have hb1 := n3.blk
  have gb1 := n3.ge0 hF
  have ib1 : b1 ∈ b1 :: O := List.mem_cons_self
  have hO := n3.ob
  have hF := hF.trans n3.fr
  have hS := Sub.cons hS b1
  refine wo_box rfl rfl rfl rfl rfl rfl [(.int .u64 x1.fPid), (.int .i64 x1.fFd), (.int .u64 x1.fWhat)] rfl hO (fun b4 w5 n6 => ?_)
  have nb4b1 : b4 ≠ b1 := by have := hb1.lt; have := n6.ge; omega
  have hb1 := hb1.fr0 n6.fr
  have ib1 := List.mem_cons_of_mem b4 ib1
  have hb4 := n6.blk
  have gb4 := n6.ge0 hF
  have ib4 : b4 ∈ b4 :: (b1 :: O) := List.mem_cons_self
  have hO := n6.ob
  have hF := hF.trans n6.fr
  have hS := Sub.cons hS b4
  refine wo_seg Θ_ok [2] [(2, (.pointer (some ⟨b1, 0, none⟩))), (3, (.pointer (some ⟨b4, 0, none⟩)))] rfl ⟨rfl, rfl, trivial⟩ ?_
  refine wo_nil ?_
  refine wq_seq ?_
  refine wc_seq ?_
  refine wc_draw mixed [⟨5, [], [2]⟩, ⟨6, [0], []⟩, ⟨7, [], [3]⟩, ⟨8, [2], []⟩, ⟨9, [1, 3], []⟩, ⟨10, [], [2]⟩, ⟨11, [5], []⟩, ⟨12, [], [3]⟩, ⟨13, [7], []⟩, ⟨14, [6, 8], []⟩, ⟨15, [4, 9], []⟩, ⟨16, [10], []⟩, ⟨4, [11], []⟩] [SP.eq (.pointer (some ⟨b1, 0, none⟩)), SP.eq (.int .u64 x0.fPid), SP.eq (.pointer (some ⟨b4, 0, none⟩)), SP.eq (.int .u64 x1.fPid), SP.eq (.int .i64 (cmp_u x0.fPid x1.fPid)), SP.eq (.pointer (some ⟨b1, 1, none⟩)), SP.eq (.int .i64 x0.fFd), SP.eq (.pointer (some ⟨b4, 1, none⟩)), SP.eq (.int .i64 x1.fFd), SP.eq (.int .i64 (cmp_i x0.fFd x1.fFd)), SP.is (Ty.slice (Ty.int .i64)) (b4 :: b1 :: O) (([(cmp_u x0.fPid x1.fPid), (cmp_i x0.fFd x1.fFd)] : List Int)), SP.eq (.int .i64 (cmp_or ([(cmp_u x0.fPid x1.fPid), (cmp_i x0.fFd x1.fFd)] : List Int))), SP.eq (.int .i64 (cmp_or ([(cmp_u x0.fPid x1.fPid), (cmp_i x0.fFd x1.fFd)] : List Int)))] rfl rfl rfl ⟨?_, ?_, ?_, ?_, ?_, ?_, ?_, ?_, ?_, ?_, ?_, ?_, ?_, trivial⟩ ?_
  · intro a w2 hfr hN hds hb hd
    exact op_plain Θ_ok ⟨hN, hds, rows_get (E := [(2, (.pointer (some ⟨b1, 0, none⟩)))]) ⟨hb 2 rfl _ rfl, trivial⟩⟩ rfl rfl rfl rfl rfl
  · intro a w2 hfr hN hds hb hd
    have hb1 := hb1.fr0 hfr
    exact op_load Θ_ok ⟨hN, hds, rows_get (E := [(5, (.pointer (some ⟨b1, 0, none⟩)))]) ⟨(hd 0 rfl _ _ rfl rfl), trivial⟩⟩ rfl rfl rfl rfl rfl rfl hb1 [(.int .u64 x0.fPid)] rfl rfl (.inr rfl) (.int .u64 x0.fPid) rfl
  · intro a w2 hfr hN hds hb hd
    exact op_plain Θ_ok ⟨hN, hds, rows_get (E := [(3, (.pointer (some ⟨b4, 0, none⟩)))]) ⟨hb 3 rfl _ rfl, trivial⟩⟩ rfl rfl rfl rfl rfl
  · intro a w2 hfr hN hds hb hd
    have hb4 := hb4.fr0 hfr
    exact op_load Θ_ok ⟨hN, hds, rows_get (E := [(7, (.pointer (some ⟨b4, 0, none⟩)))]) ⟨(hd 2 rfl _ _ rfl rfl), trivial⟩⟩ rfl rfl rfl rfl rfl rfl hb4 [(.int .u64 x1.fPid)] rfl rfl (.inr rfl) (.int .u64 x1.fPid) rfl
  · intro a w2 hfr hN hds hb hd
    exact (op_call ⟨hN, hds, rows_get (E := [(6, (.int .u64 x0.fPid)), (8, (.int .u64 x1.fPid))]) ⟨(hd 1 rfl _ _ rfl rfl), (hd 3 rfl _ _ rfl rfl), trivial⟩⟩ rfl rfl rfl rfl ent39 rfl (cmp_u_c (hfr.ob hO) (int_is.2 rfl) (int_is.2 rfl))).weaken (fun u w3 ⟨hu, hf⟩ => ⟨int_is.1 hu, hf⟩)
  · intro a w2 hfr hN hds hb hd
    exact op_plain Θ_ok ⟨hN, hds, rows_get (E := [(2, (.pointer (some ⟨b1, 0, none⟩)))]) ⟨hb 2 rfl _ rfl, trivial⟩⟩ rfl rfl rfl rfl rfl
  · intro a w2 hfr hN hds hb hd
    have hb1 := hb1.fr0 hfr
    exact op_load Θ_ok ⟨hN, hds, rows_get (E := [(10, (.pointer (some ⟨b1, 1, none⟩)))]) ⟨(hd 5 rfl _ _ rfl rfl), trivial⟩⟩ rfl rfl rfl rfl rfl rfl hb1 [(.int .i64 x0.fFd)] rfl rfl (.inr rfl) (.int .i64 x0.fFd) rfl
  · intro a w2 hfr hN hds hb hd
    exact op_plain Θ_ok ⟨hN, hds, rows_get (E := [(3, (.pointer (some ⟨b4, 0, none⟩)))]) ⟨hb 3 rfl _ rfl, trivial⟩⟩ rfl rfl rfl rfl rfl
  · intro a w2 hfr hN hds hb hd
    have hb4 := hb4.fr0 hfr
    exact op_load Θ_ok ⟨hN, hds, rows_get (E := [(12, (.pointer (some ⟨b4, 1, none⟩)))]) ⟨(hd 7 rfl _ _ rfl rfl), trivial⟩⟩ rfl rfl rfl rfl rfl rfl hb4 [(.int .i64 x1.fFd)] rfl rfl (.inr rfl) (.int .i64 x1.fFd) rfl
  · intro a w2 hfr hN hds hb hd
    exact (op_call ⟨hN, hds, rows_get (E := [(11, (.int .i64 x0.fFd)), (13, (.int .i64 x1.fFd))]) ⟨(hd 6 rfl _ _ rfl rfl), (hd 8 rfl _ _ rfl rfl), trivial⟩⟩ rfl rfl rfl rfl ent40 rfl (cmp_i_c (hfr.ob hO) (int_is.2 rfl) (int_is.2 rfl))).weaken (fun u w3 ⟨hu, hf⟩ => ⟨int_is.1 hu, hf⟩)
  · intro a w2 hfr hN hds hb hd
    exact op_lit Θ_ok ⟨hN, hds, rows_get (E := [(9, (.int .i64 (cmp_u x0.fPid x1.fPid))), (14, (.int .i64 (cmp_i x0.fFd x1.fFd)))]) ⟨(hd 4 rfl _ _ rfl rfl), (hd 9 rfl _ _ rfl rfl), trivial⟩⟩ rfl rfl rfl rfl rfl rfl rfl rfl rfl (T := (Ty.int .i64)) (xs := [(cmp_u x0.fPid x1.fPid), (cmp_i x0.fFd x1.fFd)]) (vs := [(.int .i64 (cmp_u x0.fPid x1.fPid)), (.int .i64 (cmp_i x0.fFd x1.fFd))]) rfl ⟨(int_is.2 rfl), (int_is.2 rfl), trivial⟩ rfl rfl rfl (hfr.ob hO)
  · intro a w2 hfr hN hds hb hd
    have d9 : (Ty.slice (Ty.int .i64)).is (b4 :: b1 :: O) w2 (a.tmps.getD 15 undef) (([(cmp_u x0.fPid x1.fPid), (cmp_i x0.fFd x1.fFd)] : List Int)) := hd 10 rfl _ _ rfl rfl
    obtain ⟨u7, e8⟩ : ∃ v, a.tmps.getD 15 undef = v := ⟨_, rfl⟩
    rw [e8] at d9
    exact (op_call ⟨hN, hds, rows_get (E := [(15, u7)]) ⟨e8, trivial⟩⟩ rfl rfl rfl rfl ent38 rfl (cmp_or_c (hfr.ob hO) d9)).weaken (fun u w3 ⟨hu, hf⟩ => ⟨int_is.1 hu, hf⟩)
  · intro a w2 hfr hN hds hb hd
    exact op_plain Θ_ok ⟨hN, hds, rows_get (E := [(16, (.int .i64 (cmp_or ([(cmp_u x0.fPid x1.fPid), (cmp_i x0.fFd x1.fFd)] : List Int))))]) ⟨(hd 11 rfl _ _ rfl rfl), trivial⟩⟩ rfl rfl rfl rfl rfl
  intro a w11 f10 hN hds hb hr
  have hO := f10.ob hO
  have hF := hF.trans f10
  refine wq_go (E := [(4, (.int .i64 (cmp_or ([(cmp_u x0.fPid x1.fPid), (cmp_i x0.fFd x1.fFd)] : List Int))))]) hN hds ⟨(hr 12 _ _ rfl rfl), trivial⟩ ?_
  refine wq_seq ?_
  refine wc_ret ?_
  subst h
  exact wq_ret rfl ⟨_, rfl, (int_is.2 rfl), hF⟩
set_option maxRecDepth 100000 in
set_option maxHeartbeats 4000000 in
theorem d_Check_c {O : List Nat} {w : World} (hO : OB O w) {v0 : Value} {x0 : List GDesc} (h0 : (Ty.slice tGDesc).is O w v0 x0) {r : Int} (h : d_Check x0 = some r) : Calls Tryd.prog 8 #[v0] w (Gives (rt1 (Ty.int .i64)) O w r) := by
  have hF := Fr.refl [] w
  have hO0 := hO
  have hS := Sub.refl O
  refine calls_of (args := [v0]) (N := 33) Tryd.func8 rfl rfl rfl ?_
  unfold d_Check at h
  refine wc_seq ?_
  refine wc_region (l := [0]) rfl ?_
  refine wo_seg Θ_ok [0] [(0, v0)] rfl ⟨rfl, trivial⟩ ?_
  refine wo_nil ?_
  refine wq_seq ?_
  refine wc_seq ?_
  refine wc_seq ?_
  refine wc_region (l := [0, 1, 2]) rfl ?_
  refine wo_seg Θ_ok [0] [(0, v0), (5, v0)] rfl ⟨rfl, rfl, trivial⟩ ?_
  obtain ⟨A1, c2, rfl, hlc2, hmc2⟩ := slice_form h0
  refine wo_seg Θ_ok [1] [(0, (.slice A1 x0.length c2)), (6, (.int .i64 (x0.length : Int)))] rfl ⟨rfl, rfl, trivial⟩ ?_
  refine wo_seg Θ_ok [2] [(0, (.slice A1 x0.length c2)), (7, (.bool (decide ((x0.length : Int) > (64 : Int)))))] rfl ⟨rfl, rfl, trivial⟩ ?_
  refine wo_nil ?_
  refine wq_seq ?_
  rcases bif_some h with ⟨hc3, h⟩ | ⟨hc3, h⟩
  · refine wc_known_true rfl hc3 ?_
    refine wc_seq ?_
    refine wc_region (l := [0]) rfl ?_
    refine wo_seg Θ_ok [0] [(2, (.int .i64 330))] rfl ⟨rfl, trivial⟩ ?_
    refine wo_nil ?_
    refine wq_seq ?_
    refine wc_ret ?_
    cases h
    exact wq_then_ret (wq_ret rfl ⟨_, rfl, (int_is.2 rfl), hF⟩)
  refine wc_known_false rfl hc3 ?_
  refine wc_skip ?_
  refine wq_seq ?_
  obtain ⟨k5, hk6, h⟩ := letk_some h
  refine wc_join (fun E W => ∃ (O9 : List Nat), E = [] ∧ Tr O w O9 W ∧ OB O9 W ∧ Sub O O9 ∧ Fr [] w W ∧ k5 = some r) ?_ (fun K7 hK8 => ?_)
  · rintro E w10 ⟨O9, rfl, T4, hO, hS, hF, h⟩
    subst hk6
    (try dsimp only at h)
    refine wc_seq ?_
    refine wc_region (l := [0]) rfl ?_
    refine wo_seg Θ_ok [0] [(2, (.int .i64 0))] rfl ⟨rfl, trivial⟩ ?_
    refine wo_nil ?_
    refine wq_seq ?_
    refine wc_ret ?_
    cases h
    exact wq_ret rfl ⟨_, rfl, (int_is.2 rfl), hF⟩
  clear hk6
  have T4 := Tr.refl O w
  refine wc_seq ?_
  refine wc_region (l := [0, 1, 2]) rfl ?_
  refine wo_seg Θ_ok [0, 1, 2] [(0, (.slice A1 x0.length c2)), (8, (.slice A1 x0.length c2)), (9, (.int .i64 (x0.length : Int))), (10, (.int .i64 0))] rfl ⟨rfl, rfl, rfl, rfl, trivial⟩ ?_
  refine wo_nil ?_
  refine wq_seq ?_
  refine wc_block ?_
  refine wc_loop (fun m E W => ∃ (rest13 : List GDesc) (i12 : Nat) (O16 : List Nat), rest13.length = m ∧ x0.drop i12 = rest13 ∧ E = [(0, (.slice A1 x0.length c2)), (8, (.slice A1 x0.length c2)), (9, (.int .i64 (x0.length : Int))), (10, (.int .i64 (i12 : Int)))] ∧ Tr O w O16 W ∧ OB O16 W ∧ Sub O O16 ∧ Fr [] w W ∧ d_Check_l1 x0 k5 rest13 i12 = some r) _ [(0, (.slice A1 x0.length c2)), (8, (.slice A1 x0.length c2)), (9, (.int .i64 (x0.length : Int))), (10, (.int .i64 ((0 : Nat) : Int)))] ⟨rfl, rfl, rfl, rfl, trivial⟩ ⟨x0, 0, O, rfl, rfl, rfl, Tr.refl _ _, hO, hS, hF, h⟩ ?_
  rintro m E w17 ⟨rest13, i12, O16, rfl, hd15, rfl, T11, hO, hS, hF, h⟩
  have T4 := T4.trans T11
  have h0 := h0.tr T11
  rcases rest13 with _ | ⟨z14, rest13⟩
  · rw [d_Check_l1] at h
    have hl21 := drop_nil hd15
    have hc18 : (decide ((i12 : Int) < (x0.length : Int))) = false := decide_eq_false (by omega)
    refine wc_seq ?_
    refine wc_region (l := [0]) rfl ?_
    refine wo_seg Θ_ok [0] [(0, (.slice A1 x0.length c2)), (8, (.slice A1 x0.length c2)), (9, (.int .i64 (x0.length : Int))), (10, (.int .i64 (i12 : Int))), (11, (.bool (decide ((i12 : Int) < (x0.length : Int)))))] rfl ⟨rfl, rfl, rfl, rfl, rfl, trivial⟩ ?_
    refine wo_nil ?_
    refine wq_seq ?_
    refine wc_seq ?_
    refine wc_known_false rfl hc18 ?_
    refine wc_exit ?_
    exact wq_then_exit (wq_then_exit (wq_block_exit (wq_join hK8 [] trivial ⟨O16, rfl, T4, hO, hS, hF, h⟩)))
  rw [d_Check_l1] at h
  obtain ⟨hl22, hg20, hd15⟩ := drop_cons hd15
  have hc19 : (decide ((i12 : Int) < (x0.length : Int))) = true := decide_eq_true (by omega)
  refine wc_seq ?_
  refine wc_region (l := [0]) rfl ?_
  refine wo_seg Θ_ok [0] [(0, (.slice A1 x0.length c2)), (8, (.slice A1 x0.length c2)), (9, (.int .i64 (x0.length : Int))), (10, (.int .i64 (i12 : Int))), (11, (.bool (decide ((i12 : Int) < (x0.length : Int)))))] rfl ⟨rfl, rfl, rfl, rfl, rfl, trivial⟩ ?_
  refine wo_nil ?_
  refine wq_seq ?_
  refine wc_seq ?_
  refine wc_known_true rfl hc19 ?_
  refine wc_skip ?_
  refine wq_seq ?_
  refine wc_seq ?_
  refine wc_block ?_
  refine wc_seq ?_
  refine wc_region (l := [0, 1, 2, 3, 4, 5]) rfl ?_
  refine wo_seg Θ_ok [0] [(0, (.slice A1 x0.length c2)), (8, (.slice A1 x0.length c2)), (9, (.int .i64 (x0.length : Int))), (10, (.int .i64 (i12 : Int))), (12, (.int .i64 (i12 : Int)))] rfl ⟨rfl, rfl, rfl, rfl, rfl, trivial⟩ ?_
  refine wo_index Θ_ok rfl rfl rfl rfl rfl rfl rfl rfl rfl rfl h0 rfl (by omega) hg20 (fun p23 h24 => ?_)
  refine wo_loadp Θ_ok rfl rfl rfl rfl rfl rfl rfl h24 rfl rfl (fun v25 h26 => ?_)
  obtain rfl := tGDesc_is.1 h26
  refine wo_alloc Θ_ok rfl rfl rfl rfl rfl rfl [(.int .u64 0), (.int .i64 0), (.int .u64 0)] rfl hO (fun b27 w28 n29 => ?_)
  have h0 := h0.tr n29.tr
  have T4 := T4.trans n29.tr
  have T11 := T11.trans n29.tr
  have hb27 := n29.blk
  have gb27 := n29.ge0 hF
  have ib27 : b27 ∈ b27 :: O16 := List.mem_cons_self
  have hO := n29.ob
  have hF := hF.trans n29.fr
  have hS := Sub.cons hS b27
  refine wo_seg Θ_ok [4] [(0, (.slice A1 x0.length c2)), (3, (.int .i64 (i12 : Int))), (4, (.pointer (some ⟨b27, 0, none⟩))), (8, (.slice A1 x0.length c2)), (9, (.int .i64 (x0.length : Int))), (10, (.int .i64 (i12 : Int))), (14, (.agg #[(.int .u64 z14.fPid), (.int .i64 z14.fFd), (.int .u64 z14.fWhat)]))] rfl ⟨rfl, rfl, rfl, rfl, rfl, rfl, rfl, trivial⟩ ?_
  refine wo_store Θ_ok rfl rfl rfl rfl rfl rfl rfl hb27 [(.int .u64 z14.fPid), (.int .i64 z14.fFd), (.int .u64 z14.fWhat)] rfl rfl (by simp [Value.oneCell']) rfl [(.int .u64 z14.fPid), (.int .i64 z14.fFd), (.int .u64 z14.fWhat)] rfl (fun w30 hb27 f31 => ?_)
  have h0 := h0.tr (f31.tr (one_in ib27))
  have T4 := T4.trans (f31.tr (one_in ib27))
  have T11 := T11.trans (f31.tr (one_in ib27))
  have hO := f31.ob hO
  have hF := hF.own f31 gb27
  refine wo_nil ?_
  refine wq_seq ?_
  refine wc_seq ?_
  rcases bif_some h with ⟨hc32, h⟩ | ⟨hc32, h⟩
  · refine wc_draw mixed [⟨15, [], [4]⟩, ⟨16, [0], []⟩, ⟨17, [1], []⟩, ⟨18, [2], []⟩, ⟨19, [3], [3]⟩, ⟨20, [3, 4], []⟩, ⟨21, [3, 5], []⟩, ⟨22, [6], [0]⟩, ⟨23, [6], [3]⟩, ⟨24, [6, 8], []⟩, ⟨25, [6, 7, 9], []⟩, ⟨26, [6, 10], []⟩, ⟨27, [6], [4]⟩, ⟨28, [6, 11, 12], []⟩, ⟨29, [6, 13], []⟩, ⟨30, [3, 6, 14], []⟩, ⟨31, [3, 15], []⟩] [SP.eq (.agg #[(.int .u64 z14.fPid), (.int .i64 z14.fFd), (.int .u64 z14.fWhat)]), SP.eq (.bool ((d_is z14))), SP.eq (.bool (!(d_is z14))), SP.eq (.bool (!(d_is z14))), SP.eq undef, SP.eq undef, SP.eq undef, SP.eq undef, SP.eq undef, SP.eq undef, SP.eq undef, SP.eq undef, SP.eq undef, SP.eq undef, SP.eq undef, SP.eq undef, SP.eq (.bool true)] rfl rfl rfl ⟨?_, ?_, ?_, ?_, ?_, ?_, ?_, ?_, ?_, ?_, ?_, ?_, ?_, ?_, ?_, ?_, ?_, trivial⟩ ?_
    · intro a w2 hfr hN hds hb hd
      have hb27 := hb27.fr0 hfr
      exact op_load Θ_ok ⟨hN, hds, rows_get (E := [(4, (.pointer (some ⟨b27, 0, none⟩)))]) ⟨hb 4 rfl _ rfl, trivial⟩⟩ rfl rfl rfl rfl rfl rfl hb27 [(.int .u64 z14.fPid), (.int .i64 z14.fFd), (.int .u64 z14.fWhat)] rfl rfl (.inl rfl) (.agg #[(.int .u64 z14.fPid), (.int .i64 z14.fFd), (.int .u64 z14.fWhat)]) rfl
    · intro a w2 hfr hN hds hb hd
      exact (op_call ⟨hN, hds, rows_get (E := [(15, (.agg #[(.int .u64 z14.fPid), (.int .i64 z14.fFd), (.int .u64 z14.fWhat)]))]) ⟨(hd 0 rfl _ _ rfl rfl), trivial⟩⟩ rfl rfl rfl rfl ent25 rfl (d_is_c (hfr.ob hO) ((tGDesc_is (x := z14)).2 rfl))).weaken (fun u w3 ⟨hu, hf⟩ => ⟨bool_is.1 hu, hf⟩)
    · intro a w2 hfr hN hds hb hd
      exact op_plain Θ_ok ⟨hN, hds, rows_get (E := [(16, (.bool ((d_is z14))))]) ⟨(hd 1 rfl _ _ rfl rfl), trivial⟩⟩ rfl rfl rfl rfl rfl
    · intro a w2 hfr hN hds hb hd
      exact op_plain Θ_ok ⟨hN, hds, rows_get (E := [(17, (.bool (!(d_is z14))))]) ⟨(hd 2 rfl _ _ rfl rfl), trivial⟩⟩ rfl rfl rfl rfl rfl
    · intro a w2 hfr hN hds hb hd
      exact op_skip ⟨hN, hds, rows_get (E := [(3, (.int .i64 (i12 : Int))), (18, (.bool true))]) ⟨hb 3 rfl _ rfl, ((hd 3 rfl _ _ rfl rfl).trans (congrArg _ hc32)), trivial⟩⟩ rfl rfl rfl
    · intro a w2 hfr hN hds hb hd
      exact op_skip ⟨hN, hds, rows_get (E := [(18, (.bool true)), (19, undef)]) ⟨((hd 3 rfl _ _ rfl rfl).trans (congrArg _ hc32)), (hd 4 rfl _ _ rfl rfl), trivial⟩⟩ rfl rfl rfl
    · intro a w2 hfr hN hds hb hd
      exact op_skip ⟨hN, hds, rows_get (E := [(18, (.bool true)), (20, undef)]) ⟨((hd 3 rfl _ _ rfl rfl).trans (congrArg _ hc32)), (hd 5 rfl _ _ rfl rfl), trivial⟩⟩ rfl rfl rfl
    · intro a w2 hfr hN hds hb hd
      have h0 := h0.tr hfr.tr0
      exact op_skip ⟨hN, hds, rows_get (E := [(0, (.slice A1 x0.length c2)), (21, undef)]) ⟨hb 0 rfl _ rfl, (hd 6 rfl _ _ rfl rfl), trivial⟩⟩ rfl rfl rfl
    · intro a w2 hfr hN hds hb hd
      exact op_skip ⟨hN, hds, rows_get (E := [(3, (.int .i64 (i12 : Int))), (21, undef)]) ⟨hb 3 rfl _ rfl, (hd 6 rfl _ _ rfl rfl), trivial⟩⟩ rfl rfl rfl
    · intro a w2 hfr hN hds hb hd
      exact op_skip ⟨hN, hds, rows_get (E := [(21, undef), (23, undef)]) ⟨(hd 6 rfl _ _ rfl rfl), (hd 8 rfl _ _ rfl rfl), trivial⟩⟩ rfl rfl rfl
    · intro a w2 hfr hN hds hb hd
      exact op_skip ⟨hN, hds, rows_get (E := [(21, undef), (22, undef), (24, undef)]) ⟨(hd 6 rfl _ _ rfl rfl), (hd 7 rfl _ _ rfl rfl), (hd 9 rfl _ _ rfl rfl), trivial⟩⟩ rfl rfl rfl
    · intro a w2 hfr hN hds hb hd
      exact op_skip ⟨hN, hds, rows_get (E := [(21, undef), (25, undef)]) ⟨(hd 6 rfl _ _ rfl rfl), (hd 10 rfl _ _ rfl rfl), trivial⟩⟩ rfl rfl rfl
    · intro a w2 hfr hN hds hb hd
      exact op_skip ⟨hN, hds, rows_get (E := [(4, (.pointer (some ⟨b27, 0, none⟩))), (21, undef)]) ⟨hb 4 rfl _ rfl, (hd 6 rfl _ _ rfl rfl), trivial⟩⟩ rfl rfl rfl
    · intro a w2 hfr hN hds hb hd
      exact op_skip ⟨hN, hds, rows_get (E := [(21, undef), (26, undef), (27, undef)]) ⟨(hd 6 rfl _ _ rfl rfl), (hd 11 rfl _ _ rfl rfl), (hd 12 rfl _ _ rfl rfl), trivial⟩⟩ rfl rfl rfl
    · intro a w2 hfr hN hds hb hd
      exact op_skip ⟨hN, hds, rows_get (E := [(21, undef), (28, undef)]) ⟨(hd 6 rfl _ _ rfl rfl), (hd 13 rfl _ _ rfl rfl), trivial⟩⟩ rfl rfl rfl
    · intro a w2 hfr hN hds hb hd
      exact op_skip ⟨hN, hds, rows_get (E := [(18, (.bool true)), (21, undef), (29, undef)]) ⟨((hd 3 rfl _ _ rfl rfl).trans (congrArg _ hc32)), (hd 6 rfl _ _ rfl rfl), (hd 14 rfl _ _ rfl rfl), trivial⟩⟩ rfl rfl rfl
    · intro a w2 hfr hN hds hb hd
      exact op_plain Θ_ok ⟨hN, hds, rows_get (E := [(18, (.bool true)), (30, undef)]) ⟨((hd 3 rfl _ _ rfl rfl).trans (congrArg _ hc32)), (hd 15 rfl _ _ rfl rfl), trivial⟩⟩ rfl rfl rfl rfl rfl
    intro a w34 f33 hN hds hb hr
    have h0 := h0.tr f33.tr0
    have T4 := T4.trans f33.tr0
    have T11 := T11.trans f33.tr0
    have hO := f33.ob hO
    have hF := hF.trans f33
    refine wq_go (E := [(0, (.slice A1 x0.length c2)), (8, (.slice A1 x0.length c2)), (9, (.int .i64 (x0.length : Int))), (10, (.int .i64 (i12 : Int))), (31, (.bool true))]) hN hds ⟨hb 0 _ rfl rfl, hb 8 _ rfl rfl, hb 9 _ rfl rfl, hb 10 _ rfl rfl, (hr 16 _ _ rfl rfl), trivial⟩ ?_
    refine wq_seq ?_
    refine wc_true rfl ?_
    refine wc_seq ?_
    refine wc_region (l := [0]) rfl ?_
    refine wo_seg Θ_ok [0] [(2, (.int .i64 330))] rfl ⟨rfl, trivial⟩ ?_
    refine wo_nil ?_
    refine wq_seq ?_
    refine wc_ret ?_
    cases h
    exact wq_block_ret (wq_then_ret (wq_then_ret (wq_block_ret (wq_then_ret (wq_ret rfl ⟨_, rfl, (int_is.2 rfl), hF⟩)))))
  rcases bif_some h with ⟨hc35, h⟩ | ⟨hc35, h⟩
  rotate_left
  · refine wc_draw mixed [⟨15, [], [4]⟩, ⟨16, [0], []⟩, ⟨17, [1], []⟩, ⟨18, [2], []⟩, ⟨19, [3], [3]⟩, ⟨20, [3, 4], []⟩, ⟨21, [3, 5], []⟩, ⟨22, [6], [0]⟩, ⟨23, [6], [3]⟩, ⟨24, [6, 8], []⟩, ⟨25, [6, 7, 9], []⟩, ⟨26, [6, 10], []⟩, ⟨27, [6], [4]⟩, ⟨28, [6, 11, 12], []⟩, ⟨29, [6, 13], []⟩, ⟨30, [3, 6, 14], []⟩, ⟨31, [3, 15], []⟩] [SP.eq (.agg #[(.int .u64 z14.fPid), (.int .i64 z14.fFd), (.int .u64 z14.fWhat)]), SP.eq (.bool ((d_is z14))), SP.eq (.bool (!(d_is z14))), SP.eq (.bool (!(d_is z14))), SP.eq (.int .i64 (i12 : Int)), SP.eq (.bool (decide ((i12 : Int) > (0 : Int)))), SP.eq (.bool (decide ((i12 : Int) > (0 : Int)))), SP.eq undef, SP.eq undef, SP.eq undef, SP.eq undef, SP.eq undef, SP.eq undef, SP.eq undef, SP.eq undef, SP.eq (.bool false), SP.eq (.bool false)] rfl rfl rfl ⟨?_, ?_, ?_, ?_, ?_, ?_, ?_, ?_, ?_, ?_, ?_, ?_, ?_, ?_, ?_, ?_, ?_, trivial⟩ ?_
    · intro a w2 hfr hN hds hb hd
      have hb27 := hb27.fr0 hfr
      exact op_load Θ_ok ⟨hN, hds, rows_get (E := [(4, (.pointer (some ⟨b27, 0, none⟩)))]) ⟨hb 4 rfl _ rfl, trivial⟩⟩ rfl rfl rfl rfl rfl rfl hb27 [(.int .u64 z14.fPid), (.int .i64 z14.fFd), (.int .u64 z14.fWhat)] rfl rfl (.inl rfl) (.agg #[(.int .u64 z14.fPid), (.int .i64 z14.fFd), (.int .u64 z14.fWhat)]) rfl
    · intro a w2 hfr hN hds hb hd
      exact (op_call ⟨hN, hds, rows_get (E := [(15, (.agg #[(.int .u64 z14.fPid), (.int .i64 z14.fFd), (.int .u64 z14.fWhat)]))]) ⟨(hd 0 rfl _ _ rfl rfl), trivial⟩⟩ rfl rfl rfl rfl ent25 rfl (d_is_c (hfr.ob hO) ((tGDesc_is (x := z14)).2 rfl))).weaken (fun u w3 ⟨hu, hf⟩ => ⟨bool_is.1 hu, hf⟩)
    · intro a w2 hfr hN hds hb hd
      exact op_plain Θ_ok ⟨hN, hds, rows_get (E := [(16, (.bool ((d_is z14))))]) ⟨(hd 1 rfl _ _ rfl rfl), trivial⟩⟩ rfl rfl rfl rfl rfl
    · intro a w2 hfr hN hds hb hd
      exact op_plain Θ_ok ⟨hN, hds, rows_get (E := [(17, (.bool (!(d_is z14))))]) ⟨(hd 2 rfl _ _ rfl rfl), trivial⟩⟩ rfl rfl rfl rfl rfl
    · intro a w2 hfr hN hds hb hd
      exact op_plain Θ_ok ⟨hN, hds, rows_get (E := [(3, (.int .i64 (i12 : Int))), (18, (.bool false))]) ⟨hb 3 rfl _ rfl, ((hd 3 rfl _ _ rfl rfl).trans (congrArg _ hc32)), trivial⟩⟩ rfl rfl rfl rfl rfl
    · intro a w2 hfr hN hds hb hd
      exact op_plain Θ_ok ⟨hN, hds, rows_get (E := [(18, (.bool false)), (19, (.int .i64 (i12 : Int)))]) ⟨((hd 3 rfl _ _ rfl rfl).trans (congrArg _ hc32)), (hd 4 rfl _ _ rfl rfl), trivial⟩⟩ rfl rfl rfl rfl rfl
    · intro a w2 hfr hN hds hb hd
      exact op_plain Θ_ok ⟨hN, hds, rows_get (E := [(18, (.bool false)), (20, (.bool (decide ((i12 : Int) > (0 : Int)))))]) ⟨((hd 3 rfl _ _ rfl rfl).trans (congrArg _ hc32)), (hd 5 rfl _ _ rfl rfl), trivial⟩⟩ rfl rfl rfl rfl rfl
    · intro a w2 hfr hN hds hb hd
      have h0 := h0.tr hfr.tr0
      exact op_skip ⟨hN, hds, rows_get (E := [(0, (.slice A1 x0.length c2)), (21, (.bool false))]) ⟨hb 0 rfl _ rfl, ((hd 6 rfl _ _ rfl rfl).trans (congrArg _ hc35)), trivial⟩⟩ rfl rfl rfl
    · intro a w2 hfr hN hds hb hd
      exact op_skip ⟨hN, hds, rows_get (E := [(3, (.int .i64 (i12 : Int))), (21, (.bool false))]) ⟨hb 3 rfl _ rfl, ((hd 6 rfl _ _ rfl rfl).trans (congrArg _ hc35)), trivial⟩⟩ rfl rfl rfl
    · intro a w2 hfr hN hds hb hd
      exact op_skip ⟨hN, hds, rows_get (E := [(21, (.bool false)), (23, undef)]) ⟨((hd 6 rfl _ _ rfl rfl).trans (congrArg _ hc35)), (hd 8 rfl _ _ rfl rfl), trivial⟩⟩ rfl rfl rfl
    · intro a w2 hfr hN hds hb hd
      exact op_skip ⟨hN, hds, rows_get (E := [(21, (.bool false)), (22, undef), (24, undef)]) ⟨((hd 6 rfl _ _ rfl rfl).trans (congrArg _ hc35)), (hd 7 rfl _ _ rfl rfl), (hd 9 rfl _ _ rfl rfl), trivial⟩⟩ rfl rfl rfl
    · intro a w2 hfr hN hds hb hd
      exact op_skip ⟨hN, hds, rows_get (E := [(21, (.bool false)), (25, undef)]) ⟨((hd 6 rfl _ _ rfl rfl).trans (congrArg _ hc35)), (hd 10 rfl _ _ rfl rfl), trivial⟩⟩ rfl rfl rfl
    · intro a w2 hfr hN hds hb hd
      exact op_skip ⟨hN, hds, rows_get (E := [(4, (.pointer (some ⟨b27, 0, none⟩))), (21, (.bool false))]) ⟨hb 4 rfl _ rfl, ((hd 6 rfl _ _ rfl rfl).trans (congrArg _ hc35)), trivial⟩⟩ rfl rfl rfl
    · intro a w2 hfr hN hds hb hd
      exact op_skip ⟨hN, hds, rows_get (E := [(21, (.bool false)), (26, undef), (27, undef)]) ⟨((hd 6 rfl _ _ rfl rfl).trans (congrArg _ hc35)), (hd 11 rfl _ _ rfl rfl), (hd 12 rfl _ _ rfl rfl), trivial⟩⟩ rfl rfl rfl
    · intro a w2 hfr hN hds hb hd
      exact op_skip ⟨hN, hds, rows_get (E := [(21, (.bool false)), (28, undef)]) ⟨((hd 6 rfl _ _ rfl rfl).trans (congrArg _ hc35)), (hd 13 rfl _ _ rfl rfl), trivial⟩⟩ rfl rfl rfl
    · intro a w2 hfr hN hds hb hd
      exact op_plain Θ_ok ⟨hN, hds, rows_get (E := [(18, (.bool false)), (21, (.bool false)), (29, undef)]) ⟨((hd 3 rfl _ _ rfl rfl).trans (congrArg _ hc32)), ((hd 6 rfl _ _ rfl rfl).trans (congrArg _ hc35)), (hd 14 rfl _ _ rfl rfl), trivial⟩⟩ rfl rfl rfl rfl rfl
    · intro a w2 hfr hN hds hb hd
      exact op_plain Θ_ok ⟨hN, hds, rows_get (E := [(18, (.bool false)), (30, (.bool false))]) ⟨((hd 3 rfl _ _ rfl rfl).trans (congrArg _ hc32)), (hd 15 rfl _ _ rfl rfl), trivial⟩⟩ rfl rfl rfl rfl rfl
    intro a w48 f47 hN hds hb hr
    have h0 := h0.tr f47.tr0
    have T4 := T4.trans f47.tr0
    have T11 := T11.trans f47.tr0
    have hO := f47.ob hO
    have hF := hF.trans f47
    refine wq_go (E := [(0, (.slice A1 x0.length c2)), (8, (.slice A1 x0.length c2)), (9, (.int .i64 (x0.length : Int))), (10, (.int .i64 (i12 : Int))), (31, (.bool false))]) hN hds ⟨hb 0 _ rfl rfl, hb 8 _ rfl rfl, hb 9 _ rfl rfl, hb 10 _ rfl rfl, (hr 16 _ _ rfl rfl), trivial⟩ ?_
    refine wq_seq ?_
    refine wc_false rfl ?_
    refine wc_skip ?_
    refine wq_block (wq_seq ?_)
    refine wc_region (l := [0, 1]) rfl ?_
    refine wo_seg Θ_ok [0, 1] [(0, (.slice A1 x0.length c2)), (8, (.slice A1 x0.length c2)), (9, (.int .i64 (x0.length : Int))), (10, (.int .i64 (IntKind.i64.wrap ((i12 : Int) + (1 : Int)))))] rfl ⟨rfl, rfl, rfl, rfl, trivial⟩ ?_
    refine wo_nil ?_
    exact wq_next rest13.length [(0, (.slice A1 x0.length c2)), (8, (.slice A1 x0.length c2)), (9, (.int .i64 (x0.length : Int))), (10, (.int .i64 ((i12 + 1 : Nat) : Int)))] (Nat.lt_succ_self _) ⟨rfl, rfl, rfl, congrArg (fun z => some (Value.int .i64 z)) (wrap_succ hl22 (Nat.le_trans hlc2 hmc2)), trivial⟩ ⟨rest13, i12 + 1, b27 :: O16, rfl, hd15, rfl, T11, hO, hS, hF, h⟩
  obtain ⟨y36, hz37, h⟩ := bind_some h
  refine wc_draw mixed [⟨15, [], [4]⟩, ⟨16, [0], []⟩, ⟨17, [1], []⟩, ⟨18, [2], []⟩, ⟨19, [3], [3]⟩, ⟨20, [3, 4], []⟩, ⟨21, [3, 5], []⟩, ⟨22, [6], [0]⟩, ⟨23, [6], [3]⟩, ⟨24, [6, 8], []⟩, ⟨25, [6, 7, 9], []⟩, ⟨26, [6, 10], []⟩, ⟨27, [6], [4]⟩, ⟨28, [6, 11, 12], []⟩, ⟨29, [6, 13], []⟩, ⟨30, [3, 6, 14], []⟩, ⟨31, [3, 15], []⟩] [SP.eq (.agg #[(.int .u64 z14.fPid), (.int .i64 z14.fFd), (.int .u64 z14.fWhat)]), SP.eq (.bool ((d_is z14))), SP.eq (.bool (!(d_is z14))), SP.eq (.bool (!(d_is z14))), SP.eq (.int .i64 (i12 : Int)), SP.eq (.bool (decide ((i12 : Int) > (0 : Int)))), SP.eq (.bool (decide ((i12 : Int) > (0 : Int)))), SP.is (Ty.slice tGDesc) (b27 :: O16) x0, SP.eq (.int .i64 (i12 : Int)), SP.eq (.int .i64 (IntKind.i64.wrap ((i12 : Int) - (1 : Int)))), SP.is (Ty.ptr tGDesc) (b27 :: O16) y36, SP.eq (.agg #[(.int .u64 y36.fPid), (.int .i64 y36.fFd), (.int .u64 y36.fWhat)]), SP.eq (.agg #[(.int .u64 z14.fPid), (.int .i64 z14.fFd), (.int .u64 z14.fWhat)]), SP.eq (.int .i64 (d_compare y36 z14)), SP.eq (.bool (decide ((d_compare y36 z14) ≥ (0 : Int)))), SP.eq (.bool (decide ((d_compare y36 z14) ≥ (0 : Int)))), SP.eq (.bool (decide ((d_compare y36 z14) ≥ (0 : Int))))] rfl rfl rfl ⟨?_, ?_, ?_, ?_, ?_, ?_, ?_, ?_, ?_, ?_, ?_, ?_, ?_, ?_, ?_, ?_, ?_, trivial⟩ ?_
  · intro a w2 hfr hN hds hb hd
    have hb27 := hb27.fr0 hfr
    exact op_load Θ_ok ⟨hN, hds, rows_get (E := [(4, (.pointer (some ⟨b27, 0, none⟩)))]) ⟨hb 4 rfl _ rfl, trivial⟩⟩ rfl rfl rfl rfl rfl rfl hb27 [(.int .u64 z14.fPid), (.int .i64 z14.fFd), (.int .u64 z14.fWhat)] rfl rfl (.inl rfl) (.agg #[(.int .u64 z14.fPid), (.int .i64 z14.fFd), (.int .u64 z14.fWhat)]) rfl
  · intro a w2 hfr hN hds hb hd
    exact (op_call ⟨hN, hds, rows_get (E := [(15, (.agg #[(.int .u64 z14.fPid), (.int .i64 z14.fFd), (.int .u64 z14.fWhat)]))]) ⟨(hd 0 rfl _ _ rfl rfl), trivial⟩⟩ rfl rfl rfl rfl ent25 rfl (d_is_c (hfr.ob hO) ((tGDesc_is (x := z14)).2 rfl))).weaken (fun u w3 ⟨hu, hf⟩ => ⟨bool_is.1 hu, hf⟩)
  · intro a w2 hfr hN hds hb hd
    exact op_plain Θ_ok ⟨hN, hds, rows_get (E := [(16, (.bool ((d_is z14))))]) ⟨(hd 1 rfl _ _ rfl rfl), trivial⟩⟩ rfl rfl rfl rfl rfl
  · intro a w2 hfr hN hds hb hd
    exact op_plain Θ_ok ⟨hN, hds, rows_get (E := [(17, (.bool (!(d_is z14))))]) ⟨(hd 2 rfl _ _ rfl rfl), trivial⟩⟩ rfl rfl rfl rfl rfl
  · intro a w2 hfr hN hds hb hd
    exact op_plain Θ_ok ⟨hN, hds, rows_get (E := [(3, (.int .i64 (i12 : Int))), (18, (.bool false))]) ⟨hb 3 rfl _ rfl, ((hd 3 rfl _ _ rfl rfl).trans (congrArg _ hc32)), trivial⟩⟩ rfl rfl rfl rfl rfl
  · intro a w2 hfr hN hds hb hd
    exact op_plain Θ_ok ⟨hN, hds, rows_get (E := [(18, (.bool false)), (19, (.int .i64 (i12 : Int)))]) ⟨((hd 3 rfl _ _ rfl rfl).trans (congrArg _ hc32)), (hd 4 rfl _ _ rfl rfl), trivial⟩⟩ rfl rfl rfl rfl rfl
  · intro a w2 hfr hN hds hb hd
    exact op_plain Θ_ok ⟨hN, hds, rows_get (E := [(18, (.bool false)), (20, (.bool (decide ((i12 : Int) > (0 : Int)))))]) ⟨((hd 3 rfl _ _ rfl rfl).trans (congrArg _ hc32)), (hd 5 rfl _ _ rfl rfl), trivial⟩⟩ rfl rfl rfl rfl rfl
  · intro a w2 hfr hN hds hb hd
    have h0 := h0.tr hfr.tr0
    exact (op_plain Θ_ok ⟨hN, hds, rows_get (E := [(0, (.slice A1 x0.length c2)), (21, (.bool true))]) ⟨hb 0 rfl _ rfl, ((hd 6 rfl _ _ rfl rfl).trans (congrArg _ hc35)), trivial⟩⟩ rfl rfl rfl rfl rfl).weaken (fun u w3 ⟨hu, hf⟩ => by subst hu; exact ⟨h0.tr hf.tr0, hf⟩)
  · intro a w2 hfr hN hds hb hd
    exact op_plain Θ_ok ⟨hN, hds, rows_get (E := [(3, (.int .i64 (i12 : Int))), (21, (.bool true))]) ⟨hb 3 rfl _ rfl, ((hd 6 rfl _ _ rfl rfl).trans (congrArg _ hc35)), trivial⟩⟩ rfl rfl rfl rfl rfl
  · intro a w2 hfr hN hds hb hd
    exact op_plain Θ_ok ⟨hN, hds, rows_get (E := [(21, (.bool true)), (23, (.int .i64 (i12 : Int)))]) ⟨((hd 6 rfl _ _ rfl rfl).trans (congrArg _ hc35)), (hd 8 rfl _ _ rfl rfl), trivial⟩⟩ rfl rfl rfl rfl rfl
  · intro a w2 hfr hN hds hb hd
    have d40 : (Ty.slice tGDesc).is (b27 :: O16) w2 (a.tmps.getD 22 undef) x0 := hd 7 rfl _ _ rfl rfl
    obtain ⟨u38, e39⟩ : ∃ v, a.tmps.getD 22 undef = v := ⟨_, rfl⟩
    rw [e39] at d40
    exact op_index (j := (IntKind.i64.wrap ((i12 : Int) - (1 : Int)))) Θ_ok ⟨hN, hds, rows_get (E := [(21, (.bool true)), (22, u38), (24, (.int .i64 (IntKind.i64.wrap ((i12 : Int) - (1 : Int)))))]) ⟨((hd 6 rfl _ _ rfl rfl).trans (congrArg _ hc35)), e39, (hd 9 rfl _ _ rfl rfl), trivial⟩⟩ rfl rfl rfl rfl rfl rfl rfl rfl rfl d40 rfl (idx_some hz37).1 (idx_some hz37).2
  · intro a w2 hfr hN hds hb hd
    have d43 : (Ty.ptr tGDesc).is (b27 :: O16) w2 (a.tmps.getD 25 undef) y36 := hd 10 rfl _ _ rfl rfl
    obtain ⟨u41, e42⟩ : ∃ v, a.tmps.getD 25 undef = v := ⟨_, rfl⟩
    rw [e42] at d43
    exact (op_loadp Θ_ok ⟨hN, hds, rows_get (E := [(21, (.bool true)), (25, u41)]) ⟨((hd 6 rfl _ _ rfl rfl).trans (congrArg _ hc35)), e42, trivial⟩⟩ rfl rfl rfl rfl rfl rfl d43 rfl rfl).weaken (fun u w3 ⟨hu, hf⟩ => ⟨tGDesc_is.1 hu, hf⟩)
  · intro a w2 hfr hN hds hb hd
    have hb27 := hb27.fr0 hfr
    exact op_load Θ_ok ⟨hN, hds, rows_get (E := [(4, (.pointer (some ⟨b27, 0, none⟩))), (21, (.bool true))]) ⟨hb 4 rfl _ rfl, ((hd 6 rfl _ _ rfl rfl).trans (congrArg _ hc35)), trivial⟩⟩ rfl rfl rfl rfl rfl rfl hb27 [(.int .u64 z14.fPid), (.int .i64 z14.fFd), (.int .u64 z14.fWhat)] rfl rfl (.inl rfl) (.agg #[(.int .u64 z14.fPid), (.int .i64 z14.fFd), (.int .u64 z14.fWhat)]) rfl
  · intro a w2 hfr hN hds hb hd
    exact (op_call ⟨hN, hds, rows_get (E := [(21, (.bool true)), (26, (.agg #[(.int .u64 y36.fPid), (.int .i64 y36.fFd), (.int .u64 y36.fWhat)])), (27, (.agg #[(.int .u64 z14.fPid), (.int .i64 z14.fFd), (.int .u64 z14.fWhat)]))]) ⟨((hd 6 rfl _ _ rfl rfl).trans (congrArg _ hc35)), (hd 11 rfl _ _ rfl rfl), (hd 12 rfl _ _ rfl rfl), trivial⟩⟩ rfl rfl rfl rfl ent26 rfl (d_compare_c (hfr.ob hO) ((tGDesc_is (x := y36)).2 rfl) ((tGDesc_is (x := z14)).2 rfl))).weaken (fun u w3 ⟨hu, hf⟩ => ⟨int_is.1 hu, hf⟩)
  · intro a w2 hfr hN hds hb hd
    exact op_plain Θ_ok ⟨hN, hds, rows_get (E := [(21, (.bool true)), (28, (.int .i64 (d_compare y36 z14)))]) ⟨((hd 6 rfl _ _ rfl rfl).trans (congrArg _ hc35)), (hd 13 rfl _ _ rfl rfl), trivial⟩⟩ rfl rfl rfl rfl rfl
  · intro a w2 hfr hN hds hb hd
    exact op_plain Θ_ok ⟨hN, hds, rows_get (E := [(18, (.bool false)), (21, (.bool true)), (29, (.bool (decide ((d_compare y36 z14) ≥ (0 : Int)))))]) ⟨((hd 3 rfl _ _ rfl rfl).trans (congrArg _ hc32)), ((hd 6 rfl _ _ rfl rfl).trans (congrArg _ hc35)), (hd 14 rfl _ _ rfl rfl), trivial⟩⟩ rfl rfl rfl rfl rfl
  · intro a w2 hfr hN hds hb hd
    exact op_plain Θ_ok ⟨hN, hds, rows_get (E := [(18, (.bool false)), (30, (.bool (decide ((d_compare y36 z14) ≥ (0 : Int)))))]) ⟨((hd 3 rfl _ _ rfl rfl).trans (congrArg _ hc32)), (hd 15 rfl _ _ rfl rfl), trivial⟩⟩ rfl rfl rfl rfl rfl
  intro a w45 f44 hN hds hb hr
  have h0 := h0.tr f44.tr0
  have T4 := T4.trans f44.tr0
  have T11 := T11.trans f44.tr0
  have hO := f44.ob hO
  have hF := hF.trans f44
  refine wq_go (E := [(0, (.slice A1 x0.length c2)), (8, (.slice A1 x0.length c2)), (9, (.int .i64 (x0.length : Int))), (10, (.int .i64 (i12 : Int))), (31, (.bool (decide ((d_compare y36 z14) ≥ (0 : Int)))))]) hN hds ⟨hb 0 _ rfl rfl, hb 8 _ rfl rfl, hb 9 _ rfl rfl, hb 10 _ rfl rfl, (hr 16 _ _ rfl rfl), trivial⟩ ?_
  refine wq_seq ?_
  rcases bif_some h with ⟨hc46, h⟩ | ⟨hc46, h⟩
  rotate_left
  · refine wc_known_false rfl hc46 ?_
    refine wc_skip ?_
    refine wq_block (wq_seq ?_)
    refine wc_region (l := [0, 1]) rfl ?_
    refine wo_seg Θ_ok [0, 1] [(0, (.slice A1 x0.length c2)), (8, (.slice A1 x0.length c2)), (9, (.int .i64 (x0.length : Int))), (10, (.int .i64 (IntKind.i64.wrap ((i12 : Int) + (1 : Int)))))] rfl ⟨rfl, rfl, rfl, rfl, trivial⟩ ?_
    refine wo_nil ?_
    exact wq_next rest13.length [(0, (.slice A1 x0.length c2)), (8, (.slice A1 x0.length c2)), (9, (.int .i64 (x0.length : Int))), (10, (.int .i64 ((i12 + 1 : Nat) : Int)))] (Nat.lt_succ_self _) ⟨rfl, rfl, rfl, congrArg (fun z => some (Value.int .i64 z)) (wrap_succ hl22 (Nat.le_trans hlc2 hmc2)), trivial⟩ ⟨rest13, i12 + 1, b27 :: O16, rfl, hd15, rfl, T11, hO, hS, hF, h⟩
  refine wc_known_true rfl hc46 ?_
  refine wc_seq ?_
  refine wc_region (l := [0]) rfl ?_
  refine wo_seg Θ_ok [0] [(2, (.int .i64 330))] rfl ⟨rfl, trivial⟩ ?_
  refine wo_nil ?_
  refine wq_seq ?_
  refine wc_ret ?_
  cases h
  exact wq_block_ret (wq_then_ret (wq_then_ret (wq_block_ret (wq_then_ret (wq_ret rfl ⟨_, rfl, (int_is.2 rfl), hF⟩)))))
set_option maxRecDepth 100000 in
set_option maxHeartbeats 4000000 in
theorem s_Equal_c {O : List Nat} {w : World} (hO : OB O w) {v0 : Value} {x0 : List GDesc} (h0 : (Ty.slice tGDesc).is O w v0 x0) {v1 : Value} {x1 : List GDesc} (h1 : (Ty.slice tGDesc).is O w v1 x1) {r : Bool} (h : s_Equal x0 x1 = some r) : Calls Tryd.prog 13 #[v0, v1] w (Gives (rt1 Ty.bool) O w r) := by
  have hF := Fr.refl [] w
  have hO0 := hO
  have hS := Sub.refl O
  refine calls_of (args := [v0, v1]) (N := 26) Tryd.func13 rfl rfl rfl ?_
  unfold s_Equal at h
  refine wc_seq ?_
  refine wc_region (l := [0]) rfl ?_
  refine wo_seg Θ_ok [0] [(0, v0), (1, v1)] rfl ⟨rfl, rfl, trivial⟩ ?_
  refine wo_nil ?_
  refine wq_seq ?_
  refine wc_seq ?_
  refine wc_seq ?_
  refine wc_region (l := [0, 1, 2, 3, 4]) rfl ?_
  refine wo_seg Θ_ok [0] [(0, v0), (1, v1), (6, v0)] rfl ⟨rfl, rfl, rfl, trivial⟩ ?_
  obtain ⟨A1, c2, rfl, hlc2, hmc2⟩ := slice_form h0
  refine wo_seg Θ_ok [1] [(0, (.slice A1 x0.length c2)), (1, v1), (7, (.int .i64 (x0.length : Int)))] rfl ⟨rfl, rfl, rfl, trivial⟩ ?_
  refine wo_seg Θ_ok [2] [(0, (.slice A1 x0.length c2)), (1, v1), (7, (.int .i64 (x0.length : Int))), (8, v1)] rfl ⟨rfl, rfl, rfl, rfl, trivial⟩ ?_
  obtain ⟨A3, c4, rfl, hlc4, hmc4⟩ := slice_form h1
  refine wo_seg Θ_ok [3] [(0, (.slice A1 x0.length c2)), (1, (.slice A3 x1.length c4)), (7, (.int .i64 (x0.length : Int))), (9, (.int .i64 (x1.length : Int)))] rfl ⟨rfl, rfl, rfl, rfl, trivial⟩ ?_
  refine wo_seg Θ_ok [4] [(0, (.slice A1 x0.length c2)), (1, (.slice A3 x1.length c4)), (10, (.bool ((x0.length : Int) != (x1.length : Int))))] rfl ⟨rfl, rfl, rfl, trivial⟩ ?_
  refine wo_nil ?_
  refine wq_seq ?_
  rcases bif_some h with ⟨hc5, h⟩ | ⟨hc5, h⟩
  · refine wc_known_true rfl hc5 ?_
    refine wc_seq ?_
    refine wc_region (l := [0]) rfl ?_
    refine wo_seg Θ_ok [0] [(4, (.bool false))] rfl ⟨rfl, trivial⟩ ?_
    refine wo_nil ?_
    refine wq_seq ?_
    refine wc_ret ?_
    cases h
    exact wq_then_ret (wq_ret rfl ⟨_, rfl, (bool_is.2 rfl), hF⟩)
  refine wc_known_false rfl hc5 ?_
  refine wc_skip ?_
  refine wq_seq ?_
  obtain ⟨k7, hk8, h⟩ := letk_some h
  refine wc_join (fun E W => ∃ (O11 : List Nat), E = [] ∧ Tr O w O11 W ∧ OB O11 W ∧ Sub O O11 ∧ Fr [] w W ∧ k7 = some r) ?_ (fun K9 hK10 => ?_)
  · rintro E w12 ⟨O11, rfl, T6, hO, hS, hF, h⟩
    subst hk8
    (try dsimp only at h)
    refine wc_seq ?_
    refine wc_region (l := [0]) rfl ?_
    refine wo_seg Θ_ok [0] [(4, (.bool true))] rfl ⟨rfl, trivial⟩ ?_
    refine wo_nil ?_
    refine wq_seq ?_
    refine wc_ret ?_
    cases h
    exact wq_ret rfl ⟨_, rfl, (bool_is.2 rfl), hF⟩
  clear hk8
  have T6 := Tr.refl O w
  refine wc_seq ?_
  refine wc_region (l := [0, 1, 2]) rfl ?_
  refine wo_seg Θ_ok [0, 1, 2] [(0, (.slice A1 x0.length c2)), (1, (.slice A3 x1.length c4)), (12, (.int .i64 (x0.length : Int))), (13, (.int .i64 0))] rfl ⟨rfl, rfl, rfl, rfl, trivial⟩ ?_
  refine wo_nil ?_
  refine wq_seq ?_
  refine wc_block ?_
  refine wc_loop (fun m E W => ∃ (rest15 : List GDesc) (i14 : Nat) (O18 : List Nat), rest15.length = m ∧ x0.drop i14 = rest15 ∧ E = [(0, (.slice A1 x0.length c2)), (1, (.slice A3 x1.length c4)), (12, (.int .i64 (x0.length : Int))), (13, (.int .i64 (i14 : Int)))] ∧ Tr O w O18 W ∧ OB O18 W ∧ Sub O O18 ∧ Fr [] w W ∧ s_Equal_l1 x1 k7 rest15 i14 = some r) _ [(0, (.slice A1 x0.length c2)), (1, (.slice A3 x1.length c4)), (12, (.int .i64 (x0.length : Int))), (13, (.int .i64 ((0 : Nat) : Int)))] ⟨rfl, rfl, rfl, rfl, trivial⟩ ⟨x0, 0, O, rfl, rfl, rfl, Tr.refl _ _, hO, hS, hF, h⟩ ?_
  rintro m E w19 ⟨rest15, i14, O18, rfl, hd17, rfl, T13, hO, hS, hF, h⟩
  have T6 := T6.trans T13
  have h0 := h0.tr T13
  have h1 := h1.tr T13
  rcases rest15 with _ | ⟨z16, rest15⟩
  · rw [s_Equal_l1] at h
    have hl23 := drop_nil hd17
    have hc20 : (decide ((i14 : Int) < (x0.length : Int))) = false := decide_eq_false (by omega)
    refine wc_seq ?_
    refine wc_region (l := [0]) rfl ?_
    refine wo_seg Θ_ok [0] [(0, (.slice A1 x0.length c2)), (1, (.slice A3 x1.length c4)), (12, (.int .i64 (x0.length : Int))), (13, (.int .i64 (i14 : Int))), (14, (.bool (decide ((i14 : Int) < (x0.length : Int)))))] rfl ⟨rfl, rfl, rfl, rfl, rfl, trivial⟩ ?_
    refine wo_nil ?_
    refine wq_seq ?_
    refine wc_seq ?_
    refine wc_known_false rfl hc20 ?_
    refine wc_exit ?_
    exact wq_then_exit (wq_then_exit (wq_block_exit (wq_join hK10 [] trivial ⟨O18, rfl, T6, hO, hS, hF, h⟩)))
  rw [s_Equal_l1] at h
  obtain ⟨hl24, hg22, hd17⟩ := drop_cons hd17
  have hc21 : (decide ((i14 : Int) < (x0.length : Int))) = true := decide_eq_true (by omega)
  refine wc_seq ?_
  refine wc_region (l := [0]) rfl ?_
  refine wo_seg Θ_ok [0] [(0, (.slice A1 x0.length c2)), (1, (.slice A3 x1.length c4)), (12, (.int .i64 (x0.length : Int))), (13, (.int .i64 (i14 : Int))), (14, (.bool (decide ((i14 : Int) < (x0.length : Int)))))] rfl ⟨rfl, rfl, rfl, rfl, rfl, trivial⟩ ?_
  refine wo_nil ?_
  refine wq_seq ?_
  refine wc_seq ?_
  refine wc_known_true rfl hc21 ?_
  refine wc_skip ?_
  refine wq_seq ?_
  refine wc_seq ?_
  refine wc_block ?_
  refine wc_seq ?_
  refine wc_region (l := [0, 1]) rfl ?_
  refine wo_seg Θ_ok [0, 1] [(0, (.slice A1 x0.length c2)), (1, (.slice A3 x1.length c4)), (5, (.int .i64 (i14 : Int))), (12, (.int .i64 (x0.length : Int))), (13, (.int .i64 (i14 : Int)))] rfl ⟨rfl, rfl, rfl, rfl, rfl, trivial⟩ ?_
  refine wo_nil ?_
  refine wq_seq ?_
  refine wc_seq ?_
  obtain ⟨y25, hz26, h⟩ := bind_some h
  refine wc_draw mixed [⟨16, [], [0]⟩, ⟨17, [], [5]⟩, ⟨18, [0, 1], []⟩, ⟨19, [2], []⟩, ⟨20, [], [1]⟩, ⟨21, [], [5]⟩, ⟨22, [4, 5], []⟩, ⟨23, [6], []⟩, ⟨24, [3, 7], []⟩] [SP.is (Ty.slice tGDesc) O18 x0, SP.eq (.int .i64 (i14 : Int)), SP.is (Ty.ptr tGDesc) O18 z16, SP.eq (.agg #[(.int .u64 z16.fPid), (.int .i64 z16.fFd), (.int .u64 z16.fWhat)]), SP.is (Ty.slice tGDesc) O18 x1, SP.eq (.int .i64 (i14 : Int)), SP.is (Ty.ptr tGDesc) O18 y25, SP.eq (.agg #[(.int .u64 y25.fPid), (.int .i64 y25.fFd), (.int .u64 y25.fWhat)]), SP.eq (.bool (!(eqGDesc z16 y25)))] rfl rfl rfl ⟨?_, ?_, ?_, ?_, ?_, ?_, ?_, ?_, ?_, trivial⟩ ?_
  · intro a w2 hfr hN hds hb hd
    have h0 := h0.tr hfr.tr0
    exact (op_plain Θ_ok ⟨hN, hds, rows_get (E := [(0, (.slice A1 x0.length c2))]) ⟨hb 0 rfl _ rfl, trivial⟩⟩ rfl rfl rfl rfl rfl).weaken (fun u w3 ⟨hu, hf⟩ => by subst hu; exact ⟨h0.tr hf.tr0, hf⟩)
  · intro a w2 hfr hN hds hb hd
    exact op_plain Θ_ok ⟨hN, hds, rows_get (E := [(5, (.int .i64 (i14 : Int)))]) ⟨hb 5 rfl _ rfl, trivial⟩⟩ rfl rfl rfl rfl rfl
  · intro a w2 hfr hN hds hb hd
    have d29 : (Ty.slice tGDesc).is O18 w2 (a.tmps.getD 16 undef) x0 := hd 0 rfl _ _ rfl rfl
    obtain ⟨u27, e28⟩ : ∃ v, a.tmps.getD 16 undef = v := ⟨_, rfl⟩
    rw [e28] at d29
    exact op_index (j := (i14 : Int)) Θ_ok ⟨hN, hds, rows_get (E := [(16, u27), (17, (.int .i64 (i14 : Int)))]) ⟨e28, (hd 1 rfl _ _ rfl rfl), trivial⟩⟩ rfl rfl rfl rfl rfl rfl rfl rfl rfl d29 rfl (by omega) hg22
  · intro a w2 hfr hN hds hb hd
    have d32 : (Ty.ptr tGDesc).is O18 w2 (a.tmps.getD 18 undef) z16 := hd 2 rfl _ _ rfl rfl
    obtain ⟨u30, e31⟩ : ∃ v, a.tmps.getD 18 undef = v := ⟨_, rfl⟩
    rw [e31] at d32
    exact (op_loadp Θ_ok ⟨hN, hds, rows_get (E := [(18, u30)]) ⟨e31, trivial⟩⟩ rfl rfl rfl rfl rfl rfl d32 rfl rfl).weaken (fun u w3 ⟨hu, hf⟩ => ⟨tGDesc_is.1 hu, hf⟩)
  · intro a w2 hfr hN hds hb hd
    have h1 := h1.tr hfr.tr0
    exact (op_plain Θ_ok ⟨hN, hds, rows_get (E := [(1, (.slice A3 x1.length c4))]) ⟨hb 1 rfl _ rfl, trivial⟩⟩ rfl rfl rfl rfl rfl).weaken (fun u w3 ⟨hu, hf⟩ => by subst hu; exact ⟨h1.tr hf.tr0, hf⟩)
  · intro a w2 hfr hN hds hb hd
    exact op_plain Θ_ok ⟨hN, hds, rows_get (E := [(5, (.int .i64 (i14 : Int)))]) ⟨hb 5 rfl _ rfl, trivial⟩⟩ rfl rfl rfl rfl rfl
  · intro a w2 hfr hN hds hb hd
    have d35 : (Ty.slice tGDesc).is O18 w2 (a.tmps.getD 20 undef) x1 := hd 4 rfl _ _ rfl rfl
    obtain ⟨u33, e34⟩ : ∃ v, a.tmps.getD 20 undef = v := ⟨_, rfl⟩
    rw [e34] at d35
    exact op_index (j := (i14 : Int)) Θ_ok ⟨hN, hds, rows_get (E := [(20, u33), (21, (.int .i64 (i14 : Int)))]) ⟨e34, (hd 5 rfl _ _ rfl rfl), trivial⟩⟩ rfl rfl rfl rfl rfl rfl rfl rfl rfl d35 rfl (idx_some hz26).1 (idx_some hz26).2
  · intro a w2 hfr hN hds hb hd
    have d38 : (Ty.ptr tGDesc).is O18 w2 (a.tmps.getD 22 undef) y25 := hd 6 rfl _ _ rfl rfl
    obtain ⟨u36, e37⟩ : ∃ v, a.tmps.getD 22 undef = v := ⟨_, rfl⟩
    rw [e37] at d38
    exact (op_loadp Θ_ok ⟨hN, hds, rows_get (E := [(22, u36)]) ⟨e37, trivial⟩⟩ rfl rfl rfl rfl rfl rfl d38 rfl rfl).weaken (fun u w3 ⟨hu, hf⟩ => ⟨tGDesc_is.1 hu, hf⟩)
  · intro a w2 hfr hN hds hb hd
    exact op_bin ⟨hN, hds, rows_get (E := [(19, (.agg #[(.int .u64 z16.fPid), (.int .i64 z16.fFd), (.int .u64 z16.fWhat)])), (23, (.agg #[(.int .u64 y25.fPid), (.int .i64 y25.fFd), (.int .u64 y25.fWhat)]))]) ⟨(hd 3 rfl _ _ rfl rfl), (hd 7 rfl _ _ rfl rfl), trivial⟩⟩ rfl rfl rfl rfl rfl rfl (neq29 _ _)
  intro a w40 f39 hN hds hb hr
  have h0 := h0.tr f39.tr0
  have h1 := h1.tr f39.tr0
  have T6 := T6.trans f39.tr0
  have T13 := T13.trans f39.tr0
  have hO := f39.ob hO
  have hF := hF.trans f39
  refine wq_go (E := [(0, (.slice A1 x0.length c2)), (1, (.slice A3 x1.length c4)), (12, (.int .i64 (x0.length : Int))), (13, (.int .i64 (i14 : Int))), (24, (.bool (!(eqGDesc z16 y25))))]) hN hds ⟨hb 0 _ rfl rfl, hb 1 _ rfl rfl, hb 12 _ rfl rfl, hb 13 _ rfl rfl, (hr 8 _ _ rfl rfl), trivial⟩ ?_
  refine wq_seq ?_
  rcases bif_some h with ⟨hc41, h⟩ | ⟨hc41, h⟩
  rotate_left
  · refine wc_known_false rfl hc41 ?_
    refine wc_skip ?_
    refine wq_block (wq_seq ?_)
    refine wc_region (l := [0, 1]) rfl ?_
    refine wo_seg Θ_ok [0, 1] [(0, (.slice A1 x0.length c2)), (1, (.slice A3 x1.length c4)), (12, (.int .i64 (x0.length : Int))), (13, (.int .i64 (IntKind.i64.wrap ((i14 : Int) + (1 : Int)))))] rfl ⟨rfl, rfl, rfl, rfl, trivial⟩ ?_
    refine wo_nil ?_
    exact wq_next rest15.length [(0, (.slice A1 x0.length c2)), (1, (.slice A3 x1.length c4)), (12, (.int .i64 (x0.length : Int))), (13, (.int .i64 ((i14 + 1 : Nat) : Int)))] (Nat.lt_succ_self _) ⟨rfl, rfl, rfl, congrArg (fun z => some (Value.int .i64 z)) (wrap_succ hl24 (Nat.le_trans hlc2 hmc2)), trivial⟩ ⟨rest15, i14 + 1, O18, rfl, hd17, rfl, T13, hO, hS, hF, h⟩
  refine wc_known_true rfl hc41 ?_
  refine wc_seq ?_
  refine wc_region (l := [0]) rfl ?_
  refine wo_seg Θ_ok [0] [(4, (.bool false))] rfl ⟨rfl, trivial⟩ ?_
  refine wo_nil ?_
  refine wq_seq ?_
  refine wc_ret ?_
  cases h
  exact wq_block_ret (wq_then_ret (wq_then_ret (wq_block_ret (wq_then_ret (wq_ret rfl ⟨_, rfl, (bool_is.2 rfl), hF⟩)))))
set_option maxRecDepth 100000 in
set_option maxHeartbeats 4000000 in
theorem Drop1_c {O : List Nat} {w : World} (hO : OB O w) {v0 : Value} {x0 : GDesc} (h0 : tGDesc.is O w v0 x0) {cv0 : Value} {ck0 : Int} (ch0 : (Ty.ptr (Ty.int .u64)).is O w cv0 ck0) : Calls Tryd.prog 28 #[v0, cv0] w (Gives (rt1 Ty.bool) O w (Drop1 x0 ck0)) := by
  obtain rfl := tGDesc_is.1 h0
  have hF := Fr.refl [] w
  have hO0 := hO
  have hS := Sub.refl O
  obtain ⟨r, h⟩ : ∃ r, Drop1 x0 ck0 = r := ⟨_, rfl⟩
  rw [h]
  refine calls_of (args := [(.agg #[(.int .u64 x0.fPid), (.int .i64 x0.fFd), (.int .u64 x0.fWhat)]), cv0]) (N := 8) Tryd.func28 rfl rfl rfl ?_
  unfold Drop1 at h
  refine wc_seq ?_
  refine wc_region (l := [0, 1]) rfl ?_
  refine wo_box rfl rfl rfl rfl rfl rfl [(.int .u64 x0.fPid), (.int .i64 x0.fFd), (.int .u64 x0.fWhat)] rfl hO (fun b1 w2 n3 => ?_)
  have ch0 := ch0.tr n3.tr
  have hb1 := n3.blk
  have gb1 := n3.ge0 hF
  have ib1 : b1 ∈ b1 :: O := List.mem_cons_self
  have hO := n3.ob
  have hF := hF.trans n3.fr
  have hS := Sub.cons hS b1
  refine wo_seg Θ_ok [1] [(1, cv0), (2, (.pointer (some ⟨b1, 0, none⟩)))] rfl ⟨rfl, rfl, trivial⟩ ?_
  refine wo_nil ?_
  refine wq_seq ?_
  refine wc_seq ?_
  refine wc_region (l := [0, 1, 2, 3, 4]) rfl ?_
  refine wo_seg Θ_ok [0] [(1, cv0), (4, (.pointer (some ⟨b1, 0, none⟩)))] rfl ⟨rfl, rfl, trivial⟩ ?_
  refine wo_load Θ_ok rfl rfl rfl rfl rfl rfl rfl hb1 [(.int .u64 x0.fPid)] rfl rfl (.inr rfl) (.int .u64 x0.fPid) rfl ?_
  refine wo_loadp Θ_ok rfl rfl rfl rfl rfl rfl rfl ch0 rfl rfl (fun v4 h5 => ?_)
  obtain rfl := int_is.1 h5
  refine wo_seg Θ_ok [3, 4] [(3, (.bool (x0.fPid != ck0)))] rfl ⟨rfl, trivial⟩ ?_
  refine wo_nil ?_
  refine wq_seq ?_
  refine wc_ret ?_
  subst h
  exact wq_ret rfl ⟨_, rfl, (bool_is.2 rfl), hF⟩
set_option maxRecDepth 100000 in
set_option maxHeartbeats 4000000 in
theorem Close1_c {O : List Nat} {w : World} (hO : OB O w) {v0 : Value} {x0 : GDesc} (h0 : tGDesc.is O w v0 x0) {cv0 : Value} {ck0 : GDesc} (ch0 : (Ty.ptr tGDesc).is O w cv0 ck0) : Calls Tryd.prog 33 #[v0, cv0] w (Gives (rt1 Ty.bool) O w (Close1 x0 ck0)) := by
  obtain rfl := tGDesc_is.1 h0
  have hF := Fr.refl [] w
  have hO0 := hO
  have hS := Sub.refl O
  obtain ⟨r, h⟩ : ∃ r, Close1 x0 ck0 = r := ⟨_, rfl⟩
  rw [h]
  refine calls_of (args := [(.agg #[(.int .u64 x0.fPid), (.int .i64 x0.fFd), (.int .u64 x0.fWhat)]), cv0]) (N := 7) Tryd.func33 rfl rfl rfl ?_
  unfold Close1 at h
  refine wc_seq ?_
  refine wc_region (l := [0, 1]) rfl ?_
  refine wo_box rfl rfl rfl rfl rfl rfl [(.int .u64 x0.fPid), (.int .i64 x0.fFd), (.int .u64 x0.fWhat)] rfl hO (fun b1 w2 n3 => ?_)
  have ch0 := ch0.tr n3.tr
  have hb1 := n3.blk
  have gb1 := n3.ge0 hF
  have ib1 : b1 ∈ b1 :: O := List.mem_cons_self
  have hO := n3.ob
  have hF := hF.trans n3.fr
  have hS := Sub.cons hS b1
  refine wo_seg Θ_ok [1] [(1, cv0), (2, (.pointer (some ⟨b1, 0, none⟩)))] rfl ⟨rfl, rfl, trivial⟩ ?_
  refine wo_nil ?_
  refine wq_seq ?_
  refine wc_seq ?_
  refine wc_region (l := [0, 1, 2, 3]) rfl ?_
  refine wo_load Θ_ok rfl rfl rfl rfl rfl rfl rfl hb1 [(.int .u64 x0.fPid), (.int .i64 x0.fFd), (.int .u64 x0.fWhat)] rfl rfl (.inl rfl) (.agg #[(.int .u64 x0.fPid), (.int .i64 x0.fFd), (.int .u64 x0.fWhat)]) rfl ?_
  refine wo_loadp Θ_ok rfl rfl rfl rfl rfl rfl rfl ch0 rfl rfl (fun v4 h5 => ?_)
  obtain rfl := tGDesc_is.1 h5
  refine wo_bin rfl rfl rfl rfl rfl rfl rfl (neq29 _ _) ?_
  refine wo_seg Θ_ok [3] [(3, (.bool (!(eqGDesc x0 ck0))))] rfl ⟨rfl, trivial⟩ ?_
  refine wo_nil ?_
  refine wq_seq ?_
  refine wc_ret ?_
  subst h
  exact wq_ret rfl ⟨_, rfl, (bool_is.2 rfl), hF⟩
set_option maxRecDepth 100000 in
set_option maxHeartbeats 4000000 in
theorem Count1_c {O : List Nat} {w : World} (hO : OB O w) {v0 : Value} {x0 : GDesc} (h0 : tGDesc.is O w v0 x0) {cv0 : Value} {ck0 : Int} (ch0 : (Ty.ptr (Ty.int .u64)).is O w cv0 ck0) : Calls Tryd.prog 35 #[v0, cv0] w (Gives (rt1 Ty.bool) O w (Count1 x0 ck0)) := by
  obtain rfl := tGDesc_is.1 h0
  have hF := Fr.refl [] w
  have hO0 := hO
  have hS := Sub.refl O
  obtain ⟨r, h⟩ : ∃ r, Count1 x0 ck0 = r := ⟨_, rfl⟩
  rw [h]
  refine calls_of (args := [(.agg #[(.int .u64 x0.fPid), (.int .i64 x0.fFd), (.int .u64 x0.fWhat)]), cv0]) (N := 8) Tryd.func35 rfl rfl rfl ?_
  unfold Count1 at h
  refine wc_seq ?_
  refine wc_region (l := [0, 1]) rfl ?_
  refine wo_box rfl rfl rfl rfl rfl rfl [(.int .u64 x0.fPid), (.int .i64 x0.fFd), (.int .u64 x0.fWhat)] rfl hO (fun b1 w2 n3 => ?_)
  have ch0 := ch0.tr n3.tr
  have hb1 := n3.blk
  have gb1 := n3.ge0 hF
  have ib1 : b1 ∈ b1 :: O := List.mem_cons_self
  have hO := n3.ob
  have hF := hF.trans n3.fr
  have hS := Sub.cons hS b1
  refine wo_seg Θ_ok [1] [(1, cv0), (2, (.pointer (some ⟨b1, 0, none⟩)))] rfl ⟨rfl, rfl, trivial⟩ ?_
  refine wo_nil ?_
  refine wq_seq ?_
  refine wc_seq ?_
  refine wc_region (l := [0, 1, 2, 3, 4]) rfl ?_
  refine wo_seg Θ_ok [0] [(1, cv0), (4, (.pointer (some ⟨b1, 2, none⟩)))] rfl ⟨rfl, rfl, trivial⟩ ?_
  refine wo_load Θ_ok rfl rfl rfl rfl rfl rfl rfl hb1 [(.int .u64 x0.fWhat)] rfl rfl (.inr rfl) (.int .u64 x0.fWhat) rfl ?_
  refine wo_loadp Θ_ok rfl rfl rfl rfl rfl rfl rfl ch0 rfl rfl (fun v4 h5 => ?_)
  obtain rfl := int_is.1 h5
  refine wo_seg Θ_ok [3, 4] [(3, (.bool (x0.fWhat == ck0)))] rfl ⟨rfl, trivial⟩ ?_
  refine wo_nil ?_
  refine wq_seq ?_
  refine wc_ret ?_
  subst h
  exact wq_ret rfl ⟨_, rfl, (bool_is.2 rfl), hF⟩
set_option maxRecDepth 100000 in
set_option maxHeartbeats 4000000 in
theorem s_Index_c {O : List Nat} {w : World} (hO : OB O w) {v0 : Value} {x0 : List Bool} (h0 : (Ty.slice Ty.bool).is O w v0 x0) {v1 : Value} {x1 : Bool} (h1 : Ty.bool.is O w v1 x1) : Calls Tryd.prog 30 #[v0, v1] w (Gives (rt1 (Ty.int .i64)) O w (s_Index x0 x1)) := by
  obtain rfl := bool_is.1 h1
  have hF := Fr.refl [] w
  have hO0 := hO
  have hS := Sub.refl O
  obtain ⟨r, h⟩ : ∃ r, s_Index x0 x1 = r := ⟨_, rfl⟩
  rw [h]
  refine calls_of (args := [v0, (.bool x1)]) (N := 19) Tryd.func30 rfl rfl rfl ?_
  unfold s_Index at h
  refine wc_seq ?_
  refine wc_region (l := [0]) rfl ?_
  refine wo_seg Θ_ok [0] [(0, v0), (1, (.bool x1))] rfl ⟨rfl, rfl, trivial⟩ ?_
  refine wo_nil ?_
  refine wq_seq ?_
  obtain ⟨k2, hk3, h⟩ := letk_some h
  refine wc_join (fun E W => ∃ (O6 : List Nat), E = [] ∧ Tr O w O6 W ∧ OB O6 W ∧ Sub O O6 ∧ Fr [] w W ∧ k2 = r) ?_ (fun K4 hK5 => ?_)
  · rintro E w7 ⟨O6, rfl, T1, hO, hS, hF, h⟩
    subst hk3
    (try dsimp only at h)
    refine wc_seq ?_
    refine wc_region (l := [0]) rfl ?_
    refine wo_seg Θ_ok [0] [(4, (.int .i64 (-1)))] rfl ⟨rfl, trivial⟩ ?_
    refine wo_nil ?_
    refine wq_seq ?_
    refine wc_ret ?_
    subst h
    exact wq_ret rfl ⟨_, rfl, (int_is.2 rfl), hF⟩
  clear hk3
  have T1 := Tr.refl O w
  refine wc_seq ?_
  refine wc_region (l := [0, 1, 2]) rfl ?_
  refine wo_seg Θ_ok [0] [(0, v0), (1, (.bool x1)), (6, v0)] rfl ⟨rfl, rfl, rfl, trivial⟩ ?_
  obtain ⟨A8, c9, rfl, hlc9, hmc9⟩ := slice_form h0
  refine wo_seg Θ_ok [1] [(0, (.slice A8 x0.length c9)), (1, (.bool x1)), (7, (.int .i64 (x0.length : Int)))] rfl ⟨rfl, rfl, rfl, trivial⟩ ?_
  refine wo_seg Θ_ok [2] [(0, (.slice A8 x0.length c9)), (1, (.bool x1)), (7, (.int .i64 (x0.length : Int))), (8, (.int .i64 0))] rfl ⟨rfl, rfl, rfl, rfl, trivial⟩ ?_
  refine wo_nil ?_
  refine wq_seq ?_
  refine wc_block ?_
  refine wc_loop (fun m E W => ∃ (rest12 : List Bool) (i11 : Nat) (O15 : List Nat), rest12.length = m ∧ x0.drop i11 = rest12 ∧ E = [(0, (.slice A8 x0.length c9)), (1, (.bool x1)), (7, (.int .i64 (x0.length : Int))), (8, (.int .i64 (i11 : Int)))] ∧ Tr O w O15 W ∧ OB O15 W ∧ Sub O O15 ∧ Fr [] w W ∧ s_Index_l1 x1 k2 rest12 i11 = r) _ [(0, (.slice A8 x0.length c9)), (1, (.bool x1)), (7, (.int .i64 (x0.length : Int))), (8, (.int .i64 ((0 : Nat) : Int)))] ⟨rfl, rfl, rfl, rfl, trivial⟩ ⟨x0, 0, O, rfl, rfl, rfl, Tr.refl _ _, hO, hS, hF, h⟩ ?_
  rintro m E w16 ⟨rest12, i11, O15, rfl, hd14, rfl, T10, hO, hS, hF, h⟩
  have T1 := T1.trans T10
  have h0 := h0.tr T10
  rcases rest12 with _ | ⟨z13, rest12⟩
  · rw [s_Index_l1] at h
    have hl20 := drop_nil hd14
    have hc17 : (decide ((i11 : Int) < (x0.length : Int))) = false := decide_eq_false (by omega)
    refine wc_seq ?_
    refine wc_region (l := [0]) rfl ?_
    refine wo_seg Θ_ok [0] [(0, (.slice A8 x0.length c9)), (1, (.bool x1)), (7, (.int .i64 (x0.length : Int))), (8, (.int .i64 (i11 : Int))), (9, (.bool (decide ((i11 : Int) < (x0.length : Int)))))] rfl ⟨rfl, rfl, rfl, rfl, rfl, trivial⟩ ?_
    refine wo_nil ?_
    refine wq_seq ?_
    refine wc_seq ?_
    refine wc_known_false rfl hc17 ?_
    refine wc_exit ?_
    exact wq_then_exit (wq_then_exit (wq_block_exit (wq_join hK5 [] trivial ⟨O15, rfl, T1, hO, hS, hF, h⟩)))
  rw [s_Index_l1] at h
  obtain ⟨hl21, hg19, hd14⟩ := drop_cons hd14
  have hc18 : (decide ((i11 : Int) < (x0.length : Int))) = true := decide_eq_true (by omega)
  refine wc_seq ?_
  refine wc_region (l := [0]) rfl ?_
  refine wo_seg Θ_ok [0] [(0, (.slice A8 x0.length c9)), (1, (.bool x1)), (7, (.int .i64 (x0.length : Int))), (8, (.int .i64 (i11 : Int))), (9, (.bool (decide ((i11 : Int) < (x0.length : Int)))))] rfl ⟨rfl, rfl, rfl, rfl, rfl, trivial⟩ ?_
  refine wo_nil ?_
  refine wq_seq ?_
  refine wc_seq ?_
  refine wc_known_true rfl hc18 ?_
  refine wc_skip ?_
  refine wq_seq ?_
  refine wc_seq ?_
  refine wc_block ?_
  refine wc_seq ?_
  refine wc_region (l := [0, 1]) rfl ?_
  refine wo_seg Θ_ok [0, 1] [(0, (.slice A8 x0.length c9)), (1, (.bool x1)), (5, (.int .i64 (i11 : Int))), (7, (.int .i64 (x0.length : Int))), (8, (.int .i64 (i11 : Int)))] rfl ⟨rfl, rfl, rfl, rfl, rfl, trivial⟩ ?_
  refine wo_nil ?_
  refine wq_seq ?_
  refine wc_seq ?_
  refine wc_region (l := [0, 1, 2, 3, 4, 5]) rfl ?_
  refine wo_seg Θ_ok [0, 1, 2] [(0, (.slice A8 x0.length c9)), (1, (.bool x1)), (5, (.int .i64 (i11 : Int))), (7, (.int .i64 (x0.length : Int))), (8, (.int .i64 (i11 : Int))), (11, (.bool x1)), (12, (.slice A8 x0.length c9)), (13, (.int .i64 (i11 : Int)))] rfl ⟨rfl, rfl, rfl, rfl, rfl, rfl, rfl, rfl, trivial⟩ ?_
  refine wo_index Θ_ok rfl rfl rfl rfl rfl rfl rfl rfl rfl rfl h0 rfl (by omega) hg19 (fun p22 h23 => ?_)
  refine wo_loadp Θ_ok rfl rfl rfl rfl rfl rfl rfl h23 rfl rfl (fun v24 h25 => ?_)
  obtain rfl := bool_is.1 h25
  refine wo_seg Θ_ok [5] [(0, (.slice A8 x0.length c9)), (1, (.bool x1)), (5, (.int .i64 (i11 : Int))), (7, (.int .i64 (x0.length : Int))), (8, (.int .i64 (i11 : Int))), (16, (.bool (x1 == z13)))] rfl ⟨rfl, rfl, rfl, rfl, rfl, rfl, trivial⟩ ?_
  refine wo_nil ?_
  refine wq_seq ?_
  rcases bif_some h with ⟨hc26, h⟩ | ⟨hc26, h⟩
  rotate_left
  · refine wc_known_false rfl hc26 ?_
    refine wc_skip ?_
    refine wq_block (wq_seq ?_)
    refine wc_region (l := [0, 1]) rfl ?_
    refine wo_seg Θ_ok [0, 1] [(0, (.slice A8 x0.length c9)), (1, (.bool x1)), (7, (.int .i64 (x0.length : Int))), (8, (.int .i64 (IntKind.i64.wrap ((i11 : Int) + (1 : Int)))))] rfl ⟨rfl, rfl, rfl, rfl, trivial⟩ ?_
    refine wo_nil ?_
    exact wq_next rest12.length [(0, (.slice A8 x0.length c9)), (1, (.bool x1)), (7, (.int .i64 (x0.length : Int))), (8, (.int .i64 ((i11 + 1 : Nat) : Int)))] (Nat.lt_succ_self _) ⟨rfl, rfl, rfl, congrArg (fun z => some (Value.int .i64 z)) (wrap_succ hl21 (Nat.le_trans hlc9 hmc9)), trivial⟩ ⟨rest12, i11 + 1, O15, rfl, hd14, rfl, T10, hO, hS, hF, h⟩
  refine wc_known_true rfl hc26 ?_
  refine wc_seq ?_
  refine wc_region (l := [0, 1]) rfl ?_
  refine wo_seg Θ_ok [0, 1] [(4, (.int .i64 (i11 : Int)))] rfl ⟨rfl, trivial⟩ ?_
  refine wo_nil ?_
  refine wq_seq ?_
  refine wc_ret ?_
  subst h
  exact wq_block_ret (wq_then_ret (wq_then_ret (wq_block_ret (wq_then_ret (wq_ret rfl ⟨_, rfl, (int_is.2 rfl), hF⟩)))))
set_option maxRecDepth 100000 in
set_option maxHeartbeats 4000000 in
theorem d_kept_c {O : List Nat} {w : World} (hO : OB O w) {v0 : Value} {x0 : List GDesc} (h0 : (Ty.slice tGDesc).is O w v0 x0) {v1 : Value} {x1 : GDesc → Option (Bool)} (h1 : (Ty.fn1 Tryd.prog tGDesc (rt1 Ty.bool)).is O w v1 x1) {r : List GDesc} (h : d_kept x0 x1 = some r) : Calls Tryd.prog 27 #[v0, v1] w (Gives (rt1 (Ty.slice tGDesc)) O w r) := by
  have hF := Fr.refl [] w
  have hO0 := hO
  have hS := Sub.refl O
  refine calls_of (args := [v0, v1]) (N := 23) Tryd.func27 rfl rfl rfl ?_
  unfold d_kept at h
  refine wc_seq ?_
  refine wc_region (l := [0]) rfl ?_
  refine wo_seg Θ_ok [0] [(0, v0), (1, v1)] rfl ⟨rfl, rfl, trivial⟩ ?_
  refine wo_nil ?_
  refine wq_seq ?_
  refine wc_seq ?_
  refine wc_region (l := [0]) rfl ?_
  refine wo_seg Θ_ok [0] [(0, v0), (1, v1), (5, (.slice none 0 0))] rfl ⟨rfl, rfl, rfl, trivial⟩ ?_
  refine wo_nil ?_
  refine wq_seq ?_
  obtain ⟨k2, hk3, h⟩ := letk_some h
  refine wc_join (fun E W => ∃ (O9 : List Nat) (p6 : List GDesc) (v7 : Value), E = [(5, v7)] ∧ Tr O w O9 W ∧ OB O9 W ∧ Sub O O9 ∧ Fr [] w W ∧ Go.Dc.Own tGDesc 29 w.heap.size O9 W v7 p6 ∧ k2 p6 = some r) ?_ (fun K4 hK5 => ?_)
  · rintro E w10 ⟨O9, p6, v7, rfl, T1, hO, hS, hF, h8, h⟩
    subst hk3
    (try dsimp only at h)
    refine wc_seq ?_
    refine wc_region (l := [0, 1]) rfl ?_
    refine wo_seg Θ_ok [0, 1] [(4, v7)] rfl ⟨rfl, trivial⟩ ?_
    refine wo_nil ?_
    refine wq_seq ?_
    refine wc_ret ?_
    cases h
    exact wq_ret rfl ⟨_, rfl, (h8.share0 hS hO0), hF⟩
  clear hk3
  have T1 := Tr.refl O w
  refine wc_seq ?_
  refine wc_region (l := [0, 1, 2]) rfl ?_
  refine wo_seg Θ_ok [0] [(1, v1), (5, (.slice none 0 0)), (8, v0)] rfl ⟨rfl, rfl, rfl, trivial⟩ ?_
  obtain ⟨A11, c12, rfl, hlc12, hmc12⟩ := slice_form h0
  refine wo_seg Θ_ok [1] [(1, v1), (5, (.slice none 0 0)), (8, (.slice A11 x0.length c12)), (9, (.int .i64 (x0.length : Int)))] rfl ⟨rfl, rfl, rfl, rfl, trivial⟩ ?_
  refine wo_seg Θ_ok [2] [(1, v1), (5, (.slice none 0 0)), (8, (.slice A11 x0.length c12)), (9, (.int .i64 (x0.length : Int))), (10, (.int .i64 0))] rfl ⟨rfl, rfl, rfl, rfl, rfl, trivial⟩ ?_
  refine wo_nil ?_
  refine wq_seq ?_
  refine wc_block ?_
  refine wc_loop (fun m E W => ∃ (rest18 : List GDesc) (i17 : Nat) (O21 : List Nat) (p14 : List GDesc) (v15 : Value), rest18.length = m ∧ x0.drop i17 = rest18 ∧ E = [(1, v1), (5, v15), (8, (.slice A11 x0.length c12)), (9, (.int .i64 (x0.length : Int))), (10, (.int .i64 (i17 : Int)))] ∧ Tr O w O21 W ∧ OB O21 W ∧ Sub O O21 ∧ Fr [] w W ∧ Go.Dc.Own tGDesc 29 w.heap.size O21 W v15 p14 ∧ d_kept_l1 x1 k2 rest18 i17 p14 = some r) _ [(1, v1), (5, (.slice none 0 0)), (8, (.slice A11 x0.length c12)), (9, (.int .i64 (x0.length : Int))), (10, (.int .i64 ((0 : Nat) : Int)))] ⟨rfl, rfl, rfl, rfl, rfl, trivial⟩ ⟨x0, 0, O, ([] : List GDesc), (.slice none 0 0), rfl, rfl, rfl, Tr.refl _ _, hO, hS, hF, (Go.Dc.Own.nil_ : Go.Dc.Own tGDesc 29 w.heap.size _ _ _ _), h⟩ ?_
  rintro m E w22 ⟨rest18, i17, O21, p14, v15, rfl, hd20, rfl, T13, hO, hS, hF, h16, h⟩
  have T1 := T1.trans T13
  have h1 := h1.tr T13
  have h0 := h0.tr T13
  rcases rest18 with _ | ⟨z19, rest18⟩
  · rw [d_kept_l1] at h
    have hl26 := drop_nil hd20
    have hc23 : (decide ((i17 : Int) < (x0.length : Int))) = false := decide_eq_false (by omega)
    refine wc_seq ?_
    refine wc_region (l := [0]) rfl ?_
    refine wo_seg Θ_ok [0] [(1, v1), (5, v15), (8, (.slice A11 x0.length c12)), (9, (.int .i64 (x0.length : Int))), (10, (.int .i64 (i17 : Int))), (11, (.bool (decide ((i17 : Int) < (x0.length : Int)))))] rfl ⟨rfl, rfl, rfl, rfl, rfl, rfl, trivial⟩ ?_
    refine wo_nil ?_
    refine wq_seq ?_
    refine wc_seq ?_
    refine wc_known_false rfl hc23 ?_
    refine wc_exit ?_
    exact wq_then_exit (wq_then_exit (wq_block_exit (wq_join hK5 [(5, v15)] ⟨rfl, trivial⟩ ⟨O21, p14, v15, rfl, T1, hO, hS, hF, h16, h⟩)))
  rw [d_kept_l1] at h
  obtain ⟨hl27, hg25, hd20⟩ := drop_cons hd20
  have hc24 : (decide ((i17 : Int) < (x0.length : Int))) = true := decide_eq_true (by omega)
  refine wc_seq ?_
  refine wc_region (l := [0]) rfl ?_
  refine wo_seg Θ_ok [0] [(1, v1), (5, v15), (8, (.slice A11 x0.length c12)), (9, (.int .i64 (x0.length : Int))), (10, (.int .i64 (i17 : Int))), (11, (.bool (decide ((i17 : Int) < (x0.length : Int)))))] rfl ⟨rfl, rfl, rfl, rfl, rfl, rfl, trivial⟩ ?_
  refine wo_nil ?_
  refine wq_seq ?_
  refine wc_seq ?_
  refine wc_known_true rfl hc24 ?_
  refine wc_skip ?_
  refine wq_seq ?_
  refine wc_seq ?_
  refine wc_block ?_
  refine wc_seq ?_
  refine wc_region (l := [0, 1, 2, 3]) rfl ?_
  refine wo_index Θ_ok rfl rfl rfl rfl rfl rfl rfl rfl rfl rfl h0 rfl (by omega) hg25 (fun p28 h29 => ?_)
  refine wo_loadp Θ_ok rfl rfl rfl rfl rfl rfl rfl h29 rfl rfl (fun v30 h31 => ?_)
  obtain rfl := tGDesc_is.1 h31
  refine wo_alloc Θ_ok rfl rfl rfl rfl rfl rfl [(.int .u64 0), (.int .i64 0), (.int .u64 0)] rfl hO (fun b32 w33 n34 => ?_)
  have h1 := h1.tr n34.tr
  have h0 := h0.tr n34.tr
  have T1 := T1.trans n34.tr
  have T13 := T13.trans n34.tr
  have qh16b32 := h16.ne_new n34
  have h16 := h16.new n34
  have hb32 := n34.blk
  have gb32 := n34.ge0 hF
  have ib32 : b32 ∈ b32 :: O21 := List.mem_cons_self
  have hO := n34.ob
  have hF := hF.trans n34.fr
  have hS := Sub.cons hS b32
  refine wo_store Θ_ok rfl rfl rfl rfl rfl rfl rfl hb32 [(.int .u64 z19.fPid), (.int .i64 z19.fFd), (.int .u64 z19.fWhat)] rfl rfl (by simp [Value.oneCell']) rfl [(.int .u64 z19.fPid), (.int .i64 z19.fFd), (.int .u64 z19.fWhat)] rfl (fun w35 hb32 f36 => ?_)
  have h1 := h1.tr (f36.tr (one_in ib32))
  have h0 := h0.tr (f36.tr (one_in ib32))
  have T1 := T1.trans (f36.tr (one_in ib32))
  have T13 := T13.trans (f36.tr (one_in ib32))
  have h16 := h16.st f36 ib32 qh16b32
  have hO := f36.ob hO
  have hF := hF.own f36 gb32
  refine wo_nil ?_
  refine wq_seq ?_
  refine wc_seq ?_
  refine wc_region (l := [0, 1, 2]) rfl ?_
  refine wo_seg Θ_ok [0] [(1, v1), (5, v15), (7, (.pointer (some ⟨b32, 0, none⟩))), (8, (.slice A11 x0.length c12)), (9, (.int .i64 (x0.length : Int))), (10, (.int .i64 (i17 : Int))), (14, v1)] rfl ⟨rfl, rfl, rfl, rfl, rfl, rfl, rfl, trivial⟩ ?_
  refine wo_load Θ_ok rfl rfl rfl rfl rfl rfl rfl hb32 [(.int .u64 z19.fPid), (.int .i64 z19.fFd), (.int .u64 z19.fWhat)] rfl rfl (.inl rfl) (.agg #[(.int .u64 z19.fPid), (.int .i64 z19.fFd), (.int .u64 z19.fWhat)]) rfl ?_
  obtain ⟨y37, hy38, h⟩ := bind_some h
  refine wo_dyn1 rfl rfl rfl rfl rfl rfl rfl h1 hO ((tGDesc_is (x := z19)).2 rfl) hy38 (fun v39 w40 h41 f42 => ?_)
  have h1 := h1.tr f42.tr0
  have h0 := h0.tr f42.tr0
  have hb32 := hb32.fr0 f42
  have h16 := h16.fr0 f42
  have T1 := T1.trans f42.tr0
  have T13 := T13.trans f42.tr0
  have hO := f42.ob hO
  have hF := hF.trans f42
  obtain rfl := bool_is.1 h41
  refine wo_nil ?_
  refine wq_seq ?_
  rcases bif_some h with ⟨hc43, h⟩ | ⟨hc43, h⟩
  rotate_left
  · refine wc_known_false rfl hc43 ?_
    refine wc_skip ?_
    refine wq_block (wq_seq ?_)
    refine wc_region (l := [0, 1]) rfl ?_
    refine wo_seg Θ_ok [0, 1] [(1, v1), (5, v15), (8, (.slice A11 x0.length c12)), (9, (.int .i64 (x0.length : Int))), (10, (.int .i64 (IntKind.i64.wrap ((i17 : Int) + (1 : Int)))))] rfl ⟨rfl, rfl, rfl, rfl, rfl, trivial⟩ ?_
    refine wo_nil ?_
    exact wq_next rest18.length [(1, v1), (5, v15), (8, (.slice A11 x0.length c12)), (9, (.int .i64 (x0.length : Int))), (10, (.int .i64 ((i17 + 1 : Nat) : Int)))] (Nat.lt_succ_self _) ⟨rfl, rfl, rfl, rfl, congrArg (fun z => some (Value.int .i64 z)) (wrap_succ hl27 (Nat.le_trans hlc12 hmc12)), trivial⟩ ⟨rest18, i17 + 1, b32 :: O21, p14, v15, rfl, hd20, rfl, T13, hO, hS, hF, h16, h⟩
  refine wc_known_true rfl hc43 ?_
  refine wc_region (l := [0, 1, 2, 3, 4]) rfl ?_
  refine wo_seg Θ_ok [0] [(1, v1), (7, (.pointer (some ⟨b32, 0, none⟩))), (8, (.slice A11 x0.length c12)), (9, (.int .i64 (x0.length : Int))), (10, (.int .i64 (i17 : Int))), (17, v15)] rfl ⟨rfl, rfl, rfl, rfl, rfl, rfl, trivial⟩ ?_
  refine wo_load Θ_ok rfl rfl rfl rfl rfl rfl rfl hb32 [(.int .u64 z19.fPid), (.int .i64 z19.fFd), (.int .u64 z19.fWhat)] rfl rfl (.inl rfl) (.agg #[(.int .u64 z19.fPid), (.int .i64 z19.fFd), (.int .u64 z19.fWhat)]) rfl ?_
  refine wo_litd Θ_ok rfl rfl rfl rfl rfl rfl rfl rfl rfl rfl (T := tGDesc) (xs := [z19]) (vs := [(.agg #[(.int .u64 z19.fPid), (.int .i64 z19.fFd), (.int .u64 z19.fWhat)])]) rfl ⟨((tGDesc_is (x := z19)).2 rfl), trivial⟩ rfl rfl rfl hO (fun v44 w45 h46 f47 => ?_)
  have h1 := h1.tr f47.tr0
  have h0 := h0.tr f47.tr0
  have h16 := h16.fr0 f47
  have T1 := T1.trans f47.tr0
  have T13 := T13.trans f47.tr0
  have hO := f47.ob hO
  have hF := hF.trans f47
  obtain ⟨z48, hz49, h⟩ := bind_some h
  refine wo_app Θ_ok rfl rfl rfl rfl rfl rfl rfl rfl rfl rfl rfl rfl rfl rfl hF hO h16 h46 hz49 (fun v50 w51 O52 ap53 => ?_)
  have h1 := h1.tr ap53.tr
  have h0 := h0.tr ap53.tr
  have T1 := T1.trans ap53.tr
  have T13 := T13.trans ap53.tr
  have hF := ap53.fr0 h16 hF
  have hS := Sub.trans hS ap53.sub
  have hO := ap53.ob
  have h54 := ap53.own
  refine wo_seg Θ_ok [4] [(1, v1), (5, v50), (8, (.slice A11 x0.length c12)), (9, (.int .i64 (x0.length : Int))), (10, (.int .i64 (i17 : Int)))] rfl ⟨rfl, rfl, rfl, rfl, rfl, trivial⟩ ?_
  refine wo_nil ?_
  refine wq_block (wq_seq ?_)
  refine wc_region (l := [0, 1]) rfl ?_
  refine wo_seg Θ_ok [0, 1] [(1, v1), (5, v50), (8, (.slice A11 x0.length c12)), (9, (.int .i64 (x0.length : Int))), (10, (.int .i64 (IntKind.i64.wrap ((i17 : Int) + (1 : Int)))))] rfl ⟨rfl, rfl, rfl, rfl, rfl, trivial⟩ ?_
  refine wo_nil ?_
  exact wq_next rest18.length [(1, v1), (5, v50), (8, (.slice A11 x0.length c12)), (9, (.int .i64 (x0.length : Int))), (10, (.int .i64 ((i17 + 1 : Nat) : Int)))] (Nat.lt_succ_self _) ⟨rfl, rfl, rfl, rfl, congrArg (fun z => some (Value.int .i64 z)) (wrap_succ hl27 (Nat.le_trans hlc12 hmc12)), trivial⟩ ⟨rest18, i17 + 1, O52, z48, v50, rfl, hd20, rfl, T13, hO, hS, hF, h54, h⟩
set_option maxRecDepth 100000 in
set_option maxHeartbeats 4000000 in
theorem d_Count_c {O : List Nat} {w : World} (hO : OB O w) {v0 : Value} {x0 : List GDesc} (h0 : (Ty.slice tGDesc).is O w v0 x0) {v1 : Value} {x1 : Int} (h1 : (Ty.int .u64).is O w v1 x1) {r : Int} (h : d_Count x0 x1 = some r) : Calls Tryd.prog 18 #[v0, v1] w (Gives (rt1 (Ty.int .i64)) O w r) := by
  obtain rfl := int_is.1 h1
  have hF := Fr.refl [] w
  have hO0 := hO
  have hS := Sub.refl O
  refine calls_of (args := [v0, (.int .u64 x1)]) (N := 12) Tryd.func18 rfl rfl rfl ?_
  unfold d_Count at h
  refine wc_seq ?_
  refine wc_region (l := [0, 1]) rfl ?_
  refine wo_box rfl rfl rfl rfl rfl rfl [(.int .u64 x1)] rfl hO (fun b1 w2 n3 => ?_)
  have h0 := h0.tr n3.tr
  have hb1 := n3.blk
  have gb1 := n3.ge0 hF
  have ib1 : b1 ∈ b1 :: O := List.mem_cons_self
  have hO := n3.ob
  have hF := hF.trans n3.fr
  have hS := Sub.cons hS b1
  refine wo_seg Θ_ok [1] [(0, v0), (3, (.pointer (some ⟨b1, 0, none⟩)))] rfl ⟨rfl, rfl, trivial⟩ ?_
  refine wo_nil ?_
  refine wq_seq ?_
  refine wc_seq ?_
  refine wc_seq ?_
  refine wc_region (l := [0, 1, 2]) rfl ?_
  refine wo_seg Θ_ok [0] [(0, v0), (3, (.pointer (some ⟨b1, 0, none⟩))), (5, v0)] rfl ⟨rfl, rfl, rfl, trivial⟩ ?_
  obtain ⟨y8, hy9, h⟩ := bind_some h
  refine wo_gives rfl rfl rfl rfl rfl ent8 rfl (d_Check_c hO h0 hy9) (fun v4 w5 h6 f7 => ?_)
  have h0 := h0.tr f7.tr0
  have hb1 := hb1.fr0 f7
  have hO := f7.ob hO
  have hF := hF.trans f7
  obtain rfl := int_is.1 h6
  refine wo_seg Θ_ok [2] [(0, v0), (3, (.pointer (some ⟨b1, 0, none⟩))), (7, (.bool (y8 != (0 : Int))))] rfl ⟨rfl, rfl, rfl, trivial⟩ ?_
  refine wo_nil ?_
  refine wq_seq ?_
  rcases bif_some h with ⟨hc10, h⟩ | ⟨hc10, h⟩
  · refine wc_known_true rfl hc10 ?_
    refine wc_seq ?_
    refine wc_region (l := [0]) rfl ?_
    refine wo_seg Θ_ok [0] [(4, (.int .i64 0))] rfl ⟨rfl, trivial⟩ ?_
    refine wo_nil ?_
    refine wq_seq ?_
    refine wc_ret ?_
    cases h
    exact wq_then_ret (wq_ret rfl ⟨_, rfl, (int_is.2 rfl), hF⟩)
  refine wc_known_false rfl hc10 ?_
  refine wc_skip ?_
  refine wq_seq ?_
  refine wc_seq ?_
  refine wc_region (l := [0, 1, 2, 3, 4]) rfl ?_
  refine wo_seg Θ_ok [0] [(3, (.pointer (some ⟨b1, 0, none⟩))), (8, v0)] rfl ⟨rfl, rfl, trivial⟩ ?_
  have p11 := rel_ptr (T := (Ty.int .u64)) hb1 (Ty.tr _ (rel_tr b1 (b1 :: O) w5) (rep_of rfl (int_is.2 rfl)))
  have h0 := h0.tr (rel_tr b1 (b1 :: O) w5)
  have hO := rel_ob (b := b1) hO
  have hS := rel_sub hS hO0 gb1
  refine wo_seg Θ_ok [1] [(8, v0), (9, (.func (.func 35) #[] #[(.pointer (some ⟨b1, 0, none⟩))]))] rfl ⟨rfl, rfl, trivial⟩ ?_
  obtain ⟨y16, hy17, h⟩ := bind_some h
  refine wo_gives rfl rfl rfl rfl rfl ent27 rfl (d_kept_c hO h0 (fn1_is (first := []) (cap := [(.pointer (some ⟨b1, 0, none⟩))]) ent35 (fun O' w' ht hO u0 z0 q0 y hy => by cases hy; exact Count1_c hO q0 (p11.tr ht))) hy17) (fun v12 w13 h14 f15 => ?_)
  have hO := f15.ob hO
  have hF := hF.trans f15
  obtain ⟨A18, c19, rfl, hlc19, hmc19⟩ := slice_form h14
  refine wo_seg Θ_ok [3] [(11, (.int .i64 (y16.length : Int)))] rfl ⟨rfl, trivial⟩ ?_
  refine wo_seg Θ_ok [4] [(4, (.int .i64 (y16.length : Int)))] rfl ⟨rfl, trivial⟩ ?_
  refine wo_nil ?_
  refine wq_seq ?_
  refine wc_ret ?_
  cases h
  exact wq_ret rfl ⟨_, rfl, (int_is.2 rfl), hF⟩
set_option maxRecDepth 100000 in
set_option maxHeartbeats 4000000 in
theorem d_Drop_c {O : List Nat} {w : World} (hO : OB O w) {v0 : Value} {x0 : List GDesc} (h0 : (Ty.slice tGDesc).is O w v0 x0) {v1 : Value} {x1 : Int} (h1 : (Ty.int .u64).is O w v1 x1) {r : (List GDesc) × Int} (h : d_Drop x0 x1 = some r) : Calls Tryd.prog 9 #[v0, v1] w (Gives (rt2 (Ty.slice tGDesc) (Ty.int .i64)) O w r) := by
  obtain rfl := int_is.1 h1
  have hF := Fr.refl [] w
  have hO0 := hO
  have hS := Sub.refl O
  refine calls_of (args := [v0, (.int .u64 x1)]) (N := 19) Tryd.func9 rfl rfl rfl ?_
  unfold d_Drop at h
  refine wc_seq ?_
  refine wc_region (l := [0, 1, 2]) rfl ?_
  refine wo_box rfl rfl rfl rfl rfl rfl [(.int .u64 x1)] rfl hO (fun b1 w2 n3 => ?_)
  have h0 := h0.tr n3.tr
  have hb1 := n3.blk
  have gb1 := n3.ge0 hF
  have ib1 : b1 ∈ b1 :: O := List.mem_cons_self
  have hO := n3.ob
  have hF := hF.trans n3.fr
  have hS := Sub.cons hS b1
  refine wo_seg Θ_ok [1, 2] [(0, v0), (3, (.pointer (some ⟨b1, 0, none⟩)))] rfl ⟨rfl, rfl, trivial⟩ ?_
  refine wo_nil ?_
  refine wq_seq ?_
  refine wc_seq ?_
  refine wc_seq ?_
  refine wc_region (l := [0, 1, 2]) rfl ?_
  refine wo_seg Θ_ok [0] [(0, v0), (3, (.pointer (some ⟨b1, 0, none⟩))), (7, v0)] rfl ⟨rfl, rfl, rfl, trivial⟩ ?_
  obtain ⟨y8, hy9, h⟩ := bind_some h
  refine wo_gives rfl rfl rfl rfl rfl ent8 rfl (d_Check_c hO h0 hy9) (fun v4 w5 h6 f7 => ?_)
  have h0 := h0.tr f7.tr0
  have hb1 := hb1.fr0 f7
  have hO := f7.ob hO
  have hF := hF.trans f7
  obtain rfl := int_is.1 h6
  refine wo_seg Θ_ok [2] [(0, v0), (3, (.pointer (some ⟨b1, 0, none⟩))), (9, (.bool (y8 != (0 : Int))))] rfl ⟨rfl, rfl, rfl, trivial⟩ ?_
  refine wo_nil ?_
  refine wq_seq ?_
  rcases bif_some h with ⟨hc10, h⟩ | ⟨hc10, h⟩
  · refine wc_known_true rfl hc10 ?_
    refine wc_seq ?_
    refine wc_region (l := [0, 1]) rfl ?_
    refine wo_seg Θ_ok [0, 1] [(4, (.slice none 0 0)), (5, (.int .i64 0))] rfl ⟨rfl, rfl, trivial⟩ ?_
    refine wo_nil ?_
    refine wq_seq ?_
    refine wc_ret ?_
    cases h
    exact wq_then_ret (wq_ret rfl ⟨_, rfl, ⟨_, _, rfl, (slice_nil _ _ _), (int_is.2 rfl)⟩, hF⟩)
  refine wc_known_false rfl hc10 ?_
  refine wc_skip ?_
  refine wq_seq ?_
  refine wc_seq ?_
  refine wc_region (l := [0, 1, 2, 3]) rfl ?_
  refine wo_seg Θ_ok [0] [(0, v0), (3, (.pointer (some ⟨b1, 0, none⟩))), (10, v0)] rfl ⟨rfl, rfl, rfl, trivial⟩ ?_
  have p11 := rel_ptr (T := (Ty.int .u64)) hb1 (Ty.tr _ (rel_tr b1 (b1 :: O) w5) (rep_of rfl (int_is.2 rfl)))
  have h0 := h0.tr (rel_tr b1 (b1 :: O) w5)
  have hO := rel_ob (b := b1) hO
  have hS := rel_sub hS hO0 gb1
  refine wo_seg Θ_ok [1] [(0, v0), (10, v0), (11, (.func (.func 28) #[] #[(.pointer (some ⟨b1, 0, none⟩))]))] rfl ⟨rfl, rfl, rfl, trivial⟩ ?_
  obtain ⟨y16, hy17, h⟩ := bind_some h
  refine wo_gives rfl rfl rfl rfl rfl ent27 rfl (d_kept_c hO h0 (fn1_is (first := []) (cap := [(.pointer (some ⟨b1, 0, none⟩))]) ent28 (fun O' w' ht hO u0 z0 q0 y hy => by cases hy; exact Drop1_c hO q0 (p11.tr ht))) hy17) (fun v12 w13 h14 f15 => ?_)
  have h0 := h0.tr f15.tr0
  have hO := f15.ob hO
  have hF := hF.trans f15
  refine wo_seg Θ_ok [3] [(0, v0), (6, v12)] rfl ⟨rfl, rfl, trivial⟩ ?_
  refine wo_nil ?_
  refine wq_seq ?_
  refine wc_seq ?_
  refine wc_region (l := [0, 1, 2, 3, 4, 5, 6, 7]) rfl ?_
  refine wo_seg Θ_ok [0, 1] [(6, v12), (13, v12), (14, v0)] rfl ⟨rfl, rfl, rfl, trivial⟩ ?_
  obtain ⟨A18, c19, rfl, hlc19, hmc19⟩ := slice_form h0
  refine wo_seg Θ_ok [2] [(6, v12), (13, v12), (15, (.int .i64 (x0.length : Int)))] rfl ⟨rfl, rfl, rfl, trivial⟩ ?_
  refine wo_seg Θ_ok [3] [(13, v12), (15, (.int .i64 (x0.length : Int))), (16, v12)] rfl ⟨rfl, rfl, rfl, trivial⟩ ?_
  obtain ⟨A20, c21, rfl, hlc21, hmc21⟩ := slice_form h14
  refine wo_seg Θ_ok [4] [(13, (.slice A20 y16.length c21)), (15, (.int .i64 (x0.length : Int))), (17, (.int .i64 (y16.length : Int)))] rfl ⟨rfl, rfl, rfl, trivial⟩ ?_
  refine wo_seg Θ_ok [5, 6, 7] [(4, (.slice A20 y16.length c21)), (5, (.int .i64 (IntKind.i64.wrap ((x0.length : Int) - (y16.length : Int)))))] rfl ⟨rfl, rfl, trivial⟩ ?_
  refine wo_nil ?_
  refine wq_seq ?_
  refine wc_ret ?_
  cases h
  exact wq_ret rfl ⟨_, rfl, ⟨_, _, rfl, (h14.tr (Tr.less hS)), (int_is.2 rfl)⟩, hF⟩
set_option maxRecDepth 100000 in
set_option maxHeartbeats 4000000 in
theorem b_Check_c {O : List Nat} {w : World} (hO : OB O w) {v0 : Value} {x0 : List GField} (h0 : (Ty.slice tGField).is O w v0 x0) {r : Int} (h : b_Check x0 = some r) : Calls Tryd.prog 44 #[v0] w (Gives (rt1 (Ty.int .i64)) O w r) := by
  have hF := Fr.refl [] w
  have hO0 := hO
  have hS := Sub.refl O
  refine calls_of (args := [v0]) (N := 35) Tryd.func44 rfl rfl rfl ?_
  unfold b_Check at h
  refine wc_seq ?_
  refine wc_region (l := [0]) rfl ?_
  refine wo_seg Θ_ok [0] [(0, v0)] rfl ⟨rfl, trivial⟩ ?_
  refine wo_nil ?_
  refine wq_seq ?_
  refine wc_scope ?_
  refine wc_seq ?_
  refine wc_region (l := [0]) rfl ?_
  refine wo_seg Θ_ok [0] [(0, v0), (3, (.int .u64 0))] rfl ⟨rfl, rfl, trivial⟩ ?_
  refine wo_nil ?_
  refine wq_seq ?_
  refine wc_seq ?_
  refine wc_region (l := [0]) rfl ?_
  refine wo_seg Θ_ok [0] [(0, v0), (3, (.int .u64 0)), (4, (.bool true))] rfl ⟨rfl, rfl, rfl, trivial⟩ ?_
  refine wo_nil ?_
  refine wq_seq ?_
  refine wc_seq ?_
  refine wc_label ?_
  refine wq_seq ?_
  obtain ⟨k2, hk3, h⟩ := letk_some h
  refine wc_join (fun E W => ∃ (O7 : List Nat) (p6 : Bool), E = [(4, (.bool p6))] ∧ Tr O w O7 W ∧ OB O7 W ∧ Sub O O7 ∧ Fr [] w W ∧ k2 p6 = some r) ?_ (fun K4 hK5 => ?_)
  · rintro E w8 ⟨O7, p6, rfl, T1, hO, hS, hF, h⟩
    subst hk3
    (try dsimp only at h)
    refine wc_seq ?_
    refine wc_seq ?_
    refine wc_region (l := [0, 1]) rfl ?_
    refine wo_seg Θ_ok [0, 1] [(34, (.bool (!p6)))] rfl ⟨rfl, trivial⟩ ?_
    refine wo_nil ?_
    refine wq_seq ?_
    rcases bif_some h with ⟨hc9, h⟩ | ⟨hc9, h⟩
    · refine wc_known_true rfl hc9 ?_
      refine wc_seq ?_
      refine wc_region (l := [0]) rfl ?_
      refine wo_seg Θ_ok [0] [(2, (.int .i64 110))] rfl ⟨rfl, trivial⟩ ?_
      refine wo_nil ?_
      refine wq_seq ?_
      refine wc_ret ?_
      cases h
      exact wq_then_ret (wq_scope (by simp) (wq_ret rfl ⟨_, rfl, (int_is.2 rfl), hF⟩))
    refine wc_known_false rfl hc9 ?_
    refine wc_skip ?_
    refine wq_seq ?_
    refine wc_seq ?_
    refine wc_region (l := [0]) rfl ?_
    refine wo_seg Θ_ok [0] [(2, (.int .i64 0))] rfl ⟨rfl, trivial⟩ ?_
    refine wo_nil ?_
    refine wq_seq ?_
    refine wc_ret ?_
    cases h
    exact wq_scope (by simp) (wq_ret rfl ⟨_, rfl, (int_is.2 rfl), hF⟩)
  clear hk3
  have T1 := Tr.refl O w
  refine wc_seq ?_
  refine wc_region (l := [0, 1, 2]) rfl ?_
  refine wo_seg Θ_ok [0] [(3, (.int .u64 0)), (4, (.bool true)), (8, v0)] rfl ⟨rfl, rfl, rfl, trivial⟩ ?_
  obtain ⟨A10, c11, rfl, hlc11, hmc11⟩ := slice_form h0
  refine wo_seg Θ_ok [1] [(3, (.int .u64 0)), (4, (.bool true)), (8, (.slice A10 x0.length c11)), (9, (.int .i64 (x0.length : Int)))] rfl ⟨rfl, rfl, rfl, rfl, trivial⟩ ?_
  refine wo_seg Θ_ok [2] [(3, (.int .u64 0)), (4, (.bool true)), (8, (.slice A10 x0.length c11)), (9, (.int .i64 (x0.length : Int))), (10, (.int .i64 0))] rfl ⟨rfl, rfl, rfl, rfl, rfl, trivial⟩ ?_
  refine wo_nil ?_
  refine wq_seq ?_
  refine wc_block ?_
  refine wc_loop (fun m E W => ∃ (rest16 : List GField) (i15 : Nat) (O19 : List Nat) (p13 : Int) (p14 : Bool), rest16.length = m ∧ x0.drop i15 = rest16 ∧ E = [(3, (.int .u64 p13)), (4, (.bool p14)), (8, (.slice A10 x0.length c11)), (9, (.int .i64 (x0.length : Int))), (10, (.int .i64 (i15 : Int)))] ∧ Tr O w O19 W ∧ OB O19 W ∧ Sub O O19 ∧ Fr [] w W ∧ b_Check_l1 k2 rest16 i15 p13 p14 = some r) _ [(3, (.int .u64 0)), (4, (.bool true)), (8, (.slice A10 x0.length c11)), (9, (.int .i64 (x0.length : Int))), (10, (.int .i64 ((0 : Nat) : Int)))] ⟨rfl, rfl, rfl, rfl, rfl, trivial⟩ ⟨x0, 0, O, (0 : Int), true, rfl, rfl, rfl, Tr.refl _ _, hO, hS, hF, h⟩ ?_
  rintro m E w20 ⟨rest16, i15, O19, p13, p14, rfl, hd18, rfl, T12, hO, hS, hF, h⟩
  have T1 := T1.trans T12
  have h0 := h0.tr T12
  rcases rest16 with _ | ⟨z17, rest16⟩
  · rw [b_Check_l1] at h
    have hl24 := drop_nil hd18
    have hc21 : (decide ((i15 : Int) < (x0.length : Int))) = false := decide_eq_false (by omega)
    refine wc_seq ?_
    refine wc_region (l := [0]) rfl ?_
    refine wo_seg Θ_ok [0] [(3, (.int .u64 p13)), (4, (.bool p14)), (8, (.slice A10 x0.length c11)), (9, (.int .i64 (x0.length : Int))), (10, (.int .i64 (i15 : Int))), (11, (.bool (decide ((i15 : Int) < (x0.length : Int)))))] rfl ⟨rfl, rfl, rfl, rfl, rfl, rfl, trivial⟩ ?_
    refine wo_nil ?_
    refine wq_seq ?_
    refine wc_seq ?_
    refine wc_known_false rfl hc21 ?_
    refine wc_exit ?_
    exact wq_then_exit (wq_then_exit (wq_block_exit (wq_join hK5 [(4, (.bool p14))] ⟨rfl, trivial⟩ ⟨O19, p14, rfl, T1, hO, hS, hF, h⟩)))
  rw [b_Check_l1] at h
  obtain ⟨hl25, hg23, hd18⟩ := drop_cons hd18
  have hc22 : (decide ((i15 : Int) < (x0.length : Int))) = true := decide_eq_true (by omega)
  refine wc_seq ?_
  refine wc_region (l := [0]) rfl ?_
  refine wo_seg Θ_ok [0] [(3, (.int .u64 p13)), (4, (.bool p14)), (8, (.slice A10 x0.length c11)), (9, (.int .i64 (x0.length : Int))), (10, (.int .i64 (i15 : Int))), (11, (.bool (decide ((i15 : Int) < (x0.length : Int)))))] rfl ⟨rfl, rfl, rfl, rfl, rfl, rfl, trivial⟩ ?_
  refine wo_nil ?_
  refine wq_seq ?_
  refine wc_seq ?_
  refine wc_known_true rfl hc22 ?_
  refine wc_skip ?_
  refine wq_seq ?_
  refine wc_seq ?_
  refine wc_block ?_
  refine wc_seq ?_
  refine wc_region (l := [0, 1, 2, 3]) rfl ?_
  refine wo_index Θ_ok rfl rfl rfl rfl rfl rfl rfl rfl rfl rfl h0 rfl (by omega) hg23 (fun p26 h27 => ?_)
  refine wo_loadp Θ_ok rfl rfl rfl rfl rfl rfl rfl h27 rfl rfl (fun v28 h29 => ?_)
  obtain rfl := tGField_is.1 h29
  refine wo_alloc Θ_ok rfl rfl rfl rfl rfl rfl [(.int .i64 0), (.int .i64 0)] rfl hO (fun b30 w31 n32 => ?_)
  have h0 := h0.tr n32.tr
  have T1 := T1.trans n32.tr
  have T12 := T12.trans n32.tr
  have hb30 := n32.blk
  have gb30 := n32.ge0 hF
  have ib30 : b30 ∈ b30 :: O19 := List.mem_cons_self
  have hO := n32.ob
  have hF := hF.trans n32.fr
  have hS := Sub.cons hS b30
  refine wo_store Θ_ok rfl rfl rfl rfl rfl rfl rfl hb30 [(.int .i64 z17.fAt), (.int .i64 z17.fWide)] rfl rfl (by simp [Value.oneCell']) rfl [(.int .i64 z17.fAt), (.int .i64 z17.fWide)] rfl (fun w33 hb30 f34 => ?_)
  have h0 := h0.tr (f34.tr (one_in ib30))
  have T1 := T1.trans (f34.tr (one_in ib30))
  have T12 := T12.trans (f34.tr (one_in ib30))
  have hO := f34.ob hO
  have hF := hF.own f34 gb30
  refine wo_nil ?_
  refine wq_seq ?_
  refine wc_seq ?_
  refine wc_seq ?_
  refine wc_region (l := [0, 1, 2]) rfl ?_
  refine wo_load Θ_ok rfl rfl rfl rfl rfl rfl rfl hb30 [(.int .i64 z17.fAt), (.int .i64 z17.fWide)] rfl rfl (.inl rfl) (.agg #[(.int .i64 z17.fAt), (.int .i64 z17.fWide)]) rfl ?_
  refine wo_gives rfl rfl rfl rfl rfl ent50 rfl (f_is_c hO ((tGField_is (x := z17)).2 rfl)) (fun v35 w36 h37 f38 => ?_)
  have h0 := h0.tr f38.tr0
  have hb30 := hb30.fr0 f38
  have T1 := T1.trans f38.tr0
  have T12 := T12.trans f38.tr0
  have hO := f38.ob hO
  have hF := hF.trans f38
  obtain rfl := bool_is.1 h37
  refine wo_seg Θ_ok [2] [(3, (.int .u64 p13)), (4, (.bool ((f_is z17)))), (6, (.pointer (some ⟨b30, 0, none⟩))), (8, (.slice A10 x0.length c11)), (9, (.int .i64 (x0.length : Int))), (10, (.int .i64 (i15 : Int)))] rfl ⟨rfl, rfl, rfl, rfl, rfl, rfl, trivial⟩ ?_
  refine wo_nil ?_
  refine wq_seq ?_
  refine wc_seq ?_
  refine wc_region (l := [0, 1]) rfl ?_
  refine wo_seg Θ_ok [0, 1] [(3, (.int .u64 p13)), (4, (.bool ((f_is z17)))), (6, (.pointer (some ⟨b30, 0, none⟩))), (8, (.slice A10 x0.length c11)), (9, (.int .i64 (x0.length : Int))), (10, (.int .i64 (i15 : Int))), (17, (.bool (!(f_is z17))))] rfl ⟨rfl, rfl, rfl, rfl, rfl, rfl, rfl, trivial⟩ ?_
  refine wo_nil ?_
  refine wq_seq ?_
  rcases bif_some h with ⟨hc39, h⟩ | ⟨hc39, h⟩
  · refine wc_known_true rfl hc39 ?_
    refine wc_exit ?_
    exact wq_then_exit (wq_block_past rfl (wq_then_exit (wq_then_exit (wq_block_exit (wq_join hK5 [(4, (.bool ((f_is z17))))] ⟨rfl, trivial⟩ ⟨b30 :: O19, (f_is z17), rfl, T1, hO, hS, hF, h⟩)))))
  refine wc_known_false rfl hc39 ?_
  refine wc_skip ?_
  refine wq_seq ?_
  refine wc_seq ?_
  refine wc_region (l := [0, 1, 2, 3]) rfl ?_
  refine wo_load Θ_ok rfl rfl rfl rfl rfl rfl rfl hb30 [(.int .i64 z17.fAt), (.int .i64 z17.fWide)] rfl rfl (.inl rfl) (.agg #[(.int .i64 z17.fAt), (.int .i64 z17.fWide)]) rfl ?_
  refine wo_seg Θ_ok [1] [(3, (.int .u64 p13)), (8, (.slice A10 x0.length c11)), (9, (.int .i64 (x0.length : Int))), (10, (.int .i64 (i15 : Int))), (19, (.agg #[(.int .i64 z17.fAt), (.int .i64 z17.fWide)]))] rfl ⟨rfl, rfl, rfl, rfl, rfl, trivial⟩ ?_
  refine wo_seg Θ_ok [2, 3] [(3, (.int .u64 p13)), (7, (.func (.func 51) #[(.agg #[(.int .i64 z17.fAt), (.int .i64 z17.fWide)])] #[])), (8, (.slice A10 x0.length c11)), (9, (.int .i64 (x0.length : Int))), (10, (.int .i64 (i15 : Int)))] rfl ⟨rfl, rfl, rfl, rfl, rfl, trivial⟩ ?_
  refine wo_nil ?_
  refine wq_seq ?_
  refine wc_seq ?_
  refine wc_seq ?_
  refine wc_region (l := [0, 1, 2, 3, 4, 5]) rfl ?_
  refine wo_seg Θ_ok [0, 1] [(3, (.int .u64 p13)), (7, (.func (.func 51) #[(.agg #[(.int .i64 z17.fAt), (.int .i64 z17.fWide)])] #[])), (8, (.slice A10 x0.length c11)), (9, (.int .i64 (x0.length : Int))), (10, (.int .i64 (i15 : Int))), (21, (.int .u64 p13)), (22, (.func (.func 51) #[(.agg #[(.int .i64 z17.fAt), (.int .i64 z17.fWide)])] #[]))] rfl ⟨rfl, rfl, rfl, rfl, rfl, rfl, rfl, trivial⟩ ?_
  obtain ⟨y40, hy41, h⟩ := bind_some h
  refine wo_dyn0 rfl rfl rfl rfl rfl rfl rfl (fn0_is (first := [(.agg #[(.int .i64 z17.fAt), (.int .i64 z17.fWide)])]) (cap := []) ent51 (fun O' w' ht hO  y hy => mask_c hO ((tGBitsField_is (x := (GBitsField.mk z17))).2 rfl) hy)) hO  hy41 (fun v42 w43 h44 f45 => ?_)
  have h0 := h0.tr f45.tr0
  have T1 := T1.trans f45.tr0
  have T12 := T12.trans f45.tr0
  have hO := f45.ob hO
  have hF := hF.trans f45
  obtain rfl := int_is.1 h44
  refine wo_seg Θ_ok [3, 4, 5] [(3, (.int .u64 p13)), (4, (.bool ((bits .and .u64 p13 y40) == (0 : Int)))), (7, (.func (.func 51) #[(.agg #[(.int .i64 z17.fAt), (.int .i64 z17.fWide)])] #[])), (8, (.slice A10 x0.length c11)), (9, (.int .i64 (x0.length : Int))), (10, (.int .i64 (i15 : Int)))] rfl ⟨rfl, rfl, rfl, rfl, rfl, rfl, trivial⟩ ?_
  refine wo_nil ?_
  refine wq_seq ?_
  refine wc_seq ?_
  refine wc_region (l := [0, 1]) rfl ?_
  refine wo_seg Θ_ok [0, 1] [(3, (.int .u64 p13)), (4, (.bool ((bits .and .u64 p13 y40) == (0 : Int)))), (7, (.func (.func 51) #[(.agg #[(.int .i64 z17.fAt), (.int .i64 z17.fWide)])] #[])), (8, (.slice A10 x0.length c11)), (9, (.int .i64 (x0.length : Int))), (10, (.int .i64 (i15 : Int))), (27, (.bool (!((bits .and .u64 p13 y40) == (0 : Int)))))] rfl ⟨rfl, rfl, rfl, rfl, rfl, rfl, rfl, trivial⟩ ?_
  refine wo_nil ?_
  refine wq_seq ?_
  rcases bif_some h with ⟨hc46, h⟩ | ⟨hc46, h⟩
  · refine wc_known_true rfl hc46 ?_
    refine wc_exit ?_
    exact wq_then_exit (wq_block_past rfl (wq_then_exit (wq_then_exit (wq_block_exit (wq_join hK5 [(4, (.bool ((bits .and .u64 p13 y40) == (0 : Int))))] ⟨rfl, trivial⟩ ⟨b30 :: O19, ((bits .and .u64 p13 y40) == (0 : Int)), rfl, T1, hO, hS, hF, h⟩)))))
  refine wc_known_false rfl hc46 ?_
  refine wc_skip ?_
  refine wq_seq ?_
  refine wc_region (l := [0, 1, 2, 3, 4]) rfl ?_
  refine wo_seg Θ_ok [0, 1] [(4, (.bool ((bits .and .u64 p13 y40) == (0 : Int)))), (8, (.slice A10 x0.length c11)), (9, (.int .i64 (x0.length : Int))), (10, (.int .i64 (i15 : Int))), (28, (.int .u64 p13)), (29, (.func (.func 51) #[(.agg #[(.int .i64 z17.fAt), (.int .i64 z17.fWide)])] #[]))] rfl ⟨rfl, rfl, rfl, rfl, rfl, rfl, trivial⟩ ?_
  obtain ⟨y47, hy48, h⟩ := bind_some h
  refine wo_dyn0 rfl rfl rfl rfl rfl rfl rfl (fn0_is (first := [(.agg #[(.int .i64 z17.fAt), (.int .i64 z17.fWide)])]) (cap := []) ent51 (fun O' w' ht hO  y hy => mask_c hO ((tGBitsField_is (x := (GBitsField.mk z17))).2 rfl) hy)) hO  hy48 (fun v49 w50 h51 f52 => ?_)
  have h0 := h0.tr f52.tr0
  have T1 := T1.trans f52.tr0
  have T12 := T12.trans f52.tr0
  have hO := f52.ob hO
  have hF := hF.trans f52
  obtain rfl := int_is.1 h51
  refine wo_seg Θ_ok [3, 4] [(3, (.int .u64 (bits .or .u64 p13 y47))), (4, (.bool ((bits .and .u64 p13 y40) == (0 : Int)))), (8, (.slice A10 x0.length c11)), (9, (.int .i64 (x0.length : Int))), (10, (.int .i64 (i15 : Int)))] rfl ⟨rfl, rfl, rfl, rfl, rfl, trivial⟩ ?_
  refine wo_nil ?_
  refine wq_block (wq_seq ?_)
  refine wc_region (l := [0, 1]) rfl ?_
  refine wo_seg Θ_ok [0, 1] [(3, (.int .u64 (bits .or .u64 p13 y47))), (4, (.bool ((bits .and .u64 p13 y40) == (0 : Int)))), (8, (.slice A10 x0.length c11)), (9, (.int .i64 (x0.length : Int))), (10, (.int .i64 (IntKind.i64.wrap ((i15 : Int) + (1 : Int)))))] rfl ⟨rfl, rfl, rfl, rfl, rfl, trivial⟩ ?_
  refine wo_nil ?_
  exact wq_next rest16.length [(3, (.int .u64 (bits .or .u64 p13 y47))), (4, (.bool ((bits .and .u64 p13 y40) == (0 : Int)))), (8, (.slice A10 x0.length c11)), (9, (.int .i64 (x0.length : Int))), (10, (.int .i64 ((i15 + 1 : Nat) : Int)))] (Nat.lt_succ_self _) ⟨rfl, rfl, rfl, rfl, congrArg (fun z => some (Value.int .i64 z)) (wrap_succ hl25 (Nat.le_trans hlc11 hmc11)), trivial⟩ ⟨rest16, i15 + 1, b30 :: O19, (bits .or .u64 p13 y47), ((bits .and .u64 p13 y40) == (0 : Int)), rfl, hd18, rfl, T12, hO, hS, hF, h⟩
set_option maxRecDepth 100000 in
set_option maxHeartbeats 4000000 in
theorem b_Set_c {O : List Nat} {w : World} (hO : OB O w) {v0 : Value} {x0 : Int} (h0 : (Ty.int .u64).is O w v0 x0) {v1 : Value} {x1 : GField} (h1 : tGField.is O w v1 x1) {v2 : Value} {x2 : Int} (h2 : (Ty.int .u64).is O w v2 x2) {r : Int × Int} (h : b_Set x0 x1 x2 = some r) : Calls Tryd.prog 45 #[v0, v1, v2] w (Gives (rt2 (Ty.int .u64) (Ty.int .i64)) O w r) := by
  obtain rfl := int_is.1 h0
  obtain rfl := tGField_is.1 h1
  obtain rfl := int_is.1 h2
  have hF := Fr.refl [] w
  have hO0 := hO
  have hS := Sub.refl O
  refine calls_of (args := [(.int .u64 x0), (.agg #[(.int .i64 x1.fAt), (.int .i64 x1.fWide)]), (.int .u64 x2)]) (N := 29) Tryd.func45 rfl rfl rfl ?_
  unfold b_Set at h
  refine wc_seq ?_
  refine wc_region (l := [0, 1, 2]) rfl ?_
  refine wo_box rfl rfl rfl rfl rfl rfl [(.int .i64 x1.fAt), (.int .i64 x1.fWide)] rfl hO (fun b1 w2 n3 => ?_)
  have hb1 := n3.blk
  have gb1 := n3.ge0 hF
  have ib1 : b1 ∈ b1 :: O := List.mem_cons_self
  have hO := n3.ob
  have hF := hF.trans n3.fr
  have hS := Sub.cons hS b1
  refine wo_seg Θ_ok [1, 2] [(0, (.int .u64 x0)), (2, (.int .u64 x2)), (4, (.pointer (some ⟨b1, 0, none⟩)))] rfl ⟨rfl, rfl, rfl, trivial⟩ ?_
  refine wo_nil ?_
  refine wq_seq ?_
  refine wc_seq ?_
  refine wc_block ?_
  refine wc_seq ?_
  refine wc_region (l := [0, 1, 2, 3, 4]) rfl ?_
  refine wo_load Θ_ok rfl rfl rfl rfl rfl rfl rfl hb1 [(.int .i64 x1.fAt), (.int .i64 x1.fWide)] rfl rfl (.inl rfl) (.agg #[(.int .i64 x1.fAt), (.int .i64 x1.fWide)]) rfl ?_
  refine wo_litd Θ_ok rfl rfl rfl rfl rfl rfl rfl rfl rfl rfl (T := tGField) (xs := [x1]) (vs := [(.agg #[(.int .i64 x1.fAt), (.int .i64 x1.fWide)])]) rfl ⟨((tGField_is (x := x1)).2 rfl), trivial⟩ rfl rfl rfl hO (fun v4 w5 h6 f7 => ?_)
  have hb1 := hb1.fr0 f7
  have hO := f7.ob hO
  have hF := hF.trans f7
  obtain ⟨y12, hy13, h⟩ := bind_some h
  refine wo_gives rfl rfl rfl rfl rfl ent44 rfl (b_Check_c hO h6 hy13) (fun v8 w9 h10 f11 => ?_)
  have hb1 := hb1.fr0 f11
  have hO := f11.ob hO
  have hF := hF.trans f11
  obtain rfl := int_is.1 h10
  refine wo_seg Θ_ok [3, 4] [(0, (.int .u64 x0)), (2, (.int .u64 x2)), (4, (.pointer (some ⟨b1, 0, none⟩))), (8, (.bool (y12 != (0 : Int))))] rfl ⟨rfl, rfl, rfl, rfl, trivial⟩ ?_
  refine wo_nil ?_
  refine wq_seq ?_
  rcases bif_some h with ⟨hc14, h⟩ | ⟨hc14, h⟩
  · refine wc_known_true rfl hc14 ?_
    refine wc_seq ?_
    refine wc_region (l := [0, 1]) rfl ?_
    refine wo_seg Θ_ok [0, 1] [(6, (.int .u64 0)), (7, (.int .i64 110))] rfl ⟨rfl, rfl, trivial⟩ ?_
    refine wo_nil ?_
    refine wq_seq ?_
    refine wc_ret ?_
    cases h
    exact wq_block_ret (wq_then_ret (wq_ret rfl ⟨_, rfl, ⟨_, _, rfl, (int_is.2 rfl), (int_is.2 rfl)⟩, hF⟩))
  refine wc_known_false rfl hc14 ?_
  refine wc_seq ?_
  refine wc_region (l := [0, 1, 2, 3, 4, 5]) rfl ?_
  refine wo_seg Θ_ok [0, 1] [(0, (.int .u64 x0)), (2, (.int .u64 x2)), (4, (.pointer (some ⟨b1, 0, none⟩))), (14, (.int .u64 x2)), (15, (.pointer (some ⟨b1, 1, none⟩)))] rfl ⟨rfl, rfl, rfl, rfl, rfl, trivial⟩ ?_
  refine wo_load Θ_ok rfl rfl rfl rfl rfl rfl rfl hb1 [(.int .i64 x1.fWide)] rfl rfl (.inr rfl) (.int .i64 x1.fWide) rfl ?_
  obtain ⟨y19, hy20, h⟩ := bind_some h
  refine wo_gives rfl rfl rfl rfl rfl ent52 rfl (ones_c hO (int_is.2 rfl) hy20) (fun v15 w16 h17 f18 => ?_)
  have hb1 := hb1.fr0 f18
  have hO := f18.ob hO
  have hF := hF.trans f18
  obtain rfl := int_is.1 h17
  refine wo_seg Θ_ok [4, 5] [(0, (.int .u64 x0)), (2, (.int .u64 x2)), (4, (.pointer (some ⟨b1, 0, none⟩))), (13, (.bool (decide (x2 > y19))))] rfl ⟨rfl, rfl, rfl, rfl, trivial⟩ ?_
  refine wo_nil ?_
  refine wq_seq ?_
  rcases bif_some h with ⟨hc21, h⟩ | ⟨hc21, h⟩
  · refine wc_known_true rfl hc21 ?_
    refine wc_seq ?_
    refine wc_region (l := [0, 1]) rfl ?_
    refine wo_seg Θ_ok [0, 1] [(6, (.int .u64 0)), (7, (.int .i64 111))] rfl ⟨rfl, rfl, trivial⟩ ?_
    refine wo_nil ?_
    refine wq_seq ?_
    refine wc_ret ?_
    cases h
    exact wq_block_ret (wq_then_ret (wq_ret rfl ⟨_, rfl, ⟨_, _, rfl, (int_is.2 rfl), (int_is.2 rfl)⟩, hF⟩))
  refine wc_known_false rfl hc21 ?_
  refine wc_skip ?_
  refine wq_block (wq_seq ?_)
  refine wc_seq ?_
  obtain ⟨y22, hy23, h⟩ := bind_some h
  obtain ⟨y24, hz25, h⟩ := bind_some h
  refine wc_draw mixed [⟨19, [], [0]⟩, ⟨20, [], [4]⟩, ⟨21, [1], []⟩, ⟨22, [2], []⟩, ⟨23, [0, 3], []⟩, ⟨24, [], [2]⟩, ⟨25, [], [4]⟩, ⟨26, [6], []⟩, ⟨27, [5, 7], []⟩, ⟨28, [4, 8], []⟩, ⟨6, [9], []⟩, ⟨7, [], []⟩] [SP.eq (.int .u64 x0), SP.eq (.agg #[(.int .i64 x1.fAt), (.int .i64 x1.fWide)]), SP.eq (.agg #[(.int .i64 x1.fAt), (.int .i64 x1.fWide)]), SP.eq (.int .u64 y22), SP.eq (.int .u64 (bits .andNot .u64 x0 y22)), SP.eq (.int .u64 x2), SP.eq (.pointer (some ⟨b1, 0, none⟩)), SP.eq (.int .i64 x1.fAt), SP.eq (.int .u64 y24), SP.eq (.int .u64 (bits .or .u64 (bits .andNot .u64 x0 y22) y24)), SP.eq (.int .u64 (bits .or .u64 (bits .andNot .u64 x0 y22) y24)), SP.eq (.int .i64 0)] rfl rfl rfl ⟨?_, ?_, ?_, ?_, ?_, ?_, ?_, ?_, ?_, ?_, ?_, ?_, trivial⟩ ?_
  · intro a w2 hfr hN hds hb hd
    exact op_plain Θ_ok ⟨hN, hds, rows_get (E := [(0, (.int .u64 x0))]) ⟨hb 0 rfl _ rfl, trivial⟩⟩ rfl rfl rfl rfl rfl
  · intro a w2 hfr hN hds hb hd
    have hb1 := hb1.fr0 hfr
    exact op_load Θ_ok ⟨hN, hds, rows_get (E := [(4, (.pointer (some ⟨b1, 0, none⟩)))]) ⟨hb 4 rfl _ rfl, trivial⟩⟩ rfl rfl rfl rfl rfl rfl hb1 [(.int .i64 x1.fAt), (.int .i64 x1.fWide)] rfl rfl (.inl rfl) (.agg #[(.int .i64 x1.fAt), (.int .i64 x1.fWide)]) rfl
  · intro a w2 hfr hN hds hb hd
    exact op_plain Θ_ok ⟨hN, hds, rows_get (E := [(20, (.agg #[(.int .i64 x1.fAt), (.int .i64 x1.fWide)]))]) ⟨(hd 1 rfl _ _ rfl rfl), trivial⟩⟩ rfl rfl rfl rfl rfl
  · intro a w2 hfr hN hds hb hd
    exact (op_call ⟨hN, hds, rows_get (E := [(21, (.agg #[(.int .i64 x1.fAt), (.int .i64 x1.fWide)]))]) ⟨(hd 2 rfl _ _ rfl rfl), trivial⟩⟩ rfl rfl rfl rfl ent51 rfl (mask_c (hfr.ob hO) ((tGBitsField_is (x := (GBitsField.mk x1))).2 rfl) hy23)).weaken (fun u w3 ⟨hu, hf⟩ => ⟨int_is.1 hu, hf⟩)
  · intro a w2 hfr hN hds hb hd
    exact op_plain Θ_ok ⟨hN, hds, rows_get (E := [(19, (.int .u64 x0)), (22, (.int .u64 y22))]) ⟨(hd 0 rfl _ _ rfl rfl), (hd 3 rfl _ _ rfl rfl), trivial⟩⟩ rfl rfl rfl rfl rfl
  · intro a w2 hfr hN hds hb hd
    exact op_plain Θ_ok ⟨hN, hds, rows_get (E := [(2, (.int .u64 x2))]) ⟨hb 2 rfl _ rfl, trivial⟩⟩ rfl rfl rfl rfl rfl
  · intro a w2 hfr hN hds hb hd
    exact op_plain Θ_ok ⟨hN, hds, rows_get (E := [(4, (.pointer (some ⟨b1, 0, none⟩)))]) ⟨hb 4 rfl _ rfl, trivial⟩⟩ rfl rfl rfl rfl rfl
  · intro a w2 hfr hN hds hb hd
    have hb1 := hb1.fr0 hfr
    exact op_load Θ_ok ⟨hN, hds, rows_get (E := [(25, (.pointer (some ⟨b1, 0, none⟩)))]) ⟨(hd 6 rfl _ _ rfl rfl), trivial⟩⟩ rfl rfl rfl rfl rfl rfl hb1 [(.int .i64 x1.fAt)] rfl rfl (.inr rfl) (.int .i64 x1.fAt) rfl
  · intro a w2 hfr hN hds hb hd
    exact op_bin ⟨hN, hds, rows_get (E := [(24, (.int .u64 x2)), (26, (.int .i64 x1.fAt))]) ⟨(hd 5 rfl _ _ rfl rfl), (hd 7 rfl _ _ rfl rfl), trivial⟩⟩ rfl rfl rfl rfl rfl rfl (run_shl hz25)
  · intro a w2 hfr hN hds hb hd
    exact op_plain Θ_ok ⟨hN, hds, rows_get (E := [(23, (.int .u64 (bits .andNot .u64 x0 y22))), (27, (.int .u64 y24))]) ⟨(hd 4 rfl _ _ rfl rfl), (hd 8 rfl _ _ rfl rfl), trivial⟩⟩ rfl rfl rfl rfl rfl
  · intro a w2 hfr hN hds hb hd
    exact op_plain Θ_ok ⟨hN, hds, rows_get (E := [(28, (.int .u64 (bits .or .u64 (bits .andNot .u64 x0 y22) y24)))]) ⟨(hd 9 rfl _ _ rfl rfl), trivial⟩⟩ rfl rfl rfl rfl rfl
  · intro a w2 hfr hN hds hb hd
    exact op_plain Θ_ok ⟨hN, hds, rows_get (E := []) trivial⟩ rfl rfl rfl rfl rfl
  intro a w27 f26 hN hds hb hr
  have hO := f26.ob hO
  have hF := hF.trans f26
  refine wq_go (E := [(6, (.int .u64 (bits .or .u64 (bits .andNot .u64 x0 y22) y24))), (7, (.int .i64 0))]) hN hds ⟨(hr 10 _ _ rfl rfl), (hr 11 _ _ rfl rfl), trivial⟩ ?_
  refine wq_seq ?_
  refine wc_ret ?_
  cases h
  exact wq_ret rfl ⟨_, rfl, ⟨_, _, rfl, (int_is.2 rfl), (int_is.2 rfl)⟩, hF⟩
end Go.Proofs.YtbaffpifmfddeaaDoor
