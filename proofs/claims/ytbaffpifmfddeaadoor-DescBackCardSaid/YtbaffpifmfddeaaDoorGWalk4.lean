/-
  The program's functions compute the plain ones (printed by a tool of the prover's).
-/
import Derived.Test.YtbaffpifmfddeaaDoorGWalk3
namespace Go.Proofs.YtbaffpifmfddeaaDoor
open Go.RowKit Go.Dc Go.Shelf
set_option maxRecDepth 100000 in
set_option maxHeartbeats 4000000 in
theorem s_BinarySearchFunc_c {O : List Nat} {w : World} (hO : OB O w) {fuel : Nat} {v0 : Value} {x0 : List GDesc} (h0 : (Ty.slice tGDesc).is O w v0 x0) {v1 : Value} {x1 : GDesc} (h1 : tGDesc.is O w v1 x1) {v2 : Value} {x2 : GDesc → GDesc → Option (Int)} (h2 : (Ty.fn2 Tryd.prog tGDesc tGDesc (rt1 (Ty.int .i64))).is O w v2 x2) {r : Int × Bool} (h : s_BinarySearchFunc fuel x0 x1 x2 = some r) : Calls Tryd.prog 31 #[v0, v1, v2] w (Gives (rt2 (Ty.int .i64) Ty.bool) O w r) := by
  obtain rfl := tGDesc_is.1 h1
  have hF := Fr.refl [] w
  have hO0 := hO
  have hS := Sub.refl O
  refine calls_of (args := [v0, (.agg #[(.int .u64 x1.fPid), (.int .i64 x1.fFd), (.int .u64 x1.fWhat)]), v2]) (N := 49) Tryd.func31 rfl rfl rfl ?_
  unfold s_BinarySearchFunc at h
  refine wc_seq ?_
  refine wc_region (l := [0, 1, 2]) rfl ?_
  refine wo_box rfl rfl rfl rfl rfl rfl [(.int .u64 x1.fPid), (.int .i64 x1.fFd), (.int .u64 x1.fWhat)] rfl hO (fun b1 w2 n3 => ?_)
  have h0 := h0.tr n3.tr
  have h2 := h2.tr n3.tr
  have hb1 := n3.blk
  have gb1 := n3.ge0 hF
  have ib1 : b1 ∈ b1 :: O := List.mem_cons_self
  have hO := n3.ob
  have hF := hF.trans n3.fr
  have hS := Sub.cons hS b1
  refine wo_seg Θ_ok [1, 2] [(0, v0), (2, v2), (4, (.pointer (some ⟨b1, 0, none⟩)))] rfl ⟨rfl, rfl, rfl, trivial⟩ ?_
  refine wo_nil ?_
  refine wq_seq ?_
  refine wc_seq ?_
  refine wc_region (l := [0, 1, 2]) rfl ?_
  refine wo_seg Θ_ok [0] [(0, v0), (2, v2), (4, (.pointer (some ⟨b1, 0, none⟩))), (12, v0)] rfl ⟨rfl, rfl, rfl, rfl, trivial⟩ ?_
  obtain ⟨A4, c5, rfl, hlc5, hmc5⟩ := slice_form h0
  refine wo_seg Θ_ok [1] [(0, (.slice A4 x0.length c5)), (2, v2), (4, (.pointer (some ⟨b1, 0, none⟩))), (13, (.int .i64 (x0.length : Int)))] rfl ⟨rfl, rfl, rfl, rfl, trivial⟩ ?_
  refine wo_seg Θ_ok [2] [(0, (.slice A4 x0.length c5)), (2, v2), (4, (.pointer (some ⟨b1, 0, none⟩))), (8, (.int .i64 (x0.length : Int)))] rfl ⟨rfl, rfl, rfl, rfl, trivial⟩ ?_
  refine wo_nil ?_
  refine wq_seq ?_
  refine wc_seq ?_
  refine wc_region (l := [0, 1, 2]) rfl ?_
  refine wo_seg Θ_ok [0, 1, 2] [(0, (.slice A4 x0.length c5)), (2, v2), (4, (.pointer (some ⟨b1, 0, none⟩))), (8, (.int .i64 (x0.length : Int))), (9, (.int .i64 0)), (10, (.int .i64 (x0.length : Int)))] rfl ⟨rfl, rfl, rfl, rfl, rfl, rfl, trivial⟩ ?_
  refine wo_nil ?_
  refine wq_seq ?_
  obtain ⟨k7, hk8, h⟩ := letk_some h
  refine wc_join (fun E W => ∃ (O12 : List Nat) (p11 : Int), E = [(0, (.slice A4 x0.length c5)), (2, v2), (4, (.pointer (some ⟨b1, 0, none⟩))), (8, (.int .i64 (x0.length : Int))), (9, (.int .i64 p11))] ∧ Tr (b1 :: O) w2 O12 W ∧ OB O12 W ∧ Sub O O12 ∧ Fr [] w W ∧ b1 ∈ O12 ∧ Blk W b1 29 [(.int .u64 x1.fPid), (.int .i64 x1.fFd), (.int .u64 x1.fWhat)] ∧ k7 p11 = some r) ?_ (fun K9 hK10 => ?_)
  rotate_left
  · clear hk8
    have T6 := Tr.refl (b1 :: O) w2
    refine wc_block ?_
    refine wc_loop (fun m E W => ∃ (fl35 : Nat) (O36 : List Nat) (p33 : Int) (p34 : Int), fl35 = m ∧ E = [(0, (.slice A4 x0.length c5)), (2, v2), (4, (.pointer (some ⟨b1, 0, none⟩))), (8, (.int .i64 (x0.length : Int))), (9, (.int .i64 p33)), (10, (.int .i64 p34))] ∧ Tr (b1 :: O) w2 O36 W ∧ OB O36 W ∧ Sub O O36 ∧ Fr [] w W ∧ b1 ∈ O36 ∧ Blk W b1 29 [(.int .u64 x1.fPid), (.int .i64 x1.fFd), (.int .u64 x1.fWhat)] ∧ s_BinarySearchFunc_l1 x0 x1 x2 k7 fl35 p33 p34 = some r) _ [(0, (.slice A4 x0.length c5)), (2, v2), (4, (.pointer (some ⟨b1, 0, none⟩))), (8, (.int .i64 (x0.length : Int))), (9, (.int .i64 0)), (10, (.int .i64 (x0.length : Int)))] ⟨rfl, rfl, rfl, rfl, rfl, rfl, trivial⟩ ⟨fuel, b1 :: O, (0 : Int), (x0.length : Int), rfl, rfl, Tr.refl _ _, hO, hS, hF, ib1, hb1, h⟩ ?_
    rintro m E w37 ⟨fl35, O36, p33, p34, rfl, rfl, T32, hO, hS, hF, ib1, hb1, h⟩
    have T6 := T6.trans T32
    have h0 := h0.tr T32
    have h2 := h2.tr T32
    rcases fl35 with _ | fl35
    · rw [s_BinarySearchFunc_l1] at h
      cases h
    rw [s_BinarySearchFunc_l1] at h
    refine wc_seq ?_
    refine wc_seq ?_
    refine wc_region (l := [0, 1, 2]) rfl ?_
    refine wo_seg Θ_ok [0, 1, 2] [(0, (.slice A4 x0.length c5)), (2, v2), (4, (.pointer (some ⟨b1, 0, none⟩))), (8, (.int .i64 (x0.length : Int))), (9, (.int .i64 p33)), (10, (.int .i64 p34)), (17, (.bool (decide (p33 < p34))))] rfl ⟨rfl, rfl, rfl, rfl, rfl, rfl, rfl, trivial⟩ ?_
    refine wo_nil ?_
    refine wq_seq ?_
    rcases bif_some h with ⟨hc38, h⟩ | ⟨hc38, h⟩
    rotate_left
    · refine wc_known_false rfl hc38 ?_
      refine wc_exit ?_
      exact wq_then_exit (wq_then_exit (wq_block_exit (wq_join hK10 [(0, (.slice A4 x0.length c5)), (2, v2), (4, (.pointer (some ⟨b1, 0, none⟩))), (8, (.int .i64 (x0.length : Int))), (9, (.int .i64 p33))] ⟨rfl, rfl, rfl, rfl, rfl, trivial⟩ ⟨O36, p33, rfl, T6, hO, hS, hF, ib1, hb1, h⟩)))
    refine wc_known_true rfl hc38 ?_
    refine wc_skip ?_
    refine wq_seq ?_
    refine wc_block ?_
    refine wc_seq ?_
    refine wc_region (l := [0, 1, 2, 3, 4, 5, 6]) rfl ?_
    refine wo_seg Θ_ok [0, 1, 2, 3, 4, 5, 6] [(0, (.slice A4 x0.length c5)), (2, v2), (4, (.pointer (some ⟨b1, 0, none⟩))), (8, (.int .i64 (x0.length : Int))), (9, (.int .i64 p33)), (10, (.int .i64 p34)), (11, (.int .i64 (IntKind.i64.wrap ((IntKind.u64.wrap (IntKind.i64.wrap (p33 + p34))).fdiv (2 ^ 1)))))] rfl ⟨rfl, rfl, rfl, rfl, rfl, rfl, rfl, trivial⟩ ?_
    refine wo_nil ?_
    refine wq_seq ?_
    refine wc_seq ?_
    obtain ⟨y39, hz40, h⟩ := bind_some h
    obtain ⟨y41, hy42, h⟩ := bind_some h
    refine wc_draw mixed [⟨24, [], [2]⟩, ⟨25, [], [0]⟩, ⟨26, [], [11]⟩, ⟨27, [1, 2], []⟩, ⟨28, [3], []⟩, ⟨29, [], [4]⟩, ⟨30, [0, 4, 5], []⟩, ⟨31, [6], []⟩] [SP.is (Ty.fn2 Tryd.prog tGDesc tGDesc (rt1 (Ty.int .i64))) O36 x2, SP.is (Ty.slice tGDesc) O36 x0, SP.eq (.int .i64 (IntKind.i64.wrap ((IntKind.u64.wrap (IntKind.i64.wrap (p33 + p34))).fdiv (2 ^ 1)))), SP.is (Ty.ptr tGDesc) O36 y39, SP.eq (.agg #[(.int .u64 y39.fPid), (.int .i64 y39.fFd), (.int .u64 y39.fWhat)]), SP.eq (.agg #[(.int .u64 x1.fPid), (.int .i64 x1.fFd), (.int .u64 x1.fWhat)]), SP.eq (.int .i64 y41), SP.eq (.bool (decide (y41 < (0 : Int))))] rfl rfl rfl ⟨?_, ?_, ?_, ?_, ?_, ?_, ?_, ?_, trivial⟩ ?_
    · intro a w2 hfr hN hds hb hd
      have h2 := h2.tr hfr.tr0
      exact (op_plain Θ_ok ⟨hN, hds, rows_get (E := [(2, v2)]) ⟨hb 2 rfl _ rfl, trivial⟩⟩ rfl rfl rfl rfl rfl).weaken (fun u w3 ⟨hu, hf⟩ => by subst hu; exact ⟨h2.tr hf.tr0, hf⟩)
    · intro a w2 hfr hN hds hb hd
      have h0 := h0.tr hfr.tr0
      exact (op_plain Θ_ok ⟨hN, hds, rows_get (E := [(0, (.slice A4 x0.length c5))]) ⟨hb 0 rfl _ rfl, trivial⟩⟩ rfl rfl rfl rfl rfl).weaken (fun u w3 ⟨hu, hf⟩ => by subst hu; exact ⟨h0.tr hf.tr0, hf⟩)
    · intro a w2 hfr hN hds hb hd
      exact op_plain Θ_ok ⟨hN, hds, rows_get (E := [(11, (.int .i64 (IntKind.i64.wrap ((IntKind.u64.wrap (IntKind.i64.wrap (p33 + p34))).fdiv (2 ^ 1)))))]) ⟨hb 11 rfl _ rfl, trivial⟩⟩ rfl rfl rfl rfl rfl
    · intro a w2 hfr hN hds hb hd
      have d45 : (Ty.slice tGDesc).is O36 w2 (a.tmps.getD 25 undef) x0 := hd 1 rfl _ _ rfl rfl
      obtain ⟨u43, e44⟩ : ∃ v, a.tmps.getD 25 undef = v := ⟨_, rfl⟩
      rw [e44] at d45
      exact op_index (j := (IntKind.i64.wrap ((IntKind.u64.wrap (IntKind.i64.wrap (p33 + p34))).fdiv (2 ^ 1)))) Θ_ok ⟨hN, hds, rows_get (E := [(25, u43), (26, (.int .i64 (IntKind.i64.wrap ((IntKind.u64.wrap (IntKind.i64.wrap (p33 + p34))).fdiv (2 ^ 1)))))]) ⟨e44, (hd 2 rfl _ _ rfl rfl), trivial⟩⟩ rfl rfl rfl rfl rfl rfl rfl rfl rfl d45 rfl (idx_some hz40).1 (idx_some hz40).2
    · intro a w2 hfr hN hds hb hd
      have d48 : (Ty.ptr tGDesc).is O36 w2 (a.tmps.getD 27 undef) y39 := hd 3 rfl _ _ rfl rfl
      obtain ⟨u46, e47⟩ : ∃ v, a.tmps.getD 27 undef = v := ⟨_, rfl⟩
      rw [e47] at d48
      exact (op_loadp Θ_ok ⟨hN, hds, rows_get (E := [(27, u46)]) ⟨e47, trivial⟩⟩ rfl rfl rfl rfl rfl rfl d48 rfl rfl).weaken (fun u w3 ⟨hu, hf⟩ => ⟨tGDesc_is.1 hu, hf⟩)
    · intro a w2 hfr hN hds hb hd
      have hb1 := hb1.fr0 hfr
      exact op_load Θ_ok ⟨hN, hds, rows_get (E := [(4, (.pointer (some ⟨b1, 0, none⟩)))]) ⟨hb 4 rfl _ rfl, trivial⟩⟩ rfl rfl rfl rfl rfl rfl hb1 [(.int .u64 x1.fPid), (.int .i64 x1.fFd), (.int .u64 x1.fWhat)] rfl rfl (.inl rfl) (.agg #[(.int .u64 x1.fPid), (.int .i64 x1.fFd), (.int .u64 x1.fWhat)]) rfl
    · intro a w2 hfr hN hds hb hd
      have d51 : (Ty.fn2 Tryd.prog tGDesc tGDesc (rt1 (Ty.int .i64))).is O36 w2 (a.tmps.getD 24 undef) x2 := hd 0 rfl _ _ rfl rfl
      obtain ⟨u49, e50⟩ : ∃ v, a.tmps.getD 24 undef = v := ⟨_, rfl⟩
      rw [e50] at d51
      exact (op_dyn2 ⟨hN, hds, rows_get (E := [(24, u49), (28, (.agg #[(.int .u64 y39.fPid), (.int .i64 y39.fFd), (.int .u64 y39.fWhat)])), (29, (.agg #[(.int .u64 x1.fPid), (.int .i64 x1.fFd), (.int .u64 x1.fWhat)]))]) ⟨e50, (hd 4 rfl _ _ rfl rfl), (hd 5 rfl _ _ rfl rfl), trivial⟩⟩ rfl rfl rfl rfl rfl rfl d51 (hfr.ob hO) ((tGDesc_is (x := y39)).2 rfl) ((tGDesc_is (x := x1)).2 rfl) hy42).weaken (fun u w3 ⟨hu, hf⟩ => ⟨int_is.1 hu, hf⟩)
    · intro a w2 hfr hN hds hb hd
      exact op_plain Θ_ok ⟨hN, hds, rows_get (E := [(30, (.int .i64 y41))]) ⟨(hd 6 rfl _ _ rfl rfl), trivial⟩⟩ rfl rfl rfl rfl rfl
    intro a w53 f52 hN hds hb hr
    have h0 := h0.tr f52.tr0
    have h2 := h2.tr f52.tr0
    have hb1 := hb1.fr0 f52
    have T6 := T6.trans f52.tr0
    have T32 := T32.trans f52.tr0
    have hO := f52.ob hO
    have hF := hF.trans f52
    refine wq_go (E := [(0, (.slice A4 x0.length c5)), (2, v2), (4, (.pointer (some ⟨b1, 0, none⟩))), (8, (.int .i64 (x0.length : Int))), (9, (.int .i64 p33)), (10, (.int .i64 p34)), (11, (.int .i64 (IntKind.i64.wrap ((IntKind.u64.wrap (IntKind.i64.wrap (p33 + p34))).fdiv (2 ^ 1))))), (31, (.bool (decide (y41 < (0 : Int)))))]) hN hds ⟨hb 0 _ rfl rfl, hb 2 _ rfl rfl, hb 4 _ rfl rfl, hb 8 _ rfl rfl, hb 9 _ rfl rfl, hb 10 _ rfl rfl, hb 11 _ rfl rfl, (hr 7 _ _ rfl rfl), trivial⟩ ?_
    refine wq_seq ?_
    rcases bif_some h with ⟨hc54, h⟩ | ⟨hc54, h⟩
    · refine wc_known_true rfl hc54 ?_
      refine wc_region (l := [0, 1, 2]) rfl ?_
      refine wo_seg Θ_ok [0, 1, 2] [(0, (.slice A4 x0.length c5)), (2, v2), (4, (.pointer (some ⟨b1, 0, none⟩))), (8, (.int .i64 (x0.length : Int))), (9, (.int .i64 (IntKind.i64.wrap ((IntKind.i64.wrap ((IntKind.u64.wrap (IntKind.i64.wrap (p33 + p34))).fdiv (2 ^ 1))) + (1 : Int))))), (10, (.int .i64 p34))] rfl ⟨rfl, rfl, rfl, rfl, rfl, rfl, trivial⟩ ?_
      refine wo_nil ?_
      exact wq_block (wq_next fl35 [(0, (.slice A4 x0.length c5)), (2, v2), (4, (.pointer (some ⟨b1, 0, none⟩))), (8, (.int .i64 (x0.length : Int))), (9, (.int .i64 (IntKind.i64.wrap ((IntKind.i64.wrap ((IntKind.u64.wrap (IntKind.i64.wrap (p33 + p34))).fdiv (2 ^ 1))) + (1 : Int))))), (10, (.int .i64 p34))] (Nat.lt_succ_self _) ⟨rfl, rfl, rfl, rfl, rfl, rfl, trivial⟩ ⟨fl35, O36, (IntKind.i64.wrap ((IntKind.i64.wrap ((IntKind.u64.wrap (IntKind.i64.wrap (p33 + p34))).fdiv (2 ^ 1))) + (1 : Int))), p34, rfl, rfl, T32, hO, hS, hF, ib1, hb1, h⟩)
    refine wc_known_false rfl hc54 ?_
    refine wc_region (l := [0, 1]) rfl ?_
    refine wo_seg Θ_ok [0, 1] [(0, (.slice A4 x0.length c5)), (2, v2), (4, (.pointer (some ⟨b1, 0, none⟩))), (8, (.int .i64 (x0.length : Int))), (9, (.int .i64 p33)), (10, (.int .i64 (IntKind.i64.wrap ((IntKind.u64.wrap (IntKind.i64.wrap (p33 + p34))).fdiv (2 ^ 1)))))] rfl ⟨rfl, rfl, rfl, rfl, rfl, rfl, trivial⟩ ?_
    refine wo_nil ?_
    exact wq_block (wq_next fl35 [(0, (.slice A4 x0.length c5)), (2, v2), (4, (.pointer (some ⟨b1, 0, none⟩))), (8, (.int .i64 (x0.length : Int))), (9, (.int .i64 p33)), (10, (.int .i64 (IntKind.i64.wrap ((IntKind.u64.wrap (IntKind.i64.wrap (p33 + p34))).fdiv (2 ^ 1)))))] (Nat.lt_succ_self _) ⟨rfl, rfl, rfl, rfl, rfl, rfl, trivial⟩ ⟨fl35, O36, p33, (IntKind.i64.wrap ((IntKind.u64.wrap (IntKind.i64.wrap (p33 + p34))).fdiv (2 ^ 1))), rfl, rfl, T32, hO, hS, hF, ib1, hb1, h⟩)
  rintro E w13 ⟨O12, p11, rfl, T6, hO, hS, hF, ib1, hb1, h⟩
  have h0 := h0.tr T6
  have h2 := h2.tr T6
  subst hk8
  (try dsimp only at h)
  refine wc_seq ?_
  rcases bif_some h with ⟨hc14, h⟩ | ⟨hc14, h⟩
  rotate_left
  · refine wc_draw mixed [⟨35, [], [9]⟩, ⟨36, [], [9]⟩, ⟨37, [], [8]⟩, ⟨38, [1, 2], []⟩, ⟨39, [3], []⟩, ⟨40, [4], [2]⟩, ⟨41, [4], [0]⟩, ⟨42, [4], [9]⟩, ⟨43, [4, 6, 7], []⟩, ⟨44, [4, 8], []⟩, ⟨45, [4], [4]⟩, ⟨46, [4, 5, 9, 10], []⟩, ⟨47, [4, 11], []⟩, ⟨48, [4, 12], []⟩, ⟨6, [0], []⟩, ⟨7, [13], []⟩] [SP.eq (.int .i64 p11), SP.eq (.int .i64 p11), SP.eq (.int .i64 (x0.length : Int)), SP.eq (.bool (decide (p11 < (x0.length : Int)))), SP.eq (.bool (decide (p11 < (x0.length : Int)))), SP.eq undef, SP.eq undef, SP.eq undef, SP.eq undef, SP.eq undef, SP.eq undef, SP.eq undef, SP.eq undef, SP.eq (.bool false), SP.eq (.int .i64 p11), SP.eq (.bool false)] rfl rfl rfl ⟨?_, ?_, ?_, ?_, ?_, ?_, ?_, ?_, ?_, ?_, ?_, ?_, ?_, ?_, ?_, ?_, trivial⟩ ?_
    · intro a w2 hfr hN hds hb hd
      exact op_plain Θ_ok ⟨hN, hds, rows_get (E := [(9, (.int .i64 p11))]) ⟨hb 9 rfl _ rfl, trivial⟩⟩ rfl rfl rfl rfl rfl
    · intro a w2 hfr hN hds hb hd
      exact op_plain Θ_ok ⟨hN, hds, rows_get (E := [(9, (.int .i64 p11))]) ⟨hb 9 rfl _ rfl, trivial⟩⟩ rfl rfl rfl rfl rfl
    · intro a w2 hfr hN hds hb hd
      exact op_plain Θ_ok ⟨hN, hds, rows_get (E := [(8, (.int .i64 (x0.length : Int)))]) ⟨hb 8 rfl _ rfl, trivial⟩⟩ rfl rfl rfl rfl rfl
    · intro a w2 hfr hN hds hb hd
      exact op_plain Θ_ok ⟨hN, hds, rows_get (E := [(36, (.int .i64 p11)), (37, (.int .i64 (x0.length : Int)))]) ⟨(hd 1 rfl _ _ rfl rfl), (hd 2 rfl _ _ rfl rfl), trivial⟩⟩ rfl rfl rfl rfl rfl
    · intro a w2 hfr hN hds hb hd
      exact op_plain Θ_ok ⟨hN, hds, rows_get (E := [(38, (.bool (decide (p11 < (x0.length : Int)))))]) ⟨(hd 3 rfl _ _ rfl rfl), trivial⟩⟩ rfl rfl rfl rfl rfl
    · intro a w2 hfr hN hds hb hd
      have h2 := h2.tr hfr.tr0
      exact op_skip ⟨hN, hds, rows_get (E := [(2, v2), (39, (.bool false))]) ⟨hb 2 rfl _ rfl, ((hd 4 rfl _ _ rfl rfl).trans (congrArg _ hc14)), trivial⟩⟩ rfl rfl rfl
    · intro a w2 hfr hN hds hb hd
      have h0 := h0.tr hfr.tr0
      exact op_skip ⟨hN, hds, rows_get (E := [(0, (.slice A4 x0.length c5)), (39, (.bool false))]) ⟨hb 0 rfl _ rfl, ((hd 4 rfl _ _ rfl rfl).trans (congrArg _ hc14)), trivial⟩⟩ rfl rfl rfl
    · intro a w2 hfr hN hds hb hd
      exact op_skip ⟨hN, hds, rows_get (E := [(9, (.int .i64 p11)), (39, (.bool false))]) ⟨hb 9 rfl _ rfl, ((hd 4 rfl _ _ rfl rfl).trans (congrArg _ hc14)), trivial⟩⟩ rfl rfl rfl
    · intro a w2 hfr hN hds hb hd
      exact op_skip ⟨hN, hds, rows_get (E := [(39, (.bool false)), (41, undef), (42, undef)]) ⟨((hd 4 rfl _ _ rfl rfl).trans (congrArg _ hc14)), (hd 6 rfl _ _ rfl rfl), (hd 7 rfl _ _ rfl rfl), trivial⟩⟩ rfl rfl rfl
    · intro a w2 hfr hN hds hb hd
      exact op_skip ⟨hN, hds, rows_get (E := [(39, (.bool false)), (43, undef)]) ⟨((hd 4 rfl _ _ rfl rfl).trans (congrArg _ hc14)), (hd 8 rfl _ _ rfl rfl), trivial⟩⟩ rfl rfl rfl
    · intro a w2 hfr hN hds hb hd
      exact op_skip ⟨hN, hds, rows_get (E := [(4, (.pointer (some ⟨b1, 0, none⟩))), (39, (.bool false))]) ⟨hb 4 rfl _ rfl, ((hd 4 rfl _ _ rfl rfl).trans (congrArg _ hc14)), trivial⟩⟩ rfl rfl rfl
    · intro a w2 hfr hN hds hb hd
      exact op_skip ⟨hN, hds, rows_get (E := [(39, (.bool false)), (40, undef), (44, undef), (45, undef)]) ⟨((hd 4 rfl _ _ rfl rfl).trans (congrArg _ hc14)), (hd 5 rfl _ _ rfl rfl), (hd 9 rfl _ _ rfl rfl), (hd 10 rfl _ _ rfl rfl), trivial⟩⟩ rfl rfl rfl
    · intro a w2 hfr hN hds hb hd
      exact op_skip ⟨hN, hds, rows_get (E := [(39, (.bool false)), (46, undef)]) ⟨((hd 4 rfl _ _ rfl rfl).trans (congrArg _ hc14)), (hd 11 rfl _ _ rfl rfl), trivial⟩⟩ rfl rfl rfl
    · intro a w2 hfr hN hds hb hd
      exact op_plain Θ_ok ⟨hN, hds, rows_get (E := [(39, (.bool false)), (47, undef)]) ⟨((hd 4 rfl _ _ rfl rfl).trans (congrArg _ hc14)), (hd 12 rfl _ _ rfl rfl), trivial⟩⟩ rfl rfl rfl rfl rfl
    · intro a w2 hfr hN hds hb hd
      exact op_plain Θ_ok ⟨hN, hds, rows_get (E := [(35, (.int .i64 p11))]) ⟨(hd 0 rfl _ _ rfl rfl), trivial⟩⟩ rfl rfl rfl rfl rfl
    · intro a w2 hfr hN hds hb hd
      exact op_plain Θ_ok ⟨hN, hds, rows_get (E := [(48, (.bool false))]) ⟨(hd 13 rfl _ _ rfl rfl), trivial⟩⟩ rfl rfl rfl rfl rfl
    intro a w31 f30 hN hds hb hr
    have hO := f30.ob hO
    have hF := hF.trans f30
    refine wq_go (E := [(6, (.int .i64 p11)), (7, (.bool false))]) hN hds ⟨(hr 14 _ _ rfl rfl), (hr 15 _ _ rfl rfl), trivial⟩ ?_
    refine wq_seq ?_
    refine wc_ret ?_
    cases h
    exact wq_ret rfl ⟨_, rfl, ⟨_, _, rfl, (int_is.2 rfl), (bool_is.2 rfl)⟩, hF⟩
  obtain ⟨y15, hz16, h⟩ := bind_some h
  obtain ⟨y17, hy18, h⟩ := bind_some h
  refine wc_draw mixed [⟨35, [], [9]⟩, ⟨36, [], [9]⟩, ⟨37, [], [8]⟩, ⟨38, [1, 2], []⟩, ⟨39, [3], []⟩, ⟨40, [4], [2]⟩, ⟨41, [4], [0]⟩, ⟨42, [4], [9]⟩, ⟨43, [4, 6, 7], []⟩, ⟨44, [4, 8], []⟩, ⟨45, [4], [4]⟩, ⟨46, [4, 5, 9, 10], []⟩, ⟨47, [4, 11], []⟩, ⟨48, [4, 12], []⟩, ⟨6, [0], []⟩, ⟨7, [13], []⟩] [SP.eq (.int .i64 p11), SP.eq (.int .i64 p11), SP.eq (.int .i64 (x0.length : Int)), SP.eq (.bool (decide (p11 < (x0.length : Int)))), SP.eq (.bool (decide (p11 < (x0.length : Int)))), SP.is (Ty.fn2 Tryd.prog tGDesc tGDesc (rt1 (Ty.int .i64))) O12 x2, SP.is (Ty.slice tGDesc) O12 x0, SP.eq (.int .i64 p11), SP.is (Ty.ptr tGDesc) O12 y15, SP.eq (.agg #[(.int .u64 y15.fPid), (.int .i64 y15.fFd), (.int .u64 y15.fWhat)]), SP.eq (.agg #[(.int .u64 x1.fPid), (.int .i64 x1.fFd), (.int .u64 x1.fWhat)]), SP.eq (.int .i64 y17), SP.eq (.bool (y17 == (0 : Int))), SP.eq (.bool (y17 == (0 : Int))), SP.eq (.int .i64 p11), SP.eq (.bool (y17 == (0 : Int)))] rfl rfl rfl ⟨?_, ?_, ?_, ?_, ?_, ?_, ?_, ?_, ?_, ?_, ?_, ?_, ?_, ?_, ?_, ?_, trivial⟩ ?_
  · intro a w2 hfr hN hds hb hd
    exact op_plain Θ_ok ⟨hN, hds, rows_get (E := [(9, (.int .i64 p11))]) ⟨hb 9 rfl _ rfl, trivial⟩⟩ rfl rfl rfl rfl rfl
  · intro a w2 hfr hN hds hb hd
    exact op_plain Θ_ok ⟨hN, hds, rows_get (E := [(9, (.int .i64 p11))]) ⟨hb 9 rfl _ rfl, trivial⟩⟩ rfl rfl rfl rfl rfl
  · intro a w2 hfr hN hds hb hd
    exact op_plain Θ_ok ⟨hN, hds, rows_get (E := [(8, (.int .i64 (x0.length : Int)))]) ⟨hb 8 rfl _ rfl, trivial⟩⟩ rfl rfl rfl rfl rfl
  · intro a w2 hfr hN hds hb hd
    exact op_plain Θ_ok ⟨hN, hds, rows_get (E := [(36, (.int .i64 p11)), (37, (.int .i64 (x0.length : Int)))]) ⟨(hd 1 rfl _ _ rfl rfl), (hd 2 rfl _ _ rfl rfl), trivial⟩⟩ rfl rfl rfl rfl rfl
  · intro a w2 hfr hN hds hb hd
    exact op_plain Θ_ok ⟨hN, hds, rows_get (E := [(38, (.bool (decide (p11 < (x0.length : Int)))))]) ⟨(hd 3 rfl _ _ rfl rfl), trivial⟩⟩ rfl rfl rfl rfl rfl
  · intro a w2 hfr hN hds hb hd
    have h2 := h2.tr hfr.tr0
    exact (op_plain Θ_ok ⟨hN, hds, rows_get (E := [(2, v2), (39, (.bool true))]) ⟨hb 2 rfl _ rfl, ((hd 4 rfl _ _ rfl rfl).trans (congrArg _ hc14)), trivial⟩⟩ rfl rfl rfl rfl rfl).weaken (fun u w3 ⟨hu, hf⟩ => by subst hu; exact ⟨h2.tr hf.tr0, hf⟩)
  · intro a w2 hfr hN hds hb hd
    have h0 := h0.tr hfr.tr0
    exact (op_plain Θ_ok ⟨hN, hds, rows_get (E := [(0, (.slice A4 x0.length c5)), (39, (.bool true))]) ⟨hb 0 rfl _ rfl, ((hd 4 rfl _ _ rfl rfl).trans (congrArg _ hc14)), trivial⟩⟩ rfl rfl rfl rfl rfl).weaken (fun u w3 ⟨hu, hf⟩ => by subst hu; exact ⟨h0.tr hf.tr0, hf⟩)
  · intro a w2 hfr hN hds hb hd
    exact op_plain Θ_ok ⟨hN, hds, rows_get (E := [(9, (.int .i64 p11)), (39, (.bool true))]) ⟨hb 9 rfl _ rfl, ((hd 4 rfl _ _ rfl rfl).trans (congrArg _ hc14)), trivial⟩⟩ rfl rfl rfl rfl rfl
  · intro a w2 hfr hN hds hb hd
    have d21 : (Ty.slice tGDesc).is O12 w2 (a.tmps.getD 41 undef) x0 := hd 6 rfl _ _ rfl rfl
    obtain ⟨u19, e20⟩ : ∃ v, a.tmps.getD 41 undef = v := ⟨_, rfl⟩
    rw [e20] at d21
    exact op_index (j := p11) Θ_ok ⟨hN, hds, rows_get (E := [(39, (.bool true)), (41, u19), (42, (.int .i64 p11))]) ⟨((hd 4 rfl _ _ rfl rfl).trans (congrArg _ hc14)), e20, (hd 7 rfl _ _ rfl rfl), trivial⟩⟩ rfl rfl rfl rfl rfl rfl rfl rfl rfl d21 rfl (idx_some hz16).1 (idx_some hz16).2
  · intro a w2 hfr hN hds hb hd
    have d24 : (Ty.ptr tGDesc).is O12 w2 (a.tmps.getD 43 undef) y15 := hd 8 rfl _ _ rfl rfl
    obtain ⟨u22, e23⟩ : ∃ v, a.tmps.getD 43 undef = v := ⟨_, rfl⟩
    rw [e23] at d24
    exact (op_loadp Θ_ok ⟨hN, hds, rows_get (E := [(39, (.bool true)), (43, u22)]) ⟨((hd 4 rfl _ _ rfl rfl).trans (congrArg _ hc14)), e23, trivial⟩⟩ rfl rfl rfl rfl rfl rfl d24 rfl rfl).weaken (fun u w3 ⟨hu, hf⟩ => ⟨tGDesc_is.1 hu, hf⟩)
  · intro a w2 hfr hN hds hb hd
    have hb1 := hb1.fr0 hfr
    exact op_load Θ_ok ⟨hN, hds, rows_get (E := [(4, (.pointer (some ⟨b1, 0, none⟩))), (39, (.bool true))]) ⟨hb 4 rfl _ rfl, ((hd 4 rfl _ _ rfl rfl).trans (congrArg _ hc14)), trivial⟩⟩ rfl rfl rfl rfl rfl rfl hb1 [(.int .u64 x1.fPid), (.int .i64 x1.fFd), (.int .u64 x1.fWhat)] rfl rfl (.inl rfl) (.agg #[(.int .u64 x1.fPid), (.int .i64 x1.fFd), (.int .u64 x1.fWhat)]) rfl
  · intro a w2 hfr hN hds hb hd
    have d27 : (Ty.fn2 Tryd.prog tGDesc tGDesc (rt1 (Ty.int .i64))).is O12 w2 (a.tmps.getD 40 undef) x2 := hd 5 rfl _ _ rfl rfl
    obtain ⟨u25, e26⟩ : ∃ v, a.tmps.getD 40 undef = v := ⟨_, rfl⟩
    rw [e26] at d27
    exact (op_dyn2 ⟨hN, hds, rows_get (E := [(39, (.bool true)), (40, u25), (44, (.agg #[(.int .u64 y15.fPid), (.int .i64 y15.fFd), (.int .u64 y15.fWhat)])), (45, (.agg #[(.int .u64 x1.fPid), (.int .i64 x1.fFd), (.int .u64 x1.fWhat)]))]) ⟨((hd 4 rfl _ _ rfl rfl).trans (congrArg _ hc14)), e26, (hd 9 rfl _ _ rfl rfl), (hd 10 rfl _ _ rfl rfl), trivial⟩⟩ rfl rfl rfl rfl rfl rfl d27 (hfr.ob hO) ((tGDesc_is (x := y15)).2 rfl) ((tGDesc_is (x := x1)).2 rfl) hy18).weaken (fun u w3 ⟨hu, hf⟩ => ⟨int_is.1 hu, hf⟩)
  · intro a w2 hfr hN hds hb hd
    exact op_plain Θ_ok ⟨hN, hds, rows_get (E := [(39, (.bool true)), (46, (.int .i64 y17))]) ⟨((hd 4 rfl _ _ rfl rfl).trans (congrArg _ hc14)), (hd 11 rfl _ _ rfl rfl), trivial⟩⟩ rfl rfl rfl rfl rfl
  · intro a w2 hfr hN hds hb hd
    exact op_plain Θ_ok ⟨hN, hds, rows_get (E := [(39, (.bool true)), (47, (.bool (y17 == (0 : Int))))]) ⟨((hd 4 rfl _ _ rfl rfl).trans (congrArg _ hc14)), (hd 12 rfl _ _ rfl rfl), trivial⟩⟩ rfl rfl rfl rfl rfl
  · intro a w2 hfr hN hds hb hd
    exact op_plain Θ_ok ⟨hN, hds, rows_get (E := [(35, (.int .i64 p11))]) ⟨(hd 0 rfl _ _ rfl rfl), trivial⟩⟩ rfl rfl rfl rfl rfl
  · intro a w2 hfr hN hds hb hd
    exact op_plain Θ_ok ⟨hN, hds, rows_get (E := [(48, (.bool (y17 == (0 : Int))))]) ⟨(hd 13 rfl _ _ rfl rfl), trivial⟩⟩ rfl rfl rfl rfl rfl
  intro a w29 f28 hN hds hb hr
  have hO := f28.ob hO
  have hF := hF.trans f28
  refine wq_go (E := [(6, (.int .i64 p11)), (7, (.bool (y17 == (0 : Int))))]) hN hds ⟨(hr 14 _ _ rfl rfl), (hr 15 _ _ rfl rfl), trivial⟩ ?_
  refine wq_seq ?_
  refine wc_ret ?_
  cases h
  exact wq_ret rfl ⟨_, rfl, ⟨_, _, rfl, (int_is.2 rfl), (bool_is.2 rfl)⟩, hF⟩
set_option maxRecDepth 100000 in
set_option maxHeartbeats 4000000 in
theorem insDesc_c {O : List Nat} {w : World} (hO : OB O w) {B : Nat} (hB : B ≤ w.heap.size) {v : Value} {xs : List GDesc} (hv : Go.Dc.Own tGDesc 29 B O w v xs) {v1 : Value} {j : Int} (h1 : (Ty.int .i64).is O w v1 j) {u : Value} {ys : List GDesc} (hu : (Ty.slice tGDesc).is O w u ys) (hp : Plain w u) {zs : List GDesc} (hz : insDesc xs j ys = some zs) :
    Calls Tryd.prog 32 #[v, v1, u] w (GivesOwn tGDesc 29 B O w v zs) := by
  obtain rfl := int_is.1 h1
  obtain ⟨hj0, hj1, hsz, rfl⟩ := insL_some hz
  obtain ⟨k, rfl⟩ : ∃ k : Nat, j = k := ⟨j.toNat, by omega⟩
  simp only [Int.toNat_natCast] at *
  have hkn : k ≤ xs.length := by omega
  obtain ⟨A, c, rfl, hnc, hcm⟩ := hv.form
  obtain ⟨Au, cu, rfl, hmc, hmm⟩ := slice_form hu
  refine calls_of (args := [.slice A xs.length c, .int .i64 k, .slice Au ys.length cu]) (N := 95) Tryd.func32 rfl rfl rfl ?_
  refine wc_seq ?_
  refine wc_region (l := [0]) rfl ?_
  refine wo_seg Θ_ok [0] [(0, .slice A xs.length c), (1, .int .i64 k), (2, .slice Au ys.length cu)] rfl ⟨rfl, rfl, rfl, trivial⟩ ?_
  refine wo_nil ?_
  refine wq_seq ?_
  refine wc_seq ?_
  refine wc_region (l := [0, 1, 2]) rfl ?_
  refine wo_seg Θ_ok [0, 1] [(0, .slice A xs.length c), (1, .int .i64 k), (2, .slice Au ys.length cu), (10, .slice A xs.length c), (11, .int .i64 k)] rfl ⟨rfl, rfl, rfl, rfl, rfl, trivial⟩ ?_
  refine wo_cutlo Θ_ok rfl rfl rfl rfl rfl rfl rfl rfl rfl rfl hnc hkn ?_
  refine wo_nil ?_
  refine wq_seq ?_
  refine wc_seq ?_
  refine wc_region (l := [0, 1, 2]) rfl ?_
  refine wo_seg Θ_ok [0, 1, 2] [(0, .slice A xs.length c), (1, .int .i64 k), (2, .slice Au ys.length cu), (7, .int .i64 (ys.length : Int))] rfl ⟨rfl, rfl, rfl, rfl, trivial⟩ ?_
  refine wo_nil ?_
  refine wq_seq ?_
  refine wc_seq ?_
  refine wc_seq ?_
  refine wc_region (l := [0, 1]) rfl ?_
  refine wo_seg Θ_ok [0, 1] [(0, .slice A xs.length c), (1, .int .i64 k), (2, .slice Au ys.length cu), (7, .int .i64 (ys.length : Int)), (16, .bool ((ys.length : Int) == 0))] rfl ⟨rfl, rfl, rfl, rfl, rfl, trivial⟩ ?_
  refine wo_nil ?_
  refine wq_seq ?_
  by_cases hm0 : ys.length = 0
  · have hys : ys = [] := List.eq_nil_of_length_eq_zero hm0
    refine wc_known_true rfl (by simp [hm0]) ?_
    refine wc_seq ?_
    refine wc_region (l := [0, 1]) rfl ?_
    refine wo_seg Θ_ok [0, 1] [(6, .slice A xs.length c)] rfl ⟨rfl, trivial⟩ ?_
    refine wo_nil ?_
    refine wq_seq ?_
    refine wc_ret ?_
    refine wq_then_ret (wq_ret rfl ⟨_, O, rfl, ?_⟩)
    have e : xs.take k ++ ys ++ xs.drop k = xs := by rw [hys]; simp
    rw [e]
    exact ⟨hv, Tr.refl _ _, hO, Sub.refl _, fun _ _ _ => rfl, fun _ _ h => h⟩
  refine wc_known_false rfl (beq_eq_false_iff_ne.2 (by omega)) ?_
  refine wc_skip ?_
  refine wq_seq ?_
  refine wc_seq ?_
  refine wc_region (l := [0, 1, 2]) rfl ?_
  refine wo_seg Θ_ok [0, 1, 2] [(0, .slice A xs.length c), (1, .int .i64 k), (2, .slice Au ys.length cu), (7, .int .i64 (ys.length : Int)), (8, .int .i64 (xs.length : Int))] rfl ⟨rfl, rfl, rfl, rfl, rfl, trivial⟩ ?_
  refine wo_nil ?_
  refine wq_seq ?_
  refine wc_seq ?_
  refine wc_seq ?_
  refine wc_region (l := [0, 1, 2]) rfl ?_
  refine wo_seg Θ_ok [0, 1, 2] [(0, .slice A xs.length c), (1, .int .i64 k), (2, .slice Au ys.length cu), (7, .int .i64 (ys.length : Int)), (8, .int .i64 (xs.length : Int)), (22, .bool ((k : Int) == (xs.length : Int)))] rfl ⟨rfl, rfl, rfl, rfl, rfl, rfl, trivial⟩ ?_
  refine wo_nil ?_
  refine wq_seq ?_
  by_cases hkn' : k = xs.length
  · refine wc_known_true rfl (by simp [hkn']) ?_
    refine wc_seq ?_
    refine wc_region (l := [0, 1, 2, 3]) rfl ?_
    refine wo_seg Θ_ok [0, 1] [(23, .slice A xs.length c), (24, .slice Au ys.length cu)] rfl ⟨rfl, rfl, trivial⟩ ?_
    refine wo_append Θ_ok rfl rfl rfl rfl rfl rfl rfl rfl rfl (by decide) rfl (by decide) rfl rfl hB hO hv hu (by simp only [Nat.reduceMul] at hsz ⊢; omega) (fun v' w' O' hap => ?_)
    refine wo_seg Θ_ok [3] [(6, v')] rfl ⟨rfl, trivial⟩ ?_
    refine wo_nil ?_
    refine wq_seq ?_
    refine wc_ret ?_
    refine wq_then_ret (wq_ret rfl ⟨_, O', rfl, ?_⟩)
    have e : xs.take k ++ ys ++ xs.drop k = xs ++ ys := by subst hkn'; simp
    rw [e]
    exact hap
  refine wc_known_false rfl (by simp; omega) ?_
  refine wc_skip ?_
  refine wq_seq ?_
  -- the rows
  obtain ⟨cs, ⟨hcl, hvv⟩, hrep⟩ := hv.ex
  rcases hvv with ⟨_, hl0⟩ | ⟨g, c2, cur, hvv, hBg, hh, hnc', hcm', hcs, hct⟩
  · omega
  injection hvv with hA hn2 hc2
  subst hA; subst hc2
  have hgO := hv.mem g rfl
  cases Au with
  | none => exact absurd (slice_none hu) (fun h => hm0 (by rw [h]; rfl))
  | some ad =>
  obtain ⟨hspot, cu', tu, hhu⟩ := hp ad _ _ rfl
  obtain ⟨_, us, hru, hcu⟩ := slice_cells hu
  have hus : us.length = ys.length * 3 := hru.len
  have hcl : cs.length = xs.length * 3 := hcl
  have hT : (tGDesc).n = 3 := rfl
  rw [hT] at hcs hct
  have hadg : ad.block ≠ g := by
    intro e
    obtain ⟨y, hy⟩ : ∃ y, ys[0]? = some y := ⟨_, List.getElem?_eq_getElem (by omega)⟩
    obtain ⟨ad', e', hpt⟩ := slice_at hu hy
    cases e'
    obtain ⟨_, ⟨_, _, hc1, _, hno, _⟩, hc2⟩ := hpt
    subst hc1
    have hc2 : Value.pointer (some (ad.add (0 * (tGDesc).n))) = .pointer (some _) := hc2
    injection hc2 with hc2
    injection hc2 with hc2
    rw [← hc2, add_block, e] at hno
    exact hno hgO
  have hcells : ∀ j, w.cell? ⟨g, j, none⟩ = cur[j]? := fun j => cell_of_row w g j cur 29 (0, 0) hh
  have hcurcs : ∀ j x, cs[j]? = some x → cur.toList[j]? = some x := fun j x hx => by
    rw [← hct, List.getElem?_take] at hx
    split at hx
    · exact hx
    · cases hx
  have hcsAt : ∀ q, CellsAt w ⟨g, q, none⟩ (cs.drop q) := fun q j x hx => by
    rw [add_at, hcells, ← Array.getElem?_toList]
    rw [List.getElem?_drop] at hx
    exact hcurcs _ x hx
  have hkS : k * 3 ≤ xs.length * 3 := Nat.mul_le_mul_right _ hkn
  have hcapS : xs.length * 3 ≤ c * 3 := Nat.mul_le_mul_right _ hnc'
  have hone : ∀ x ∈ cs, x.oneCell' = true := hrep.one
  refine wc_seq ?_
  refine wc_seq ?_
  refine wc_region (l := [0, 1, 2, 3, 4, 5]) rfl ?_
  have hwnm : IntKind.i64.wrap ((xs.length : Int) + (ys.length : Int)) = ((xs.length + ys.length : Nat) : Int) := by
    rw [IntKind.wrap_i64]; unfold maxLen at *; omega
  refine wo_seg Θ_ok [0, 1, 2, 3, 4, 5] [(0, .slice (some ⟨g, 0, none⟩) xs.length c), (1, .int .i64 k), (2, .slice (some ad) ys.length cu), (7, .int .i64 (ys.length : Int)), (8, .int .i64 (xs.length : Int)), (31, .bool (decide (IntKind.i64.wrap ((xs.length : Int) + (ys.length : Int)) > (c : Int))))] rfl ⟨rfl, rfl, rfl, rfl, rfl, rfl, trivial⟩ ?_
  refine wo_nil ?_
  refine wq_seq ?_
  rw [hwnm]
  by_cases hgrow : c < xs.length + ys.length
  · refine wc_known_true rfl (by simp; omega) ?_
    refine wc_seq ?_
    refine wc_region (l := [0, 1, 2, 3, 4, 5, 6, 7, 8, 9]) rfl ?_
    refine wo_seg Θ_ok [0, 1] [(0, .slice (some ⟨g, 0, none⟩) xs.length c), (1, .int .i64 k), (2, .slice (some ad) ys.length cu), (7, .int .i64 (ys.length : Int)), (8, .int .i64 (xs.length : Int)), (32, .slice (some ⟨g, 0, none⟩) xs.length c), (33, .int .i64 k)] rfl ⟨rfl, rfl, rfl, rfl, rfl, rfl, rfl, trivial⟩ ?_
    refine wo_cuthi Θ_ok rfl rfl rfl rfl rfl rfl rfl rfl rfl rfl hnc' (by omega) ?_
    refine wo_seg Θ_ok [3, 4, 5, 6, 7] [(0, .slice (some ⟨g, 0, none⟩) xs.length c), (1, .int .i64 k), (2, .slice (some ad) ys.length cu), (7, .int .i64 (ys.length : Int)), (34, .slice (some ⟨g, 0, none⟩) k c), (39, .int .i64 (IntKind.i64.wrap (IntKind.i64.wrap ((xs.length : Int) + (ys.length : Int)) - (k : Int))))] rfl ⟨rfl, rfl, rfl, rfl, rfl, rfl, trivial⟩ ?_
    have hw2 : IntKind.i64.wrap (IntKind.i64.wrap ((xs.length : Int) + (ys.length : Int)) - (k : Int)) = ((xs.length + ys.length - k : Nat) : Int) := by
      rw [hwnm, IntKind.wrap_i64]; unfold maxLen at *; omega
    rw [hw2]
    have htl : (cs.take (k * 3)).length = k * 3 := by rw [List.length_take]; omega
    refine wo_appz Θ_ok rfl rfl rfl rfl rfl rfl rfl rfl rfl rfl rfl rfl rfl (us := cs.take (k * 3)) (fun j x hx => by
      rw [List.getElem?_take] at hx
      split at hx
      · have := hcsAt 0 j x (by simpa using hx); exact this
      · cases hx) htl (by omega) (by omega) (by simp only [Nat.reduceMul] at hsz ⊢; omega) rfl ?_
    have hnk : k + (xs.length + ys.length - k) = xs.length + ys.length := by omega
    rw [hnk]
    generalize hC : grownCap w (xs.length + ys.length) c 29 = C
    have hCge : xs.length + ys.length ≤ C := by rw [← hC]; exact grownCap_ge _ _ _ _
    have hCm : C ≤ maxLen := by rw [← hC]; exact grownCap_le_maxLen _ _ _ _ (by unfold maxLen at *; omega)
    have hCS : (xs.length + ys.length) * 3 ≤ C * 3 := Nat.mul_le_mul_right _ hCge
    refine wo_seg Θ_ok [9] [(0, .slice (some ⟨g, 0, none⟩) xs.length c), (1, .int .i64 k), (2, .slice (some ad) ys.length cu), (7, .int .i64 (ys.length : Int)), (9, .slice (some ⟨w.heap.size, 0, none⟩) (xs.length + ys.length) C)] rfl ⟨rfl, rfl, rfl, rfl, rfl, trivial⟩ ?_
    refine wo_nil ?_
    refine wq_seq ?_
    obtain ⟨Z, hZ1, hZ2⟩ := row_parts (cs := cs.take (k * 3)) (xs.length + ys.length - k) (C - (xs.length + ys.length)) (show ((Value.cells (.agg #[(.int .u64 0), (.int .i64 0), (.int .u64 0)])).size) = 3 from rfl)
    rw [show xs.length + ys.length - k + (C - (xs.length + ys.length)) = C - k by omega] at hZ2
    generalize (cs.take (k * 3)).toArray ++ Builtin.zeroCells _ (xs.length + ys.length - k) ++ Builtin.zeroCells _ (C - (xs.length + ys.length)) = row at *
    have hCk : (C - k) * 3 + k * 3 = C * 3 := by rw [← Nat.add_mul]; congr 1; omega
    have hrsz : row.size = C * 3 := by rw [← Array.length_toList, hZ1, List.length_append, hZ2, htl]; omega
    have hn1 := new_alloc (O := O) (w := w.drew) hO 29 row.toList
    simp only [Array.toArray_toList] at hn1
    generalize hw1 : w.drew.alloc (.cells row 29) = w1 at *
    have hG1 : w1.heap[w.heap.size]? = some (.cells row 29 (0, 0)) := by have := hn1.blk; unfold Blk at this; simpa using this
    have hf1 : Fr [] w w1 := (Fr.drew [] w).trans hn1.fr
    have hsplit : (xs.length + ys.length) * 3 = k * 3 + ys.length * 3 + (xs.length - k) * 3 := by rw [← Nat.add_mul, ← Nat.add_mul]; congr 1; omega
    have hkm : (k + ys.length) * 3 = k * 3 + ys.length * 3 := Nat.add_mul _ _ _
    have hnkS : (xs.length - k) * 3 + k * 3 = xs.length * 3 := by rw [← Nat.add_mul]; congr 1; omega
    refine wc_seq ?_
    refine wc_region (l := [0, 1, 2, 3, 4]) rfl ?_
    refine wo_seg Θ_ok [0, 1] [(0, .slice (some ⟨g, 0, none⟩) xs.length c), (1, .int .i64 k), (2, .slice (some ad) ys.length cu), (7, .int .i64 (ys.length : Int)), (9, .slice (some ⟨w.heap.size, 0, none⟩) (xs.length + ys.length) C), (41, .slice (some ⟨w.heap.size, 0, none⟩) (xs.length + ys.length) C), (42, .int .i64 k)] rfl ⟨rfl, rfl, rfl, rfl, rfl, rfl, rfl, trivial⟩ ?_
    refine wo_cutlo Θ_ok rfl rfl rfl rfl rfl rfl rfl rfl rfl rfl hCge (by omega) ?_
    rw [if_neg (by omega), Option.map_some, add_at, Nat.zero_add]
    refine wo_seg Θ_ok [3] [(0, .slice (some ⟨g, 0, none⟩) xs.length c), (1, .int .i64 k), (7, .int .i64 (ys.length : Int)), (9, .slice (some ⟨w.heap.size, 0, none⟩) (xs.length + ys.length) C), (43, .slice (some ⟨w.heap.size, k * 3, none⟩) (xs.length + ys.length - k) (C - k)), (44, .slice (some ad) ys.length cu)] rfl ⟨rfl, rfl, rfl, rfl, rfl, rfl, trivial⟩ ?_
    have hadl : ad.block < w.heap.size := (Array.getElem?_eq_some_iff.1 hhu).1
    refine wo_copyv Θ_ok rfl rfl rfl rfl rfl rfl rfl rfl rfl rfl hG1 (hcu.keep (hf1.block _ hadl (by simp))) hus hru.one (by omega) (by omega) (fun z => ?_)
    rw [hZ1, List.take_left' htl]
    generalize hr2 : (cs.take (k * 3) ++ us ++ List.drop (k * 3 + us.length) (cs.take (k * 3) ++ Z)).toArray = row2
    obtain ⟨Z2, hZ21, hZ22⟩ : ∃ Z2 : List Value, row2.toList = cs.take (k * 3) ++ us ++ Z2 ∧ Z2.length = C * 3 - (k * 3 + ys.length * 3) := by
      refine ⟨_, by rw [← hr2], ?_⟩
      simp only [List.length_drop, List.length_append, htl, hZ2, hus]
      omega
    clear hr2
    have hf2 := setRow_fr (new := row2) hG1
    have hG2 : (w1.setRow w.heap.size row2).heap[w.heap.size]? = some (.cells row2 29 (0, 0)) := setRow_heap w1 _ _ _ _ _ hG1
    generalize hw2' : w1.setRow w.heap.size row2 = w2 at *
    have hF2 : Fr [] w w2 := hf1.own hf2 (Nat.le_refl _)
    refine wo_nil ?_
    refine wq_seq ?_
    refine wc_seq ?_
    have hw3 : IntKind.i64.wrap ((k : Int) + (ys.length : Int)) = ((k + ys.length : Nat) : Int) := by rw [IntKind.wrap_i64]; unfold maxLen at *; omega
    refine wc_drawT mixed [⟨46, [], [9]⟩, ⟨47, [], [1]⟩, ⟨48, [], [7]⟩, ⟨49, [1, 2], []⟩, ⟨50, [0, 3], []⟩, ⟨51, [], [0]⟩, ⟨52, [], [1]⟩, ⟨53, [5, 6], []⟩] [SP.eq (.slice (some ⟨w.heap.size, 0, none⟩) (xs.length + ys.length) C), SP.eq (.int .i64 k), SP.eq (.int .i64 (ys.length : Int)), SP.eq (.int .i64 (IntKind.i64.wrap ((k : Int) + (ys.length : Int)))), SP.eq (.slice (some ⟨w.heap.size, (k + ys.length) * 3, none⟩) (xs.length - k) (C - (k + ys.length))), SP.eq (.slice (some ⟨g, 0, none⟩) xs.length c), SP.eq (.int .i64 k), SP.eq (.slice (some ⟨g, k * 3, none⟩) (xs.length - k) (c - k))] rfl rfl rfl rfl ⟨?_, ?_, ?_, ?_, ?_, ?_, ?_, ?_, trivial⟩ ?_
    · intro a w3 hfr hN hds hb hd
      exact op_plain Θ_ok ⟨hN, hds, rows_get (E := [(9, .slice (some ⟨w.heap.size, 0, none⟩) (xs.length + ys.length) C)]) ⟨hb 9 rfl _ rfl, trivial⟩⟩ rfl rfl rfl rfl rfl
    · intro a w3 hfr hN hds hb hd
      exact op_plain Θ_ok ⟨hN, hds, rows_get (E := [(1, .int .i64 k)]) ⟨hb 1 rfl _ rfl, trivial⟩⟩ rfl rfl rfl rfl rfl
    · intro a w3 hfr hN hds hb hd
      exact op_plain Θ_ok ⟨hN, hds, rows_get (E := [(7, .int .i64 (ys.length : Int))]) ⟨hb 7 rfl _ rfl, trivial⟩⟩ rfl rfl rfl rfl rfl
    · intro a w3 hfr hN hds hb hd
      exact op_plain Θ_ok ⟨hN, hds, rows_get (E := [(47, .int .i64 k), (48, .int .i64 (ys.length : Int))]) ⟨(hd 1 rfl _ _ rfl rfl), (hd 2 rfl _ _ rfl rfl), trivial⟩⟩ rfl rfl rfl rfl rfl
    · intro a w3 hfr hN hds hb hd
      have h49 : a.tmps.getD 49 undef = .int .i64 ((k + ys.length : Nat) : Int) := by rw [← hw3]; exact hd 3 rfl _ _ rfl rfl
      refine (op_cutlo Θ_ok ⟨hN, hds, rows_get (E := [(46, .slice (some ⟨w.heap.size, 0, none⟩) (xs.length + ys.length) C), (49, .int .i64 ((k + ys.length : Nat) : Int))]) ⟨(hd 0 rfl _ _ rfl rfl), h49, trivial⟩⟩ rfl rfl rfl rfl rfl rfl rfl rfl rfl hCge (by omega)).weaken (fun u w4 ⟨hu, hf⟩ => ⟨?_, hf⟩)
      rw [hu, if_neg (by omega), Option.map_some, add_at, Nat.zero_add, show xs.length + ys.length - (k + ys.length) = xs.length - k by omega]
      rfl
    · intro a w3 hfr hN hds hb hd
      exact op_plain Θ_ok ⟨hN, hds, rows_get (E := [(0, .slice (some ⟨g, 0, none⟩) xs.length c)]) ⟨hb 0 rfl _ rfl, trivial⟩⟩ rfl rfl rfl rfl rfl
    · intro a w3 hfr hN hds hb hd
      exact op_plain Θ_ok ⟨hN, hds, rows_get (E := [(1, .int .i64 k)]) ⟨hb 1 rfl _ rfl, trivial⟩⟩ rfl rfl rfl rfl rfl
    · intro a w3 hfr hN hds hb hd
      refine (op_cutlo Θ_ok ⟨hN, hds, rows_get (E := [(51, .slice (some ⟨g, 0, none⟩) xs.length c), (52, .int .i64 k)]) ⟨(hd 5 rfl _ _ rfl rfl), (hd 6 rfl _ _ rfl rfl), trivial⟩⟩ rfl rfl rfl rfl rfl rfl rfl rfl rfl hnc' hkn).weaken (fun u w4 ⟨hu, hf⟩ => ⟨?_, hf⟩)
      rw [hu, if_neg (by omega), Option.map_some, add_at, Nat.zero_add]
      rfl
    intro a w3 f3 hN hds hb hr
    have hG3 : w3.heap[w.heap.size]? = some (.cells row2 29 (0, 0)) := (f3.block _ (Array.getElem?_eq_some_iff.1 hG2).1 (by simp)).trans hG2
    have hF3 : Fr [] w w3 := hF2.trans f3
    refine wo_go (E := [(9, .slice (some ⟨w.heap.size, 0, none⟩) (xs.length + ys.length) C), (50, .slice (some ⟨w.heap.size, (k + ys.length) * 3, none⟩) (xs.length - k) (C - (k + ys.length))), (53, .slice (some ⟨g, k * 3, none⟩) (xs.length - k) (c - k))]) (l := [8]) hN hds ⟨hb 9 _ rfl rfl, (hr 4 _ _ rfl rfl), (hr 7 _ _ rfl rfl), trivial⟩ rfl ?_
    have hgl : g < w.heap.size := (Array.getElem?_eq_some_iff.1 hh).1
    have hr2sz : row2.size = C * 3 := by rw [← Array.length_toList, hZ21, List.length_append, List.length_append, htl, hus, hZ22]; omega
    have hdl : (cs.drop (k * 3)).length = (xs.length - k) * 3 := by rw [List.length_drop]; omega
    refine wo_copyv Θ_ok rfl rfl rfl rfl rfl rfl rfl rfl rfl rfl hG3 ((hcsAt (k * 3)).keep (hF3.block _ hgl (by simp))) hdl (fun u hu => hone u (List.mem_of_mem_drop hu)) (Nat.le_refl _) (by omega) (fun z => ?_)
    rw [hZ21, List.take_left' (by rw [List.length_append, htl, hus, hkm])]
    generalize hr3 : (cs.take (k * 3) ++ us ++ cs.drop (k * 3) ++ List.drop ((k + ys.length) * 3 + (cs.drop (k * 3)).length) (cs.take (k * 3) ++ us ++ Z2)).toArray = row3
    obtain ⟨Z3, hZ31, hZ32⟩ : ∃ Z3 : List Value, row3.toList = cs.take (k * 3) ++ us ++ cs.drop (k * 3) ++ Z3 ∧ Z3.length = C * 3 - (xs.length + ys.length) * 3 := by
      refine ⟨_, by rw [← hr3], ?_⟩
      simp only [List.length_drop, List.length_append, htl, hZ22, hus, hcl]
      omega
    clear hr3
    have hf4 := setRow_fr (new := row3) hG3
    have hG4 : (w3.setRow w.heap.size row3).heap[w.heap.size]? = some (.cells row3 29 (0, 0)) := setRow_heap w3 _ _ _ _ _ hG3
    generalize w3.setRow w.heap.size row3 = w4 at *
    have hF4 : Fr [] w w4 := hF3.own hf4 (Nat.le_refl _)
    refine wo_nil ?_
    refine wq_seq ?_
    refine wc_seq ?_
    refine wc_region (l := [0, 1]) rfl ?_
    refine wo_seg Θ_ok [0, 1] [(6, .slice (some ⟨w.heap.size, 0, none⟩) (xs.length + ys.length) C)] rfl ⟨rfl, trivial⟩ ?_
    refine wo_nil ?_
    refine wq_seq ?_
    refine wc_ret ?_
    refine wq_then_ret (wq_ret rfl ⟨_, w.heap.size :: O, rfl, ?_⟩)
    have hzl : (xs.take k ++ ys ++ xs.drop k).length = xs.length + ys.length := by simp only [List.length_append, List.length_take, List.length_drop]; omega
    have htr : Tr O w (w.heap.size :: O) w4 := tr_box hF4 (Nat.le_refl _)
    have := grew' (T := tGDesc) (e := 29) (B := B) (v := .slice (some ⟨g, 0, none⟩) xs.length c) (zs := xs.take k ++ ys ++ xs.drop k) (cap := C) (cs := cs.take (k * 3) ++ us ++ cs.drop (k * 3)) hO (Nat.le_refl _) hB hF4 hG4 (by rw [hT, ← Array.length_toList, hZ31]; simp only [List.length_append, htl, hus, hdl, hZ32]; omega) hCm (by omega)
      ((((hrep.take k).app hru).app (hrep.drop k)).tr htr) (by rw [hzl, hT, hZ31]; exact List.take_left' (by simp only [List.length_append, htl, hus, hdl]; omega))
    rw [hzl] at this
    exact this
  · -- in place
    refine wc_known_false rfl (by simp; omega) ?_
    refine wc_skip ?_
    refine wq_seq ?_
    have hroomS : (xs.length + ys.length) * 3 ≤ c * 3 := Nat.mul_le_mul_right _ (by omega)
    have hsplit : (xs.length + ys.length) * 3 = k * 3 + ys.length * 3 + (xs.length - k) * 3 := by rw [← Nat.add_mul, ← Nat.add_mul]; congr 1; omega
    have hkm : (k + ys.length) * 3 = k * 3 + ys.length * 3 := Nat.add_mul _ _ _
    have hnkS : (xs.length - k) * 3 + k * 3 = xs.length * 3 := by rw [← Nat.add_mul]; congr 1; omega
    have hdl : (cs.drop (k * 3)).length = (xs.length - k) * 3 := by rw [List.length_drop]; omega
    have htl : (cs.take (k * 3)).length = k * 3 := by rw [List.length_take]; omega
    refine wc_seq ?_
    refine wc_region (l := [0, 1, 2, 3, 4, 5]) rfl ?_
    refine wo_seg Θ_ok [0, 1, 2, 3] [(1, .int .i64 k), (2, .slice (some ad) ys.length cu), (7, .int .i64 (ys.length : Int)), (8, .int .i64 (xs.length : Int)), (56, .slice (some ⟨g, 0, none⟩) xs.length c), (59, .int .i64 (IntKind.i64.wrap ((xs.length : Int) + (ys.length : Int))))] rfl ⟨rfl, rfl, rfl, rfl, rfl, rfl, trivial⟩ ?_
    rw [hwnm]
    refine wo_cuthi Θ_ok rfl rfl rfl rfl rfl rfl rfl rfl rfl rfl hnc' (by omega) ?_
    refine wo_seg Θ_ok [5] [(0, .slice (some ⟨g, 0, none⟩) (xs.length + ys.length) c), (1, .int .i64 k), (2, .slice (some ad) ys.length cu), (7, .int .i64 (ys.length : Int)), (8, .int .i64 (xs.length : Int))] rfl ⟨rfl, rfl, rfl, rfl, rfl, trivial⟩ ?_
    refine wo_nil ?_
    refine wq_seq ?_
    refine wc_seq ?_
    refine wc_seq ?_
    refine wc_region (l := [0, 1, 2, 3, 4, 5, 6, 7]) rfl ?_
    have hw3 : IntKind.i64.wrap ((k : Int) + (ys.length : Int)) = ((k + ys.length : Nat) : Int) := by rw [IntKind.wrap_i64]; unfold maxLen at *; omega
    refine wo_seg Θ_ok [0, 1, 2, 3, 4] [(0, .slice (some ⟨g, 0, none⟩) (xs.length + ys.length) c), (1, .int .i64 k), (2, .slice (some ad) ys.length cu), (7, .int .i64 (ys.length : Int)), (8, .int .i64 (xs.length : Int)), (61, .slice (some ad) ys.length cu), (62, .slice (some ⟨g, 0, none⟩) (xs.length + ys.length) c), (65, .int .i64 (IntKind.i64.wrap ((k : Int) + (ys.length : Int))))] rfl ⟨rfl, rfl, rfl, rfl, rfl, rfl, rfl, rfl, trivial⟩ ?_
    rw [hw3]
    refine wo_cutlo Θ_ok rfl rfl rfl rfl rfl rfl rfl rfl rfl rfl (by omega) (by omega) ?_
    rw [if_neg (by omega), Option.map_some, add_at, Nat.zero_add]
    refine wo_overlaps Θ_ok rfl rfl rfl rfl rfl Tryd.func42 rfl rfl rfl rfl rfl rfl rfl rfl rfl hadg hhu hh (by rw [hcs]; omega) ?_
    refine wo_seg Θ_ok [7] [(0, .slice (some ⟨g, 0, none⟩) (xs.length + ys.length) c), (1, .int .i64 k), (2, .slice (some ad) ys.length cu), (7, .int .i64 (ys.length : Int)), (68, .bool (!false))] rfl ⟨rfl, rfl, rfl, rfl, rfl, trivial⟩ ?_
    refine wo_nil ?_
    refine wq_seq ?_
    refine wc_known_true rfl rfl ?_
    refine wc_seq ?_
    refine wc_drawT mixed [⟨69, [], [0]⟩, ⟨70, [], [1]⟩, ⟨71, [], [7]⟩, ⟨72, [1, 2], []⟩, ⟨73, [0, 3], []⟩, ⟨74, [], [0]⟩, ⟨75, [], [1]⟩, ⟨76, [5, 6], []⟩] [SP.eq (.slice (some ⟨g, 0, none⟩) (xs.length + ys.length) c), SP.eq (.int .i64 k), SP.eq (.int .i64 (ys.length : Int)), SP.eq (.int .i64 (IntKind.i64.wrap ((k : Int) + (ys.length : Int)))), SP.eq (.slice (some ⟨g, (k + ys.length) * 3, none⟩) (xs.length - k) (c - (k + ys.length))), SP.eq (.slice (some ⟨g, 0, none⟩) (xs.length + ys.length) c), SP.eq (.int .i64 k), SP.eq (.slice (some ⟨g, k * 3, none⟩) (xs.length + ys.length - k) (c - k))] rfl rfl rfl rfl ⟨?_, ?_, ?_, ?_, ?_, ?_, ?_, ?_, trivial⟩ ?_
    · intro a w3 hfr hN hds hb hd
      exact op_plain Θ_ok ⟨hN, hds, rows_get (E := [(0, .slice (some ⟨g, 0, none⟩) (xs.length + ys.length) c)]) ⟨hb 0 rfl _ rfl, trivial⟩⟩ rfl rfl rfl rfl rfl
    · intro a w3 hfr hN hds hb hd
      exact op_plain Θ_ok ⟨hN, hds, rows_get (E := [(1, .int .i64 k)]) ⟨hb 1 rfl _ rfl, trivial⟩⟩ rfl rfl rfl rfl rfl
    · intro a w3 hfr hN hds hb hd
      exact op_plain Θ_ok ⟨hN, hds, rows_get (E := [(7, .int .i64 (ys.length : Int))]) ⟨hb 7 rfl _ rfl, trivial⟩⟩ rfl rfl rfl rfl rfl
    · intro a w3 hfr hN hds hb hd
      exact op_plain Θ_ok ⟨hN, hds, rows_get (E := [(70, .int .i64 k), (71, .int .i64 (ys.length : Int))]) ⟨(hd 1 rfl _ _ rfl rfl), (hd 2 rfl _ _ rfl rfl), trivial⟩⟩ rfl rfl rfl rfl rfl
    · intro a w3 hfr hN hds hb hd
      have h72 : a.tmps.getD 72 undef = .int .i64 ((k + ys.length : Nat) : Int) := by rw [← hw3]; exact hd 3 rfl _ _ rfl rfl
      refine (op_cutlo Θ_ok ⟨hN, hds, rows_get (E := [(69, .slice (some ⟨g, 0, none⟩) (xs.length + ys.length) c), (72, .int .i64 ((k + ys.length : Nat) : Int))]) ⟨(hd 0 rfl _ _ rfl rfl), h72, trivial⟩⟩ rfl rfl rfl rfl rfl rfl rfl rfl rfl (by omega) (by omega)).weaken (fun u w4 ⟨hu, hf⟩ => ⟨?_, hf⟩)
      rw [hu, if_neg (by omega), Option.map_some, add_at, Nat.zero_add, show xs.length + ys.length - (k + ys.length) = xs.length - k by omega]
      rfl
    · intro a w3 hfr hN hds hb hd
      exact op_plain Θ_ok ⟨hN, hds, rows_get (E := [(0, .slice (some ⟨g, 0, none⟩) (xs.length + ys.length) c)]) ⟨hb 0 rfl _ rfl, trivial⟩⟩ rfl rfl rfl rfl rfl
    · intro a w3 hfr hN hds hb hd
      exact op_plain Θ_ok ⟨hN, hds, rows_get (E := [(1, .int .i64 k)]) ⟨hb 1 rfl _ rfl, trivial⟩⟩ rfl rfl rfl rfl rfl
    · intro a w3 hfr hN hds hb hd
      refine (op_cutlo Θ_ok ⟨hN, hds, rows_get (E := [(74, .slice (some ⟨g, 0, none⟩) (xs.length + ys.length) c), (75, .int .i64 k)]) ⟨(hd 5 rfl _ _ rfl rfl), (hd 6 rfl _ _ rfl rfl), trivial⟩⟩ rfl rfl rfl rfl rfl rfl rfl rfl rfl (by omega) (by omega)).weaken (fun u w4 ⟨hu, hf⟩ => ⟨?_, hf⟩)
      rw [hu, if_neg (by omega), Option.map_some, add_at, Nat.zero_add]
      rfl
    intro a w3 f3 hN hds hb hr
    have hG3 : w3.heap[g]? = some (.cells cur 29 (0, 0)) := (f3.block _ (Array.getElem?_eq_some_iff.1 hh).1 (by simp)).trans hh
    refine wo_go (E := [(0, .slice (some ⟨g, 0, none⟩) (xs.length + ys.length) c), (1, .int .i64 k), (2, .slice (some ad) ys.length cu), (73, .slice (some ⟨g, (k + ys.length) * 3, none⟩) (xs.length - k) (c - (k + ys.length))), (76, .slice (some ⟨g, k * 3, none⟩) (xs.length + ys.length - k) (c - k))]) (l := [8]) hN hds ⟨hb 0 _ rfl rfl, hb 1 _ rfl rfl, hb 2 _ rfl rfl, (hr 4 _ _ rfl rfl), (hr 7 _ _ rfl rfl), trivial⟩ rfl ?_
    have hgl : g < w.heap.size := (Array.getElem?_eq_some_iff.1 hh).1
    have hadl : ad.block < w.heap.size := (Array.getElem?_eq_some_iff.1 hhu).1
    refine wo_copyd Θ_ok rfl rfl rfl rfl rfl rfl rfl rfl rfl rfl hG3 ((hcsAt (k * 3)).keep (f3.block _ hgl (by simp))) hdl (fun u hu => hone u (List.mem_of_mem_drop hu)) (by omega) (by omega) (fun z => ?_)
    generalize hr3 : (cur.toList.take ((k + ys.length) * 3) ++ cs.drop (k * 3) ++ List.drop ((k + ys.length) * 3 + (cs.drop (k * 3)).length) cur.toList).toArray = row3
    have hcurl : cur.toList.length = c * 3 := by rw [Array.length_toList, hcs]
    obtain ⟨Y, Z3, hZ31, hY, hZ32⟩ : ∃ Y Z3 : List Value, row3.toList = cs.take (k * 3) ++ Y ++ cs.drop (k * 3) ++ Z3 ∧ Y.length = ys.length * 3 ∧ Z3.length = c * 3 - (xs.length + ys.length) * 3 := by
      refine ⟨(cur.toList.take ((k + ys.length) * 3)).drop (k * 3), List.drop ((k + ys.length) * 3 + (cs.drop (k * 3)).length) cur.toList, ?_, ?_, ?_⟩
      · rw [← hr3]
        have e : cs.take (k * 3) = (cur.toList.take ((k + ys.length) * 3)).take (k * 3) := by
          rw [← hct, List.take_take, List.take_take]; congr 1; omega
        rw [e, List.take_append_drop]
      · rw [List.length_drop, List.length_take, hcurl]; omega
      · rw [List.length_drop, hcurl, hdl]; omega
    clear hr3
    have hf4 := setRow_fr (new := row3) hG3
    have hG4 : (w3.setRow g row3).heap[g]? = some (.cells row3 29 (0, 0)) := setRow_heap w3 _ _ _ _ _ hG3
    generalize w3.setRow g row3 = w4 at *
    have hF4 : Fr [g] w w4 := (f3.more (by simp)).trans hf4
    refine wo_nil ?_
    refine wq_seq ?_
    refine wc_seq ?_
    refine wc_region (l := [0, 1, 2, 3, 4]) rfl ?_
    refine wo_seg Θ_ok [0, 1] [(0, .slice (some ⟨g, 0, none⟩) (xs.length + ys.length) c), (2, .slice (some ad) ys.length cu), (78, .slice (some ⟨g, 0, none⟩) (xs.length + ys.length) c), (79, .int .i64 k)] rfl ⟨rfl, rfl, rfl, rfl, trivial⟩ ?_
    refine wo_cutlo Θ_ok rfl rfl rfl rfl rfl rfl rfl rfl rfl rfl (by omega) (by omega) ?_
    rw [if_neg (by omega), Option.map_some, add_at, Nat.zero_add]
    refine wo_seg Θ_ok [3] [(0, .slice (some ⟨g, 0, none⟩) (xs.length + ys.length) c), (80, .slice (some ⟨g, k * 3, none⟩) (xs.length + ys.length - k) (c - k)), (81, .slice (some ad) ys.length cu)] rfl ⟨rfl, rfl, rfl, trivial⟩ ?_
    have hr3sz : row3.size = c * 3 := by rw [← Array.length_toList, hZ31]; simp only [List.length_append, htl, hY, hdl, hZ32]; omega
    refine wo_copyv Θ_ok rfl rfl rfl rfl rfl rfl rfl rfl rfl rfl hG4 (hcu.keep (hF4.block _ hadl (by simp [hadg]))) hus hru.one (by omega) (by omega) (fun z => ?_)
    have e5 : (row3.toList.take (k * 3) ++ us ++ row3.toList.drop (k * 3 + us.length)) = cs.take (k * 3) ++ us ++ (cs.drop (k * 3) ++ Z3) := by
      rw [hZ31, List.append_assoc (cs.take (k * 3) ++ Y), List.append_assoc (cs.take (k * 3)), List.take_left' htl, ← List.append_assoc (cs.take (k * 3)), List.drop_left' (by rw [List.length_append, htl, hY, hus])]
    rw [e5]
    generalize hr5 : (cs.take (k * 3) ++ us ++ (cs.drop (k * 3) ++ Z3)).toArray = row5
    have hZ51 : row5.toList = cs.take (k * 3) ++ us ++ cs.drop (k * 3) ++ Z3 := by rw [← hr5, ← List.append_assoc]
    clear hr5
    have hf6 := setRow_fr (new := row5) hG4
    have hG6 : (w4.setRow g row5).heap[g]? = some (.cells row5 29 (0, 0)) := setRow_heap w4 _ _ _ _ _ hG4
    generalize w4.setRow g row5 = w6 at *
    have hF6 : Fr [g] w w6 := hF4.trans hf6
    refine wo_nil ?_
    refine wq_seq ?_
    refine wc_seq ?_
    refine wc_region (l := [0, 1]) rfl ?_
    refine wo_seg Θ_ok [0, 1] [(6, .slice (some ⟨g, 0, none⟩) (xs.length + ys.length) c)] rfl ⟨rfl, trivial⟩ ?_
    refine wo_nil ?_
    refine wq_seq ?_
    refine wc_ret ?_
    refine wq_then_ret (wq_ret rfl ⟨_, O, rfl, ?_⟩)
    have hzl : (xs.take k ++ ys ++ xs.drop k).length = xs.length + ys.length := by simp only [List.length_append, List.length_take, List.length_drop]; omega
    have htr : Tr O w O w6 := hF6.tr (one_in hgO)
    have := wrote' (T := tGDesc) (e := 29) (B := B) (n0 := xs.length) (zs := xs.take k ++ ys ++ xs.drop k) (cap := c) (cs := cs.take (k * 3) ++ us ++ cs.drop (k * 3)) hO hgO hBg hF6 hG6 (by rw [hT, ← Array.length_toList, hZ51]; simp only [List.length_append, htl, hus, hdl, hZ32]; omega) hcm' (by omega)
      ((((hrep.take k).app hru).app (hrep.drop k)).tr htr) (by rw [hzl, hT, hZ51]; exact List.take_left' (by simp only [List.length_append, htl, hus, hdl]; omega))
    rw [hzl] at this
    exact this

set_option maxRecDepth 100000 in
set_option maxHeartbeats 4000000 in
theorem d_Open_c {O : List Nat} {w : World} (hO : OB O w) {fuel : Nat} {v0 : Value} {x0 : List GDesc} (h0 : (Ty.slice tGDesc).is O w v0 x0) {v1 : Value} {x1 : Int} (h1 : (Ty.int .u64).is O w v1 x1) {v2 : Value} {x2 : Int} (h2 : (Ty.int .u64).is O w v2 x2) {r : (List GDesc) × Int × Int} (h : d_Open fuel x0 x1 x2 = some r) : Calls Tryd.prog 10 #[v0, v1, v2] w (Gives (rt3 (Ty.slice tGDesc) (Ty.int .i64) (Ty.int .i64)) O w r) := by
  obtain rfl := int_is.1 h1
  obtain rfl := int_is.1 h2
  have hF := Fr.refl [] w
  have hO0 := hO
  have hS := Sub.refl O
  refine calls_of (args := [v0, (.int .u64 x1), (.int .u64 x2)]) (N := 61) Tryd.func10 rfl rfl rfl ?_
  unfold d_Open at h
  refine wc_seq ?_
  refine wc_region (l := [0, 1, 2]) rfl ?_
  refine wo_seg Θ_ok [0, 1, 2] [(0, v0), (1, (.int .u64 x1)), (2, (.int .u64 x2))] rfl ⟨rfl, rfl, rfl, trivial⟩ ?_
  refine wo_nil ?_
  refine wq_seq ?_
  refine wc_seq ?_
  refine wc_block ?_
  refine wc_seq ?_
  refine wc_region (l := [0, 1, 2, 3]) rfl ?_
  refine wo_seg Θ_ok [0] [(0, v0), (1, (.int .u64 x1)), (2, (.int .u64 x2)), (17, v0)] rfl ⟨rfl, rfl, rfl, rfl, trivial⟩ ?_
  obtain ⟨y5, hy6, h⟩ := bind_some h
  refine wo_gives rfl rfl rfl rfl rfl ent8 rfl (d_Check_c hO h0 hy6) (fun v1 w2 h3 f4 => ?_)
  have h0 := h0.tr f4.tr0
  have hO := f4.ob hO
  have hF := hF.trans f4
  obtain rfl := int_is.1 h3
  refine wo_seg Θ_ok [2, 3] [(0, v0), (1, (.int .u64 x1)), (2, (.int .u64 x2)), (16, (.bool (y5 != (0 : Int))))] rfl ⟨rfl, rfl, rfl, rfl, trivial⟩ ?_
  refine wo_nil ?_
  refine wq_seq ?_
  rcases bif_some h with ⟨hc7, h⟩ | ⟨hc7, h⟩
  · refine wc_known_true rfl hc7 ?_
    refine wc_seq ?_
    refine wc_region (l := [0, 1, 2]) rfl ?_
    refine wo_seg Θ_ok [0, 1, 2] [(6, (.slice none 0 0)), (7, (.int .i64 0)), (8, (.int .i64 330))] rfl ⟨rfl, rfl, rfl, trivial⟩ ?_
    refine wo_nil ?_
    refine wq_seq ?_
    refine wc_ret ?_
    cases h
    exact wq_block_ret (wq_then_ret (wq_ret rfl ⟨_, rfl, ⟨_, _, _, rfl, (slice_nil _ _ _), (int_is.2 rfl), (int_is.2 rfl)⟩, hF⟩))
  refine wc_known_false rfl hc7 ?_
  refine wc_seq ?_
  refine wc_region (l := [0, 1, 2]) rfl ?_
  refine wo_seg Θ_ok [0, 1, 2] [(0, v0), (1, (.int .u64 x1)), (2, (.int .u64 x2)), (20, (.bool (decide (x1 ≥ (4294967296 : Int)))))] rfl ⟨rfl, rfl, rfl, rfl, trivial⟩ ?_
  refine wo_nil ?_
  refine wq_seq ?_
  rcases bif_some h with ⟨hc8, h⟩ | ⟨hc8, h⟩
  · refine wc_known_true rfl hc8 ?_
    refine wc_seq ?_
    refine wc_region (l := [0, 1, 2]) rfl ?_
    refine wo_seg Θ_ok [0, 1, 2] [(6, (.slice none 0 0)), (7, (.int .i64 0)), (8, (.int .i64 2))] rfl ⟨rfl, rfl, rfl, trivial⟩ ?_
    refine wo_nil ?_
    refine wq_seq ?_
    refine wc_ret ?_
    cases h
    exact wq_block_ret (wq_then_ret (wq_ret rfl ⟨_, rfl, ⟨_, _, _, rfl, (slice_nil _ _ _), (int_is.2 rfl), (int_is.2 rfl)⟩, hF⟩))
  refine wc_known_false rfl hc8 ?_
  refine wc_skip ?_
  refine wq_block (wq_seq ?_)
  refine wc_seq ?_
  refine wc_region (l := [0]) rfl ?_
  refine wo_alloc Θ_ok rfl rfl rfl rfl rfl rfl ((List.replicate 8 (false : Bool)).map Value.bool) rfl hO (fun b9 w10 n11 => ?_)
  have h0 := h0.tr n11.tr
  have hb9 := n11.blk
  have gb9 := n11.ge0 hF
  have ib9 : b9 ∈ b9 :: O := List.mem_cons_self
  have hO := n11.ob
  have hF := hF.trans n11.fr
  have hS := Sub.cons hS b9
  have alb9 : (List.replicate 8 (false : Bool)).length = 8 := rfl
  refine wo_nil ?_
  refine wq_seq ?_
  refine wc_seq ?_
  refine wc_seq ?_
  refine wc_region (l := [0, 1, 2]) rfl ?_
  refine wo_seg Θ_ok [0, 1] [(0, v0), (1, (.int .u64 x1)), (2, (.int .u64 x2)), (9, (.pointer (some ⟨b9, 0, none⟩))), (23, v0), (24, (.int .u64 x1))] rfl ⟨rfl, rfl, rfl, rfl, rfl, rfl, trivial⟩ ?_
  refine wo_gives rfl rfl rfl rfl rfl ent29 rfl (d_of_c hO h0 (int_is.2 rfl)) (fun v12 w13 h14 f15 => ?_)
  have h0 := h0.tr f15.tr0
  have hb9 := hb9.fr0 f15
  have hO := f15.ob hO
  have hF := hF.trans f15
  refine wo_nil ?_
  refine wq_seq ?_
  refine wc_block ?_
  have hFed_Open_l1 := hF
  refine wc_rangeFunc rfl h14 hO rfl (fun k O20 W => ∃ (rest17 : List GDesc) (p16 : List Bool), (d_of x0 x1).drop k = rest17 ∧ Sub O O20 ∧ Fr [] w W ∧ b9 ∈ O20 ∧ Blk W b9 54 (p16.map Value.bool) ∧ p16.length = 8 ∧ d_Open_l1 x0 x1 x2 fuel rest17 p16 = some r) (fun c O2 W => False) (by rintro k O20 W W' hk ⟨rest17, p16, hd18, hS, hF, ib9, hb9, alb9, h⟩; exact ⟨rest17, p16, hd18, hS, hk.fr hF hFed_Open_l1.size, ib9, hb9.bk hk, alb9, h⟩) (by rintro k O20 W W' hk ⟨rest17, p16, hd18, hS, hF, ib9, hb9, alb9, h⟩; exact ⟨rest17, p16, hd18, hS, hF.trans hk, ib9, hb9.fr0 hk, alb9, h⟩) (fun _ _ _ _ _ h => h.elim) (fun _ _ _ _ _ h => h.elim) (fun O' W' T S B hk => ⟨(d_of x0 x1), (List.replicate 8 (false : Bool)), (by simp), Sub.trans hS S, hF.trans hk, S _ ib9, hb9.fr0 hk, alb9, h⟩) ?_ ?_ ?_
  · rintro D21 l22 k rec rec' z24 O20 w23 hz25 T19 hO grD21 grl22 irD21 irl22 nel22 hrl22 hrD21 ⟨rest17, p16, hd18, hS, hF, ib9, hb9, alb9, h⟩
    have T_ll22 := T19
    rw [drop_get hz25] at hd18
    subst hd18
    rw [d_Open_l1] at h
    have h0 := h0.tr T19
    have h14 := h14.tr T19
    have T26 := Tr.refl O20 w23
    refine wc_region (l := [0, 1]) rfl ?_
    refine wo_alloc Θ_ok rfl rfl rfl rfl rfl rfl [(.int .u64 0), (.int .i64 0), (.int .u64 0)] rfl hO (fun b27 w28 n29 => ?_)
    have h0 := h0.tr n29.tr
    have h14 := h14.tr n29.tr
    have T26 := T26.trans n29.tr
    have hrl22 := hrl22.fr0 n29.fr
    have hrD21 := hrD21.fr0 n29.fr
    have irl22 := List.mem_cons_of_mem b27 irl22
    have irD21 := List.mem_cons_of_mem b27 irD21
    have nb27b9 : b27 ≠ b9 := by have := hb9.lt; have := n29.ge; omega
    have hb9 := hb9.fr0 n29.fr
    have ib9 := List.mem_cons_of_mem b27 ib9
    have hb27 := n29.blk
    have gb27 := n29.ge0 hF
    have ib27 : b27 ∈ b27 :: O20 := List.mem_cons_self
    have hO := n29.ob
    have hF := hF.trans n29.fr
    have hS := Sub.cons hS b27
    have ehrl22 := hrl22.ne hb27
    have ehrD21 := hrD21.ne hb27
    refine wo_store Θ_ok rfl rfl rfl rfl rfl rfl rfl hb27 [(.int .u64 z24.fPid), (.int .i64 z24.fFd), (.int .u64 z24.fWhat)] rfl rfl (by simp [Value.oneCell']) rfl [(.int .u64 z24.fPid), (.int .i64 z24.fFd), (.int .u64 z24.fWhat)] rfl (fun w30 hb27 f31 => ?_)
    have h0 := h0.tr (f31.tr (one_in ib27))
    have h14 := h14.tr (f31.tr (one_in ib27))
    have T26 := T26.trans (f31.tr (one_in ib27))
    have hb9 := hb9.fr f31 (nin nb27b9.symm)
    have hrl22 := hrl22.keep f31 ehrl22
    have hrD21 := hrD21.keep f31 ehrD21
    have hO := f31.ob hO
    have hF := hF.own f31 gb27
    refine wo_nil ?_
    refine wq_begin (O2 := (b27 :: O20)) irl22 nel22 hrl22 grl22 hrD21 (fun w33 hk32 hrl22 hrD21 => ?_)
    have h0 := h0.tr hk32.tr
    have h14 := h14.tr hk32.tr
    have hb9 := hb9.bk hk32
    have hb27 := hb27.bk hk32
    have T26 := T26.trans hk32.tr
    have hF := hk32.fr hF hFed_Open_l1.size
    have hO := hk32.ob hO
    refine wc_block ?_
    refine wc_region (l := [0, 1, 2, 3]) rfl ?_
    refine wo_seg Θ_ok [0] [(0, v0), (1, (.int .u64 x1)), (2, (.int .u64 x2)), (9, (.pointer (some ⟨b9, 0, none⟩))), (25, v12), (27, (.pointer (some ⟨b27, 1, none⟩)))] rfl ⟨rfl, rfl, rfl, rfl, rfl, rfl, trivial⟩ ?_
    refine wo_load Θ_ok rfl rfl rfl rfl rfl rfl rfl hb27 [(.int .i64 z24.fFd)] rfl rfl (.inr rfl) (.int .i64 z24.fFd) rfl ?_
    obtain ⟨y34, hz35, h⟩ := bind_some h
    have al_hz35 := alb9
    have hl_hz35 := (List.getElem?_eq_some_iff.1 (idx_some hz35).2).1
    refine wo_aindex Θ_ok rfl rfl rfl rfl rfl rfl rfl rfl rfl rfl rfl alb9 hz35 ?_
    have ehrl22 := hrl22.ne hb9
    have ehrD21 := hrD21.ne hb9
    refine wo_astore Θ_ok rfl rfl rfl rfl rfl rfl rfl (f := Value.bool) (u := true) rfl rfl rfl hb9 (Nat.lt_of_lt_of_eq hl_hz35 (al_hz35.trans alb9.symm)) (fun w36 hb9 f37 => ?_)
    have alb9 : (p16.set (z24.fFd).toNat true).length = 8 := by rw [List.length_set]; exact alb9
    have h0 := h0.tr (f37.tr (one_in ib9))
    have h14 := h14.tr (f37.tr (one_in ib9))
    have T26 := T26.trans (f37.tr (one_in ib9))
    have hrl22 := hrl22.keep f37 ehrl22
    have hrD21 := hrD21.keep f37 ehrD21
    have hO := f37.ob hO
    have hF := hF.own f37 gb9
    refine wo_nil ?_
    exact wq_block (wq_round T26 hO irD21 irl22 hrl22 hrD21 ⟨((d_of x0 x1).drop (k + 1)), (p16.set (z24.fFd).toNat true), rfl, hS, hF, ib9, hb9, alb9, h⟩)
  · rintro D38 O20 w39 grD38 T19 hO irD38 hrD38 ⟨rest17, p16, hd18, hS, hF, ib9, hb9, alb9, h⟩
    rw [List.drop_length] at hd18
    subst hd18
    rw [d_Open_l1] at h
    have grD38 := Nat.le_trans hFed_Open_l1.size grD38
    have h0 := h0.tr T19
    have h14 := h14.tr T19
    refine wq_block (wq_seq ?_)
    refine wc_seq ?_
    refine wc_region (l := [0, 1, 2]) rfl ?_
    refine wo_aslice (O := O20) Θ_ok rfl rfl rfl rfl rfl rfl rfl rfl rfl (T := Ty.bool) (f := Value.bool) rfl alb9 (fun _ _ _ => rfl) hb9 rfl (fun v40 h41 => ?_)
    have h0 := h0.tr (rel_tr b9 O20 w39)
    have h14 := h14.tr (rel_tr b9 O20 w39)
    have irD38 := rel_in irD38 (hrD38.ne hb9)
    have hO := rel_ob (b := b9) hO
    have hS := rel_sub hS hO0 gb9
    refine wo_gives rfl rfl rfl rfl rfl ent30 rfl (s_Index_c hO h41 (bool_is.2 rfl)) (fun v42 w43 h44 f45 => ?_)
    have h0 := h0.tr f45.tr0
    have hrD38 := hrD38.fr0 f45
    have hO := f45.ob hO
    have hF := hF.trans f45
    obtain rfl := int_is.1 h44
    refine wo_seg Θ_ok [2] [(0, v0), (1, (.int .u64 x1)), (2, (.int .u64 x2)), (11, (.int .i64 (s_Index p16 false)))] rfl ⟨rfl, rfl, rfl, rfl, trivial⟩ ?_
    refine wo_nil ?_
    refine wq_seq ?_
    refine wc_seq ?_
    refine wc_seq ?_
    refine wc_region (l := [0, 1, 2, 3, 4, 5, 6]) rfl ?_
    refine wo_seg Θ_ok [0, 1, 2] [(0, v0), (1, (.int .u64 x1)), (2, (.int .u64 x2)), (11, (.int .i64 (s_Index p16 false))), (34, (.bool (decide ((s_Index p16 false) < (0 : Int)))))] rfl ⟨rfl, rfl, rfl, rfl, rfl, trivial⟩ ?_
    rcases bif_some h with ⟨hc46, h⟩ | ⟨hc46, h⟩
    · refine wo_know 34 true rfl hc46 ?_
      refine wo_seg Θ_ok [3, 4, 5, 6] [(0, v0), (1, (.int .u64 x1)), (2, (.int .u64 x2)), (11, (.int .i64 (s_Index p16 false))), (38, (.bool true))] rfl ⟨rfl, rfl, rfl, rfl, rfl, trivial⟩ ?_
      refine wo_nil ?_
      refine wq_seq ?_
      refine wc_true rfl ?_
      refine wc_seq ?_
      refine wc_region (l := [0, 1, 2]) rfl ?_
      refine wo_seg Θ_ok [0, 1, 2] [(6, (.slice none 0 0)), (7, (.int .i64 0)), (8, (.int .i64 6))] rfl ⟨rfl, rfl, rfl, trivial⟩ ?_
      refine wo_nil ?_
      refine wq_seq ?_
      refine wc_ret ?_
      refine wq_then_ret (wq_mark_ret (n0 := w.heap.size) hrD38 irD38 grD38 (fun w48 hk47 => ?_))
      have hF := hk47.fr hF (Nat.le_refl _)
      have hO := hk47.ob hO
      cases h
      exact wq_ret rfl ⟨_, rfl, ⟨_, _, _, rfl, (slice_nil _ _ _), (int_is.2 rfl), (int_is.2 rfl)⟩, hF⟩
    refine wo_know 34 false rfl hc46 ?_
    refine wo_seg Θ_ok [3] [(0, v0), (1, (.int .u64 x1)), (2, (.int .u64 x2)), (11, (.int .i64 (s_Index p16 false))), (34, (.bool false)), (35, v0)] rfl ⟨rfl, rfl, rfl, rfl, rfl, rfl, trivial⟩ ?_
    obtain ⟨A49, c50, rfl, hlc50, hmc50⟩ := slice_form h0
    refine wo_seg Θ_ok [4] [(0, (.slice A49 x0.length c50)), (1, (.int .u64 x1)), (2, (.int .u64 x2)), (11, (.int .i64 (s_Index p16 false))), (34, (.bool false)), (36, (.int .i64 (x0.length : Int)))] rfl ⟨rfl, rfl, rfl, rfl, rfl, rfl, trivial⟩ ?_
    refine wo_seg Θ_ok [5, 6] [(0, (.slice A49 x0.length c50)), (1, (.int .u64 x1)), (2, (.int .u64 x2)), (11, (.int .i64 (s_Index p16 false))), (38, (.bool ((x0.length : Int) == (64 : Int))))] rfl ⟨rfl, rfl, rfl, rfl, rfl, trivial⟩ ?_
    refine wo_nil ?_
    refine wq_seq ?_
    rcases bif_some h with ⟨hc51, h⟩ | ⟨hc51, h⟩
    · refine wc_known_true rfl hc51 ?_
      refine wc_seq ?_
      refine wc_region (l := [0, 1, 2]) rfl ?_
      refine wo_seg Θ_ok [0, 1, 2] [(6, (.slice none 0 0)), (7, (.int .i64 0)), (8, (.int .i64 6))] rfl ⟨rfl, rfl, rfl, trivial⟩ ?_
      refine wo_nil ?_
      refine wq_seq ?_
      refine wc_ret ?_
      refine wq_then_ret (wq_mark_ret (n0 := w.heap.size) hrD38 irD38 grD38 (fun w53 hk52 => ?_))
      have hF := hk52.fr hF (Nat.le_refl _)
      have hO := hk52.ob hO
      cases h
      exact wq_ret rfl ⟨_, rfl, ⟨_, _, _, rfl, (slice_nil _ _ _), (int_is.2 rfl), (int_is.2 rfl)⟩, hF⟩
    refine wc_known_false rfl hc51 ?_
    refine wc_skip ?_
    refine wq_seq ?_
    refine wc_seq ?_
    refine wc_region (l := [0, 1, 2, 3]) rfl ?_
    refine wo_seg Θ_ok [0, 1] [(0, (.slice A49 x0.length c50)), (1, (.int .u64 x1)), (2, (.int .u64 x2)), (11, (.int .i64 (s_Index p16 false))), (40, (.int .i64 (x0.length : Int)))] rfl ⟨rfl, rfl, rfl, rfl, rfl, trivial⟩ ?_
    obtain ⟨z54, hz55, h⟩ := bind_some h
    refine wo_make Θ_ok rfl rfl rfl rfl rfl rfl rfl rfl rfl rfl (T := tGDesc) (z := (GDesc.mk (0 : Int) (0 : Int) (0 : Int))) rfl rfl (rep_cells (v := (.agg #[(.int .u64 0), (.int .i64 0), (.int .u64 0)])) ((tGDesc_is (x := (GDesc.mk (0 : Int) (0 : Int) (0 : Int)))).2 rfl)) hO hF.size hz55 (fun b56 w57 v58 n59 h60 hv61 => ?_)
    obtain ⟨_, n59⟩ := n59
    have h0 := h0.tr n59.tr
    have hrD38 := hrD38.fr0 n59.fr
    have irD38 := List.mem_cons_of_mem b56 irD38
    have hO := n59.ob
    have hF := hF.trans n59.fr
    have hS := Sub.cons hS b56
    refine wo_seg Θ_ok [3] [(0, (.slice A49 x0.length c50)), (1, (.int .u64 x1)), (2, (.int .u64 x2)), (11, (.int .i64 (s_Index p16 false))), (12, v58)] rfl ⟨rfl, rfl, rfl, rfl, rfl, trivial⟩ ?_
    refine wo_nil ?_
    refine wq_seq ?_
    refine wc_seq ?_
    refine wc_region (l := [0, 1, 2]) rfl ?_
    refine wo_seg Θ_ok [0, 1] [(1, (.int .u64 x1)), (2, (.int .u64 x2)), (11, (.int .i64 (s_Index p16 false))), (12, v58), (42, v58), (43, (.slice A49 x0.length c50))] rfl ⟨rfl, rfl, rfl, rfl, rfl, rfl, trivial⟩ ?_
    refine wo_copy Θ_ok rfl rfl rfl rfl rfl rfl rfl rfl rfl rfl rfl hO h60 h0 (fun w62 ap63 => ?_)
    have hrD38 := hrD38.app ap63 h60
    have irD38 := ap63.sub _ irD38
    have hF := ap63.fr0 h60 hF
    have hS := Sub.trans hS ap63.sub
    have hO := ap63.ob
    have h64 := ap63.own
    refine wo_nil ?_
    refine wq_seq ?_
    refine wc_seq ?_
    refine wc_region (l := [0, 1, 2, 3, 4, 5]) rfl ?_
    refine wo_seg Θ_ok [0, 1, 2, 3] [(11, (.int .i64 (s_Index p16 false))), (12, v58), (48, (.agg #[(.int .u64 x1), (.int .i64 (s_Index p16 false)), (.int .u64 x2)]))] rfl ⟨rfl, rfl, rfl, trivial⟩ ?_
    refine wo_alloc Θ_ok rfl rfl rfl rfl rfl rfl [(.int .u64 0), (.int .i64 0), (.int .u64 0)] rfl hO (fun b65 w66 n67 => ?_)
    have qh64b65 := h64.ne_new n67
    have h64 := h64.new n67
    have hrD38 := hrD38.fr0 n67.fr
    have irD38 := List.mem_cons_of_mem b65 irD38
    have hb65 := n67.blk
    have gb65 := n67.ge0 hF
    have ib65 : b65 ∈ b65 :: (b56 :: rel b9 O20) := List.mem_cons_self
    have hO := n67.ob
    have hF := hF.trans n67.fr
    have hS := Sub.cons hS b65
    have ehrD38 := hrD38.ne hb65
    refine wo_store Θ_ok rfl rfl rfl rfl rfl rfl rfl hb65 [(.int .u64 x1), (.int .i64 (s_Index p16 false)), (.int .u64 x2)] rfl rfl (by simp [Value.oneCell']) rfl [(.int .u64 x1), (.int .i64 (s_Index p16 false)), (.int .u64 x2)] rfl (fun w68 hb65 f69 => ?_)
    have h64 := h64.st f69 ib65 qh64b65
    have hrD38 := hrD38.keep f69 ehrD38
    have hO := f69.ob hO
    have hF := hF.own f69 gb65
    refine wo_nil ?_
    refine wq_seq ?_
    refine wc_seq ?_
    refine wc_region (l := [0, 1, 2, 3, 4, 5, 6, 7]) rfl ?_
    refine wo_seg Θ_ok [0] [(11, (.int .i64 (s_Index p16 false))), (12, v58), (13, (.pointer (some ⟨b65, 0, none⟩))), (50, v58)] rfl ⟨rfl, rfl, rfl, rfl, trivial⟩ ?_
    refine wo_load Θ_ok rfl rfl rfl rfl rfl rfl rfl hb65 [(.int .u64 x1), (.int .i64 (s_Index p16 false)), (.int .u64 x2)] rfl rfl (.inl rfl) (.agg #[(.int .u64 x1), (.int .i64 (s_Index p16 false)), (.int .u64 x2)]) rfl ?_
    have h70 := h64.give
    obtain ⟨y75, hy76, h⟩ := bind_some h
    refine wo_gives rfl rfl rfl rfl rfl ent31 rfl (s_BinarySearchFunc_c (relv_ob (v := v58) hO) h70 ((tGDesc_is (x := (GDesc.mk x1 (s_Index p16 false) x2))).2 rfl) (fn2_is (first := []) (cap := []) ent26 (fun O' w' ht hO u0 z0 q0 u1 z1 q1 y hy => by cases hy; exact d_compare_c hO q0 q1)) hy76) (fun v71 w72 h73 f74 => ?_)
    have hb65 := hb65.fr0 f74
    have h64 := h64.fr0 f74
    have hrD38 := hrD38.fr0 f74
    have hO := f74.ob hO
    have hF := hF.trans f74
    obtain ⟨u77, u79, rfl, h78, h80⟩ := h73
    obtain rfl := int_is.1 h78
    obtain rfl := bool_is.1 h80
    refine wo_seg Θ_ok [3, 4, 5, 6, 7] [(11, (.int .i64 (s_Index p16 false))), (12, v58), (13, (.pointer (some ⟨b65, 0, none⟩))), (14, (.int .i64 y75.1))] rfl ⟨rfl, rfl, rfl, rfl, trivial⟩ ?_
    refine wo_nil ?_
    refine wq_seq ?_
    refine wc_seq ?_
    refine wc_region (l := [0, 1, 2, 3, 4, 5, 6, 7, 8]) rfl ?_
    refine wo_seg Θ_ok [0, 1] [(11, (.int .i64 (s_Index p16 false))), (13, (.pointer (some ⟨b65, 0, none⟩))), (55, v58), (56, (.int .i64 y75.1))] rfl ⟨rfl, rfl, rfl, rfl, trivial⟩ ?_
    refine wo_load Θ_ok rfl rfl rfl rfl rfl rfl rfl hb65 [(.int .u64 x1), (.int .i64 (s_Index p16 false)), (.int .u64 x2)] rfl rfl (.inl rfl) (.agg #[(.int .u64 x1), (.int .i64 (s_Index p16 false)), (.int .u64 x2)]) rfl ?_
    refine wo_lit Θ_ok rfl rfl rfl rfl rfl rfl rfl rfl rfl rfl (T := tGDesc) (xs := ([(GDesc.mk x1 (s_Index p16 false) x2)] : List GDesc)) (vs := [(.agg #[(.int .u64 x1), (.int .i64 (s_Index p16 false)), (.int .u64 x2)])]) rfl ⟨((tGDesc_is (x := (GDesc.mk x1 (s_Index p16 false) x2))).2 rfl), trivial⟩ rfl rfl rfl hO (fun b81 w82 q83 => ?_)
    obtain ⟨_, nq83, _⟩ := q83.new
    have h84 := q83.own hF.size
    have djh64h84 := h64.dj_lit nq83 1 1
    have h64 := h64.new nq83
    have hrD38 := hrD38.fr0 nq83.fr
    have irD38 := List.mem_cons_of_mem b81 irD38
    have hO := nq83.ob
    have hF := hF.trans nq83.fr
    have hS := Sub.cons hS b81
    generalize (Value.slice (some ⟨b81, 0, none⟩) 1 1) = v85 at *
    have pl86 := h84.plain
    have h84g := h84.give
    have hS := relv_sub h84 hS hO0
    have irD38 := relv_in irD38 (hrD38.ne_own h84)
    have h64 := h64.relv djh64h84
    have hO := relv_ob (v := v85) hO
    obtain ⟨z87, hz88, h⟩ := bind_some h
    refine wo_ownc rfl rfl rfl rfl rfl ent32 rfl (insDesc_c hO hF.size h64 (int_is.2 rfl) h84g pl86 hz88) (fun v89 w90 O91 ap92 => ?_)
    have hrD38 := hrD38.app ap92 h64
    have irD38 := ap92.sub _ irD38
    have hF := ap92.fr0 h64 hF
    have hS := Sub.trans hS ap92.sub
    have hO := ap92.ob
    have h93 := ap92.own
    refine wo_seg Θ_ok [5, 6, 7, 8] [(6, v89), (7, (.int .i64 (s_Index p16 false))), (8, (.int .i64 0))] rfl ⟨rfl, rfl, rfl, trivial⟩ ?_
    refine wo_nil ?_
    refine wq_seq ?_
    refine wc_ret ?_
    refine wq_mark_ret (n0 := w.heap.size) hrD38 irD38 grD38 (fun w95 hk94 => ?_)
    have h93 := h93.bk hk94
    have hF := hk94.fr hF (Nat.le_refl _)
    have hO := hk94.ob hO
    cases h
    exact wq_ret rfl ⟨_, rfl, ⟨_, _, _, rfl, (h93.share0 hS hO0), (int_is.2 rfl), (int_is.2 rfl)⟩, hF⟩
  · intro _ _ _ _ _ _ _ _ hz
    exact hz.elim
set_option maxRecDepth 100000 in
set_option maxHeartbeats 4000000 in
theorem d_Dup_c {O : List Nat} {w : World} (hO : OB O w) {fuel : Nat} {v0 : Value} {x0 : List GDesc} (h0 : (Ty.slice tGDesc).is O w v0 x0) {v1 : Value} {x1 : Int} (h1 : (Ty.int .u64).is O w v1 x1) {v2 : Value} {x2 : Int} (h2 : (Ty.int .i64).is O w v2 x2) {r : (List GDesc) × Int × Int} (h : d_Dup fuel x0 x1 x2 = some r) : Calls Tryd.prog 11 #[v0, v1, v2] w (Gives (rt3 (Ty.slice tGDesc) (Ty.int .i64) (Ty.int .i64)) O w r) := by
  obtain rfl := int_is.1 h1
  obtain rfl := int_is.1 h2
  have hF := Fr.refl [] w
  have hO0 := hO
  have hS := Sub.refl O
  refine calls_of (args := [v0, (.int .u64 x1), (.int .i64 x2)]) (N := 34) Tryd.func11 rfl rfl rfl ?_
  unfold d_Dup at h
  refine wc_seq ?_
  refine wc_region (l := [0, 1, 2]) rfl ?_
  refine wo_seg Θ_ok [0, 1, 2] [(0, v0), (1, (.int .u64 x1)), (2, (.int .i64 x2))] rfl ⟨rfl, rfl, rfl, trivial⟩ ?_
  refine wo_nil ?_
  refine wq_seq ?_
  refine wc_seq ?_
  refine wc_block ?_
  refine wc_seq ?_
  refine wc_region (l := [0, 1, 2, 3]) rfl ?_
  refine wo_seg Θ_ok [0] [(0, v0), (1, (.int .u64 x1)), (2, (.int .i64 x2)), (12, v0)] rfl ⟨rfl, rfl, rfl, rfl, trivial⟩ ?_
  obtain ⟨y5, hy6, h⟩ := bind_some h
  refine wo_gives rfl rfl rfl rfl rfl ent8 rfl (d_Check_c hO h0 hy6) (fun v1 w2 h3 f4 => ?_)
  have h0 := h0.tr f4.tr0
  have hO := f4.ob hO
  have hF := hF.trans f4
  obtain rfl := int_is.1 h3
  refine wo_seg Θ_ok [2, 3] [(0, v0), (1, (.int .u64 x1)), (2, (.int .i64 x2)), (11, (.bool (y5 != (0 : Int))))] rfl ⟨rfl, rfl, rfl, rfl, trivial⟩ ?_
  refine wo_nil ?_
  refine wq_seq ?_
  rcases bif_some h with ⟨hc7, h⟩ | ⟨hc7, h⟩
  · refine wc_known_true rfl hc7 ?_
    refine wc_seq ?_
    refine wc_region (l := [0, 1, 2]) rfl ?_
    refine wo_seg Θ_ok [0, 1, 2] [(6, (.slice none 0 0)), (7, (.int .i64 0)), (8, (.int .i64 330))] rfl ⟨rfl, rfl, rfl, trivial⟩ ?_
    refine wo_nil ?_
    refine wq_seq ?_
    refine wc_ret ?_
    cases h
    exact wq_block_ret (wq_then_ret (wq_ret rfl ⟨_, rfl, ⟨_, _, _, rfl, (slice_nil _ _ _), (int_is.2 rfl), (int_is.2 rfl)⟩, hF⟩))
  refine wc_known_false rfl hc7 ?_
  refine wc_seq ?_
  refine wc_region (l := [0, 1, 2]) rfl ?_
  refine wo_seg Θ_ok [0, 1, 2] [(0, v0), (1, (.int .u64 x1)), (2, (.int .i64 x2)), (15, (.bool (decide (x1 ≥ (4294967296 : Int)))))] rfl ⟨rfl, rfl, rfl, rfl, trivial⟩ ?_
  refine wo_nil ?_
  refine wq_seq ?_
  rcases bif_some h with ⟨hc8, h⟩ | ⟨hc8, h⟩
  · refine wc_known_true rfl hc8 ?_
    refine wc_seq ?_
    refine wc_region (l := [0, 1, 2]) rfl ?_
    refine wo_seg Θ_ok [0, 1, 2] [(6, (.slice none 0 0)), (7, (.int .i64 0)), (8, (.int .i64 2))] rfl ⟨rfl, rfl, rfl, trivial⟩ ?_
    refine wo_nil ?_
    refine wq_seq ?_
    refine wc_ret ?_
    cases h
    exact wq_block_ret (wq_then_ret (wq_ret rfl ⟨_, rfl, ⟨_, _, _, rfl, (slice_nil _ _ _), (int_is.2 rfl), (int_is.2 rfl)⟩, hF⟩))
  refine wc_known_false rfl hc8 ?_
  refine wc_skip ?_
  refine wq_block (wq_seq ?_)
  refine wc_seq ?_
  refine wc_region (l := [0, 1, 2, 3, 4, 5, 6, 7, 8]) rfl ?_
  refine wo_seg Θ_ok [0, 1, 2] [(0, v0), (1, (.int .u64 x1)), (19, v0), (20, (.int .u64 x1)), (21, (.int .i64 x2))] rfl ⟨rfl, rfl, rfl, rfl, rfl, trivial⟩ ?_
  obtain ⟨y13, hy14, h⟩ := bind_some h
  refine wo_gives rfl rfl rfl rfl rfl ent15 rfl (d_Has_c hO h0 (int_is.2 rfl) (int_is.2 rfl) hy14) (fun v9 w10 h11 f12 => ?_)
  have h0 := h0.tr f12.tr0
  have hO := f12.ob hO
  have hF := hF.trans f12
  obtain ⟨u15, u17, rfl, h16, h18⟩ := h11
  obtain rfl := int_is.1 h16
  obtain rfl := bool_is.1 h18
  refine wo_seg Θ_ok [4, 5, 6, 7, 8] [(0, v0), (1, (.int .u64 x1)), (9, (.int .u64 y13.1)), (10, (.bool y13.2))] rfl ⟨rfl, rfl, rfl, rfl, trivial⟩ ?_
  refine wo_nil ?_
  refine wq_seq ?_
  refine wc_seq ?_
  refine wc_seq ?_
  refine wc_region (l := [0, 1]) rfl ?_
  refine wo_seg Θ_ok [0, 1] [(0, v0), (1, (.int .u64 x1)), (9, (.int .u64 y13.1)), (26, (.bool (!y13.2)))] rfl ⟨rfl, rfl, rfl, rfl, trivial⟩ ?_
  refine wo_nil ?_
  refine wq_seq ?_
  rcases bif_some h with ⟨hc19, h⟩ | ⟨hc19, h⟩
  · refine wc_known_true rfl hc19 ?_
    refine wc_seq ?_
    refine wc_region (l := [0, 1, 2]) rfl ?_
    refine wo_seg Θ_ok [0, 1, 2] [(6, (.slice none 0 0)), (7, (.int .i64 0)), (8, (.int .i64 4))] rfl ⟨rfl, rfl, rfl, trivial⟩ ?_
    refine wo_nil ?_
    refine wq_seq ?_
    refine wc_ret ?_
    cases h
    exact wq_then_ret (wq_ret rfl ⟨_, rfl, ⟨_, _, _, rfl, (slice_nil _ _ _), (int_is.2 rfl), (int_is.2 rfl)⟩, hF⟩)
  refine wc_known_false rfl hc19 ?_
  refine wc_skip ?_
  refine wq_seq ?_
  refine wc_seq ?_
  refine wc_region (l := [0, 1, 2, 3, 4, 5, 6, 7, 8, 9]) rfl ?_
  refine wo_seg Θ_ok [0, 1, 2] [(27, v0), (28, (.int .u64 x1)), (29, (.int .u64 y13.1))] rfl ⟨rfl, rfl, rfl, trivial⟩ ?_
  obtain ⟨y24, hy25, h⟩ := bind_some h
  refine wo_gives rfl rfl rfl rfl rfl ent10 rfl (d_Open_c hO h0 (int_is.2 rfl) (int_is.2 rfl) hy25) (fun v20 w21 h22 f23 => ?_)
  have hO := f23.ob hO
  have hF := hF.trans f23
  obtain ⟨u26, u28, u30, rfl, h27, h29, h31⟩ := h22
  obtain rfl := int_is.1 h29
  obtain rfl := int_is.1 h31
  refine wo_seg Θ_ok [4, 5, 6, 7, 8, 9] [(6, u26), (7, (.int .i64 y24.2.1)), (8, (.int .i64 y24.2.2))] rfl ⟨rfl, rfl, rfl, trivial⟩ ?_
  refine wo_nil ?_
  refine wq_seq ?_
  refine wc_ret ?_
  cases h
  exact wq_ret rfl ⟨_, rfl, ⟨_, _, _, rfl, (h27.tr (Tr.less hS)), (int_is.2 rfl), (int_is.2 rfl)⟩, hF⟩
set_option maxRecDepth 100000 in
set_option maxHeartbeats 4000000 in
theorem wakes_c {O : List Nat} {w : World} (hO : OB O w) {fuel : Nat} (hg0 : (Ty.ptr (Ty.slice tGField)).is O w (.pointer (some ⟨0, 0, none⟩)) g_parts) {r : Bool} (h : wakes fuel = some r) : Calls Tryd.prog 6 #[] w (Gives (rt1 Ty.bool) O w r) := by
  have hF := Fr.refl [] w
  have hO0 := hO
  have hS := Sub.refl O
  refine calls_of (args := []) (N := 124) Tryd.func6 rfl rfl rfl ?_
  unfold wakes at h
  refine wc_seq ?_
  refine wc_region (l := [0]) rfl ?_
  refine wo_seg Θ_ok [0] [] rfl trivial ?_
  refine wo_nil ?_
  refine wq_seq ?_
  refine wc_seq ?_
  refine wc_region (l := [0, 1, 2, 3, 4, 5, 6, 7]) rfl ?_
  obtain ⟨y5, hy6, h⟩ := bind_some h
  refine wo_gives rfl rfl rfl rfl rfl ent10 rfl (d_Open_c hO (slice_nil _ _ _) (int_is.2 rfl) (int_is.2 rfl) hy6) (fun v1 w2 h3 f4 => ?_)
  have hg0 := hg0.tr f4.tr0
  have hO := f4.ob hO
  have hF := hF.trans f4
  obtain ⟨u7, u9, u11, rfl, h8, h10, h12⟩ := h3
  obtain rfl := int_is.1 h10
  obtain rfl := int_is.1 h12
  refine wo_seg Θ_ok [1, 2, 3, 4, 5, 6, 7] [(1, u7), (2, (.int .i64 y5.2.1)), (3, (.int .i64 y5.2.2))] rfl ⟨rfl, rfl, rfl, trivial⟩ ?_
  refine wo_nil ?_
  refine wq_seq ?_
  refine wc_seq ?_
  refine wc_region (l := [0, 1, 2, 3, 4, 5, 6, 7, 8]) rfl ?_
  refine wo_seg Θ_ok [0] [(2, (.int .i64 y5.2.1)), (3, (.int .i64 y5.2.2)), (24, u7)] rfl ⟨rfl, rfl, rfl, trivial⟩ ?_
  obtain ⟨y17, hy18, h⟩ := bind_some h
  refine wo_gives rfl rfl rfl rfl rfl ent10 rfl (d_Open_c hO h8 (int_is.2 rfl) (int_is.2 rfl) hy18) (fun v13 w14 h15 f16 => ?_)
  have hg0 := hg0.tr f16.tr0
  have hO := f16.ob hO
  have hF := hF.trans f16
  obtain ⟨u19, u21, u23, rfl, h20, h22, h24⟩ := h15
  obtain rfl := int_is.1 h22
  obtain rfl := int_is.1 h24
  refine wo_seg Θ_ok [2, 3, 4, 5, 6, 7, 8] [(1, u19), (2, (.int .i64 y5.2.1)), (3, (.int .i64 y5.2.2)), (4, (.int .i64 y17.2.1)), (5, (.int .i64 y17.2.2))] rfl ⟨rfl, rfl, rfl, rfl, rfl, trivial⟩ ?_
  refine wo_nil ?_
  refine wq_seq ?_
  refine wc_seq ?_
  refine wc_region (l := [0, 1, 2, 3, 4, 5, 6, 7, 8]) rfl ?_
  refine wo_seg Θ_ok [0] [(2, (.int .i64 y5.2.1)), (3, (.int .i64 y5.2.2)), (4, (.int .i64 y17.2.1)), (5, (.int .i64 y17.2.2)), (30, u19)] rfl ⟨rfl, rfl, rfl, rfl, rfl, trivial⟩ ?_
  obtain ⟨y29, hy30, h⟩ := bind_some h
  refine wo_gives rfl rfl rfl rfl rfl ent10 rfl (d_Open_c hO h20 (int_is.2 rfl) (int_is.2 rfl) hy30) (fun v25 w26 h27 f28 => ?_)
  have hg0 := hg0.tr f28.tr0
  have hO := f28.ob hO
  have hF := hF.trans f28
  obtain ⟨u31, u33, u35, rfl, h32, h34, h36⟩ := h27
  obtain rfl := int_is.1 h34
  obtain rfl := int_is.1 h36
  refine wo_seg Θ_ok [2, 3, 4, 5, 6, 7, 8] [(1, u31), (2, (.int .i64 y5.2.1)), (3, (.int .i64 y5.2.2)), (4, (.int .i64 y17.2.1)), (5, (.int .i64 y17.2.2)), (6, (.int .i64 y29.2.1)), (7, (.int .i64 y29.2.2))] rfl ⟨rfl, rfl, rfl, rfl, rfl, rfl, rfl, trivial⟩ ?_
  refine wo_nil ?_
  refine wq_seq ?_
  refine wc_seq ?_
  refine wc_region (l := [0, 1, 2, 3, 4, 5, 6, 7]) rfl ?_
  refine wo_seg Θ_ok [0] [(2, (.int .i64 y5.2.1)), (3, (.int .i64 y5.2.2)), (4, (.int .i64 y17.2.1)), (5, (.int .i64 y17.2.2)), (6, (.int .i64 y29.2.1)), (7, (.int .i64 y29.2.2)), (36, u31)] rfl ⟨rfl, rfl, rfl, rfl, rfl, rfl, rfl, trivial⟩ ?_
  refine wo_litd Θ_ok rfl rfl rfl rfl rfl rfl rfl rfl rfl rfl (T := (Ty.int .i64)) (xs := [(0 : Int)]) (vs := [(.int .i64 0)]) rfl ⟨(int_is.2 rfl), trivial⟩ rfl rfl rfl hO (fun v37 w38 h39 f40 => ?_)
  have h32 := h32.tr f40.tr0
  have hg0 := hg0.tr f40.tr0
  have hO := f40.ob hO
  have hF := hF.trans f40
  obtain ⟨y45, hy46, h⟩ := bind_some h
  refine wo_gives rfl rfl rfl rfl rfl ent12 rfl (d_Close_c hO h32 (int_is.2 rfl) h39 hy46) (fun v41 w42 h43 f44 => ?_)
  have hg0 := hg0.tr f44.tr0
  have hO := f44.ob hO
  have hF := hF.trans f44
  obtain ⟨u47, u49, rfl, h48, h50⟩ := h43
  obtain rfl := int_is.1 h50
  refine wo_seg Θ_ok [3, 4, 5, 6, 7] [(1, u47), (2, (.int .i64 y5.2.1)), (3, (.int .i64 y5.2.2)), (4, (.int .i64 y17.2.1)), (5, (.int .i64 y17.2.2)), (6, (.int .i64 y29.2.1)), (7, (.int .i64 y29.2.2)), (8, (.int .i64 y45.2))] rfl ⟨rfl, rfl, rfl, rfl, rfl, rfl, rfl, rfl, trivial⟩ ?_
  refine wo_nil ?_
  refine wq_seq ?_
  refine wc_seq ?_
  refine wc_region (l := [0, 1, 2, 3, 4, 5, 6, 7, 8]) rfl ?_
  refine wo_seg Θ_ok [0] [(2, (.int .i64 y5.2.1)), (3, (.int .i64 y5.2.2)), (4, (.int .i64 y17.2.1)), (5, (.int .i64 y17.2.2)), (6, (.int .i64 y29.2.1)), (7, (.int .i64 y29.2.2)), (8, (.int .i64 y45.2)), (42, u47)] rfl ⟨rfl, rfl, rfl, rfl, rfl, rfl, rfl, rfl, trivial⟩ ?_
  obtain ⟨y55, hy56, h⟩ := bind_some h
  refine wo_gives rfl rfl rfl rfl rfl ent11 rfl (d_Dup_c hO h48 (int_is.2 rfl) (int_is.2 rfl) hy56) (fun v51 w52 h53 f54 => ?_)
  have hg0 := hg0.tr f54.tr0
  have hO := f54.ob hO
  have hF := hF.trans f54
  obtain ⟨u57, u59, u61, rfl, h58, h60, h62⟩ := h53
  obtain rfl := int_is.1 h60
  obtain rfl := int_is.1 h62
  refine wo_seg Θ_ok [2, 3, 4, 5, 6, 7, 8] [(1, u57), (2, (.int .i64 y5.2.1)), (3, (.int .i64 y5.2.2)), (4, (.int .i64 y17.2.1)), (5, (.int .i64 y17.2.2)), (6, (.int .i64 y29.2.1)), (7, (.int .i64 y29.2.2)), (8, (.int .i64 y45.2)), (9, (.int .i64 y55.2.1)), (10, (.int .i64 y55.2.2))] rfl ⟨rfl, rfl, rfl, rfl, rfl, rfl, rfl, rfl, rfl, rfl, trivial⟩ ?_
  refine wo_nil ?_
  refine wq_seq ?_
  refine wc_seq ?_
  refine wc_region (l := [0, 1, 2, 3, 4, 5, 6, 7, 8]) rfl ?_
  refine wo_seg Θ_ok [0] [(1, u57), (2, (.int .i64 y5.2.1)), (3, (.int .i64 y5.2.2)), (4, (.int .i64 y17.2.1)), (5, (.int .i64 y17.2.2)), (6, (.int .i64 y29.2.1)), (7, (.int .i64 y29.2.2)), (8, (.int .i64 y45.2)), (9, (.int .i64 y55.2.1)), (10, (.int .i64 y55.2.2)), (48, u57)] rfl ⟨rfl, rfl, rfl, rfl, rfl, rfl, rfl, rfl, rfl, rfl, rfl, trivial⟩ ?_
  obtain ⟨y67, hy68, h⟩ := bind_some h
  refine wo_gives rfl rfl rfl rfl rfl ent11 rfl (d_Dup_c hO h58 (int_is.2 rfl) (int_is.2 rfl) hy68) (fun v63 w64 h65 f66 => ?_)
  have h58 := h58.tr f66.tr0
  have hg0 := hg0.tr f66.tr0
  have hO := f66.ob hO
  have hF := hF.trans f66
  obtain ⟨u69, u71, u73, rfl, h70, h72, h74⟩ := h65
  obtain rfl := int_is.1 h72
  obtain rfl := int_is.1 h74
  refine wo_seg Θ_ok [2, 3, 4, 5, 6, 7, 8] [(1, u57), (2, (.int .i64 y5.2.1)), (3, (.int .i64 y5.2.2)), (4, (.int .i64 y17.2.1)), (5, (.int .i64 y17.2.2)), (6, (.int .i64 y29.2.1)), (7, (.int .i64 y29.2.2)), (8, (.int .i64 y45.2)), (9, (.int .i64 y55.2.1)), (10, (.int .i64 y55.2.2)), (13, (.int .i64 y67.2.2))] rfl ⟨rfl, rfl, rfl, rfl, rfl, rfl, rfl, rfl, rfl, rfl, rfl, trivial⟩ ?_
  refine wo_nil ?_
  refine wq_seq ?_
  refine wc_seq ?_
  refine wc_region (l := [0, 1, 2, 3, 4, 5, 6]) rfl ?_
  refine wo_seg Θ_ok [0] [(1, u57), (2, (.int .i64 y5.2.1)), (3, (.int .i64 y5.2.2)), (4, (.int .i64 y17.2.1)), (5, (.int .i64 y17.2.2)), (6, (.int .i64 y29.2.1)), (7, (.int .i64 y29.2.2)), (8, (.int .i64 y45.2)), (9, (.int .i64 y55.2.1)), (10, (.int .i64 y55.2.2)), (13, (.int .i64 y67.2.2)), (54, (.agg #[(.int .u64 5), (.int .i64 1), (.int .u64 0)]))] rfl ⟨rfl, rfl, rfl, rfl, rfl, rfl, rfl, rfl, rfl, rfl, rfl, rfl, trivial⟩ ?_
  obtain ⟨y79, hy80, h⟩ := bind_some h
  refine wo_gives rfl rfl rfl rfl rfl ent19 rfl (d_Key_c hO hg0 ((tGDesc_is (x := (GDesc.mk (5 : Int) (1 : Int) (0 : Int)))).2 rfl) hy80) (fun v75 w76 h77 f78 => ?_)
  have h58 := h58.tr f78.tr0
  have hg0 := hg0.tr f78.tr0
  have hO := f78.ob hO
  have hF := hF.trans f78
  obtain ⟨u81, u83, rfl, h82, h84⟩ := h77
  obtain rfl := int_is.1 h82
  obtain rfl := int_is.1 h84
  refine wo_seg Θ_ok [2, 3, 4, 5, 6] [(1, u57), (2, (.int .i64 y5.2.1)), (3, (.int .i64 y5.2.2)), (4, (.int .i64 y17.2.1)), (5, (.int .i64 y17.2.2)), (6, (.int .i64 y29.2.1)), (7, (.int .i64 y29.2.2)), (8, (.int .i64 y45.2)), (9, (.int .i64 y55.2.1)), (10, (.int .i64 y55.2.2)), (13, (.int .i64 y67.2.2)), (14, (.int .u64 y79.1)), (15, (.int .i64 y79.2))] rfl ⟨rfl, rfl, rfl, rfl, rfl, rfl, rfl, rfl, rfl, rfl, rfl, rfl, rfl, trivial⟩ ?_
  refine wo_nil ?_
  refine wq_seq ?_
  refine wc_seq ?_
  refine wc_region (l := [0, 1, 2, 3, 4, 5, 6]) rfl ?_
  refine wo_seg Θ_ok [0] [(1, u57), (2, (.int .i64 y5.2.1)), (3, (.int .i64 y5.2.2)), (4, (.int .i64 y17.2.1)), (5, (.int .i64 y17.2.2)), (6, (.int .i64 y29.2.1)), (7, (.int .i64 y29.2.2)), (8, (.int .i64 y45.2)), (9, (.int .i64 y55.2.1)), (10, (.int .i64 y55.2.2)), (13, (.int .i64 y67.2.2)), (14, (.int .u64 y79.1)), (15, (.int .i64 y79.2)), (59, u57)] rfl ⟨rfl, rfl, rfl, rfl, rfl, rfl, rfl, rfl, rfl, rfl, rfl, rfl, rfl, rfl, trivial⟩ ?_
  obtain ⟨y89, hy90, h⟩ := bind_some h
  refine wo_gives rfl rfl rfl rfl rfl ent9 rfl (d_Drop_c hO h58 (int_is.2 rfl) hy90) (fun v85 w86 h87 f88 => ?_)
  have h58 := h58.tr f88.tr0
  have hg0 := hg0.tr f88.tr0
  have hO := f88.ob hO
  have hF := hF.trans f88
  obtain ⟨u91, u93, rfl, h92, h94⟩ := h87
  obtain rfl := int_is.1 h94
  refine wo_seg Θ_ok [2, 3, 4, 5, 6] [(1, u57), (2, (.int .i64 y5.2.1)), (3, (.int .i64 y5.2.2)), (4, (.int .i64 y17.2.1)), (5, (.int .i64 y17.2.2)), (6, (.int .i64 y29.2.1)), (7, (.int .i64 y29.2.2)), (8, (.int .i64 y45.2)), (9, (.int .i64 y55.2.1)), (10, (.int .i64 y55.2.2)), (13, (.int .i64 y67.2.2)), (14, (.int .u64 y79.1)), (15, (.int .i64 y79.2)), (16, u91), (17, (.int .i64 y89.2))] rfl ⟨rfl, rfl, rfl, rfl, rfl, rfl, rfl, rfl, rfl, rfl, rfl, rfl, rfl, rfl, rfl, trivial⟩ ?_
  refine wo_nil ?_
  refine wq_seq ?_
  refine wc_seq ?_
  refine wc_region (l := [0, 1, 2, 3, 4, 5, 6, 7, 8, 9, 10, 11, 12, 13, 14, 15, 16, 17, 18, 19, 20, 21, 22, 23, 24, 25, 26, 27, 28, 29, 30, 31, 32, 33, 34, 35, 36, 37, 38, 39, 40, 41, 42, 43, 44, 45, 46, 47, 48, 49, 50, 51, 52, 53, 54, 55, 56, 57, 58, 59, 60, 61]) rfl ?_
  refine wo_seg Θ_ok [0, 1, 2] [(1, u57), (2, (.int .i64 y5.2.1)), (4, (.int .i64 y17.2.1)), (5, (.int .i64 y17.2.2)), (6, (.int .i64 y29.2.1)), (7, (.int .i64 y29.2.2)), (8, (.int .i64 y45.2)), (9, (.int .i64 y55.2.1)), (10, (.int .i64 y55.2.2)), (13, (.int .i64 y67.2.2)), (14, (.int .u64 y79.1)), (15, (.int .i64 y79.2)), (16, u91), (17, (.int .i64 y89.2)), (65, (.bool (y5.2.2 == (0 : Int))))] rfl ⟨rfl, rfl, rfl, rfl, rfl, rfl, rfl, rfl, rfl, rfl, rfl, rfl, rfl, rfl, rfl, trivial⟩ ?_
  rcases bif_some h with ⟨hc95, h⟩ | ⟨hc95, h⟩
  rotate_left
  · refine wo_know 65 false rfl hc95 ?_
    refine wo_seg Θ_ok [3, 4, 5, 6, 7, 8, 9, 10, 11, 12, 13, 14, 15, 16, 17, 18, 19, 20, 21, 22, 23, 24, 25, 26, 27, 28, 29, 30, 31, 32, 33, 34, 35, 36, 37, 38, 39, 40, 41, 42, 43, 44, 45, 46, 47, 48, 49, 50, 51, 52, 53, 54, 55, 56, 57, 58, 59, 60, 61] [(0, (.bool false))] rfl ⟨rfl, trivial⟩ ?_
    refine wo_nil ?_
    refine wq_seq ?_
    refine wc_ret ?_
    cases h
    exact wq_ret rfl ⟨_, rfl, (bool_is.2 rfl), hF⟩
  refine wo_know 65 true rfl hc95 ?_
  refine wo_seg Θ_ok [3, 4, 5, 6] [(1, u57), (2, (.int .i64 y5.2.1)), (4, (.int .i64 y17.2.1)), (6, (.int .i64 y29.2.1)), (7, (.int .i64 y29.2.2)), (8, (.int .i64 y45.2)), (9, (.int .i64 y55.2.1)), (10, (.int .i64 y55.2.2)), (13, (.int .i64 y67.2.2)), (14, (.int .u64 y79.1)), (15, (.int .i64 y79.2)), (16, u91), (17, (.int .i64 y89.2)), (69, (.bool (y17.2.2 == (0 : Int))))] rfl ⟨rfl, rfl, rfl, rfl, rfl, rfl, rfl, rfl, rfl, rfl, rfl, rfl, rfl, rfl, trivial⟩ ?_
  rcases bif_some h with ⟨hc96, h⟩ | ⟨hc96, h⟩
  rotate_left
  · refine wo_know 69 false rfl hc96 ?_
    refine wo_seg Θ_ok [7, 8, 9, 10, 11, 12, 13, 14, 15, 16, 17, 18, 19, 20, 21, 22, 23, 24, 25, 26, 27, 28, 29, 30, 31, 32, 33, 34, 35, 36, 37, 38, 39, 40, 41, 42, 43, 44, 45, 46, 47, 48, 49, 50, 51, 52, 53, 54, 55, 56, 57, 58, 59, 60, 61] [(0, (.bool false))] rfl ⟨rfl, trivial⟩ ?_
    refine wo_nil ?_
    refine wq_seq ?_
    refine wc_ret ?_
    cases h
    exact wq_ret rfl ⟨_, rfl, (bool_is.2 rfl), hF⟩
  refine wo_know 69 true rfl hc96 ?_
  refine wo_seg Θ_ok [7, 8, 9, 10] [(1, u57), (2, (.int .i64 y5.2.1)), (4, (.int .i64 y17.2.1)), (6, (.int .i64 y29.2.1)), (8, (.int .i64 y45.2)), (9, (.int .i64 y55.2.1)), (10, (.int .i64 y55.2.2)), (13, (.int .i64 y67.2.2)), (14, (.int .u64 y79.1)), (15, (.int .i64 y79.2)), (16, u91), (17, (.int .i64 y89.2)), (73, (.bool (y29.2.2 == (0 : Int))))] rfl ⟨rfl, rfl, rfl, rfl, rfl, rfl, rfl, rfl, rfl, rfl, rfl, rfl, rfl, trivial⟩ ?_
  rcases bif_some h with ⟨hc97, h⟩ | ⟨hc97, h⟩
  rotate_left
  · refine wo_know 73 false rfl hc97 ?_
    refine wo_seg Θ_ok [11, 12, 13, 14, 15, 16, 17, 18, 19, 20, 21, 22, 23, 24, 25, 26, 27, 28, 29, 30, 31, 32, 33, 34, 35, 36, 37, 38, 39, 40, 41, 42, 43, 44, 45, 46, 47, 48, 49, 50, 51, 52, 53, 54, 55, 56, 57, 58, 59, 60, 61] [(0, (.bool false))] rfl ⟨rfl, trivial⟩ ?_
    refine wo_nil ?_
    refine wq_seq ?_
    refine wc_ret ?_
    cases h
    exact wq_ret rfl ⟨_, rfl, (bool_is.2 rfl), hF⟩
  refine wo_know 73 true rfl hc97 ?_
  refine wo_seg Θ_ok [11, 12, 13, 14] [(1, u57), (2, (.int .i64 y5.2.1)), (4, (.int .i64 y17.2.1)), (6, (.int .i64 y29.2.1)), (9, (.int .i64 y55.2.1)), (10, (.int .i64 y55.2.2)), (13, (.int .i64 y67.2.2)), (14, (.int .u64 y79.1)), (15, (.int .i64 y79.2)), (16, u91), (17, (.int .i64 y89.2)), (77, (.bool (y45.2 == (0 : Int))))] rfl ⟨rfl, rfl, rfl, rfl, rfl, rfl, rfl, rfl, rfl, rfl, rfl, rfl, trivial⟩ ?_
  rcases bif_some h with ⟨hc98, h⟩ | ⟨hc98, h⟩
  rotate_left
  · refine wo_know 77 false rfl hc98 ?_
    refine wo_seg Θ_ok [15, 16, 17, 18, 19, 20, 21, 22, 23, 24, 25, 26, 27, 28, 29, 30, 31, 32, 33, 34, 35, 36, 37, 38, 39, 40, 41, 42, 43, 44, 45, 46, 47, 48, 49, 50, 51, 52, 53, 54, 55, 56, 57, 58, 59, 60, 61] [(0, (.bool false))] rfl ⟨rfl, trivial⟩ ?_
    refine wo_nil ?_
    refine wq_seq ?_
    refine wc_ret ?_
    cases h
    exact wq_ret rfl ⟨_, rfl, (bool_is.2 rfl), hF⟩
  refine wo_know 77 true rfl hc98 ?_
  refine wo_seg Θ_ok [15, 16, 17, 18] [(1, u57), (2, (.int .i64 y5.2.1)), (4, (.int .i64 y17.2.1)), (6, (.int .i64 y29.2.1)), (9, (.int .i64 y55.2.1)), (13, (.int .i64 y67.2.2)), (14, (.int .u64 y79.1)), (15, (.int .i64 y79.2)), (16, u91), (17, (.int .i64 y89.2)), (81, (.bool (y55.2.2 == (0 : Int))))] rfl ⟨rfl, rfl, rfl, rfl, rfl, rfl, rfl, rfl, rfl, rfl, rfl, trivial⟩ ?_
  rcases bif_some h with ⟨hc99, h⟩ | ⟨hc99, h⟩
  rotate_left
  · refine wo_know 81 false rfl hc99 ?_
    refine wo_seg Θ_ok [19, 20, 21, 22, 23, 24, 25, 26, 27, 28, 29, 30, 31, 32, 33, 34, 35, 36, 37, 38, 39, 40, 41, 42, 43, 44, 45, 46, 47, 48, 49, 50, 51, 52, 53, 54, 55, 56, 57, 58, 59, 60, 61] [(0, (.bool false))] rfl ⟨rfl, trivial⟩ ?_
    refine wo_nil ?_
    refine wq_seq ?_
    refine wc_ret ?_
    cases h
    exact wq_ret rfl ⟨_, rfl, (bool_is.2 rfl), hF⟩
  refine wo_know 81 true rfl hc99 ?_
  refine wo_seg Θ_ok [19, 20, 21, 22] [(1, u57), (2, (.int .i64 y5.2.1)), (4, (.int .i64 y17.2.1)), (6, (.int .i64 y29.2.1)), (9, (.int .i64 y55.2.1)), (13, (.int .i64 y67.2.2)), (14, (.int .u64 y79.1)), (16, u91), (17, (.int .i64 y89.2)), (85, (.bool (y79.2 == (0 : Int))))] rfl ⟨rfl, rfl, rfl, rfl, rfl, rfl, rfl, rfl, rfl, rfl, trivial⟩ ?_
  rcases bif_some h with ⟨hc100, h⟩ | ⟨hc100, h⟩
  rotate_left
  · refine wo_know 85 false rfl hc100 ?_
    refine wo_seg Θ_ok [23, 24, 25, 26, 27, 28, 29, 30, 31, 32, 33, 34, 35, 36, 37, 38, 39, 40, 41, 42, 43, 44, 45, 46, 47, 48, 49, 50, 51, 52, 53, 54, 55, 56, 57, 58, 59, 60, 61] [(0, (.bool false))] rfl ⟨rfl, trivial⟩ ?_
    refine wo_nil ?_
    refine wq_seq ?_
    refine wc_ret ?_
    cases h
    exact wq_ret rfl ⟨_, rfl, (bool_is.2 rfl), hF⟩
  refine wo_know 85 true rfl hc100 ?_
  refine wo_seg Θ_ok [23, 24, 25, 26] [(1, u57), (2, (.int .i64 y5.2.1)), (4, (.int .i64 y17.2.1)), (6, (.int .i64 y29.2.1)), (9, (.int .i64 y55.2.1)), (14, (.int .u64 y79.1)), (16, u91), (17, (.int .i64 y89.2)), (89, (.bool (y67.2.2 == (4 : Int))))] rfl ⟨rfl, rfl, rfl, rfl, rfl, rfl, rfl, rfl, rfl, trivial⟩ ?_
  rcases bif_some h with ⟨hc101, h⟩ | ⟨hc101, h⟩
  rotate_left
  · refine wo_know 89 false rfl hc101 ?_
    refine wo_seg Θ_ok [27, 28, 29, 30, 31, 32, 33, 34, 35, 36, 37, 38, 39, 40, 41, 42, 43, 44, 45, 46, 47, 48, 49, 50, 51, 52, 53, 54, 55, 56, 57, 58, 59, 60, 61] [(0, (.bool false))] rfl ⟨rfl, trivial⟩ ?_
    refine wo_nil ?_
    refine wq_seq ?_
    refine wc_ret ?_
    cases h
    exact wq_ret rfl ⟨_, rfl, (bool_is.2 rfl), hF⟩
  refine wo_know 89 true rfl hc101 ?_
  refine wo_seg Θ_ok [27, 28, 29, 30] [(1, u57), (4, (.int .i64 y17.2.1)), (6, (.int .i64 y29.2.1)), (9, (.int .i64 y55.2.1)), (14, (.int .u64 y79.1)), (16, u91), (17, (.int .i64 y89.2)), (93, (.bool (y5.2.1 == (0 : Int))))] rfl ⟨rfl, rfl, rfl, rfl, rfl, rfl, rfl, rfl, trivial⟩ ?_
  rcases bif_some h with ⟨hc102, h⟩ | ⟨hc102, h⟩
  rotate_left
  · refine wo_know 93 false rfl hc102 ?_
    refine wo_seg Θ_ok [31, 32, 33, 34, 35, 36, 37, 38, 39, 40, 41, 42, 43, 44, 45, 46, 47, 48, 49, 50, 51, 52, 53, 54, 55, 56, 57, 58, 59, 60, 61] [(0, (.bool false))] rfl ⟨rfl, trivial⟩ ?_
    refine wo_nil ?_
    refine wq_seq ?_
    refine wc_ret ?_
    cases h
    exact wq_ret rfl ⟨_, rfl, (bool_is.2 rfl), hF⟩
  refine wo_know 93 true rfl hc102 ?_
  refine wo_seg Θ_ok [31, 32, 33, 34] [(1, u57), (6, (.int .i64 y29.2.1)), (9, (.int .i64 y55.2.1)), (14, (.int .u64 y79.1)), (16, u91), (17, (.int .i64 y89.2)), (97, (.bool (y17.2.1 == (1 : Int))))] rfl ⟨rfl, rfl, rfl, rfl, rfl, rfl, rfl, trivial⟩ ?_
  rcases bif_some h with ⟨hc103, h⟩ | ⟨hc103, h⟩
  rotate_left
  · refine wo_know 97 false rfl hc103 ?_
    refine wo_seg Θ_ok [35, 36, 37, 38, 39, 40, 41, 42, 43, 44, 45, 46, 47, 48, 49, 50, 51, 52, 53, 54, 55, 56, 57, 58, 59, 60, 61] [(0, (.bool false))] rfl ⟨rfl, trivial⟩ ?_
    refine wo_nil ?_
    refine wq_seq ?_
    refine wc_ret ?_
    cases h
    exact wq_ret rfl ⟨_, rfl, (bool_is.2 rfl), hF⟩
  refine wo_know 97 true rfl hc103 ?_
  refine wo_seg Θ_ok [35, 36, 37, 38] [(1, u57), (9, (.int .i64 y55.2.1)), (14, (.int .u64 y79.1)), (16, u91), (17, (.int .i64 y89.2)), (101, (.bool (y29.2.1 == (0 : Int))))] rfl ⟨rfl, rfl, rfl, rfl, rfl, rfl, trivial⟩ ?_
  rcases bif_some h with ⟨hc104, h⟩ | ⟨hc104, h⟩
  rotate_left
  · refine wo_know 101 false rfl hc104 ?_
    refine wo_seg Θ_ok [39, 40, 41, 42, 43, 44, 45, 46, 47, 48, 49, 50, 51, 52, 53, 54, 55, 56, 57, 58, 59, 60, 61] [(0, (.bool false))] rfl ⟨rfl, trivial⟩ ?_
    refine wo_nil ?_
    refine wq_seq ?_
    refine wc_ret ?_
    cases h
    exact wq_ret rfl ⟨_, rfl, (bool_is.2 rfl), hF⟩
  refine wo_know 101 true rfl hc104 ?_
  refine wo_seg Θ_ok [39, 40, 41, 42] [(1, u57), (14, (.int .u64 y79.1)), (16, u91), (17, (.int .i64 y89.2)), (105, (.bool (y55.2.1 == (0 : Int))))] rfl ⟨rfl, rfl, rfl, rfl, rfl, trivial⟩ ?_
  rcases bif_some h with ⟨hc105, h⟩ | ⟨hc105, h⟩
  rotate_left
  · refine wo_know 105 false rfl hc105 ?_
    refine wo_seg Θ_ok [43, 44, 45, 46, 47, 48, 49, 50, 51, 52, 53, 54, 55, 56, 57, 58, 59, 60, 61] [(0, (.bool false))] rfl ⟨rfl, trivial⟩ ?_
    refine wo_nil ?_
    refine wq_seq ?_
    refine wc_ret ?_
    cases h
    exact wq_ret rfl ⟨_, rfl, (bool_is.2 rfl), hF⟩
  refine wo_know 105 true rfl hc105 ?_
  refine wo_seg Θ_ok [43] [(14, (.int .u64 y79.1)), (16, u91), (17, (.int .i64 y89.2)), (105, (.bool true)), (106, u57)] rfl ⟨rfl, rfl, rfl, rfl, rfl, trivial⟩ ?_
  obtain ⟨y110, hy111, h⟩ := bind_some h
  refine wo_gives rfl rfl rfl rfl rfl ent18 rfl (d_Count_c hO h58 (int_is.2 rfl) hy111) (fun v106 w107 h108 f109 => ?_)
  have h92 := h92.tr f109.tr0
  have hg0 := hg0.tr f109.tr0
  have hO := f109.ob hO
  have hF := hF.trans f109
  obtain rfl := int_is.1 h108
  refine wo_seg Θ_ok [45, 46, 47] [(14, (.int .u64 y79.1)), (16, u91), (17, (.int .i64 y89.2)), (110, (.bool (y110 == (3 : Int))))] rfl ⟨rfl, rfl, rfl, rfl, trivial⟩ ?_
  rcases bif_some h with ⟨hc112, h⟩ | ⟨hc112, h⟩
  rotate_left
  · refine wo_know 110 false rfl hc112 ?_
    refine wo_seg Θ_ok [48, 49, 50, 51, 52, 53, 54, 55, 56, 57, 58, 59, 60, 61] [(0, (.bool false))] rfl ⟨rfl, trivial⟩ ?_
    refine wo_nil ?_
    refine wq_seq ?_
    refine wc_ret ?_
    cases h
    exact wq_ret rfl ⟨_, rfl, (bool_is.2 rfl), hF⟩
  refine wo_know 110 true rfl hc112 ?_
  refine wo_seg Θ_ok [48, 49, 50, 51] [(16, u91), (17, (.int .i64 y89.2)), (114, (.bool (y79.1 == (41 : Int))))] rfl ⟨rfl, rfl, rfl, trivial⟩ ?_
  rcases bif_some h with ⟨hc113, h⟩ | ⟨hc113, h⟩
  rotate_left
  · refine wo_know 114 false rfl hc113 ?_
    refine wo_seg Θ_ok [52, 53, 54, 55, 56, 57, 58, 59, 60, 61] [(0, (.bool false))] rfl ⟨rfl, trivial⟩ ?_
    refine wo_nil ?_
    refine wq_seq ?_
    refine wc_ret ?_
    cases h
    exact wq_ret rfl ⟨_, rfl, (bool_is.2 rfl), hF⟩
  refine wo_know 114 true rfl hc113 ?_
  refine wo_seg Θ_ok [52, 53, 54, 55] [(16, u91), (118, (.bool (y89.2 == (2 : Int))))] rfl ⟨rfl, rfl, trivial⟩ ?_
  rcases bif_some h with ⟨hc114, h⟩ | ⟨hc114, h⟩
  rotate_left
  · refine wo_know 118 false rfl hc114 ?_
    refine wo_seg Θ_ok [56, 57, 58, 59, 60, 61] [(0, (.bool false))] rfl ⟨rfl, trivial⟩ ?_
    refine wo_nil ?_
    refine wq_seq ?_
    refine wc_ret ?_
    cases h
    exact wq_ret rfl ⟨_, rfl, (bool_is.2 rfl), hF⟩
  refine wo_know 118 true rfl hc114 ?_
  refine wo_seg Θ_ok [56, 57] [(118, (.bool true)), (119, u91), (120, (.agg #[(.int .u64 2), (.int .i64 0), (.int .u64 9)]))] rfl ⟨rfl, rfl, rfl, trivial⟩ ?_
  refine wo_litd Θ_ok rfl rfl rfl rfl rfl rfl rfl rfl rfl rfl (T := tGDesc) (xs := [(GDesc.mk (2 : Int) (0 : Int) (9 : Int))]) (vs := [(.agg #[(.int .u64 2), (.int .i64 0), (.int .u64 9)])]) rfl ⟨((tGDesc_is (x := (GDesc.mk (2 : Int) (0 : Int) (9 : Int)))).2 rfl), trivial⟩ rfl rfl rfl hO (fun v115 w116 h117 f118 => ?_)
  have h92 := h92.tr f118.tr0
  have hg0 := hg0.tr f118.tr0
  have hO := f118.ob hO
  have hF := hF.trans f118
  obtain ⟨y123, hy124, h⟩ := bind_some h
  refine wo_gives rfl rfl rfl rfl rfl ent13 rfl (s_Equal_c hO h92 h117 hy124) (fun v119 w120 h121 f122 => ?_)
  have hg0 := hg0.tr f122.tr0
  have hO := f122.ob hO
  have hF := hF.trans f122
  obtain rfl := bool_is.1 h121
  refine wo_seg Θ_ok [60, 61] [(0, (.bool y123))] rfl ⟨rfl, trivial⟩ ?_
  refine wo_nil ?_
  refine wq_seq ?_
  refine wc_ret ?_
  cases h
  exact wq_ret rfl ⟨_, rfl, (bool_is.2 rfl), hF⟩
end Go.Proofs.YtbaffpifmfddeaaDoor
