/-
  The program's functions compute the plain ones (printed by a tool of the prover's).
-/
import Derived.Test.YtjdeaihnpgkphaaGWIpcWordsP1
namespace Go.Proofs.Ytjdeaihnpgkphaa
open Go.RowKit Go.Dc Go.Shelf
set_option maxRecDepth 100000 in
set_option maxHeartbeats 4000000 in
theorem r_With_c {O : List Nat} {w : World} (hO : OB O w) {v0 : Value} {x0 : GIpc} (h0 : tGIpc.is O w v0 x0) {v1 : Value} {x1 : Int} (h1 : (Ty.int .u64).is O w v1 x1) {v2 : Value} {x2 : List Int} (h2 : (Ty.slice (Ty.int .u64)).is O w v2 x2) {r : GIpc} (h : r_With x0 x1 x2 = some r) : Calls Try.prog 28 #[v0, v1, v2] w (Gives (rt1 tGIpc) O w r) := by
  obtain ⟨v0_1, v0_2, rfl, h0_1, h0_2⟩ := tGIpc_is.1 h0
  obtain rfl := int_is.1 h1
  have hF := Fr.refl [] w
  have hO0 := hO
  have hS := Sub.refl O
  refine calls_of (args := [(.agg #[v0_1, v0_2]), (.int .u64 x1), v2]) (N := 63) Try.func28 rfl rfl rfl ?_
  unfold r_With at h
  refine wc_seq ?_
  refine wc_region (l := [0, 1]) rfl ?_
  refine wo_box rfl rfl rfl rfl rfl rfl [v0_1, v0_2] rfl hO (fun b4 w5 n6 => ?_)
  have h2 := h2.tr n6.tr
  have h0_1 := h0_1.tr n6.tr
  have h0_2 := h0_2.tr n6.tr
  have hb4 := n6.blk
  have gb4 := n6.ge0 hF
  have ib4 : b4 ∈ b4 :: O := List.mem_cons_self
  have hO := n6.ob
  have hF := hF.trans n6.fr
  have hS := Sub.cons hS b4
  refine wo_alloc Θ_ok rfl rfl rfl rfl rfl rfl [(.slice none 0 0), (.slice none 0 0)] rfl hO (fun b7 w8 n9 => ?_)
  have h2 := h2.tr n9.tr
  have h0_1 := h0_1.tr n9.tr
  have h0_2 := h0_2.tr n9.tr
  have nb7b4 : b7 ≠ b4 := by have := hb4.lt; have := n9.ge; omega
  have hb4 := hb4.fr0 n9.fr
  have ib4 := List.mem_cons_of_mem b7 ib4
  have hb7 := n9.blk
  have gb7 := n9.ge0 hF
  have ib7 : b7 ∈ b7 :: (b4 :: O) := List.mem_cons_self
  have hO := n9.ob
  have hF := hF.trans n9.fr
  have hS := Sub.cons hS b7
  refine wo_nil ?_
  refine wq_seq ?_
  refine wc_seq ?_
  refine wc_region (l := [0, 1, 2, 3, 4]) rfl ?_
  refine wo_seg Θ_ok [0] [(1, (.int .u64 x1)), (2, v2), (3, (bp b4)), (6, (bp b7)), (12, (bp b4))] rfl ⟨rfl, rfl, rfl, rfl, rfl, trivial⟩ ?_
  refine wo_load Θ_ok rfl rfl rfl rfl rfl rfl rfl hb4 [v0_1] rfl rfl (.inr rfl) v0_1 rfl ?_
  obtain ⟨A10, c11, rfl, hlc11, hmc11⟩ := slice_form h0_1
  refine wo_seg Θ_ok [2] [(1, (.int .u64 x1)), (2, v2), (3, (bp b4)), (6, (bp b7)), (14, (.agg #[(.slice A10 x0.fNames.length c11), (.slice none 0 0)]))] rfl ⟨rfl, rfl, rfl, rfl, rfl, trivial⟩ ?_
  refine wo_alloc Θ_ok rfl rfl rfl rfl rfl rfl [(.slice none 0 0), (.slice none 0 0)] rfl hO (fun b12 w13 n14 => ?_)
  have h2 := h2.tr n14.tr
  have h0_1 := h0_1.tr n14.tr
  have h0_2 := h0_2.tr n14.tr
  have nb12b4 : b12 ≠ b4 := by have := hb4.lt; have := n14.ge; omega
  have hb4 := hb4.fr0 n14.fr
  have ib4 := List.mem_cons_of_mem b12 ib4
  have nb12b7 : b12 ≠ b7 := by have := hb7.lt; have := n14.ge; omega
  have hb7 := hb7.fr0 n14.fr
  have ib7 := List.mem_cons_of_mem b12 ib7
  have hb12 := n14.blk
  have gb12 := n14.ge0 hF
  have ib12 : b12 ∈ b12 :: (b7 :: b4 :: O) := List.mem_cons_self
  have hO := n14.ob
  have hF := hF.trans n14.fr
  have hS := Sub.cons hS b12
  refine wo_store Θ_ok rfl rfl rfl rfl rfl rfl rfl hb12 [(.slice A10 x0.fNames.length c11), (.slice none 0 0)] rfl rfl (by simp [Value.oneCell']) rfl [(.slice A10 x0.fNames.length c11), (.slice none 0 0)] rfl (fun w15 hb12 f16 => ?_)
  have h2 := h2.tr (f16.tr (one_in ib12))
  have h0_1 := h0_1.tr (f16.tr (one_in ib12))
  have h0_2 := h0_2.tr (f16.tr (one_in ib12))
  have hb4 := hb4.fr f16 (nin nb12b4.symm)
  have hb7 := hb7.fr f16 (nin nb12b7.symm)
  have hO := f16.ob hO
  have hF := hF.own f16 gb12
  refine wo_nil ?_
  refine wq_seq ?_
  obtain ⟨k18, hk19, h⟩ := letk_some h
  refine wc_join (fun E W => ∃ (O27 : List Nat) (p22 : GIpc) (v23 : Value) (v25 : Value), E = [(1, (.int .u64 x1)), (2, v2), (3, (bp b4)), (6, (bp b7)), (7, (bp b12))] ∧ Tr (b12 :: b7 :: b4 :: O) w15 O27 W ∧ OB O27 W ∧ Sub O O27 ∧ Fr [] w W ∧ b4 ∈ O27 ∧ Blk W b4 25 [(.slice A10 x0.fNames.length c11), v0_2] ∧ b7 ∈ O27 ∧ Blk W b7 25 [(.slice none 0 0), (.slice none 0 0)] ∧ b12 ∈ O27 ∧ Blk W b12 25 [v23, v25] ∧ Go.Dc.Own tGBox 61 w.heap.size O27 W v25 p22.fBoxes ∧ v25.ownBlock ≠ some b4 ∧ v25.ownBlock ≠ some b7 ∧ v25.ownBlock ≠ some b12 ∧ (Ty.slice tGName).is O27 W v23 p22.fNames ∧ k18 p22 = some r) ?_ (fun K20 hK21 => ?_)
  rotate_left
  · clear hk19
    have T17 := Tr.refl (b12 :: b7 :: b4 :: O) w15
    refine wc_seq ?_
    refine wc_region (l := [0, 1, 2, 3]) rfl ?_
    refine wo_seg Θ_ok [0] [(1, (.int .u64 x1)), (2, v2), (3, (bp b4)), (6, (bp b7)), (7, (bp b12)), (15, (.pointer (some ⟨b4, 1, none⟩)))] rfl ⟨rfl, rfl, rfl, rfl, rfl, rfl, trivial⟩ ?_
    refine wo_load Θ_ok rfl rfl rfl rfl rfl rfl rfl hb4 [v0_2] rfl rfl (.inr rfl) v0_2 rfl ?_
    obtain ⟨A125, c126, rfl, hlc126, hmc126⟩ := slice_form h0_2
    refine wo_seg Θ_ok [2] [(1, (.int .u64 x1)), (2, v2), (3, (bp b4)), (6, (bp b7)), (7, (bp b12)), (16, (.slice A125 x0.fBoxes.length c126)), (17, (.int .i64 (x0.fBoxes.length : Int)))] rfl ⟨rfl, rfl, rfl, rfl, rfl, rfl, rfl, trivial⟩ ?_
    refine wo_seg Θ_ok [3] [(1, (.int .u64 x1)), (2, v2), (3, (bp b4)), (6, (bp b7)), (7, (bp b12)), (16, (.slice A125 x0.fBoxes.length c126)), (17, (.int .i64 (x0.fBoxes.length : Int))), (18, (.int .i64 0))] rfl ⟨rfl, rfl, rfl, rfl, rfl, rfl, rfl, rfl, trivial⟩ ?_
    refine wo_nil ?_
    refine wq_seq ?_
    refine wc_block ?_
    refine wc_loop (fun m E W => ∃ (rest134 : List GBox) (i133 : Nat) (O137 : List Nat) (p128 : GIpc) (v129 : Value) (v131 : Value), rest134.length = m ∧ x0.fBoxes.drop i133 = rest134 ∧ E = [(1, (.int .u64 x1)), (2, v2), (3, (bp b4)), (6, (bp b7)), (7, (bp b12)), (16, (.slice A125 x0.fBoxes.length c126)), (17, (.int .i64 (x0.fBoxes.length : Int))), (18, (.int .i64 (i133 : Int)))] ∧ Tr (b12 :: b7 :: b4 :: O) w15 O137 W ∧ OB O137 W ∧ Sub O O137 ∧ Fr [] w W ∧ b4 ∈ O137 ∧ Blk W b4 25 [(.slice A10 x0.fNames.length c11), (.slice A125 x0.fBoxes.length c126)] ∧ b7 ∈ O137 ∧ Blk W b7 25 [(.slice none 0 0), (.slice none 0 0)] ∧ b12 ∈ O137 ∧ Blk W b12 25 [v129, v131] ∧ Go.Dc.Own tGBox 61 w.heap.size O137 W v131 p128.fBoxes ∧ v131.ownBlock ≠ some b4 ∧ v131.ownBlock ≠ some b7 ∧ v131.ownBlock ≠ some b12 ∧ (Ty.slice tGName).is O137 W v129 p128.fNames ∧ r_With_l2 x1 k18 rest134 i133 p128 = some r) _ [(1, (.int .u64 x1)), (2, v2), (3, (bp b4)), (6, (bp b7)), (7, (bp b12)), (16, (.slice A125 x0.fBoxes.length c126)), (17, (.int .i64 (x0.fBoxes.length : Int))), (18, (.int .i64 ((0 : Nat) : Int)))] ⟨rfl, rfl, rfl, rfl, rfl, rfl, rfl, rfl, trivial⟩ ⟨x0.fBoxes, 0, b12 :: b7 :: b4 :: O, (GIpc.mk x0.fNames ([] : List GBox)), (.slice A10 x0.fNames.length c11), (.slice none 0 0), rfl, rfl, rfl, Tr.refl _ _, hO, hS, hF, ib4, hb4, ib7, hb7, ib12, hb12, (Go.Dc.Own.nil_ : Go.Dc.Own tGBox 61 w.heap.size _ _ _ _), (nil_ne _), (nil_ne _), (nil_ne _), h0_1, h⟩ ?_
    rintro m E w138 ⟨rest134, i133, O137, p128, v129, v131, rfl, hd136, rfl, T127, hO, hS, hF, ib4, hb4, ib7, hb7, ib12, hb12, h132, qh132b4, qh132b7, qh132b12, h130, h⟩
    have T17 := T17.trans T127
    have h2 := h2.tr T127
    have h0_2 := h0_2.tr T127
    have h0_1 := h0_1.tr T127
    rcases rest134 with _ | ⟨z135, rest134⟩
    · rw [r_With_l2] at h
      have hl142 := drop_nil hd136
      have hc139 : (decide ((i133 : Int) < (x0.fBoxes.length : Int))) = false := decide_eq_false (by omega)
      refine wc_seq ?_
      refine wc_region (l := [0]) rfl ?_
      refine wo_seg Θ_ok [0] [(1, (.int .u64 x1)), (2, v2), (3, (bp b4)), (6, (bp b7)), (7, (bp b12)), (16, (.slice A125 x0.fBoxes.length c126)), (17, (.int .i64 (x0.fBoxes.length : Int))), (18, (.int .i64 (i133 : Int))), (19, (.bool (decide ((i133 : Int) < (x0.fBoxes.length : Int)))))] rfl ⟨rfl, rfl, rfl, rfl, rfl, rfl, rfl, rfl, rfl, trivial⟩ ?_
      refine wo_nil ?_
      refine wq_seq ?_
      refine wc_seq ?_
      refine wc_known_false rfl hc139 ?_
      refine wc_exit ?_
      exact wq_then_exit (wq_then_exit (wq_block_exit (wq_join hK21 [(1, (.int .u64 x1)), (2, v2), (3, (bp b4)), (6, (bp b7)), (7, (bp b12))] ⟨rfl, rfl, rfl, rfl, rfl, trivial⟩ ⟨O137, p128, v129, v131, rfl, T17, hO, hS, hF, ib4, hb4, ib7, hb7, ib12, hb12, h132, qh132b4, qh132b7, qh132b12, h130, h⟩)))
    rw [r_With_l2] at h
    obtain ⟨hl143, hg141, hd136⟩ := drop_cons hd136
    have hc140 : (decide ((i133 : Int) < (x0.fBoxes.length : Int))) = true := decide_eq_true (by omega)
    refine wc_seq ?_
    refine wc_region (l := [0]) rfl ?_
    refine wo_seg Θ_ok [0] [(1, (.int .u64 x1)), (2, v2), (3, (bp b4)), (6, (bp b7)), (7, (bp b12)), (16, (.slice A125 x0.fBoxes.length c126)), (17, (.int .i64 (x0.fBoxes.length : Int))), (18, (.int .i64 (i133 : Int))), (19, (.bool (decide ((i133 : Int) < (x0.fBoxes.length : Int)))))] rfl ⟨rfl, rfl, rfl, rfl, rfl, rfl, rfl, rfl, rfl, trivial⟩ ?_
    refine wo_nil ?_
    refine wq_seq ?_
    refine wc_seq ?_
    refine wc_known_true rfl hc140 ?_
    refine wc_skip ?_
    refine wq_seq ?_
    refine wc_seq ?_
    refine wc_block ?_
    refine wc_seq ?_
    refine wc_region (l := [0, 1, 2, 3]) rfl ?_
    refine wo_index Θ_ok rfl rfl rfl rfl rfl rfl rfl rfl rfl rfl h0_2 rfl (by omega) hg141 (fun p144 h145 => ?_)
    refine wo_loadp Θ_ok rfl rfl rfl rfl rfl rfl rfl h145 rfl rfl (fun v146 h147 => ?_)
    obtain ⟨v148, rfl, h149⟩ := tGBox_is.1 h147
    refine wo_alloc Θ_ok rfl rfl rfl rfl rfl rfl [(.int .u64 0), (.slice none 0 0)] rfl hO (fun b150 w151 n152 => ?_)
    have h2 := h2.tr n152.tr
    have h0_2 := h0_2.tr n152.tr
    have h149 := h149.tr n152.tr
    have h0_1 := h0_1.tr n152.tr
    have h130 := h130.tr n152.tr
    have T17 := T17.trans n152.tr
    have T127 := T127.trans n152.tr
    have qh132b150 := h132.ne_new n152
    have h132 := h132.new n152
    have nb150b4 : b150 ≠ b4 := by have := hb4.lt; have := n152.ge; omega
    have hb4 := hb4.fr0 n152.fr
    have ib4 := List.mem_cons_of_mem b150 ib4
    have nb150b7 : b150 ≠ b7 := by have := hb7.lt; have := n152.ge; omega
    have hb7 := hb7.fr0 n152.fr
    have ib7 := List.mem_cons_of_mem b150 ib7
    have nb150b12 : b150 ≠ b12 := by have := hb12.lt; have := n152.ge; omega
    have hb12 := hb12.fr0 n152.fr
    have ib12 := List.mem_cons_of_mem b150 ib12
    have hb150 := n152.blk
    have gb150 := n152.ge0 hF
    have ib150 : b150 ∈ b150 :: O137 := List.mem_cons_self
    have hO := n152.ob
    have hF := hF.trans n152.fr
    have hS := Sub.cons hS b150
    obtain ⟨A153, c154, rfl, hlc154, hmc154⟩ := slice_form h149
    refine wo_store Θ_ok rfl rfl rfl rfl rfl rfl rfl hb150 [(.int .u64 z135.fPid), (.slice A153 z135.fWords.length c154)] rfl rfl (by simp [Value.oneCell']) rfl [(.int .u64 z135.fPid), (.slice A153 z135.fWords.length c154)] rfl (fun w155 hb150 f156 => ?_)
    have h2 := h2.tr (f156.tr (one_in ib150))
    have h0_2 := h0_2.tr (f156.tr (one_in ib150))
    have h0_1 := h0_1.tr (f156.tr (one_in ib150))
    have h130 := h130.tr (f156.tr (one_in ib150))
    have h149 := h149.tr (f156.tr (one_in ib150))
    have T17 := T17.trans (f156.tr (one_in ib150))
    have T127 := T127.trans (f156.tr (one_in ib150))
    have hb4 := hb4.fr f156 (nin nb150b4.symm)
    have hb7 := hb7.fr f156 (nin nb150b7.symm)
    have hb12 := hb12.fr f156 (nin nb150b12.symm)
    have h132 := h132.st f156 ib150 qh132b150
    have hO := f156.ob hO
    have hF := hF.own f156 gb150
    refine wo_nil ?_
    refine wq_seq ?_
    refine wc_seq ?_
    refine wc_region (l := [0, 1, 2, 3]) rfl ?_
    refine wo_seg Θ_ok [0] [(1, (.int .u64 x1)), (2, v2), (3, (bp b4)), (6, (bp b7)), (7, (bp b12)), (9, (bp b150)), (16, (.slice A125 x0.fBoxes.length c126)), (17, (.int .i64 (x0.fBoxes.length : Int))), (18, (.int .i64 (i133 : Int))), (22, (bp b150))] rfl ⟨rfl, rfl, rfl, rfl, rfl, rfl, rfl, rfl, rfl, rfl, trivial⟩ ?_
    refine wo_load Θ_ok rfl rfl rfl rfl rfl rfl rfl hb150 [(.int .u64 z135.fPid)] rfl rfl (.inr rfl) (.int .u64 z135.fPid) rfl ?_
    refine wo_seg Θ_ok [2, 3] [(1, (.int .u64 x1)), (2, v2), (3, (bp b4)), (6, (bp b7)), (7, (bp b12)), (9, (bp b150)), (16, (.slice A125 x0.fBoxes.length c126)), (17, (.int .i64 (x0.fBoxes.length : Int))), (18, (.int .i64 (i133 : Int))), (25, (.bool (decide (z135.fPid < x1))))] rfl ⟨rfl, rfl, rfl, rfl, rfl, rfl, rfl, rfl, rfl, rfl, trivial⟩ ?_
    refine wo_nil ?_
    refine wq_seq ?_
    rcases bif_some h with ⟨hc157, h⟩ | ⟨hc157, h⟩
    rotate_left
    · refine wc_known_false rfl hc157 ?_
      refine wc_skip ?_
      refine wq_block (wq_seq ?_)
      refine wc_region (l := [0, 1]) rfl ?_
      refine wo_seg Θ_ok [0, 1] [(1, (.int .u64 x1)), (2, v2), (3, (bp b4)), (6, (bp b7)), (7, (bp b12)), (16, (.slice A125 x0.fBoxes.length c126)), (17, (.int .i64 (x0.fBoxes.length : Int))), (18, (.int .i64 (IntKind.i64.wrap ((i133 : Int) + (1 : Int)))))] rfl ⟨rfl, rfl, rfl, rfl, rfl, rfl, rfl, rfl, trivial⟩ ?_
      refine wo_nil ?_
      exact wq_next rest134.length [(1, (.int .u64 x1)), (2, v2), (3, (bp b4)), (6, (bp b7)), (7, (bp b12)), (16, (.slice A125 x0.fBoxes.length c126)), (17, (.int .i64 (x0.fBoxes.length : Int))), (18, (.int .i64 ((i133 + 1 : Nat) : Int)))] (Nat.lt_succ_self _) ⟨rfl, rfl, rfl, rfl, rfl, rfl, rfl, congrArg (fun z => some (Value.int .i64 z)) (wrap_succ hl143 (Nat.le_trans hlc126 hmc126)), trivial⟩ ⟨rest134, i133 + 1, b150 :: O137, p128, v129, v131, rfl, hd136, rfl, T127, hO, hS, hF, ib4, hb4, ib7, hb7, ib12, hb12, h132, qh132b4, qh132b7, qh132b12, h130, h⟩
    refine wc_known_true rfl hc157 ?_
    refine wc_region (l := [0, 1, 2, 3, 4, 5, 6]) rfl ?_
    refine wo_seg Θ_ok [0] [(1, (.int .u64 x1)), (2, v2), (3, (bp b4)), (6, (bp b7)), (7, (bp b12)), (9, (bp b150)), (16, (.slice A125 x0.fBoxes.length c126)), (17, (.int .i64 (x0.fBoxes.length : Int))), (18, (.int .i64 (i133 : Int))), (26, (.pointer (some ⟨b12, 1, none⟩)))] rfl ⟨rfl, rfl, rfl, rfl, rfl, rfl, rfl, rfl, rfl, rfl, trivial⟩ ?_
    refine wo_load Θ_ok rfl rfl rfl rfl rfl rfl rfl hb12 [v131] rfl rfl (.inr rfl) v131 rfl ?_
    refine wo_load Θ_ok rfl rfl rfl rfl rfl rfl rfl hb150 [(.int .u64 z135.fPid), (.slice A153 z135.fWords.length c154)] rfl rfl (.inl rfl) (.agg #[(.int .u64 z135.fPid), (.slice A153 z135.fWords.length c154)]) rfl ?_
    refine wo_litd Θ_ok rfl rfl rfl rfl rfl rfl rfl rfl rfl rfl (T := tGBox) (xs := [z135]) (vs := [(.agg #[(.int .u64 z135.fPid), (.slice A153 z135.fWords.length c154)])]) rfl ⟨((tGBox_is (x := z135)).2 ⟨_, rfl, h149⟩), trivial⟩ rfl rfl rfl hO (fun v158 w159 h160 f161 => ?_)
    have h2 := h2.tr f161.tr0
    have h0_2 := h0_2.tr f161.tr0
    have h0_1 := h0_1.tr f161.tr0
    have h130 := h130.tr f161.tr0
    have hb4 := hb4.fr0 f161
    have hb7 := hb7.fr0 f161
    have hb12 := hb12.fr0 f161
    have h132 := h132.fr0 f161
    have T17 := T17.trans f161.tr0
    have T127 := T127.trans f161.tr0
    have hO := f161.ob hO
    have hF := hF.trans f161
    obtain ⟨z162, hz163, h⟩ := bind_some h
    refine wo_app Θ_ok rfl rfl rfl rfl rfl rfl rfl rfl rfl rfl rfl rfl rfl rfl hF hO h132 h160 hz163 (fun v164 w165 O166 ap167 => ?_)
    have h2 := h2.tr ap167.tr
    have h0_2 := h0_2.tr ap167.tr
    have h0_1 := h0_1.tr ap167.tr
    have h130 := h130.tr ap167.tr
    have T17 := T17.trans ap167.tr
    have T127 := T127.trans ap167.tr
    have qh168b4 := ap167.ne _ hb4.lt qh132b4
    have hb4 := ap167.blk hb4 qh132b4
    have ib4 := ap167.sub _ ib4
    have qh168b7 := ap167.ne _ hb7.lt qh132b7
    have hb7 := ap167.blk hb7 qh132b7
    have ib7 := ap167.sub _ ib7
    have qh168b12 := ap167.ne _ hb12.lt qh132b12
    have hb12 := ap167.blk hb12 qh132b12
    have ib12 := ap167.sub _ ib12
    have hF := ap167.fr0 h132 hF
    have hS := Sub.trans hS ap167.sub
    have hO := ap167.ob
    have h168 := ap167.own
    refine wo_seg Θ_ok [5] [(1, (.int .u64 x1)), (2, v2), (3, (bp b4)), (6, (bp b7)), (7, (bp b12)), (16, (.slice A125 x0.fBoxes.length c126)), (17, (.int .i64 (x0.fBoxes.length : Int))), (18, (.int .i64 (i133 : Int))), (30, v164), (31, (.pointer (some ⟨b12, 1, none⟩)))] rfl ⟨rfl, rfl, rfl, rfl, rfl, rfl, rfl, rfl, rfl, rfl, trivial⟩ ?_
    obtain ⟨A169, c170, rfl, hlc170, hmc170⟩ := h168.form
    refine wo_store Θ_ok rfl rfl rfl rfl rfl rfl rfl hb12 [(.slice A169 z162.length c170)] rfl rfl (by simp [Value.oneCell']) rfl [v129, (.slice A169 z162.length c170)] rfl (fun w171 hb12 f172 => ?_)
    have h2 := h2.tr (f172.tr (one_in ib12))
    have h0_2 := h0_2.tr (f172.tr (one_in ib12))
    have h0_1 := h0_1.tr (f172.tr (one_in ib12))
    have h130 := h130.tr (f172.tr (one_in ib12))
    have T17 := T17.trans (f172.tr (one_in ib12))
    have T127 := T127.trans (f172.tr (one_in ib12))
    have hb4 := hb4.fr f172 (nin nb12b4.symm)
    have hb7 := hb7.fr f172 (nin nb12b7.symm)
    have h168 := h168.st f172 ib12 qh168b12
    have hO := f172.ob hO
    have hF := hF.own f172 gb12
    refine wo_nil ?_
    refine wq_block (wq_seq ?_)
    refine wc_region (l := [0, 1]) rfl ?_
    refine wo_seg Θ_ok [0, 1] [(1, (.int .u64 x1)), (2, v2), (3, (bp b4)), (6, (bp b7)), (7, (bp b12)), (16, (.slice A125 x0.fBoxes.length c126)), (17, (.int .i64 (x0.fBoxes.length : Int))), (18, (.int .i64 (IntKind.i64.wrap ((i133 : Int) + (1 : Int)))))] rfl ⟨rfl, rfl, rfl, rfl, rfl, rfl, rfl, rfl, trivial⟩ ?_
    refine wo_nil ?_
    exact wq_next rest134.length [(1, (.int .u64 x1)), (2, v2), (3, (bp b4)), (6, (bp b7)), (7, (bp b12)), (16, (.slice A125 x0.fBoxes.length c126)), (17, (.int .i64 (x0.fBoxes.length : Int))), (18, (.int .i64 ((i133 + 1 : Nat) : Int)))] (Nat.lt_succ_self _) ⟨rfl, rfl, rfl, rfl, rfl, rfl, rfl, congrArg (fun z => some (Value.int .i64 z)) (wrap_succ hl143 (Nat.le_trans hlc126 hmc126)), trivial⟩ ⟨rest134, i133 + 1, O166, (GIpc.mk p128.fNames z162), v129, (.slice A169 z162.length c170), rfl, hd136, rfl, T127, hO, hS, hF, ib4, hb4, ib7, hb7, ib12, hb12, h168, qh168b4, qh168b7, qh168b12, h130, h⟩
  rintro E w28 ⟨O27, p22, v23, v25, rfl, T17, hO, hS, hF, ib4, hb4, ib7, hb7, ib12, hb12, h26, qh26b4, qh26b7, qh26b12, h24, h⟩
  have h2 := h2.tr T17
  have h0_1 := h0_1.tr T17
  have h0_2 := h0_2.tr T17
  subst hk19
  (try dsimp only at h)
  obtain ⟨k30, hk31, h⟩ := letk_some h
  refine wc_join (fun E W => ∃ (O39 : List Nat) (p34 : GIpc) (v35 : Value) (v37 : Value), E = [(1, (.int .u64 x1)), (3, (bp b4)), (6, (bp b7)), (7, (bp b12))] ∧ Tr O27 w28 O39 W ∧ OB O39 W ∧ Sub O O39 ∧ Fr [] w W ∧ b4 ∈ O39 ∧ Blk W b4 25 [(.slice A10 x0.fNames.length c11), v0_2] ∧ b7 ∈ O39 ∧ Blk W b7 25 [(.slice none 0 0), (.slice none 0 0)] ∧ b12 ∈ O39 ∧ Blk W b12 25 [v35, v37] ∧ Go.Dc.Own tGBox 61 w.heap.size O39 W v37 p34.fBoxes ∧ v37.ownBlock ≠ some b4 ∧ v37.ownBlock ≠ some b7 ∧ v37.ownBlock ≠ some b12 ∧ (Ty.slice tGName).is O39 W v35 p34.fNames ∧ k30 p34 = some r) ?_ (fun K32 hK33 => ?_)
  rotate_left
  · clear hk31
    have T29 := Tr.refl O27 w28
    refine wc_seq ?_
    refine wc_region (l := [0, 1, 2]) rfl ?_
    refine wo_seg Θ_ok [0] [(1, (.int .u64 x1)), (2, v2), (3, (bp b4)), (6, (bp b7)), (7, (bp b12)), (33, v2)] rfl ⟨rfl, rfl, rfl, rfl, rfl, rfl, trivial⟩ ?_
    obtain ⟨A107, c108, rfl, hlc108, hmc108⟩ := slice_form h2
    refine wo_seg Θ_ok [1] [(1, (.int .u64 x1)), (2, (.slice A107 x2.length c108)), (3, (bp b4)), (6, (bp b7)), (7, (bp b12)), (34, (.int .i64 (x2.length : Int)))] rfl ⟨rfl, rfl, rfl, rfl, rfl, rfl, trivial⟩ ?_
    refine wo_seg Θ_ok [2] [(1, (.int .u64 x1)), (2, (.slice A107 x2.length c108)), (3, (bp b4)), (6, (bp b7)), (7, (bp b12)), (35, (.bool (decide ((x2.length : Int) > (0 : Int)))))] rfl ⟨rfl, rfl, rfl, rfl, rfl, rfl, trivial⟩ ?_
    refine wo_nil ?_
    refine wq_seq ?_
    rcases bif_some h with ⟨hc109, h⟩ | ⟨hc109, h⟩
    rotate_left
    · refine wc_known_false rfl hc109 ?_
      refine wc_skip ?_
      exact wq_join hK33 [(1, (.int .u64 x1)), (3, (bp b4)), (6, (bp b7)), (7, (bp b12))] ⟨rfl, rfl, rfl, rfl, trivial⟩ ⟨O27, p22, v23, v25, rfl, T29, hO, hS, hF, ib4, hb4, ib7, hb7, ib12, hb12, h26, qh26b4, qh26b7, qh26b12, h24, h⟩
    refine wc_known_true rfl hc109 ?_
    refine wc_region (l := [0, 1, 2, 3, 4, 5, 6, 7, 8]) rfl ?_
    refine wo_seg Θ_ok [0] [(1, (.int .u64 x1)), (2, (.slice A107 x2.length c108)), (3, (bp b4)), (6, (bp b7)), (7, (bp b12)), (36, (.pointer (some ⟨b12, 1, none⟩)))] rfl ⟨rfl, rfl, rfl, rfl, rfl, rfl, trivial⟩ ?_
    refine wo_load Θ_ok rfl rfl rfl rfl rfl rfl rfl hb12 [v25] rfl rfl (.inr rfl) v25 rfl ?_
    refine wo_seg Θ_ok [2, 3, 4] [(1, (.int .u64 x1)), (3, (bp b4)), (6, (bp b7)), (7, (bp b12)), (37, v25), (40, (.agg #[(.int .u64 x1), (.slice A107 x2.length c108)]))] rfl ⟨rfl, rfl, rfl, rfl, rfl, rfl, trivial⟩ ?_
    refine wo_litd Θ_ok rfl rfl rfl rfl rfl rfl rfl rfl rfl rfl (T := tGBox) (xs := [(GBox.mk x1 x2)]) (vs := [(.agg #[(.int .u64 x1), (.slice A107 x2.length c108)])]) rfl ⟨((tGBox_is (x := (GBox.mk x1 x2))).2 ⟨_, rfl, h2⟩), trivial⟩ rfl rfl rfl hO (fun v110 w111 h112 f113 => ?_)
    have h0_1 := h0_1.tr f113.tr0
    have h0_2 := h0_2.tr f113.tr0
    have h24 := h24.tr f113.tr0
    have hb4 := hb4.fr0 f113
    have hb7 := hb7.fr0 f113
    have hb12 := hb12.fr0 f113
    have h26 := h26.fr0 f113
    have T29 := T29.trans f113.tr0
    have hO := f113.ob hO
    have hF := hF.trans f113
    obtain ⟨z114, hz115, h⟩ := bind_some h
    refine wo_app Θ_ok rfl rfl rfl rfl rfl rfl rfl rfl rfl rfl rfl rfl rfl rfl hF hO h26 h112 hz115 (fun v116 w117 O118 ap119 => ?_)
    have h0_1 := h0_1.tr ap119.tr
    have h0_2 := h0_2.tr ap119.tr
    have h24 := h24.tr ap119.tr
    have T29 := T29.trans ap119.tr
    have qh120b4 := ap119.ne _ hb4.lt qh26b4
    have hb4 := ap119.blk hb4 qh26b4
    have ib4 := ap119.sub _ ib4
    have qh120b7 := ap119.ne _ hb7.lt qh26b7
    have hb7 := ap119.blk hb7 qh26b7
    have ib7 := ap119.sub _ ib7
    have qh120b12 := ap119.ne _ hb12.lt qh26b12
    have hb12 := ap119.blk hb12 qh26b12
    have ib12 := ap119.sub _ ib12
    have hF := ap119.fr0 h26 hF
    have hS := Sub.trans hS ap119.sub
    have hO := ap119.ob
    have h120 := ap119.own
    refine wo_seg Θ_ok [7] [(1, (.int .u64 x1)), (3, (bp b4)), (6, (bp b7)), (7, (bp b12)), (42, v116), (43, (.pointer (some ⟨b12, 1, none⟩)))] rfl ⟨rfl, rfl, rfl, rfl, rfl, rfl, trivial⟩ ?_
    obtain ⟨A121, c122, rfl, hlc122, hmc122⟩ := h120.form
    refine wo_store Θ_ok rfl rfl rfl rfl rfl rfl rfl hb12 [(.slice A121 z114.length c122)] rfl rfl (by simp [Value.oneCell']) rfl [v23, (.slice A121 z114.length c122)] rfl (fun w123 hb12 f124 => ?_)
    have h0_1 := h0_1.tr (f124.tr (one_in ib12))
    have h0_2 := h0_2.tr (f124.tr (one_in ib12))
    have h24 := h24.tr (f124.tr (one_in ib12))
    have T29 := T29.trans (f124.tr (one_in ib12))
    have hb4 := hb4.fr f124 (nin nb12b4.symm)
    have hb7 := hb7.fr f124 (nin nb12b7.symm)
    have h120 := h120.st f124 ib12 qh120b12
    have hO := f124.ob hO
    have hF := hF.own f124 gb12
    refine wo_nil ?_
    exact wq_join hK33 [(1, (.int .u64 x1)), (3, (bp b4)), (6, (bp b7)), (7, (bp b12))] ⟨rfl, rfl, rfl, rfl, trivial⟩ ⟨O118, (GIpc.mk p22.fNames z114), v23, (.slice A121 z114.length c122), rfl, T29, hO, hS, hF, ib4, hb4, ib7, hb7, ib12, hb12, h120, qh120b4, qh120b7, qh120b12, h24, h⟩
  rintro E w40 ⟨O39, p34, v35, v37, rfl, T29, hO, hS, hF, ib4, hb4, ib7, hb7, ib12, hb12, h38, qh38b4, qh38b7, qh38b12, h36, h⟩
  have h0_1 := h0_1.tr T29
  have h0_2 := h0_2.tr T29
  subst hk31
  (try dsimp only at h)
  obtain ⟨k42, hk43, h⟩ := letk_some h
  refine wc_join (fun E W => ∃ (O51 : List Nat) (p46 : GIpc) (v47 : Value) (v49 : Value), E = [(6, (bp b7)), (7, (bp b12))] ∧ Tr O39 w40 O51 W ∧ OB O51 W ∧ Sub O O51 ∧ Fr [] w W ∧ b7 ∈ O51 ∧ Blk W b7 25 [(.slice none 0 0), (.slice none 0 0)] ∧ b12 ∈ O51 ∧ Blk W b12 25 [v47, v49] ∧ Go.Dc.Own tGBox 61 w.heap.size O51 W v49 p46.fBoxes ∧ v49.ownBlock ≠ some b7 ∧ v49.ownBlock ≠ some b12 ∧ (Ty.slice tGName).is O51 W v47 p46.fNames ∧ k42 p46 = some r) ?_ (fun K44 hK45 => ?_)
  · rintro E w52 ⟨O51, p46, v47, v49, rfl, T41, hO, hS, hF, ib7, hb7, ib12, hb12, h50, qh50b7, qh50b12, h48, h⟩
    subst hk43
    (try dsimp only at h)
    refine wc_seq ?_
    refine wc_region (l := [0, 1]) rfl ?_
    refine wo_load Θ_ok rfl rfl rfl rfl rfl rfl rfl hb12 [v47, v49] rfl rfl (.inl rfl) (.agg #[v47, v49]) rfl ?_
    obtain ⟨A53, c54, rfl, hlc54, hmc54⟩ := slice_form h48
    obtain ⟨A55, c56, rfl, hlc56, hmc56⟩ := h50.form
    refine wo_store Θ_ok rfl rfl rfl rfl rfl rfl rfl hb7 [(.slice A53 p46.fNames.length c54), (.slice A55 p46.fBoxes.length c56)] rfl rfl (by simp [Value.oneCell']) rfl [(.slice A53 p46.fNames.length c54), (.slice A55 p46.fBoxes.length c56)] rfl (fun w57 hb7 f58 => ?_)
    have h48 := h48.tr (f58.tr (one_in ib7))
    have h50 := h50.st f58 ib7 qh50b7
    have hO := f58.ob hO
    have hF := hF.own f58 gb7
    refine wo_nil ?_
    refine wq_seq ?_
    refine wc_ret ?_
    have h := Option.some.inj h; subst h
    exact wq_retc Θ_ok (vs := [(.agg #[(.slice A53 p46.fNames.length c54), (.slice A55 p46.fBoxes.length c56)])]) ⟨(.agg #[(.slice A53 p46.fNames.length c54), (.slice A55 p46.fBoxes.length c56)]), _, rfl, ⟨_, _, _, _, rfl, hb7, rfl, rfl, .inl rfl, rfl⟩, rfl⟩ ⟨_, rfl, ((tGIpc_is (x := p46)).2 ⟨_, _, rfl, (h48.tr (Tr.less hS)), (h50.share0 hS hO0)⟩), hF⟩
  clear hk43
  have T41 := Tr.refl O39 w40
  refine wc_seq ?_
  refine wc_region (l := [0, 1, 2, 3]) rfl ?_
  refine wo_seg Θ_ok [0] [(1, (.int .u64 x1)), (6, (bp b7)), (7, (bp b12)), (44, (.pointer (some ⟨b4, 1, none⟩)))] rfl ⟨rfl, rfl, rfl, rfl, trivial⟩ ?_
  refine wo_load Θ_ok rfl rfl rfl rfl rfl rfl rfl hb4 [v0_2] rfl rfl (.inr rfl) v0_2 rfl ?_
  obtain ⟨A59, c60, rfl, hlc60, hmc60⟩ := slice_form h0_2
  refine wo_seg Θ_ok [2] [(1, (.int .u64 x1)), (6, (bp b7)), (7, (bp b12)), (45, (.slice A59 x0.fBoxes.length c60)), (46, (.int .i64 (x0.fBoxes.length : Int)))] rfl ⟨rfl, rfl, rfl, rfl, rfl, trivial⟩ ?_
  refine wo_seg Θ_ok [3] [(1, (.int .u64 x1)), (6, (bp b7)), (7, (bp b12)), (45, (.slice A59 x0.fBoxes.length c60)), (46, (.int .i64 (x0.fBoxes.length : Int))), (47, (.int .i64 0))] rfl ⟨rfl, rfl, rfl, rfl, rfl, rfl, trivial⟩ ?_
  refine wo_nil ?_
  refine wq_seq ?_
  refine wc_block ?_
  refine wc_loop (fun m E W => ∃ (rest68 : List GBox) (i67 : Nat) (O71 : List Nat) (p62 : GIpc) (v63 : Value) (v65 : Value), rest68.length = m ∧ x0.fBoxes.drop i67 = rest68 ∧ E = [(1, (.int .u64 x1)), (6, (bp b7)), (7, (bp b12)), (45, (.slice A59 x0.fBoxes.length c60)), (46, (.int .i64 (x0.fBoxes.length : Int))), (47, (.int .i64 (i67 : Int)))] ∧ Tr O39 w40 O71 W ∧ OB O71 W ∧ Sub O O71 ∧ Fr [] w W ∧ b7 ∈ O71 ∧ Blk W b7 25 [(.slice none 0 0), (.slice none 0 0)] ∧ b12 ∈ O71 ∧ Blk W b12 25 [v63, v65] ∧ Go.Dc.Own tGBox 61 w.heap.size O71 W v65 p62.fBoxes ∧ v65.ownBlock ≠ some b7 ∧ v65.ownBlock ≠ some b12 ∧ (Ty.slice tGName).is O71 W v63 p62.fNames ∧ r_With_l1 x1 k42 rest68 i67 p62 = some r) _ [(1, (.int .u64 x1)), (6, (bp b7)), (7, (bp b12)), (45, (.slice A59 x0.fBoxes.length c60)), (46, (.int .i64 (x0.fBoxes.length : Int))), (47, (.int .i64 ((0 : Nat) : Int)))] ⟨rfl, rfl, rfl, rfl, rfl, rfl, trivial⟩ ⟨x0.fBoxes, 0, O39, p34, v35, v37, rfl, rfl, rfl, Tr.refl _ _, hO, hS, hF, ib7, hb7, ib12, hb12, h38, qh38b7, qh38b12, h36, h⟩ ?_
  rintro m E w72 ⟨rest68, i67, O71, p62, v63, v65, rfl, hd70, rfl, T61, hO, hS, hF, ib7, hb7, ib12, hb12, h66, qh66b7, qh66b12, h64, h⟩
  have T41 := T41.trans T61
  have h0_2 := h0_2.tr T61
  rcases rest68 with _ | ⟨z69, rest68⟩
  · rw [r_With_l1] at h
    have hl76 := drop_nil hd70
    have hc73 : (decide ((i67 : Int) < (x0.fBoxes.length : Int))) = false := decide_eq_false (by omega)
    refine wc_seq ?_
    refine wc_region (l := [0]) rfl ?_
    refine wo_seg Θ_ok [0] [(1, (.int .u64 x1)), (6, (bp b7)), (7, (bp b12)), (45, (.slice A59 x0.fBoxes.length c60)), (46, (.int .i64 (x0.fBoxes.length : Int))), (47, (.int .i64 (i67 : Int))), (48, (.bool (decide ((i67 : Int) < (x0.fBoxes.length : Int)))))] rfl ⟨rfl, rfl, rfl, rfl, rfl, rfl, rfl, trivial⟩ ?_
    refine wo_nil ?_
    refine wq_seq ?_
    refine wc_seq ?_
    refine wc_known_false rfl hc73 ?_
    refine wc_exit ?_
    exact wq_then_exit (wq_then_exit (wq_block_exit (wq_join hK45 [(6, (bp b7)), (7, (bp b12))] ⟨rfl, rfl, trivial⟩ ⟨O71, p62, v63, v65, rfl, T41, hO, hS, hF, ib7, hb7, ib12, hb12, h66, qh66b7, qh66b12, h64, h⟩)))
  rw [r_With_l1] at h
  obtain ⟨hl77, hg75, hd70⟩ := drop_cons hd70
  have hc74 : (decide ((i67 : Int) < (x0.fBoxes.length : Int))) = true := decide_eq_true (by omega)
  refine wc_seq ?_
  refine wc_region (l := [0]) rfl ?_
  refine wo_seg Θ_ok [0] [(1, (.int .u64 x1)), (6, (bp b7)), (7, (bp b12)), (45, (.slice A59 x0.fBoxes.length c60)), (46, (.int .i64 (x0.fBoxes.length : Int))), (47, (.int .i64 (i67 : Int))), (48, (.bool (decide ((i67 : Int) < (x0.fBoxes.length : Int)))))] rfl ⟨rfl, rfl, rfl, rfl, rfl, rfl, rfl, trivial⟩ ?_
  refine wo_nil ?_
  refine wq_seq ?_
  refine wc_seq ?_
  refine wc_known_true rfl hc74 ?_
  refine wc_skip ?_
  refine wq_seq ?_
  refine wc_seq ?_
  refine wc_block ?_
  refine wc_seq ?_
  refine wc_region (l := [0, 1, 2, 3]) rfl ?_
  refine wo_index Θ_ok rfl rfl rfl rfl rfl rfl rfl rfl rfl rfl h0_2 rfl (by omega) hg75 (fun p78 h79 => ?_)
  refine wo_loadp Θ_ok rfl rfl rfl rfl rfl rfl rfl h79 rfl rfl (fun v80 h81 => ?_)
  obtain ⟨v82, rfl, h83⟩ := tGBox_is.1 h81
  refine wo_alloc Θ_ok rfl rfl rfl rfl rfl rfl [(.int .u64 0), (.slice none 0 0)] rfl hO (fun b84 w85 n86 => ?_)
  have h0_2 := h0_2.tr n86.tr
  have h83 := h83.tr n86.tr
  have h64 := h64.tr n86.tr
  have T41 := T41.trans n86.tr
  have T61 := T61.trans n86.tr
  have qh66b84 := h66.ne_new n86
  have h66 := h66.new n86
  have nb84b7 : b84 ≠ b7 := by have := hb7.lt; have := n86.ge; omega
  have hb7 := hb7.fr0 n86.fr
  have ib7 := List.mem_cons_of_mem b84 ib7
  have nb84b12 : b84 ≠ b12 := by have := hb12.lt; have := n86.ge; omega
  have hb12 := hb12.fr0 n86.fr
  have ib12 := List.mem_cons_of_mem b84 ib12
  have hb84 := n86.blk
  have gb84 := n86.ge0 hF
  have ib84 : b84 ∈ b84 :: O71 := List.mem_cons_self
  have hO := n86.ob
  have hF := hF.trans n86.fr
  have hS := Sub.cons hS b84
  obtain ⟨A87, c88, rfl, hlc88, hmc88⟩ := slice_form h83
  refine wo_store Θ_ok rfl rfl rfl rfl rfl rfl rfl hb84 [(.int .u64 z69.fPid), (.slice A87 z69.fWords.length c88)] rfl rfl (by simp [Value.oneCell']) rfl [(.int .u64 z69.fPid), (.slice A87 z69.fWords.length c88)] rfl (fun w89 hb84 f90 => ?_)
  have h0_2 := h0_2.tr (f90.tr (one_in ib84))
  have h64 := h64.tr (f90.tr (one_in ib84))
  have h83 := h83.tr (f90.tr (one_in ib84))
  have T41 := T41.trans (f90.tr (one_in ib84))
  have T61 := T61.trans (f90.tr (one_in ib84))
  have hb7 := hb7.fr f90 (nin nb84b7.symm)
  have hb12 := hb12.fr f90 (nin nb84b12.symm)
  have h66 := h66.st f90 ib84 qh66b84
  have hO := f90.ob hO
  have hF := hF.own f90 gb84
  refine wo_nil ?_
  refine wq_seq ?_
  refine wc_seq ?_
  refine wc_region (l := [0, 1, 2, 3]) rfl ?_
  refine wo_seg Θ_ok [0] [(1, (.int .u64 x1)), (6, (bp b7)), (7, (bp b12)), (11, (bp b84)), (45, (.slice A59 x0.fBoxes.length c60)), (46, (.int .i64 (x0.fBoxes.length : Int))), (47, (.int .i64 (i67 : Int))), (51, (bp b84))] rfl ⟨rfl, rfl, rfl, rfl, rfl, rfl, rfl, rfl, trivial⟩ ?_
  refine wo_load Θ_ok rfl rfl rfl rfl rfl rfl rfl hb84 [(.int .u64 z69.fPid)] rfl rfl (.inr rfl) (.int .u64 z69.fPid) rfl ?_
  refine wo_seg Θ_ok [2, 3] [(1, (.int .u64 x1)), (6, (bp b7)), (7, (bp b12)), (11, (bp b84)), (45, (.slice A59 x0.fBoxes.length c60)), (46, (.int .i64 (x0.fBoxes.length : Int))), (47, (.int .i64 (i67 : Int))), (54, (.bool (decide (z69.fPid > x1))))] rfl ⟨rfl, rfl, rfl, rfl, rfl, rfl, rfl, rfl, trivial⟩ ?_
  refine wo_nil ?_
  refine wq_seq ?_
  rcases bif_some h with ⟨hc91, h⟩ | ⟨hc91, h⟩
  rotate_left
  · refine wc_known_false rfl hc91 ?_
    refine wc_skip ?_
    refine wq_block (wq_seq ?_)
    refine wc_region (l := [0, 1]) rfl ?_
    refine wo_seg Θ_ok [0, 1] [(1, (.int .u64 x1)), (6, (bp b7)), (7, (bp b12)), (45, (.slice A59 x0.fBoxes.length c60)), (46, (.int .i64 (x0.fBoxes.length : Int))), (47, (.int .i64 (IntKind.i64.wrap ((i67 : Int) + (1 : Int)))))] rfl ⟨rfl, rfl, rfl, rfl, rfl, rfl, trivial⟩ ?_
    refine wo_nil ?_
    exact wq_next rest68.length [(1, (.int .u64 x1)), (6, (bp b7)), (7, (bp b12)), (45, (.slice A59 x0.fBoxes.length c60)), (46, (.int .i64 (x0.fBoxes.length : Int))), (47, (.int .i64 ((i67 + 1 : Nat) : Int)))] (Nat.lt_succ_self _) ⟨rfl, rfl, rfl, rfl, rfl, congrArg (fun z => some (Value.int .i64 z)) (wrap_succ hl77 (Nat.le_trans hlc60 hmc60)), trivial⟩ ⟨rest68, i67 + 1, b84 :: O71, p62, v63, v65, rfl, hd70, rfl, T61, hO, hS, hF, ib7, hb7, ib12, hb12, h66, qh66b7, qh66b12, h64, h⟩
  refine wc_known_true rfl hc91 ?_
  refine wc_region (l := [0, 1, 2, 3, 4, 5, 6]) rfl ?_
  refine wo_seg Θ_ok [0] [(1, (.int .u64 x1)), (6, (bp b7)), (7, (bp b12)), (11, (bp b84)), (45, (.slice A59 x0.fBoxes.length c60)), (46, (.int .i64 (x0.fBoxes.length : Int))), (47, (.int .i64 (i67 : Int))), (55, (.pointer (some ⟨b12, 1, none⟩)))] rfl ⟨rfl, rfl, rfl, rfl, rfl, rfl, rfl, rfl, trivial⟩ ?_
  refine wo_load Θ_ok rfl rfl rfl rfl rfl rfl rfl hb12 [v65] rfl rfl (.inr rfl) v65 rfl ?_
  refine wo_load Θ_ok rfl rfl rfl rfl rfl rfl rfl hb84 [(.int .u64 z69.fPid), (.slice A87 z69.fWords.length c88)] rfl rfl (.inl rfl) (.agg #[(.int .u64 z69.fPid), (.slice A87 z69.fWords.length c88)]) rfl ?_
  refine wo_litd Θ_ok rfl rfl rfl rfl rfl rfl rfl rfl rfl rfl (T := tGBox) (xs := [z69]) (vs := [(.agg #[(.int .u64 z69.fPid), (.slice A87 z69.fWords.length c88)])]) rfl ⟨((tGBox_is (x := z69)).2 ⟨_, rfl, h83⟩), trivial⟩ rfl rfl rfl hO (fun v92 w93 h94 f95 => ?_)
  have h0_2 := h0_2.tr f95.tr0
  have h64 := h64.tr f95.tr0
  have hb7 := hb7.fr0 f95
  have hb12 := hb12.fr0 f95
  have h66 := h66.fr0 f95
  have T41 := T41.trans f95.tr0
  have T61 := T61.trans f95.tr0
  have hO := f95.ob hO
  have hF := hF.trans f95
  obtain ⟨z96, hz97, h⟩ := bind_some h
  refine wo_app Θ_ok rfl rfl rfl rfl rfl rfl rfl rfl rfl rfl rfl rfl rfl rfl hF hO h66 h94 hz97 (fun v98 w99 O100 ap101 => ?_)
  have h0_2 := h0_2.tr ap101.tr
  have h64 := h64.tr ap101.tr
  have T41 := T41.trans ap101.tr
  have T61 := T61.trans ap101.tr
  have qh102b7 := ap101.ne _ hb7.lt qh66b7
  have hb7 := ap101.blk hb7 qh66b7
  have ib7 := ap101.sub _ ib7
  have qh102b12 := ap101.ne _ hb12.lt qh66b12
  have hb12 := ap101.blk hb12 qh66b12
  have ib12 := ap101.sub _ ib12
  have hF := ap101.fr0 h66 hF
  have hS := Sub.trans hS ap101.sub
  have hO := ap101.ob
  have h102 := ap101.own
  refine wo_seg Θ_ok [5] [(1, (.int .u64 x1)), (6, (bp b7)), (7, (bp b12)), (45, (.slice A59 x0.fBoxes.length c60)), (46, (.int .i64 (x0.fBoxes.length : Int))), (47, (.int .i64 (i67 : Int))), (59, v98), (60, (.pointer (some ⟨b12, 1, none⟩)))] rfl ⟨rfl, rfl, rfl, rfl, rfl, rfl, rfl, rfl, trivial⟩ ?_
  obtain ⟨A103, c104, rfl, hlc104, hmc104⟩ := h102.form
  refine wo_store Θ_ok rfl rfl rfl rfl rfl rfl rfl hb12 [(.slice A103 z96.length c104)] rfl rfl (by simp [Value.oneCell']) rfl [v63, (.slice A103 z96.length c104)] rfl (fun w105 hb12 f106 => ?_)
  have h0_2 := h0_2.tr (f106.tr (one_in ib12))
  have h64 := h64.tr (f106.tr (one_in ib12))
  have T41 := T41.trans (f106.tr (one_in ib12))
  have T61 := T61.trans (f106.tr (one_in ib12))
  have hb7 := hb7.fr f106 (nin nb12b7.symm)
  have h102 := h102.st f106 ib12 qh102b12
  have hO := f106.ob hO
  have hF := hF.own f106 gb12
  refine wo_nil ?_
  refine wq_block (wq_seq ?_)
  refine wc_region (l := [0, 1]) rfl ?_
  refine wo_seg Θ_ok [0, 1] [(1, (.int .u64 x1)), (6, (bp b7)), (7, (bp b12)), (45, (.slice A59 x0.fBoxes.length c60)), (46, (.int .i64 (x0.fBoxes.length : Int))), (47, (.int .i64 (IntKind.i64.wrap ((i67 : Int) + (1 : Int)))))] rfl ⟨rfl, rfl, rfl, rfl, rfl, rfl, trivial⟩ ?_
  refine wo_nil ?_
  exact wq_next rest68.length [(1, (.int .u64 x1)), (6, (bp b7)), (7, (bp b12)), (45, (.slice A59 x0.fBoxes.length c60)), (46, (.int .i64 (x0.fBoxes.length : Int))), (47, (.int .i64 ((i67 + 1 : Nat) : Int)))] (Nat.lt_succ_self _) ⟨rfl, rfl, rfl, rfl, rfl, congrArg (fun z => some (Value.int .i64 z)) (wrap_succ hl77 (Nat.le_trans hlc60 hmc60)), trivial⟩ ⟨rest68, i67 + 1, O100, (GIpc.mk p62.fNames z96), v63, (.slice A103 z96.length c104), rfl, hd70, rfl, T61, hO, hS, hF, ib7, hb7, ib12, hb12, h102, qh102b7, qh102b12, h64, h⟩
set_option maxRecDepth 100000 in
set_option maxHeartbeats 4000000 in
theorem s_Grow_f {O : List Nat} {w : World} (hO : OB O w) {B : Nat} (hB : B ≤ w.heap.size) {v1 : Value} {n : Int} (h1 : (Ty.int .i64).is O w v1 n) {r : List Int} (h : s_Grow n = some r) :
    Calls Try.prog 48 #[.slice none 0 0, v1] w (GivesOwn (Ty.int .u64) 29 B O w (.slice none 0 0) r) := by
  obtain rfl := int_is.1 h1
  unfold s_Grow at h
  split at h
  · rename_i hc
    obtain ⟨h0, hb⟩ := hc
    simp only [Option.some.injEq] at h
    subst h
    obtain ⟨k, rfl⟩ : ∃ k : Nat, n = k := ⟨n.toNat, by omega⟩
    refine calls_of (args := [.slice none 0 0, .int .i64 k]) (N := 27) Try.func48 rfl rfl rfl ?_
    refine wc_seq ?_
    refine wc_region (l := [0]) rfl ?_
    refine wo_seg Θ_ok [0] [(0, .slice none 0 0), (1, .int .i64 k)] rfl ⟨rfl, rfl, trivial⟩ ?_
    refine wo_nil ?_
    refine wq_seq ?_
    refine wc_seq ?_
    refine wc_seq ?_
    refine wc_region (l := [0, 1]) rfl ?_
    refine wo_seg Θ_ok [0, 1] [(0, .slice none 0 0), (1, .int .i64 k), (6, .bool (decide ((k : Int) < 0)))] rfl ⟨rfl, rfl, rfl, trivial⟩ ?_
    refine wo_nil ?_
    refine wq_seq ?_
    refine wc_known_false rfl (decide_eq_false (by omega)) ?_
    refine wc_skip ?_
    refine wq_seq ?_
    refine wc_seq ?_
    refine wc_seq ?_
    refine wc_region (l := [0, 1, 2, 3, 4, 5, 6, 7]) rfl ?_
    refine wo_seg Θ_ok [0, 1, 2, 3, 4, 5, 6, 7] [(0, .slice none 0 0), (1, .int .i64 (IntKind.i64.wrap ((k : Int) - (IntKind.i64.wrap (((0 : Nat) : Int) - ((0 : Nat) : Int))))))] rfl ⟨rfl, rfl, trivial⟩ ?_
    have hw : IntKind.i64.wrap ((k : Int) - (IntKind.i64.wrap (((0 : Nat) : Int) - ((0 : Nat) : Int)))) = (k : Int) := by rw [IntKind.wrap_i64, IntKind.wrap_i64]; omega
    rw [hw]
    refine wo_nil ?_
    refine wq_seq ?_
    refine wc_seq ?_
    refine wc_region (l := [0, 1]) rfl ?_
    refine wo_seg Θ_ok [0, 1] [(0, .slice none 0 0), (1, .int .i64 k), (16, .bool (decide ((k : Int) > 0)))] rfl ⟨rfl, rfl, rfl, trivial⟩ ?_
    refine wo_nil ?_
    refine wq_seq ?_
    by_cases hk : 0 < k
    · refine wc_known_true rfl (decide_eq_true (by omega)) ?_
      refine wc_region (l := [0, 1, 2, 3, 4, 5, 6, 7, 8, 9]) rfl ?_
      refine wo_seg Θ_ok [0, 1, 2] [(0, .slice none 0 0), (1, .int .i64 k), (17, .slice none 0 0), (19, .int .i64 ((0 : Nat) : Int))] rfl ⟨rfl, rfl, rfl, rfl, trivial⟩ ?_
      refine wo_cutN Θ_ok rfl rfl rfl rfl rfl rfl rfl rfl rfl rfl ?_
      refine wo_seg Θ_ok [4] [(0, .slice none 0 0), (20, .slice none 0 0), (21, .int .i64 k)] rfl ⟨rfl, rfl, rfl, trivial⟩ ?_
      refine wo_appzN Θ_ok rfl rfl rfl rfl rfl rfl rfl rfl rfl rfl rfl rfl rfl hk (by simp only; omega) rfl ?_
      generalize hC : grownCap w k 0 29 = C
      have hCge : k ≤ C := by rw [← hC]; exact grownCap_ge _ _ _ _
      have hCm : C ≤ maxLen := by rw [← hC]; exact grownCap_le_maxLen _ _ _ _ (by unfold maxLen; omega)
      obtain ⟨Z, hZ1, hZ2⟩ := row_parts (cs := []) k (C - k) (show ((Value.cells (.int .u64 0)).size) = 1 from rfl)
      rw [show k + (C - k) = C by omega] at hZ2
      generalize ([] : List Value).toArray ++ Builtin.zeroCells _ k ++ Builtin.zeroCells _ (C - k) = row at *
      have hrsz : row.size = C * 1 := by rw [← Array.length_toList, hZ1]; simpa using hZ2
      have hn1 := new_alloc (O := O) (w := w.drew) hO 29 row.toList
      simp only [Array.toArray_toList] at hn1
      generalize w.drew.alloc (.cells row 29) = w1 at *
      have hG1 : w1.heap[w.heap.size]? = some (.cells row 29 (0, 0)) := by have := hn1.blk; unfold Blk at this; simpa using this
      have hf1 : Fr [] w w1 := (Fr.drew [] w).trans hn1.fr
      refine wo_seg Θ_ok [6, 7] [(22, .slice (some ⟨w.heap.size, 0, none⟩) k C), (24, .int .i64 ((0 : Nat) : Int))] rfl ⟨rfl, rfl, trivial⟩ ?_
      refine wo_cuthi (hi := 0) Θ_ok rfl rfl rfl rfl rfl rfl rfl rfl rfl rfl hCge (by omega) ?_
      refine wo_seg Θ_ok [9] [(0, .slice (some ⟨w.heap.size, 0, none⟩) 0 C)] rfl ⟨rfl, trivial⟩ ?_
      refine wo_nil ?_
      refine wq_seq ?_
      refine wc_seq ?_
      refine wc_region (l := [0, 1]) rfl ?_
      refine wo_seg Θ_ok [0, 1] [(4, .slice (some ⟨w.heap.size, 0, none⟩) 0 C)] rfl ⟨rfl, trivial⟩ ?_
      refine wo_nil ?_
      refine wq_seq ?_
      refine wc_ret ?_
      exact wq_ret rfl ⟨_, w.heap.size :: O, rfl, grew' (zs := []) (cs := []) hO (Nat.le_refl _) hB hf1 hG1 hrsz hCm (Nat.zero_le _) rfl (by simp)⟩
    · refine wc_known_false rfl (decide_eq_false (by omega)) ?_
      refine wc_skip ?_
      refine wq_seq ?_
      refine wc_seq ?_
      refine wc_region (l := [0, 1]) rfl ?_
      refine wo_seg Θ_ok [0, 1] [(4, .slice none 0 0)] rfl ⟨rfl, trivial⟩ ?_
      refine wo_nil ?_
      refine wq_seq ?_
      refine wc_ret ?_
      exact wq_ret rfl (fresh_own (Own.nil_ : Go.Dc.Own (Ty.int .u64) 29 w.heap.size O w _ _) (Sub.refl _) (Fr.refl _ _) hO hB)
  · cases h

set_option maxRecDepth 100000 in
set_option maxHeartbeats 4000000 in
theorem s_Concat_f {O : List Nat} {w : World} (hO : OB O w) {B : Nat} (hB : B ≤ w.heap.size) {v0 : Value} {x0 : List (List Int)} (h0 : (Ty.slice (Ty.slice (Ty.int .u64))).is O w v0 x0) {r : List Int} (h : s_Concat x0 = some r) : Calls Try.prog 29 #[v0] w (GivesOwn (Ty.int .u64) 29 B O w (.slice none 0 0) r) := by
  have hF := Fr.refl [] w
  have hO0 := hO
  have hS := Sub.refl O
  refine calls_of (args := [v0]) (N := 36) Try.func29 rfl rfl rfl ?_
  unfold s_Concat at h
  refine wc_seq ?_
  refine wc_region (l := [0]) rfl ?_
  refine wo_seg Θ_ok [0] [(0, v0)] rfl ⟨rfl, trivial⟩ ?_
  refine wo_nil ?_
  refine wq_seq ?_
  refine wc_seq ?_
  refine wc_region (l := [0]) rfl ?_
  refine wo_seg Θ_ok [0] [(0, v0), (3, (.int .i64 0))] rfl ⟨rfl, rfl, trivial⟩ ?_
  refine wo_nil ?_
  refine wq_seq ?_
  obtain ⟨k3, hk4, h⟩ := letk_some h
  refine wc_join (fun E W => ∃ (O8 : List Nat) (p7 : Int), E = [(0, v0), (3, (.int .i64 p7))] ∧ Tr O w O8 W ∧ OB O8 W ∧ Sub O O8 ∧ Fr [] w W ∧ k3 p7 = some r) ?_ (fun K5 hK6 => ?_)
  rotate_left
  · clear hk4
    have T2 := Tr.refl O w
    refine wc_seq ?_
    refine wc_region (l := [0, 1, 2]) rfl ?_
    refine wo_seg Θ_ok [0] [(0, v0), (3, (.int .i64 0)), (9, v0)] rfl ⟨rfl, rfl, rfl, trivial⟩ ?_
    obtain ⟨A55, c56, rfl, hlc56, hmc56⟩ := slice_form h0
    refine wo_seg Θ_ok [1] [(0, (.slice A55 x0.length c56)), (3, (.int .i64 0)), (9, (.slice A55 x0.length c56)), (10, (.int .i64 (x0.length : Int)))] rfl ⟨rfl, rfl, rfl, rfl, trivial⟩ ?_
    refine wo_seg Θ_ok [2] [(0, (.slice A55 x0.length c56)), (3, (.int .i64 0)), (9, (.slice A55 x0.length c56)), (10, (.int .i64 (x0.length : Int))), (11, (.int .i64 0))] rfl ⟨rfl, rfl, rfl, rfl, rfl, trivial⟩ ?_
    refine wo_nil ?_
    refine wq_seq ?_
    refine wc_block ?_
    refine wc_loop (fun m E W => ∃ (rest60 : List (List Int)) (i59 : Nat) (O63 : List Nat) (p58 : Int), rest60.length = m ∧ x0.drop i59 = rest60 ∧ E = [(0, (.slice A55 x0.length c56)), (3, (.int .i64 p58)), (9, (.slice A55 x0.length c56)), (10, (.int .i64 (x0.length : Int))), (11, (.int .i64 (i59 : Int)))] ∧ Tr O w O63 W ∧ OB O63 W ∧ Sub O O63 ∧ Fr [] w W ∧ s_Concat_l2 k3 rest60 i59 p58 = some r) _ [(0, (.slice A55 x0.length c56)), (3, (.int .i64 0)), (9, (.slice A55 x0.length c56)), (10, (.int .i64 (x0.length : Int))), (11, (.int .i64 ((0 : Nat) : Int)))] ⟨rfl, rfl, rfl, rfl, rfl, trivial⟩ ⟨x0, 0, O, (0 : Int), rfl, rfl, rfl, Tr.refl _ _, hO, hS, hF, h⟩ ?_
    rintro m E w64 ⟨rest60, i59, O63, p58, rfl, hd62, rfl, T57, hO, hS, hF, h⟩
    have T2 := T2.trans T57
    have h0 := h0.tr T57
    rcases rest60 with _ | ⟨z61, rest60⟩
    · rw [s_Concat_l2] at h
      have hl68 := drop_nil hd62
      have hc65 : (decide ((i59 : Int) < (x0.length : Int))) = false := decide_eq_false (by omega)
      refine wc_seq ?_
      refine wc_region (l := [0]) rfl ?_
      refine wo_seg Θ_ok [0] [(0, (.slice A55 x0.length c56)), (3, (.int .i64 p58)), (9, (.slice A55 x0.length c56)), (10, (.int .i64 (x0.length : Int))), (11, (.int .i64 (i59 : Int))), (12, (.bool (decide ((i59 : Int) < (x0.length : Int)))))] rfl ⟨rfl, rfl, rfl, rfl, rfl, rfl, trivial⟩ ?_
      refine wo_nil ?_
      refine wq_seq ?_
      refine wc_seq ?_
      refine wc_known_false rfl hc65 ?_
      refine wc_exit ?_
      exact wq_then_exit (wq_then_exit (wq_block_exit (wq_join hK6 [(0, (.slice A55 x0.length c56)), (3, (.int .i64 p58))] ⟨rfl, rfl, trivial⟩ ⟨O63, p58, rfl, T2, hO, hS, hF, h⟩)))
    rw [s_Concat_l2] at h
    obtain ⟨hl69, hg67, hd62⟩ := drop_cons hd62
    have hc66 : (decide ((i59 : Int) < (x0.length : Int))) = true := decide_eq_true (by omega)
    refine wc_seq ?_
    refine wc_region (l := [0]) rfl ?_
    refine wo_seg Θ_ok [0] [(0, (.slice A55 x0.length c56)), (3, (.int .i64 p58)), (9, (.slice A55 x0.length c56)), (10, (.int .i64 (x0.length : Int))), (11, (.int .i64 (i59 : Int))), (12, (.bool (decide ((i59 : Int) < (x0.length : Int)))))] rfl ⟨rfl, rfl, rfl, rfl, rfl, rfl, trivial⟩ ?_
    refine wo_nil ?_
    refine wq_seq ?_
    refine wc_seq ?_
    refine wc_known_true rfl hc66 ?_
    refine wc_skip ?_
    refine wq_seq ?_
    refine wc_seq ?_
    refine wc_block ?_
    refine wc_seq ?_
    refine wc_region (l := [0, 1, 2]) rfl ?_
    refine wo_index Θ_ok rfl rfl rfl rfl rfl rfl rfl rfl rfl rfl h0 rfl (by omega) hg67 (fun p70 h71 => ?_)
    refine wo_loadp Θ_ok rfl rfl rfl rfl rfl rfl rfl h71 rfl rfl (fun v72 h73 => ?_)
    refine wo_seg Θ_ok [2] [(0, (.slice A55 x0.length c56)), (3, (.int .i64 p58)), (5, v72), (9, (.slice A55 x0.length c56)), (10, (.int .i64 (x0.length : Int))), (11, (.int .i64 (i59 : Int)))] rfl ⟨rfl, rfl, rfl, rfl, rfl, rfl, trivial⟩ ?_
    refine wo_nil ?_
    refine wq_seq ?_
    refine wc_seq ?_
    refine wc_region (l := [0, 1, 2, 3, 4]) rfl ?_
    refine wo_seg Θ_ok [0, 1] [(0, (.slice A55 x0.length c56)), (9, (.slice A55 x0.length c56)), (10, (.int .i64 (x0.length : Int))), (11, (.int .i64 (i59 : Int))), (15, (.int .i64 p58)), (16, v72)] rfl ⟨rfl, rfl, rfl, rfl, rfl, rfl, trivial⟩ ?_
    obtain ⟨A74, c75, rfl, hlc75, hmc75⟩ := slice_form h73
    refine wo_seg Θ_ok [2] [(0, (.slice A55 x0.length c56)), (9, (.slice A55 x0.length c56)), (10, (.int .i64 (x0.length : Int))), (11, (.int .i64 (i59 : Int))), (15, (.int .i64 p58)), (17, (.int .i64 (z61.length : Int)))] rfl ⟨rfl, rfl, rfl, rfl, rfl, rfl, trivial⟩ ?_
    refine wo_seg Θ_ok [3, 4] [(0, (.slice A55 x0.length c56)), (3, (.int .i64 (IntKind.i64.wrap (p58 + (z61.length : Int))))), (9, (.slice A55 x0.length c56)), (10, (.int .i64 (x0.length : Int))), (11, (.int .i64 (i59 : Int)))] rfl ⟨rfl, rfl, rfl, rfl, rfl, trivial⟩ ?_
    refine wo_nil ?_
    refine wq_seq ?_
    refine wc_seq ?_
    refine wc_region (l := [0, 1]) rfl ?_
    refine wo_seg Θ_ok [0, 1] [(0, (.slice A55 x0.length c56)), (3, (.int .i64 (IntKind.i64.wrap (p58 + (z61.length : Int))))), (9, (.slice A55 x0.length c56)), (10, (.int .i64 (x0.length : Int))), (11, (.int .i64 (i59 : Int))), (20, (.bool (decide ((IntKind.i64.wrap (p58 + (z61.length : Int))) < (0 : Int)))))] rfl ⟨rfl, rfl, rfl, rfl, rfl, rfl, trivial⟩ ?_
    refine wo_nil ?_
    refine wq_seq ?_
    rcases bif_some h with ⟨hc76, h⟩ | ⟨hc76, h⟩
    · refine wc_known_true rfl hc76 ?_
      cases h
    refine wc_known_false rfl hc76 ?_
    refine wc_skip ?_
    refine wq_block (wq_seq ?_)
    refine wc_region (l := [0, 1]) rfl ?_
    refine wo_seg Θ_ok [0, 1] [(0, (.slice A55 x0.length c56)), (3, (.int .i64 (IntKind.i64.wrap (p58 + (z61.length : Int))))), (9, (.slice A55 x0.length c56)), (10, (.int .i64 (x0.length : Int))), (11, (.int .i64 (IntKind.i64.wrap ((i59 : Int) + (1 : Int)))))] rfl ⟨rfl, rfl, rfl, rfl, rfl, trivial⟩ ?_
    refine wo_nil ?_
    exact wq_next rest60.length [(0, (.slice A55 x0.length c56)), (3, (.int .i64 (IntKind.i64.wrap (p58 + (z61.length : Int))))), (9, (.slice A55 x0.length c56)), (10, (.int .i64 (x0.length : Int))), (11, (.int .i64 ((i59 + 1 : Nat) : Int)))] (Nat.lt_succ_self _) ⟨rfl, rfl, rfl, rfl, congrArg (fun z => some (Value.int .i64 z)) (wrap_succ hl69 (Nat.le_trans hlc56 hmc56)), trivial⟩ ⟨rest60, i59 + 1, O63, (IntKind.i64.wrap (p58 + (z61.length : Int))), rfl, hd62, rfl, T57, hO, hS, hF, h⟩
  rintro E w9 ⟨O8, p7, rfl, T2, hO, hS, hF, h⟩
  have h0 := h0.tr T2
  subst hk4
  (try dsimp only at h)
  refine wc_seq ?_
  refine wc_region (l := [0, 1, 2]) rfl ?_
  refine wo_seg Θ_ok [0] [(0, v0), (23, (.int .i64 p7))] rfl ⟨rfl, rfl, trivial⟩ ?_
  obtain ⟨z10, hz11, h⟩ := bind_some h
  refine wo_ownc rfl rfl rfl rfl rfl ent48 rfl (s_Grow_f hO hF.size (int_is.2 rfl) hz11) (fun v12 w13 O14 ap15 => ?_)
  have h0 := h0.tr ap15.tr
  have hF := ap15.fr0 (Go.Dc.Own.nil_ : Go.Dc.Own (Ty.int .u64) 29 w.heap.size _ _ _ _) hF
  have hS := Sub.trans hS ap15.sub
  have hO := ap15.ob
  have h16 := ap15.own
  refine wo_seg Θ_ok [2] [(0, v0), (6, v12)] rfl ⟨rfl, rfl, trivial⟩ ?_
  refine wo_nil ?_
  refine wq_seq ?_
  obtain ⟨k18, hk19, h⟩ := letk_some h
  refine wc_join (fun E W => ∃ (O25 : List Nat) (p22 : List Int) (v23 : Value), E = [(6, v23)] ∧ Tr O14 w13 O25 W ∧ OB O25 W ∧ Sub O O25 ∧ Fr [] w W ∧ Go.Dc.Own (Ty.int .u64) 29 w.heap.size O25 W v23 p22 ∧ k18 p22 = some r) ?_ (fun K20 hK21 => ?_)
  · rintro E w26 ⟨O25, p22, v23, rfl, T17, hO, hS, hF, h24, h⟩
    subst hk19
    (try dsimp only at h)
    refine wc_seq ?_
    refine wc_region (l := [0, 1]) rfl ?_
    refine wo_seg Θ_ok [0, 1] [(2, v23)] rfl ⟨rfl, trivial⟩ ?_
    refine wo_nil ?_
    refine wq_seq ?_
    refine wc_ret ?_
    cases h
    exact wq_ret rfl (fresh_own h24 hS hF hO0 hB)
  clear hk19
  have T17 := Tr.refl O14 w13
  refine wc_seq ?_
  refine wc_region (l := [0, 1, 2]) rfl ?_
  refine wo_seg Θ_ok [0] [(6, v12), (25, v0)] rfl ⟨rfl, rfl, trivial⟩ ?_
  obtain ⟨A27, c28, rfl, hlc28, hmc28⟩ := slice_form h0
  refine wo_seg Θ_ok [1] [(6, v12), (25, (.slice A27 x0.length c28)), (26, (.int .i64 (x0.length : Int)))] rfl ⟨rfl, rfl, rfl, trivial⟩ ?_
  refine wo_seg Θ_ok [2] [(6, v12), (25, (.slice A27 x0.length c28)), (26, (.int .i64 (x0.length : Int))), (27, (.int .i64 0))] rfl ⟨rfl, rfl, rfl, rfl, trivial⟩ ?_
  refine wo_nil ?_
  refine wq_seq ?_
  refine wc_block ?_
  refine wc_loop (fun m E W => ∃ (rest34 : List (List Int)) (i33 : Nat) (O37 : List Nat) (p30 : List Int) (v31 : Value), rest34.length = m ∧ x0.drop i33 = rest34 ∧ E = [(6, v31), (25, (.slice A27 x0.length c28)), (26, (.int .i64 (x0.length : Int))), (27, (.int .i64 (i33 : Int)))] ∧ Tr O14 w13 O37 W ∧ OB O37 W ∧ Sub O O37 ∧ Fr [] w W ∧ Go.Dc.Own (Ty.int .u64) 29 w.heap.size O37 W v31 p30 ∧ s_Concat_l1 k18 rest34 i33 p30 = some r) _ [(6, v12), (25, (.slice A27 x0.length c28)), (26, (.int .i64 (x0.length : Int))), (27, (.int .i64 ((0 : Nat) : Int)))] ⟨rfl, rfl, rfl, rfl, trivial⟩ ⟨x0, 0, O14, z10, v12, rfl, rfl, rfl, Tr.refl _ _, hO, hS, hF, h16, h⟩ ?_
  rintro m E w38 ⟨rest34, i33, O37, p30, v31, rfl, hd36, rfl, T29, hO, hS, hF, h32, h⟩
  have T17 := T17.trans T29
  have h0 := h0.tr T29
  rcases rest34 with _ | ⟨z35, rest34⟩
  · rw [s_Concat_l1] at h
    have hl42 := drop_nil hd36
    have hc39 : (decide ((i33 : Int) < (x0.length : Int))) = false := decide_eq_false (by omega)
    refine wc_seq ?_
    refine wc_region (l := [0]) rfl ?_
    refine wo_seg Θ_ok [0] [(6, v31), (25, (.slice A27 x0.length c28)), (26, (.int .i64 (x0.length : Int))), (27, (.int .i64 (i33 : Int))), (28, (.bool (decide ((i33 : Int) < (x0.length : Int)))))] rfl ⟨rfl, rfl, rfl, rfl, rfl, trivial⟩ ?_
    refine wo_nil ?_
    refine wq_seq ?_
    refine wc_seq ?_
    refine wc_known_false rfl hc39 ?_
    refine wc_exit ?_
    exact wq_then_exit (wq_then_exit (wq_block_exit (wq_join hK21 [(6, v31)] ⟨rfl, trivial⟩ ⟨O37, p30, v31, rfl, T17, hO, hS, hF, h32, h⟩)))
  rw [s_Concat_l1] at h
  obtain ⟨hl43, hg41, hd36⟩ := drop_cons hd36
  have hc40 : (decide ((i33 : Int) < (x0.length : Int))) = true := decide_eq_true (by omega)
  refine wc_seq ?_
  refine wc_region (l := [0]) rfl ?_
  refine wo_seg Θ_ok [0] [(6, v31), (25, (.slice A27 x0.length c28)), (26, (.int .i64 (x0.length : Int))), (27, (.int .i64 (i33 : Int))), (28, (.bool (decide ((i33 : Int) < (x0.length : Int)))))] rfl ⟨rfl, rfl, rfl, rfl, rfl, trivial⟩ ?_
  refine wo_nil ?_
  refine wq_seq ?_
  refine wc_seq ?_
  refine wc_known_true rfl hc40 ?_
  refine wc_skip ?_
  refine wq_seq ?_
  refine wc_seq ?_
  refine wc_block ?_
  refine wc_seq ?_
  refine wc_region (l := [0, 1, 2]) rfl ?_
  refine wo_index Θ_ok rfl rfl rfl rfl rfl rfl rfl rfl rfl rfl h0 rfl (by omega) hg41 (fun p44 h45 => ?_)
  refine wo_loadp Θ_ok rfl rfl rfl rfl rfl rfl rfl h45 rfl rfl (fun v46 h47 => ?_)
  refine wo_seg Θ_ok [2] [(6, v31), (8, v46), (25, (.slice A27 x0.length c28)), (26, (.int .i64 (x0.length : Int))), (27, (.int .i64 (i33 : Int)))] rfl ⟨rfl, rfl, rfl, rfl, rfl, trivial⟩ ?_
  refine wo_nil ?_
  refine wq_seq ?_
  refine wc_region (l := [0, 1, 2, 3]) rfl ?_
  refine wo_seg Θ_ok [0, 1] [(25, (.slice A27 x0.length c28)), (26, (.int .i64 (x0.length : Int))), (27, (.int .i64 (i33 : Int))), (31, v31), (32, v46)] rfl ⟨rfl, rfl, rfl, rfl, rfl, trivial⟩ ?_
  obtain ⟨z48, hz49, h⟩ := bind_some h
  refine wo_app Θ_ok rfl rfl rfl rfl rfl rfl rfl rfl rfl rfl rfl rfl rfl rfl hF hO h32 h47 hz49 (fun v50 w51 O52 ap53 => ?_)
  have h0 := h0.tr ap53.tr
  have T17 := T17.trans ap53.tr
  have T29 := T29.trans ap53.tr
  have hF := ap53.fr0 h32 hF
  have hS := Sub.trans hS ap53.sub
  have hO := ap53.ob
  have h54 := ap53.own
  refine wo_seg Θ_ok [3] [(6, v50), (25, (.slice A27 x0.length c28)), (26, (.int .i64 (x0.length : Int))), (27, (.int .i64 (i33 : Int)))] rfl ⟨rfl, rfl, rfl, rfl, trivial⟩ ?_
  refine wo_nil ?_
  refine wq_block (wq_seq ?_)
  refine wc_region (l := [0, 1]) rfl ?_
  refine wo_seg Θ_ok [0, 1] [(6, v50), (25, (.slice A27 x0.length c28)), (26, (.int .i64 (x0.length : Int))), (27, (.int .i64 (IntKind.i64.wrap ((i33 : Int) + (1 : Int)))))] rfl ⟨rfl, rfl, rfl, rfl, trivial⟩ ?_
  refine wo_nil ?_
  exact wq_next rest34.length [(6, v50), (25, (.slice A27 x0.length c28)), (26, (.int .i64 (x0.length : Int))), (27, (.int .i64 ((i33 + 1 : Nat) : Int)))] (Nat.lt_succ_self _) ⟨rfl, rfl, rfl, congrArg (fun z => some (Value.int .i64 z)) (wrap_succ hl43 (Nat.le_trans hlc28 hmc28)), trivial⟩ ⟨rest34, i33 + 1, O52, z48, v50, rfl, hd36, rfl, T29, hO, hS, hF, h54, h⟩
theorem s_Concat_c {O : List Nat} {w : World} (hO : OB O w) {v0 : Value} {x0 : List (List Int)} (h0 : (Ty.slice (Ty.slice (Ty.int .u64))).is O w v0 x0) {r : List Int} (h : s_Concat x0 = some r) : Calls Try.prog 29 #[v0] w (Gives (rt1 (Ty.slice (Ty.int .u64))) O w r) := (s_Concat_f hO (Nat.le_refl _) h0 h).mono fun _ _ hh => gives_of_own hO hh
end Go.Proofs.Ytjdeaihnpgkphaa
