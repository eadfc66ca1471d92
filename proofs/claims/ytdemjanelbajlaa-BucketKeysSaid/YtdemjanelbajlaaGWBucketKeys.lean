/-
  The program's functions compute the plain ones (printed by a tool of the prover's).
-/
import Derived.Test.YtdemjanelbajlaaGWalk4
namespace Go.Proofs.Ytdemjanelbajlaa
open Go.RowKit Go.Dc Go.Shelf
set_option maxRecDepth 100000 in
set_option maxHeartbeats 4000000 in
theorem l_Keys_c {O : List Nat} {w : World} (hO : OB O w) {fuel : Nat} {v0 : Value} {x0 : Int} (h0 : (Ty.int .u64).is O w v0 x0) {v1 : Value} {x1 : Int} (h1 : (Ty.int .u64).is O w v1 x1) {r : Bool} (h : l_Keys fuel x0 x1 = some r) : Calls Try.prog 4 #[v0, v1] w (Gives (rt1 Ty.bool) O w r) := by
  obtain rfl := int_is.1 h0
  obtain rfl := int_is.1 h1
  have hF := Fr.refl [] w
  have hO0 := hO
  have hS := Sub.refl O
  refine calls_of (args := [(.int .u64 x0), (.int .u64 x1)]) (N := 43) Try.func4 rfl rfl rfl ?_
  unfold l_Keys at h
  refine wc_seq ?_
  refine wc_region (l := [0]) rfl ?_
  refine wo_seg Θ_ok [0] [(0, (.int .u64 x0)), (1, (.int .u64 x1))] rfl ⟨rfl, rfl, trivial⟩ ?_
  refine wo_nil ?_
  refine wq_seq ?_
  refine wc_seq ?_
  refine wc_seq ?_
  refine wc_region (l := [0, 1]) rfl ?_
  obtain ⟨y7, hy8, h⟩ := bind_some h
  refine wo_gives rfl rfl rfl rfl rfl ent10 rfl (r_wakes_c hO hy8) (fun v3 w4 h5 f6 => ?_)
  have hO := f6.ob hO
  have hF := hF.trans f6
  obtain rfl := bool_is.1 h5
  refine wo_seg Θ_ok [1] [(0, (.int .u64 x0)), (1, (.int .u64 x1)), (8, (.bool (!y7)))] rfl ⟨rfl, rfl, rfl, trivial⟩ ?_
  refine wo_nil ?_
  refine wq_seq ?_
  rcases bif_some h with ⟨hc9, h⟩ | ⟨hc9, h⟩
  · refine wc_known_true rfl hc9 ?_
    refine wc_seq ?_
    refine wc_region (l := [0]) rfl ?_
    refine wo_seg Θ_ok [0] [(4, (.bool false))] rfl ⟨rfl, trivial⟩ ?_
    refine wo_nil ?_
    refine wq_seq ?_
    refine wc_ret ?_
    cases h
    exact wq_then_ret (wq_ret rfl ⟨_, rfl, (bool_is.2 rfl), hF⟩)
  refine wc_known_false rfl hc9 ?_
  refine wc_skip ?_
  refine wq_seq ?_
  refine wc_seq ?_
  refine wc_region (l := [0, 1, 2, 3, 4, 5]) rfl ?_
  refine wo_seg Θ_ok [0] [(0, (.int .u64 x0)), (1, (.int .u64 x1)), (9, (.int .u64 x0))] rfl ⟨rfl, rfl, rfl, trivial⟩ ?_
  refine wo_gives rfl rfl rfl rfl rfl ent14 rfl (b_Hash_c hO (int_is.2 rfl)) (fun v10 w11 h12 f13 => ?_)
  have hO := f13.ob hO
  have hF := hF.trans f13
  obtain rfl := int_is.1 h12
  refine wo_seg Θ_ok [2] [(0, (.int .u64 x0)), (1, (.int .u64 x1)), (10, (.int .u64 (b_Hash x0))), (11, (.int .u64 x1))] rfl ⟨rfl, rfl, rfl, rfl, trivial⟩ ?_
  refine wo_gives rfl rfl rfl rfl rfl ent14 rfl (b_Hash_c hO (int_is.2 rfl)) (fun v14 w15 h16 f17 => ?_)
  have hO := f17.ob hO
  have hF := hF.trans f17
  obtain rfl := int_is.1 h16
  refine wo_seg Θ_ok [4, 5] [(0, (.int .u64 x0)), (1, (.int .u64 x1)), (5, (.int .u64 (b_Hash x0))), (6, (.int .u64 (b_Hash x1)))] rfl ⟨rfl, rfl, rfl, rfl, trivial⟩ ?_
  refine wo_nil ?_
  refine wq_seq ?_
  refine wc_seq ?_
  refine wc_region (l := [0, 1, 2, 3, 4, 5, 6, 7, 8, 9, 10, 11, 12, 13, 14, 15, 16, 17, 18, 19, 20, 21, 22, 23, 24, 25, 26, 27, 28, 29, 30]) rfl ?_
  refine wo_seg Θ_ok [0] [(0, (.int .u64 x0)), (1, (.int .u64 x1)), (5, (.int .u64 (b_Hash x0))), (6, (.int .u64 (b_Hash x1))), (13, (.int .u64 (b_Hash x0)))] rfl ⟨rfl, rfl, rfl, rfl, rfl, trivial⟩ ?_
  refine wo_gives rfl rfl rfl rfl rfl ent15 rfl (b_Key_c hO (int_is.2 rfl)) (fun v18 w19 h20 f21 => ?_)
  have hO := f21.ob hO
  have hF := hF.trans f21
  obtain rfl := int_is.1 h20
  refine wo_seg Θ_ok [2, 3, 4] [(0, (.int .u64 x0)), (1, (.int .u64 x1)), (5, (.int .u64 (b_Hash x0))), (6, (.int .u64 (b_Hash x1))), (17, (.bool ((b_Key (b_Hash x0)) == x0)))] rfl ⟨rfl, rfl, rfl, rfl, rfl, trivial⟩ ?_
  rcases bif_some h with ⟨hc22, h⟩ | ⟨hc22, h⟩
  rotate_left
  · refine wo_know 17 false rfl hc22 ?_
    refine wo_seg Θ_ok [5, 6, 7, 8, 9, 10, 11, 12, 13, 14, 15, 16, 17, 18, 19, 20, 21, 22, 23, 24, 25, 26, 27, 28, 29, 30] [(4, (.bool false))] rfl ⟨rfl, trivial⟩ ?_
    refine wo_nil ?_
    refine wq_seq ?_
    refine wc_ret ?_
    cases h
    exact wq_ret rfl ⟨_, rfl, (bool_is.2 rfl), hF⟩
  refine wo_know 17 true rfl hc22 ?_
  refine wo_seg Θ_ok [5] [(0, (.int .u64 x0)), (1, (.int .u64 x1)), (5, (.int .u64 (b_Hash x0))), (6, (.int .u64 (b_Hash x1))), (17, (.bool true)), (18, (.int .u64 x1))] rfl ⟨rfl, rfl, rfl, rfl, rfl, rfl, trivial⟩ ?_
  refine wo_gives rfl rfl rfl rfl rfl ent15 rfl (b_Key_c hO (int_is.2 rfl)) (fun v23 w24 h25 f26 => ?_)
  have hO := f26.ob hO
  have hF := hF.trans f26
  obtain rfl := int_is.1 h25
  refine wo_gives rfl rfl rfl rfl rfl ent14 rfl (b_Hash_c hO (int_is.2 rfl)) (fun v27 w28 h29 f30 => ?_)
  have hO := f30.ob hO
  have hF := hF.trans f30
  obtain rfl := int_is.1 h29
  refine wo_seg Θ_ok [8, 9, 10, 11] [(0, (.int .u64 x0)), (1, (.int .u64 x1)), (5, (.int .u64 (b_Hash x0))), (6, (.int .u64 (b_Hash x1))), (24, (.bool ((b_Hash (b_Key x1)) == x1)))] rfl ⟨rfl, rfl, rfl, rfl, rfl, trivial⟩ ?_
  rcases bif_some h with ⟨hc31, h⟩ | ⟨hc31, h⟩
  rotate_left
  · refine wo_know 24 false rfl hc31 ?_
    refine wo_seg Θ_ok [12, 13, 14, 15, 16, 17, 18, 19, 20, 21, 22, 23, 24, 25, 26, 27, 28, 29, 30] [(4, (.bool false))] rfl ⟨rfl, trivial⟩ ?_
    refine wo_nil ?_
    refine wq_seq ?_
    refine wc_ret ?_
    cases h
    exact wq_ret rfl ⟨_, rfl, (bool_is.2 rfl), hF⟩
  refine wo_know 24 true rfl hc31 ?_
  refine wo_seg Θ_ok [12, 13, 14, 15, 16, 17, 18, 19, 20] [(0, (.int .u64 x0)), (1, (.int .u64 x1)), (5, (.int .u64 (b_Hash x0))), (6, (.int .u64 (b_Hash x1))), (33, (.bool (((b_Hash x0) == (b_Hash x1)) == (x0 == x1))))] rfl ⟨rfl, rfl, rfl, rfl, rfl, trivial⟩ ?_
  rcases bif_some h with ⟨hc32, h⟩ | ⟨hc32, h⟩
  rotate_left
  · refine wo_know 33 false rfl hc32 ?_
    refine wo_seg Θ_ok [21, 22, 23, 24, 25, 26, 27, 28, 29, 30] [(4, (.bool false))] rfl ⟨rfl, trivial⟩ ?_
    refine wo_nil ?_
    refine wq_seq ?_
    refine wc_ret ?_
    cases h
    exact wq_ret rfl ⟨_, rfl, (bool_is.2 rfl), hF⟩
  refine wo_know 33 true rfl hc32 ?_
  refine wo_seg Θ_ok [21, 22, 23] [(5, (.int .u64 (b_Hash x0))), (6, (.int .u64 (b_Hash x1))), (33, (.bool true)), (36, (.int .u64 (IntKind.u64.wrap (x0 + x1))))] rfl ⟨rfl, rfl, rfl, rfl, trivial⟩ ?_
  refine wo_gives rfl rfl rfl rfl rfl ent14 rfl (b_Hash_c hO (int_is.2 rfl)) (fun v33 w34 h35 f36 => ?_)
  have hO := f36.ob hO
  have hF := hF.trans f36
  obtain rfl := int_is.1 h35
  refine wo_seg Θ_ok [25, 26, 27, 28, 29, 30] [(4, (.bool ((b_Hash (IntKind.u64.wrap (x0 + x1))) == (IntKind.u64.wrap ((b_Hash x0) + (b_Hash x1))))))] rfl ⟨rfl, trivial⟩ ?_
  refine wo_nil ?_
  refine wq_seq ?_
  refine wc_ret ?_
  cases h
  exact wq_ret rfl ⟨_, rfl, (bool_is.2 rfl), hF⟩
end Go.Proofs.Ytdemjanelbajlaa
