/-
  The program's functions compute the plain ones (printed by a tool of the prover's).
-/
import Derived.Test.YtdemjanelbajlaaGTypes
namespace Go.Proofs.Ytdemjanelbajlaa
open Go.RowKit Go.Dc Go.Shelf
set_option maxRecDepth 100000 in
set_option maxHeartbeats 4000000 in
theorem b_Hash_c {O : List Nat} {w : World} (hO : OB O w) {v0 : Value} {x0 : Int} (h0 : (Ty.int .u64).is O w v0 x0) : Calls Try.prog 14 #[v0] w (Gives (rt1 (Ty.int .u64)) O w (b_Hash x0)) := by
  obtain rfl := int_is.1 h0
  have hF := Fr.refl [] w
  have hO0 := hO
  have hS := Sub.refl O
  obtain ⟨r, h⟩ : ∃ r, b_Hash x0 = r := ⟨_, rfl⟩
  rw [h]
  refine calls_of (args := [(.int .u64 x0)]) (N := 5) Try.func14 rfl rfl rfl ?_
  unfold b_Hash at h
  refine wc_seq ?_
  refine wc_region (l := [0]) rfl ?_
  refine wo_seg Θ_ok [0] [(0, (.int .u64 x0))] rfl ⟨rfl, trivial⟩ ?_
  refine wo_nil ?_
  refine wq_seq ?_
  refine wc_seq ?_
  refine wc_region (l := [0, 1, 2]) rfl ?_
  refine wo_seg Θ_ok [0, 1, 2] [(2, (.int .u64 (IntKind.u64.wrap (x0 * (11400714819323198485 : Int)))))] rfl ⟨rfl, trivial⟩ ?_
  refine wo_nil ?_
  refine wq_seq ?_
  refine wc_ret ?_
  subst h
  exact wq_ret rfl ⟨_, rfl, (int_is.2 rfl), hF⟩
set_option maxRecDepth 100000 in
set_option maxHeartbeats 4000000 in
theorem back_c {O : List Nat} {w : World} (hO : OB O w) : Calls Try.prog 38 #[] w (Gives (rt1 (Ty.int .u64)) O w back) := by
  refine calls_of (args := []) (N := 13) Try.func38 rfl rfl rfl ?_
  refine wc_seq ?_
  refine wc_region (l := [0]) rfl ?_
  refine wo_seg Θ_ok [0] [] rfl trivial ?_
  refine wo_nil ?_
  refine wq_seq ?_
  refine wc_scopeG 5 ?_
  refine wc_seq ?_
  refine wc_region (l := [0]) rfl ?_
  refine wo_seg Θ_ok [0] [(1, .int .u64 11400714819323198485)] rfl ⟨rfl, trivial⟩ ?_
  refine wo_nil ?_
  refine wq_seq ?_
  refine wc_seq ?_
  refine wc_region (l := [0]) rfl ?_
  refine wo_seg Θ_ok [0] [(1, .int .u64 11400714819323198485), (2, .int .i64 0)] rfl ⟨rfl, rfl, trivial⟩ ?_
  refine wo_nil ?_
  refine wq_seq ?_
  refine wc_seq ?_
  refine wc_label ?_
  refine wq_seq ?_
  refine wc_seq ?_
  refine wc_region (l := [0, 1, 2, 3, 4, 5]) rfl ?_
  refine wo_seg Θ_ok [0, 1, 2, 3, 4, 5] [(1, .int .u64 15862969329784324093), (2, .int .i64 0)] rfl ⟨rfl, rfl, trivial⟩ ?_
  refine wo_nil ?_
  refine wq_seq ?_
  refine wc_seq ?_
  refine wc_seq ?_
  refine wc_region (l := [0, 1, 2]) rfl ?_
  refine wo_seg Θ_ok [0, 1, 2] [(1, .int .u64 15862969329784324093), (2, .int .i64 1)] rfl ⟨rfl, rfl, trivial⟩ ?_
  refine wo_nil ?_
  refine wq_seq ?_
  refine wc_seq ?_
  refine wc_region (l := [0, 1]) rfl ?_
  refine wo_seg Θ_ok [0, 1] [(1, .int .u64 15862969329784324093), (2, .int .i64 1), (11, .bool true)] rfl ⟨rfl, rfl, rfl, trivial⟩ ?_
  refine wo_nil ?_
  refine wq_seq ?_
  refine wc_true rfl ?_
  refine wc_goto ?_
  refine wq_thenG (wq_goto rfl ?_)
  refine wc_seq ?_
  refine wc_skip ?_
  refine wq_seq ?_
  refine wc_seq ?_
  refine wc_region (l := [0, 1, 2, 3, 4, 5]) rfl ?_
  refine wo_seg Θ_ok [0, 1, 2, 3, 4, 5] [(1, .int .u64 10449034103236961085), (2, .int .i64 1)] rfl ⟨rfl, rfl, trivial⟩ ?_
  refine wo_nil ?_
  refine wq_seq ?_
  refine wc_seq ?_
  refine wc_seq ?_
  refine wc_region (l := [0, 1, 2]) rfl ?_
  refine wo_seg Θ_ok [0, 1, 2] [(1, .int .u64 10449034103236961085), (2, .int .i64 2)] rfl ⟨rfl, rfl, trivial⟩ ?_
  refine wo_nil ?_
  refine wq_seq ?_
  refine wc_seq ?_
  refine wc_region (l := [0, 1]) rfl ?_
  refine wo_seg Θ_ok [0, 1] [(1, .int .u64 10449034103236961085), (2, .int .i64 2), (11, .bool true)] rfl ⟨rfl, rfl, rfl, trivial⟩ ?_
  refine wo_nil ?_
  refine wq_seq ?_
  refine wc_true rfl ?_
  refine wc_goto ?_
  refine wq_thenG (wq_goto rfl ?_)
  refine wc_seq ?_
  refine wc_skip ?_
  refine wq_seq ?_
  refine wc_seq ?_
  refine wc_region (l := [0, 1, 2, 3, 4, 5]) rfl ?_
  refine wo_seg Θ_ok [0, 1, 2, 3, 4, 5] [(1, .int .u64 14592201029865403197), (2, .int .i64 2)] rfl ⟨rfl, rfl, trivial⟩ ?_
  refine wo_nil ?_
  refine wq_seq ?_
  refine wc_seq ?_
  refine wc_seq ?_
  refine wc_region (l := [0, 1, 2]) rfl ?_
  refine wo_seg Θ_ok [0, 1, 2] [(1, .int .u64 14592201029865403197), (2, .int .i64 3)] rfl ⟨rfl, rfl, trivial⟩ ?_
  refine wo_nil ?_
  refine wq_seq ?_
  refine wc_seq ?_
  refine wc_region (l := [0, 1]) rfl ?_
  refine wo_seg Θ_ok [0, 1] [(1, .int .u64 14592201029865403197), (2, .int .i64 3), (11, .bool true)] rfl ⟨rfl, rfl, rfl, trivial⟩ ?_
  refine wo_nil ?_
  refine wq_seq ?_
  refine wc_true rfl ?_
  refine wc_goto ?_
  refine wq_thenG (wq_goto rfl ?_)
  refine wc_seq ?_
  refine wc_skip ?_
  refine wq_seq ?_
  refine wc_seq ?_
  refine wc_region (l := [0, 1, 2, 3, 4, 5]) rfl ?_
  refine wo_seg Θ_ok [0, 1, 2, 3, 4, 5] [(1, .int .u64 6782847518758105917), (2, .int .i64 3)] rfl ⟨rfl, rfl, trivial⟩ ?_
  refine wo_nil ?_
  refine wq_seq ?_
  refine wc_seq ?_
  refine wc_seq ?_
  refine wc_region (l := [0, 1, 2]) rfl ?_
  refine wo_seg Θ_ok [0, 1, 2] [(1, .int .u64 6782847518758105917), (2, .int .i64 4)] rfl ⟨rfl, rfl, trivial⟩ ?_
  refine wo_nil ?_
  refine wq_seq ?_
  refine wc_seq ?_
  refine wc_region (l := [0, 1]) rfl ?_
  refine wo_seg Θ_ok [0, 1] [(1, .int .u64 6782847518758105917), (2, .int .i64 4), (11, .bool true)] rfl ⟨rfl, rfl, rfl, trivial⟩ ?_
  refine wo_nil ?_
  refine wq_seq ?_
  refine wc_true rfl ?_
  refine wc_goto ?_
  refine wq_thenG (wq_goto rfl ?_)
  refine wc_seq ?_
  refine wc_skip ?_
  refine wq_seq ?_
  refine wc_seq ?_
  refine wc_region (l := [0, 1, 2, 3, 4, 5]) rfl ?_
  refine wo_seg Θ_ok [0, 1, 2, 3, 4, 5] [(1, .int .u64 17428512612931826493), (2, .int .i64 4)] rfl ⟨rfl, rfl, trivial⟩ ?_
  refine wo_nil ?_
  refine wq_seq ?_
  refine wc_seq ?_
  refine wc_seq ?_
  refine wc_region (l := [0, 1, 2]) rfl ?_
  refine wo_seg Θ_ok [0, 1, 2] [(1, .int .u64 17428512612931826493), (2, .int .i64 5)] rfl ⟨rfl, rfl, trivial⟩ ?_
  refine wo_nil ?_
  refine wq_seq ?_
  refine wc_seq ?_
  refine wc_region (l := [0, 1]) rfl ?_
  refine wo_seg Θ_ok [0, 1] [(1, .int .u64 17428512612931826493), (2, .int .i64 5), (11, .bool true)] rfl ⟨rfl, rfl, rfl, trivial⟩ ?_
  refine wo_nil ?_
  refine wq_seq ?_
  refine wc_true rfl ?_
  refine wc_goto ?_
  refine wq_thenG (wq_goto rfl ?_)
  refine wc_seq ?_
  refine wc_skip ?_
  refine wq_seq ?_
  refine wc_seq ?_
  refine wc_region (l := [0, 1, 2, 3, 4, 5]) rfl ?_
  refine wo_seg Θ_ok [0, 1, 2, 3, 4, 5] [(1, .int .u64 17428512612931826493), (2, .int .i64 5)] rfl ⟨rfl, rfl, trivial⟩ ?_
  refine wo_nil ?_
  refine wq_seq ?_
  refine wc_seq ?_
  refine wc_seq ?_
  refine wc_region (l := [0, 1, 2]) rfl ?_
  refine wo_seg Θ_ok [0, 1, 2] [(1, .int .u64 17428512612931826493), (2, .int .i64 6)] rfl ⟨rfl, rfl, trivial⟩ ?_
  refine wo_nil ?_
  refine wq_seq ?_
  refine wc_seq ?_
  refine wc_region (l := [0, 1]) rfl ?_
  refine wo_seg Θ_ok [0, 1] [(1, .int .u64 17428512612931826493), (2, .int .i64 6), (11, .bool false)] rfl ⟨rfl, rfl, rfl, trivial⟩ ?_
  refine wo_nil ?_
  refine wq_seq ?_
  refine wc_false rfl ?_
  refine wc_skip ?_
  refine wq_seq ?_
  refine wc_seq ?_
  refine wc_region (l := [0, 1]) rfl ?_
  refine wo_seg Θ_ok [0, 1] [(0, .int .u64 17428512612931826493)] rfl ⟨rfl, trivial⟩ ?_
  refine wo_nil ?_
  refine wq_seq ?_
  refine wc_ret ?_
  exact wq_goRet (wq_ret rfl ⟨_, rfl, (int_is.2 rfl), Fr.refl _ _⟩)

set_option maxRecDepth 100000 in
set_option maxHeartbeats 4000000 in
theorem b_Key_c {O : List Nat} {w : World} (hO : OB O w) {v0 : Value} {x0 : Int} (h0 : (Ty.int .u64).is O w v0 x0) : Calls Try.prog 15 #[v0] w (Gives (rt1 (Ty.int .u64)) O w (b_Key x0)) := by
  obtain rfl := int_is.1 h0
  have hF := Fr.refl [] w
  have hO0 := hO
  have hS := Sub.refl O
  obtain ⟨r, h⟩ : ∃ r, b_Key x0 = r := ⟨_, rfl⟩
  rw [h]
  refine calls_of (args := [(.int .u64 x0)]) (N := 6) Try.func15 rfl rfl rfl ?_
  unfold b_Key at h
  refine wc_seq ?_
  refine wc_region (l := [0]) rfl ?_
  refine wo_seg Θ_ok [0] [(0, (.int .u64 x0))] rfl ⟨rfl, trivial⟩ ?_
  refine wo_nil ?_
  refine wq_seq ?_
  refine wc_seq ?_
  refine wc_region (l := [0, 1, 2, 3]) rfl ?_
  refine wo_seg Θ_ok [0] [(3, (.int .u64 x0))] rfl ⟨rfl, trivial⟩ ?_
  refine wo_gives rfl rfl rfl rfl rfl ent38 rfl (back_c hO ) (fun v2 w3 h4 f5 => ?_)
  have hO := f5.ob hO
  have hF := hF.trans f5
  obtain rfl := int_is.1 h4
  refine wo_seg Θ_ok [2, 3] [(2, (.int .u64 (IntKind.u64.wrap (x0 * back))))] rfl ⟨rfl, trivial⟩ ?_
  refine wo_nil ?_
  refine wq_seq ?_
  refine wc_ret ?_
  subst h
  exact wq_ret rfl ⟨_, rfl, (int_is.2 rfl), hF⟩
set_option maxRecDepth 100000 in
set_option maxHeartbeats 4000000 in
theorem rotl_c {O : List Nat} {w : World} (hO : OB O w) {v0 : Value} {x0 : Int} (h0 : (Ty.int .u64).is O w v0 x0) {v1 : Value} {x1 : Int} (h1 : (Ty.int .i64).is O w v1 x1) {r : Int} (h : rotl x0 x1 = some r) : Calls Try.prog 48 #[v0, v1] w (Gives (rt1 (Ty.int .u64)) O w r) := by
  obtain rfl := int_is.1 h0
  obtain rfl := int_is.1 h1
  have hF := Fr.refl [] w
  have hO0 := hO
  have hS := Sub.refl O
  refine calls_of (args := [(.int .u64 x0), (.int .i64 x1)]) (N := 17) Try.func48 rfl rfl rfl ?_
  unfold rotl at h
  refine wc_seq ?_
  refine wc_region (l := [0]) rfl ?_
  refine wo_seg Θ_ok [0] [(0, (.int .u64 x0)), (1, (.int .i64 x1))] rfl ⟨rfl, rfl, trivial⟩ ?_
  refine wo_nil ?_
  refine wq_seq ?_
  refine wc_seq ?_
  refine wc_region (l := [0, 1, 2, 3]) rfl ?_
  refine wo_seg Θ_ok [0, 1, 2, 3] [(0, (.int .u64 x0)), (5, (.int .u64 (bits .and .u64 (IntKind.u64.wrap x1) (63 : Int))))] rfl ⟨rfl, rfl, trivial⟩ ?_
  refine wo_nil ?_
  refine wq_seq ?_
  refine wc_seq ?_
  refine wc_region (l := [0, 1, 2, 3, 4, 5, 6, 7, 8]) rfl ?_
  refine wo_seg Θ_ok [0, 1] [(0, (.int .u64 x0)), (5, (.int .u64 (bits .and .u64 (IntKind.u64.wrap x1) (63 : Int)))), (9, (.int .u64 x0)), (10, (.int .u64 (bits .and .u64 (IntKind.u64.wrap x1) (63 : Int))))] rfl ⟨rfl, rfl, rfl, rfl, trivial⟩ ?_
  obtain ⟨y3, hz4, h⟩ := bind_some h
  refine wo_bin rfl rfl rfl rfl rfl rfl rfl (run_shl hz4) ?_
  refine wo_seg Θ_ok [3, 4, 5] [(11, (.int .u64 y3)), (12, (.int .u64 x0)), (14, (.int .u64 (IntKind.u64.wrap ((64 : Int) - (bits .and .u64 (IntKind.u64.wrap x1) (63 : Int))))))] rfl ⟨rfl, rfl, rfl, trivial⟩ ?_
  obtain ⟨y5, hz6, h⟩ := bind_some h
  refine wo_bin rfl rfl rfl rfl rfl rfl rfl (run_shr hz6) ?_
  refine wo_seg Θ_ok [7, 8] [(4, (.int .u64 (bits .or .u64 y3 y5)))] rfl ⟨rfl, trivial⟩ ?_
  refine wo_nil ?_
  refine wq_seq ?_
  refine wc_ret ?_
  cases h
  exact wq_ret rfl ⟨_, rfl, (int_is.2 rfl), hF⟩
set_option maxRecDepth 100000 in
set_option maxHeartbeats 4000000 in
theorem b_at_c {O : List Nat} {w : World} (hO : OB O w) {v0 : Value} {x0 : Int} (h0 : (Ty.int .u64).is O w v0 x0) {v1 : Value} {x1 : Int} (h1 : (Ty.int .i64).is O w v1 x1) {r : Int} (h : b_at x0 x1 = some r) : Calls Try.prog 39 #[v0, v1] w (Gives (rt1 (Ty.int .i64)) O w r) := by
  obtain rfl := int_is.1 h0
  obtain rfl := int_is.1 h1
  have hF := Fr.refl [] w
  have hO0 := hO
  have hS := Sub.refl O
  refine calls_of (args := [(.int .u64 x0), (.int .i64 x1)]) (N := 13) Try.func39 rfl rfl rfl ?_
  unfold b_at at h
  refine wc_seq ?_
  refine wc_region (l := [0]) rfl ?_
  refine wo_seg Θ_ok [0] [(0, (.int .u64 x0)), (1, (.int .i64 x1))] rfl ⟨rfl, rfl, trivial⟩ ?_
  refine wo_nil ?_
  refine wq_seq ?_
  refine wc_seq ?_
  obtain ⟨y3, hy4, h⟩ := bind_some h
  obtain ⟨y5, hz6, h⟩ := bind_some h
  refine wc_draw mixed [⟨5, [], [0]⟩, ⟨6, [], [1]⟩, ⟨7, [0, 1], []⟩, ⟨8, [], [1]⟩, ⟨9, [3], []⟩, ⟨10, [4], []⟩, ⟨11, [2, 5], []⟩, ⟨12, [6], []⟩, ⟨4, [7], []⟩] [SP.eq (.int .u64 x0), SP.eq (.int .i64 x1), SP.eq (.int .u64 y3), SP.eq (.int .i64 x1), SP.eq (.int .u64 y5), SP.eq (.int .u64 (IntKind.u64.wrap (y5 - (1 : Int)))), SP.eq (.int .u64 (bits .and .u64 y3 (IntKind.u64.wrap (y5 - (1 : Int))))), SP.eq (.int .i64 (IntKind.i64.wrap (bits .and .u64 y3 (IntKind.u64.wrap (y5 - (1 : Int)))))), SP.eq (.int .i64 (IntKind.i64.wrap (bits .and .u64 y3 (IntKind.u64.wrap (y5 - (1 : Int))))))] rfl rfl rfl ⟨?_, ?_, ?_, ?_, ?_, ?_, ?_, ?_, ?_, trivial⟩ ?_
  · intro a w2 hfr hN hds hb hd
    exact op_plain Θ_ok ⟨hN, hds, rows_get (E := [(0, (.int .u64 x0))]) ⟨hb 0 rfl _ rfl, trivial⟩⟩ rfl rfl rfl rfl rfl
  · intro a w2 hfr hN hds hb hd
    exact op_plain Θ_ok ⟨hN, hds, rows_get (E := [(1, (.int .i64 x1))]) ⟨hb 1 rfl _ rfl, trivial⟩⟩ rfl rfl rfl rfl rfl
  · intro a w2 hfr hN hds hb hd
    exact (op_call ⟨hN, hds, rows_get (E := [(5, (.int .u64 x0)), (6, (.int .i64 x1))]) ⟨(hd 0 rfl _ _ rfl rfl), (hd 1 rfl _ _ rfl rfl), trivial⟩⟩ rfl rfl rfl rfl ent48 rfl (rotl_c (hfr.ob hO) (int_is.2 rfl) (int_is.2 rfl) hy4)).weaken (fun u w3 ⟨hu, hf⟩ => ⟨int_is.1 hu, hf⟩)
  · intro a w2 hfr hN hds hb hd
    exact op_plain Θ_ok ⟨hN, hds, rows_get (E := [(1, (.int .i64 x1))]) ⟨hb 1 rfl _ rfl, trivial⟩⟩ rfl rfl rfl rfl rfl
  · intro a w2 hfr hN hds hb hd
    exact op_bin ⟨hN, hds, rows_get (E := [(8, (.int .i64 x1))]) ⟨(hd 3 rfl _ _ rfl rfl), trivial⟩⟩ rfl rfl rfl rfl rfl rfl (run_shl hz6)
  · intro a w2 hfr hN hds hb hd
    exact op_plain Θ_ok ⟨hN, hds, rows_get (E := [(9, (.int .u64 y5))]) ⟨(hd 4 rfl _ _ rfl rfl), trivial⟩⟩ rfl rfl rfl rfl rfl
  · intro a w2 hfr hN hds hb hd
    exact op_plain Θ_ok ⟨hN, hds, rows_get (E := [(7, (.int .u64 y3)), (10, (.int .u64 (IntKind.u64.wrap (y5 - (1 : Int)))))]) ⟨(hd 2 rfl _ _ rfl rfl), (hd 5 rfl _ _ rfl rfl), trivial⟩⟩ rfl rfl rfl rfl rfl
  · intro a w2 hfr hN hds hb hd
    exact op_plain Θ_ok ⟨hN, hds, rows_get (E := [(11, (.int .u64 (bits .and .u64 y3 (IntKind.u64.wrap (y5 - (1 : Int))))))]) ⟨(hd 6 rfl _ _ rfl rfl), trivial⟩⟩ rfl rfl rfl rfl rfl
  · intro a w2 hfr hN hds hb hd
    exact op_plain Θ_ok ⟨hN, hds, rows_get (E := [(12, (.int .i64 (IntKind.i64.wrap (bits .and .u64 y3 (IntKind.u64.wrap (y5 - (1 : Int)))))))]) ⟨(hd 7 rfl _ _ rfl rfl), trivial⟩⟩ rfl rfl rfl rfl rfl
  intro a w8 f7 hN hds hb hr
  have hO := f7.ob hO
  have hF := hF.trans f7
  refine wq_go (E := [(4, (.int .i64 (IntKind.i64.wrap (bits .and .u64 y3 (IntKind.u64.wrap (y5 - (1 : Int)))))))]) hN hds ⟨(hr 8 _ _ rfl rfl), trivial⟩ ?_
  refine wq_seq ?_
  refine wc_ret ?_
  cases h
  exact wq_ret rfl ⟨_, rfl, (int_is.2 rfl), hF⟩
set_option maxRecDepth 100000 in
set_option maxHeartbeats 4000000 in
theorem r_May_c {O : List Nat} {w : World} (hO : OB O w) {v0 : Value} {x0 : Int} (h0 : (Ty.int .i64).is O w v0 x0) : Calls Try.prog 12 #[v0] w (Gives (rt1 Ty.bool) O w (r_May x0)) := by
  obtain rfl := int_is.1 h0
  have hF := Fr.refl [] w
  have hO0 := hO
  have hS := Sub.refl O
  obtain ⟨r, h⟩ : ∃ r, r_May x0 = r := ⟨_, rfl⟩
  rw [h]
  refine calls_of (args := [(.int .i64 x0)]) (N := 13) Try.func12 rfl rfl rfl ?_
  unfold r_May at h
  refine wc_seq ?_
  refine wc_region (l := [0]) rfl ?_
  refine wo_seg Θ_ok [0] [(0, (.int .i64 x0))] rfl ⟨rfl, trivial⟩ ?_
  refine wo_nil ?_
  refine wq_seq ?_
  refine wc_seq ?_
  refine wc_region (l := [0, 1, 2, 3, 4, 5, 6, 7, 8, 9, 10]) rfl ?_
  refine wo_seg Θ_ok [0, 1, 2] [(0, (.int .i64 x0)), (5, (.bool (x0 == (4 : Int))))] rfl ⟨rfl, rfl, trivial⟩ ?_
  rcases bif_some h with ⟨hc2, h⟩ | ⟨hc2, h⟩
  · refine wo_know 5 true rfl hc2 ?_
    refine wo_seg Θ_ok [3, 4, 5, 6, 7, 8, 9, 10] [(2, (.bool true))] rfl ⟨rfl, trivial⟩ ?_
    refine wo_nil ?_
    refine wq_seq ?_
    refine wc_ret ?_
    subst h
    exact wq_ret rfl ⟨_, rfl, (bool_is.2 rfl), hF⟩
  refine wo_know 5 false rfl hc2 ?_
  refine wo_seg Θ_ok [3, 4, 5, 6] [(0, (.int .i64 x0)), (9, (.bool (x0 == (8 : Int))))] rfl ⟨rfl, rfl, trivial⟩ ?_
  rcases bif_some h with ⟨hc3, h⟩ | ⟨hc3, h⟩
  · refine wo_know 9 true rfl hc3 ?_
    refine wo_seg Θ_ok [7, 8, 9, 10] [(2, (.bool true))] rfl ⟨rfl, trivial⟩ ?_
    refine wo_nil ?_
    refine wq_seq ?_
    refine wc_ret ?_
    subst h
    exact wq_ret rfl ⟨_, rfl, (bool_is.2 rfl), hF⟩
  refine wo_know 9 false rfl hc3 ?_
  refine wo_seg Θ_ok [7, 8, 9, 10] [(2, (.bool (x0 == (16 : Int))))] rfl ⟨rfl, trivial⟩ ?_
  refine wo_nil ?_
  refine wq_seq ?_
  refine wc_ret ?_
  subst h
  exact wq_ret rfl ⟨_, rfl, (bool_is.2 rfl), hF⟩
set_option maxRecDepth 100000 in
set_option maxHeartbeats 4000000 in
theorem r_Want_c {O : List Nat} {w : World} (hO : OB O w) {v0 : Value} {x0 : Int} (h0 : (Ty.int .i64).is O w v0 x0) {v1 : Value} {x1 : Int} (h1 : (Ty.int .i64).is O w v1 x1) : Calls Try.prog 13 #[v0, v1] w (Gives (rt1 (Ty.int .i64)) O w (r_Want x0 x1)) := by
  obtain rfl := int_is.1 h0
  obtain rfl := int_is.1 h1
  have hF := Fr.refl [] w
  have hO0 := hO
  have hS := Sub.refl O
  obtain ⟨r, h⟩ : ∃ r, r_Want x0 x1 = r := ⟨_, rfl⟩
  rw [h]
  refine calls_of (args := [(.int .i64 x0), (.int .i64 x1)]) (N := 28) Try.func13 rfl rfl rfl ?_
  unfold r_Want at h
  refine wc_seq ?_
  refine wc_region (l := [0]) rfl ?_
  refine wo_seg Θ_ok [0] [(0, (.int .i64 x0)), (1, (.int .i64 x1))] rfl ⟨rfl, rfl, trivial⟩ ?_
  refine wo_nil ?_
  refine wq_seq ?_
  refine wc_seq ?_
  refine wc_block ?_
  obtain ⟨k4, hk5, h⟩ := letk_some h
  refine wc_join (fun E W => ∃ (O9 : List Nat) (p8 : Bool), E = [(0, (.int .i64 x0)), (1, (.int .i64 x1)), (5, (.bool p8))] ∧ Tr O w O9 W ∧ OB O9 W ∧ Sub O O9 ∧ Fr [] w W ∧ k4 p8 = r) ?_ (fun K6 hK7 => ?_)
  rotate_left
  · clear hk5
    have T3 := Tr.refl O w
    refine wc_region (l := [0, 1, 2, 3, 4, 5, 6, 7, 8]) rfl ?_
    refine wo_seg Θ_ok [0, 1, 2, 3, 4] [(0, (.int .i64 x0)), (1, (.int .i64 x1)), (10, (.bool (decide (x1 > (IntKind.i64.wrap ((2 : Int) * x0))))))] rfl ⟨rfl, rfl, rfl, trivial⟩ ?_
    rcases bif_some h with ⟨hc14, h⟩ | ⟨hc14, h⟩
    · refine wo_know 10 true rfl hc14 ?_
      refine wo_seg Θ_ok [5, 6, 7, 8] [(0, (.int .i64 x0)), (1, (.int .i64 x1)), (5, (.bool (decide (x0 < (16 : Int)))))] rfl ⟨rfl, rfl, rfl, trivial⟩ ?_
      refine wo_nil ?_
      exact wq_join hK7 [(0, (.int .i64 x0)), (1, (.int .i64 x1)), (5, (.bool (decide (x0 < (16 : Int)))))] ⟨rfl, rfl, rfl, trivial⟩ ⟨O, (decide (x0 < (16 : Int))), rfl, T3, hO, hS, hF, h⟩
    refine wo_know 10 false rfl hc14 ?_
    refine wo_seg Θ_ok [5, 6, 7, 8] [(0, (.int .i64 x0)), (1, (.int .i64 x1)), (5, (.bool false))] rfl ⟨rfl, rfl, rfl, trivial⟩ ?_
    refine wo_nil ?_
    exact wq_join hK7 [(0, (.int .i64 x0)), (1, (.int .i64 x1)), (5, (.bool false))] ⟨rfl, rfl, rfl, trivial⟩ ⟨O, false, rfl, T3, hO, hS, hF, h⟩
  rintro E w10 ⟨O9, p8, rfl, T3, hO, hS, hF, h⟩
  subst hk5
  (try dsimp only at h)
  rcases bif_some h with ⟨hc11, h⟩ | ⟨hc11, h⟩
  · refine wc_known_true rfl hc11 ?_
    refine wc_seq ?_
    refine wc_region (l := [0, 1, 2]) rfl ?_
    refine wo_seg Θ_ok [0, 1, 2] [(4, (.int .i64 (IntKind.i64.wrap ((2 : Int) * x0))))] rfl ⟨rfl, trivial⟩ ?_
    refine wo_nil ?_
    refine wq_seq ?_
    refine wc_ret ?_
    subst h
    exact wq_block_ret (wq_then_ret (wq_ret rfl ⟨_, rfl, (int_is.2 rfl), hF⟩))
  refine wc_known_false rfl hc11 ?_
  refine wc_seq ?_
  refine wc_region (l := [0, 1, 2, 3, 4, 5, 6, 7, 8]) rfl ?_
  refine wo_seg Θ_ok [0, 1, 2, 3, 4] [(0, (.int .i64 x0)), (21, (.bool (decide ((IntKind.i64.wrap ((2 : Int) * x1)) < x0))))] rfl ⟨rfl, rfl, trivial⟩ ?_
  rcases bif_some h with ⟨hc12, h⟩ | ⟨hc12, h⟩
  rotate_left
  · refine wo_know 21 false rfl hc12 ?_
    refine wo_seg Θ_ok [5, 6, 7, 8] [(0, (.int .i64 x0)), (16, (.bool false))] rfl ⟨rfl, rfl, trivial⟩ ?_
    refine wo_nil ?_
    refine wq_seq ?_
    refine wc_false rfl ?_
    refine wc_skip ?_
    refine wq_block (wq_seq ?_)
    refine wc_seq ?_
    refine wc_region (l := [0, 1]) rfl ?_
    refine wo_seg Θ_ok [0, 1] [(4, (.int .i64 x0))] rfl ⟨rfl, trivial⟩ ?_
    refine wo_nil ?_
    refine wq_seq ?_
    refine wc_ret ?_
    subst h
    exact wq_ret rfl ⟨_, rfl, (int_is.2 rfl), hF⟩
  refine wo_know 21 true rfl hc12 ?_
  refine wo_seg Θ_ok [5, 6, 7, 8] [(0, (.int .i64 x0)), (16, (.bool (decide (x0 > (4 : Int)))))] rfl ⟨rfl, rfl, trivial⟩ ?_
  refine wo_nil ?_
  refine wq_seq ?_
  rcases bif_some h with ⟨hc13, h⟩ | ⟨hc13, h⟩
  · refine wc_known_true rfl hc13 ?_
    refine wc_seq ?_
    refine wc_region (l := [0, 1, 2]) rfl ?_
    refine wo_seg Θ_ok [0, 1, 2] [(4, (.int .i64 (IntKind.i64.wrap (x0.tdiv (2 : Int)))))] rfl ⟨rfl, trivial⟩ ?_
    refine wo_nil ?_
    refine wq_seq ?_
    refine wc_ret ?_
    subst h
    exact wq_block_ret (wq_then_ret (wq_ret rfl ⟨_, rfl, (int_is.2 rfl), hF⟩))
  refine wc_known_false rfl hc13 ?_
  refine wc_skip ?_
  refine wq_block (wq_seq ?_)
  refine wc_seq ?_
  refine wc_region (l := [0, 1]) rfl ?_
  refine wo_seg Θ_ok [0, 1] [(4, (.int .i64 x0))] rfl ⟨rfl, trivial⟩ ?_
  refine wo_nil ?_
  refine wq_seq ?_
  refine wc_ret ?_
  subst h
  exact wq_ret rfl ⟨_, rfl, (int_is.2 rfl), hF⟩
set_option maxRecDepth 100000 in
set_option maxHeartbeats 4000000 in
theorem r_Hash_c {O : List Nat} {w : World} (hO : OB O w) {v0 : Value} {x0 : Int} (h0 : (Ty.int .u64).is O w v0 x0) : Calls Try.prog 19 #[v0] w (Gives (rt1 (Ty.int .u64)) O w (r_Hash x0)) := by
  obtain rfl := int_is.1 h0
  have hF := Fr.refl [] w
  have hO0 := hO
  have hS := Sub.refl O
  obtain ⟨r, h⟩ : ∃ r, r_Hash x0 = r := ⟨_, rfl⟩
  rw [h]
  refine calls_of (args := [(.int .u64 x0)]) (N := 5) Try.func19 rfl rfl rfl ?_
  unfold r_Hash at h
  refine wc_seq ?_
  refine wc_region (l := [0]) rfl ?_
  refine wo_seg Θ_ok [0] [(0, (.int .u64 x0))] rfl ⟨rfl, trivial⟩ ?_
  refine wo_nil ?_
  refine wq_seq ?_
  refine wc_seq ?_
  refine wc_region (l := [0, 1, 2]) rfl ?_
  refine wo_seg Θ_ok [0, 1, 2] [(2, (.int .u64 (IntKind.u64.wrap (x0 * (11400714819323198485 : Int)))))] rfl ⟨rfl, trivial⟩ ?_
  refine wo_nil ?_
  refine wq_seq ?_
  refine wc_ret ?_
  subst h
  exact wq_ret rfl ⟨_, rfl, (int_is.2 rfl), hF⟩
set_option maxRecDepth 100000 in
set_option maxHeartbeats 4000000 in
theorem r_Of_c {O : List Nat} {w : World} (hO : OB O w) {v0 : Value} {x0 : Int} (h0 : (Ty.int .u64).is O w v0 x0) {v1 : Value} {x1 : Int} (h1 : (Ty.int .i64).is O w v1 x1) {r : Int} (h : r_Of x0 x1 = some r) : Calls Try.prog 18 #[v0, v1] w (Gives (rt1 (Ty.int .i64)) O w r) := by
  obtain rfl := int_is.1 h0
  obtain rfl := int_is.1 h1
  have hF := Fr.refl [] w
  have hO0 := hO
  have hS := Sub.refl O
  refine calls_of (args := [(.int .u64 x0), (.int .i64 x1)]) (N := 15) Try.func18 rfl rfl rfl ?_
  unfold r_Of at h
  refine wc_seq ?_
  refine wc_region (l := [0]) rfl ?_
  refine wo_seg Θ_ok [0] [(0, (.int .u64 x0)), (1, (.int .i64 x1))] rfl ⟨rfl, rfl, trivial⟩ ?_
  refine wo_nil ?_
  refine wq_seq ?_
  refine wc_seq ?_
  refine wc_region (l := [0, 1, 2, 3, 4]) rfl ?_
  refine wo_seg Θ_ok [0, 1, 2] [(0, (.int .u64 x0)), (8, (.int .u64 (IntKind.u64.wrap ((IntKind.u64.wrap x1).tdiv (2 : Int)))))] rfl ⟨rfl, rfl, trivial⟩ ?_
  obtain ⟨y3, hz4, h⟩ := bind_some h
  refine wo_bin rfl rfl rfl rfl rfl rfl rfl (run_quo hz4) ?_
  refine wo_seg Θ_ok [4] [(0, (.int .u64 x0)), (5, (.int .u64 y3))] rfl ⟨rfl, rfl, trivial⟩ ?_
  refine wo_nil ?_
  refine wq_seq ?_
  refine wc_seq ?_
  refine wc_region (l := [0, 1, 2, 3, 4, 5]) rfl ?_
  refine wo_seg Θ_ok [0] [(5, (.int .u64 y3)), (10, (.int .u64 x0))] rfl ⟨rfl, rfl, trivial⟩ ?_
  refine wo_gives rfl rfl rfl rfl rfl ent19 rfl (r_Hash_c hO (int_is.2 rfl)) (fun v5 w6 h7 f8 => ?_)
  have hO := f8.ob hO
  have hF := hF.trans f8
  obtain rfl := int_is.1 h7
  refine wo_seg Θ_ok [2] [(11, (.int .u64 (r_Hash x0))), (12, (.int .u64 y3))] rfl ⟨rfl, rfl, trivial⟩ ?_
  obtain ⟨y9, hz10, h⟩ := bind_some h
  refine wo_bin rfl rfl rfl rfl rfl rfl rfl (run_quo hz10) ?_
  refine wo_seg Θ_ok [4, 5] [(4, (.int .i64 (IntKind.i64.wrap y9)))] rfl ⟨rfl, trivial⟩ ?_
  refine wo_nil ?_
  refine wq_seq ?_
  refine wc_ret ?_
  cases h
  exact wq_ret rfl ⟨_, rfl, (int_is.2 rfl), hF⟩
set_option maxRecDepth 100000 in
set_option maxHeartbeats 4000000 in
theorem r_Key_c {O : List Nat} {w : World} (hO : OB O w) {fuel : Nat} {v0 : Value} {x0 : Int} (h0 : (Ty.int .u64).is O w v0 x0) {r : Int} (h : r_Key fuel x0 = some r) : Calls Try.prog 20 #[v0] w (Gives (rt1 (Ty.int .u64)) O w r) := by
  obtain rfl := int_is.1 h0
  have hF := Fr.refl [] w
  have hO0 := hO
  have hS := Sub.refl O
  refine calls_of (args := [(.int .u64 x0)]) (N := 24) Try.func20 rfl rfl rfl ?_
  unfold r_Key at h
  refine wc_seq ?_
  refine wc_region (l := [0]) rfl ?_
  refine wo_seg Θ_ok [0] [(0, (.int .u64 x0))] rfl ⟨rfl, trivial⟩ ?_
  refine wo_nil ?_
  refine wq_seq ?_
  refine wc_seq ?_
  refine wc_region (l := [0, 1]) rfl ?_
  refine wo_seg Θ_ok [0, 1] [(0, (.int .u64 x0)), (3, (.int .u64 0)), (4, (.int .u64 1))] rfl ⟨rfl, rfl, rfl, trivial⟩ ?_
  refine wo_nil ?_
  refine wq_seq ?_
  obtain ⟨k3, hk4, h⟩ := letk_some h
  refine wc_join (fun E W => ∃ (O8 : List Nat) (p7 : Int), E = [(3, (.int .u64 p7))] ∧ Tr O w O8 W ∧ OB O8 W ∧ Sub O O8 ∧ Fr [] w W ∧ k3 p7 = some r) ?_ (fun K5 hK6 => ?_)
  · rintro E w9 ⟨O8, p7, rfl, T2, hO, hS, hF, h⟩
    subst hk4
    (try dsimp only at h)
    refine wc_seq ?_
    refine wc_region (l := [0, 1]) rfl ?_
    refine wo_seg Θ_ok [0, 1] [(2, (.int .u64 p7))] rfl ⟨rfl, trivial⟩ ?_
    refine wo_nil ?_
    refine wq_seq ?_
    refine wc_ret ?_
    cases h
    exact wq_ret rfl ⟨_, rfl, (int_is.2 rfl), hF⟩
  clear hk4
  have T2 := Tr.refl O w
  refine wc_seq ?_
  refine wc_region (l := [0]) rfl ?_
  refine wo_seg Θ_ok [0] [(0, (.int .u64 x0)), (3, (.int .u64 0)), (4, (.int .u64 1)), (5, (.int .i64 0))] rfl ⟨rfl, rfl, rfl, rfl, trivial⟩ ?_
  refine wo_nil ?_
  refine wq_seq ?_
  refine wc_block ?_
  refine wc_loop (fun m E W => ∃ (fl14 : Nat) (O15 : List Nat) (p11 : Int) (p12 : Int) (p13 : Int), fl14 = m ∧ E = [(0, (.int .u64 x0)), (3, (.int .u64 p11)), (4, (.int .u64 p12)), (5, (.int .i64 p13))] ∧ Tr O w O15 W ∧ OB O15 W ∧ Sub O O15 ∧ Fr [] w W ∧ r_Key_l1 x0 k3 fl14 p11 p12 p13 = some r) _ [(0, (.int .u64 x0)), (3, (.int .u64 0)), (4, (.int .u64 1)), (5, (.int .i64 0))] ⟨rfl, rfl, rfl, rfl, trivial⟩ ⟨fuel, O, (0 : Int), (1 : Int), (0 : Int), rfl, rfl, Tr.refl _ _, hO, hS, hF, h⟩ ?_
  rintro m E w16 ⟨fl14, O15, p11, p12, p13, rfl, rfl, T10, hO, hS, hF, h⟩
  have T2 := T2.trans T10
  rcases fl14 with _ | fl14
  · rw [r_Key_l1] at h
    cases h
  rw [r_Key_l1] at h
  refine wc_seq ?_
  refine wc_region (l := [0]) rfl ?_
  refine wo_seg Θ_ok [0] [(0, (.int .u64 x0)), (3, (.int .u64 p11)), (4, (.int .u64 p12)), (5, (.int .i64 p13)), (6, (.bool (decide (p13 < (64 : Int)))))] rfl ⟨rfl, rfl, rfl, rfl, rfl, trivial⟩ ?_
  refine wo_nil ?_
  refine wq_seq ?_
  refine wc_seq ?_
  rcases bif_some h with ⟨hc17, h⟩ | ⟨hc17, h⟩
  rotate_left
  · refine wc_known_false rfl hc17 ?_
    refine wc_exit ?_
    exact wq_then_exit (wq_then_exit (wq_block_exit (wq_join hK6 [(3, (.int .u64 p11))] ⟨rfl, trivial⟩ ⟨O15, p11, rfl, T2, hO, hS, hF, h⟩)))
  refine wc_known_true rfl hc17 ?_
  refine wc_skip ?_
  refine wq_seq ?_
  refine wc_seq ?_
  refine wc_block ?_
  refine wc_seq ?_
  refine wc_seq ?_
  obtain ⟨y18, hz19, h⟩ := bind_some h
  obtain ⟨y20, hz21, h⟩ := bind_some h
  refine wc_draw mixed [⟨7, [], [3]⟩, ⟨8, [0], []⟩, ⟨9, [], [4]⟩, ⟨10, [1, 2], []⟩, ⟨11, [3], []⟩, ⟨12, [], [0]⟩, ⟨13, [], [4]⟩, ⟨14, [5, 6], []⟩, ⟨15, [7], []⟩, ⟨16, [4, 8], []⟩] [SP.eq (.int .u64 p11), SP.eq (.int .u64 (IntKind.u64.wrap (p11 * (11400714819323198485 : Int)))), SP.eq (.int .u64 p12), SP.eq (.int .u64 y18), SP.eq (.int .u64 (y18.tmod (2 : Int))), SP.eq (.int .u64 x0), SP.eq (.int .u64 p12), SP.eq (.int .u64 y20), SP.eq (.int .u64 (y20.tmod (2 : Int))), SP.eq (.bool ((y18.tmod (2 : Int)) != (y20.tmod (2 : Int))))] rfl rfl rfl ⟨?_, ?_, ?_, ?_, ?_, ?_, ?_, ?_, ?_, ?_, trivial⟩ ?_
  · intro a w2 hfr hN hds hb hd
    exact op_plain Θ_ok ⟨hN, hds, rows_get (E := [(3, (.int .u64 p11))]) ⟨hb 3 rfl _ rfl, trivial⟩⟩ rfl rfl rfl rfl rfl
  · intro a w2 hfr hN hds hb hd
    exact op_plain Θ_ok ⟨hN, hds, rows_get (E := [(7, (.int .u64 p11))]) ⟨(hd 0 rfl _ _ rfl rfl), trivial⟩⟩ rfl rfl rfl rfl rfl
  · intro a w2 hfr hN hds hb hd
    exact op_plain Θ_ok ⟨hN, hds, rows_get (E := [(4, (.int .u64 p12))]) ⟨hb 4 rfl _ rfl, trivial⟩⟩ rfl rfl rfl rfl rfl
  · intro a w2 hfr hN hds hb hd
    exact op_bin ⟨hN, hds, rows_get (E := [(8, (.int .u64 (IntKind.u64.wrap (p11 * (11400714819323198485 : Int))))), (9, (.int .u64 p12))]) ⟨(hd 1 rfl _ _ rfl rfl), (hd 2 rfl _ _ rfl rfl), trivial⟩⟩ rfl rfl rfl rfl rfl rfl (run_quo hz19)
  · intro a w2 hfr hN hds hb hd
    exact op_plain Θ_ok ⟨hN, hds, rows_get (E := [(10, (.int .u64 y18))]) ⟨(hd 3 rfl _ _ rfl rfl), trivial⟩⟩ rfl rfl rfl rfl rfl
  · intro a w2 hfr hN hds hb hd
    exact op_plain Θ_ok ⟨hN, hds, rows_get (E := [(0, (.int .u64 x0))]) ⟨hb 0 rfl _ rfl, trivial⟩⟩ rfl rfl rfl rfl rfl
  · intro a w2 hfr hN hds hb hd
    exact op_plain Θ_ok ⟨hN, hds, rows_get (E := [(4, (.int .u64 p12))]) ⟨hb 4 rfl _ rfl, trivial⟩⟩ rfl rfl rfl rfl rfl
  · intro a w2 hfr hN hds hb hd
    exact op_bin ⟨hN, hds, rows_get (E := [(12, (.int .u64 x0)), (13, (.int .u64 p12))]) ⟨(hd 5 rfl _ _ rfl rfl), (hd 6 rfl _ _ rfl rfl), trivial⟩⟩ rfl rfl rfl rfl rfl rfl (run_quo hz21)
  · intro a w2 hfr hN hds hb hd
    exact op_plain Θ_ok ⟨hN, hds, rows_get (E := [(14, (.int .u64 y20))]) ⟨(hd 7 rfl _ _ rfl rfl), trivial⟩⟩ rfl rfl rfl rfl rfl
  · intro a w2 hfr hN hds hb hd
    exact op_plain Θ_ok ⟨hN, hds, rows_get (E := [(11, (.int .u64 (y18.tmod (2 : Int)))), (15, (.int .u64 (y20.tmod (2 : Int))))]) ⟨(hd 4 rfl _ _ rfl rfl), (hd 8 rfl _ _ rfl rfl), trivial⟩⟩ rfl rfl rfl rfl rfl
  intro a w23 f22 hN hds hb hr
  have T2 := T2.trans f22.tr0
  have T10 := T10.trans f22.tr0
  have hO := f22.ob hO
  have hF := hF.trans f22
  refine wq_go (E := [(0, (.int .u64 x0)), (3, (.int .u64 p11)), (4, (.int .u64 p12)), (5, (.int .i64 p13)), (16, (.bool ((y18.tmod (2 : Int)) != (y20.tmod (2 : Int)))))]) hN hds ⟨hb 0 _ rfl rfl, hb 3 _ rfl rfl, hb 4 _ rfl rfl, hb 5 _ rfl rfl, (hr 9 _ _ rfl rfl), trivial⟩ ?_
  refine wq_seq ?_
  rcases bif_some h with ⟨hc24, h⟩ | ⟨hc24, h⟩
  rotate_left
  · refine wc_known_false rfl hc24 ?_
    refine wc_skip ?_
    refine wq_seq ?_
    refine wc_region (l := [0, 1, 2]) rfl ?_
    refine wo_seg Θ_ok [0, 1, 2] [(0, (.int .u64 x0)), (3, (.int .u64 p11)), (4, (.int .u64 (IntKind.u64.wrap ((2 : Int) * p12)))), (5, (.int .i64 p13))] rfl ⟨rfl, rfl, rfl, rfl, trivial⟩ ?_
    refine wo_nil ?_
    refine wq_block (wq_seq ?_)
    refine wc_region (l := [0, 1]) rfl ?_
    refine wo_seg Θ_ok [0, 1] [(0, (.int .u64 x0)), (3, (.int .u64 p11)), (4, (.int .u64 (IntKind.u64.wrap ((2 : Int) * p12)))), (5, (.int .i64 (IntKind.i64.wrap (p13 + (1 : Int)))))] rfl ⟨rfl, rfl, rfl, rfl, trivial⟩ ?_
    refine wo_nil ?_
    exact wq_next fl14 [(0, (.int .u64 x0)), (3, (.int .u64 p11)), (4, (.int .u64 (IntKind.u64.wrap ((2 : Int) * p12)))), (5, (.int .i64 (IntKind.i64.wrap (p13 + (1 : Int)))))] (Nat.lt_succ_self _) ⟨rfl, rfl, rfl, rfl, trivial⟩ ⟨fl14, O15, p11, (IntKind.u64.wrap ((2 : Int) * p12)), (IntKind.i64.wrap (p13 + (1 : Int))), rfl, rfl, T10, hO, hS, hF, h⟩
  refine wc_known_true rfl hc24 ?_
  refine wc_region (l := [0, 1, 2, 3]) rfl ?_
  refine wo_seg Θ_ok [0, 1, 2, 3] [(0, (.int .u64 x0)), (3, (.int .u64 (IntKind.u64.wrap (p11 + p12)))), (4, (.int .u64 p12)), (5, (.int .i64 p13))] rfl ⟨rfl, rfl, rfl, rfl, trivial⟩ ?_
  refine wo_nil ?_
  refine wq_seq ?_
  refine wc_region (l := [0, 1, 2]) rfl ?_
  refine wo_seg Θ_ok [0, 1, 2] [(0, (.int .u64 x0)), (3, (.int .u64 (IntKind.u64.wrap (p11 + p12)))), (4, (.int .u64 (IntKind.u64.wrap ((2 : Int) * p12)))), (5, (.int .i64 p13))] rfl ⟨rfl, rfl, rfl, rfl, trivial⟩ ?_
  refine wo_nil ?_
  refine wq_block (wq_seq ?_)
  refine wc_region (l := [0, 1]) rfl ?_
  refine wo_seg Θ_ok [0, 1] [(0, (.int .u64 x0)), (3, (.int .u64 (IntKind.u64.wrap (p11 + p12)))), (4, (.int .u64 (IntKind.u64.wrap ((2 : Int) * p12)))), (5, (.int .i64 (IntKind.i64.wrap (p13 + (1 : Int)))))] rfl ⟨rfl, rfl, rfl, rfl, trivial⟩ ?_
  refine wo_nil ?_
  exact wq_next fl14 [(0, (.int .u64 x0)), (3, (.int .u64 (IntKind.u64.wrap (p11 + p12)))), (4, (.int .u64 (IntKind.u64.wrap ((2 : Int) * p12)))), (5, (.int .i64 (IntKind.i64.wrap (p13 + (1 : Int)))))] (Nat.lt_succ_self _) ⟨rfl, rfl, rfl, rfl, trivial⟩ ⟨fl14, O15, (IntKind.u64.wrap (p11 + p12)), (IntKind.u64.wrap ((2 : Int) * p12)), (IntKind.i64.wrap (p13 + (1 : Int))), rfl, rfl, T10, hO, hS, hF, h⟩
set_option maxRecDepth 100000 in
set_option maxHeartbeats 4000000 in
theorem depths_c {O : List Nat} {w : World} (hO : OB O w)  : Calls Try.prog 37 #[] w (Gives (rt1 (Ty.imap .i64 .i64)) O w (depths)) := by
  have hF := Fr.refl [] w
  have hO0 := hO
  have hS := Sub.refl O
  obtain ⟨r, h⟩ : ∃ r, depths = r := ⟨_, rfl⟩
  rw [h]
  refine calls_of (args := []) (N := 3) Try.func37 rfl rfl rfl ?_
  unfold depths at h
  refine wc_seq ?_
  refine wc_region (l := [0]) rfl ?_
  refine wo_seg Θ_ok [0] [] rfl trivial ?_
  refine wo_nil ?_
  refine wq_seq ?_
  refine wc_seq ?_
  refine wc_region (l := [0, 1, 2, 3, 4, 5]) rfl ?_
  refine wo_makeM rfl rfl rfl rfl rfl hO (fun b1 w2 n3 => ?_)
  have hb1 := n3.is .i64 .i64
  have gb1 := Nat.le_trans hF.size n3.ge
  have ib1 : b1 ∈ b1 :: O := List.mem_cons_self
  have hO := n3.ob
  have hF := hF.trans n3.fr
  have hS := Sub.cons hS b1
  refine wo_setM Θ_ok rfl rfl rfl (.inl rfl) rfl rfl rfl rfl rfl rfl rfl rfl hb1 (fun w4 hb1 f5 => ?_)
  have hO := f5.ob hO
  have hF := hF.own f5 gb1
  refine wo_setM Θ_ok rfl rfl rfl (.inl rfl) rfl rfl rfl rfl rfl rfl rfl rfl hb1 (fun w6 hb1 f7 => ?_)
  have hO := f7.ob hO
  have hF := hF.own f7 gb1
  refine wo_setM Θ_ok rfl rfl rfl (.inl rfl) rfl rfl rfl rfl rfl rfl rfl rfl hb1 (fun w8 hb1 f9 => ?_)
  have hO := f9.ob hO
  have hF := hF.own f9 gb1
  refine wo_seg Θ_ok [4, 5] [(0, (.map (some b1)))] rfl ⟨rfl, trivial⟩ ?_
  refine wo_nil ?_
  refine wq_seq ?_
  refine wc_ret ?_
  subst h
  exact wq_ret rfl ⟨_, rfl, (imap_share hb1 gb1 hO0), hF⟩
set_option maxRecDepth 100000 in
set_option maxHeartbeats 4000000 in
theorem b_Want_c {O : List Nat} {w : World} (hO : OB O w) {v0 : Value} {x0 : Int} (h0 : (Ty.int .i64).is O w v0 x0) {v1 : Value} {x1 : Int} (h1 : (Ty.int .i64).is O w v1 x1) : Calls Try.prog 11 #[v0, v1] w (Gives (rt2 (Ty.int .i64) (Ty.int .i64)) O w (b_Want x0 x1)) := by
  obtain rfl := int_is.1 h0
  obtain rfl := int_is.1 h1
  have hF := Fr.refl [] w
  have hO0 := hO
  have hS := Sub.refl O
  obtain ⟨r, h⟩ : ∃ r, b_Want x0 x1 = r := ⟨_, rfl⟩
  rw [h]
  refine calls_of (args := [(.int .i64 x0), (.int .i64 x1)]) (N := 44) Try.func11 rfl rfl rfl ?_
  unfold b_Want at h
  refine wc_seq ?_
  refine wc_region (l := [0, 1]) rfl ?_
  refine wo_seg Θ_ok [0, 1] [(0, (.int .i64 x0)), (1, (.int .i64 x1))] rfl ⟨rfl, rfl, trivial⟩ ?_
  refine wo_nil ?_
  refine wq_seq ?_
  refine wc_seq ?_
  refine wc_seq ?_
  refine wc_region (l := [0, 1, 2, 3, 4, 5, 6, 7]) rfl ?_
  refine wo_gives rfl rfl rfl rfl rfl ent37 rfl (depths_c hO ) (fun v3 w4 h5 f6 => ?_)
  have hO := f6.ob hO
  have hF := hF.trans f6
  refine wo_seg Θ_ok [1] [(0, (.int .i64 x0)), (1, (.int .i64 x1)), (9, v3), (10, (.int .i64 x0))] rfl ⟨rfl, rfl, rfl, rfl, trivial⟩ ?_
  refine wo_lookM Θ_ok rfl rfl rfl rfl rfl rfl rfl rfl rfl rfl rfl rfl rfl rfl h5 ?_
  refine wo_seg Θ_ok [3, 4, 5, 6, 7] [(0, (.int .i64 x0)), (1, (.int .i64 x1)), (7, (.bool (lookM depths x0).isSome))] rfl ⟨rfl, rfl, rfl, trivial⟩ ?_
  refine wo_nil ?_
  refine wq_seq ?_
  refine wc_block ?_
  obtain ⟨k8, hk9, h⟩ := letk_some h
  refine wc_join (fun E W => ∃ (O13 : List Nat) (p12 : Bool), E = [(0, (.int .i64 x0)), (1, (.int .i64 x1)), (14, (.bool p12))] ∧ Tr O w4 O13 W ∧ OB O13 W ∧ Sub O O13 ∧ Fr [] w W ∧ k8 p12 = r) ?_ (fun K10 hK11 => ?_)
  rotate_left
  · clear hk9
    have T7 := Tr.refl O w4
    refine wc_region (l := [0, 1, 2, 3, 4, 5, 6]) rfl ?_
    refine wo_seg Θ_ok [0, 1, 2] [(0, (.int .i64 x0)), (1, (.int .i64 x1)), (17, (.bool (!(lookM depths x0).isSome)))] rfl ⟨rfl, rfl, rfl, trivial⟩ ?_
    rcases bif_some h with ⟨hc36, h⟩ | ⟨hc36, h⟩
    · refine wo_know 17 true rfl hc36 ?_
      refine wo_seg Θ_ok [3, 4, 5, 6] [(0, (.int .i64 x0)), (1, (.int .i64 x1)), (14, (.bool true))] rfl ⟨rfl, rfl, rfl, trivial⟩ ?_
      refine wo_nil ?_
      exact wq_join hK11 [(0, (.int .i64 x0)), (1, (.int .i64 x1)), (14, (.bool true))] ⟨rfl, rfl, rfl, trivial⟩ ⟨O, true, rfl, T7, hO, hS, hF, h⟩
    refine wo_know 17 false rfl hc36 ?_
    refine wo_seg Θ_ok [3, 4, 5, 6] [(0, (.int .i64 x0)), (1, (.int .i64 x1)), (14, (.bool (decide (x1 < (0 : Int)))))] rfl ⟨rfl, rfl, rfl, trivial⟩ ?_
    refine wo_nil ?_
    exact wq_join hK11 [(0, (.int .i64 x0)), (1, (.int .i64 x1)), (14, (.bool (decide (x1 < (0 : Int)))))] ⟨rfl, rfl, rfl, trivial⟩ ⟨O, (decide (x1 < (0 : Int))), rfl, T7, hO, hS, hF, h⟩
  rintro E w14 ⟨O13, p12, rfl, T7, hO, hS, hF, h⟩
  subst hk9
  (try dsimp only at h)
  rcases bif_some h with ⟨hc15, h⟩ | ⟨hc15, h⟩
  · refine wc_known_true rfl hc15 ?_
    refine wc_seq ?_
    refine wc_region (l := [0, 1]) rfl ?_
    refine wo_seg Θ_ok [0, 1] [(4, (.int .i64 0)), (5, (.int .i64 2))] rfl ⟨rfl, rfl, trivial⟩ ?_
    refine wo_nil ?_
    refine wq_seq ?_
    refine wc_ret ?_
    subst h
    exact wq_block_ret (wq_then_ret (wq_ret rfl ⟨_, rfl, ⟨_, _, rfl, (int_is.2 rfl), (int_is.2 rfl)⟩, hF⟩))
  refine wc_known_false rfl hc15 ?_
  obtain ⟨k17, hk18, h⟩ := letk_some h
  refine wc_join (fun E W => ∃ (O22 : List Nat) (p21 : Bool), E = [(0, (.int .i64 x0)), (1, (.int .i64 x1)), (21, (.bool p21))] ∧ Tr O13 w14 O22 W ∧ OB O22 W ∧ Sub O O22 ∧ Fr [] w W ∧ k17 p21 = r) ?_ (fun K19 hK20 => ?_)
  rotate_left
  · clear hk18
    have T16 := Tr.refl O13 w14
    refine wc_region (l := [0, 1, 2, 3, 4, 5, 6, 7, 8]) rfl ?_
    refine wo_seg Θ_ok [0, 1, 2, 3, 4] [(0, (.int .i64 x0)), (1, (.int .i64 x1)), (26, (.bool (decide (x1 > (IntKind.i64.wrap ((2 : Int) * x0))))))] rfl ⟨rfl, rfl, rfl, trivial⟩ ?_
    rcases bif_some h with ⟨hc35, h⟩ | ⟨hc35, h⟩
    · refine wo_know 26 true rfl hc35 ?_
      refine wo_seg Θ_ok [5, 6, 7, 8] [(0, (.int .i64 x0)), (1, (.int .i64 x1)), (21, (.bool (decide (x0 < (16 : Int)))))] rfl ⟨rfl, rfl, rfl, trivial⟩ ?_
      refine wo_nil ?_
      exact wq_join hK20 [(0, (.int .i64 x0)), (1, (.int .i64 x1)), (21, (.bool (decide (x0 < (16 : Int)))))] ⟨rfl, rfl, rfl, trivial⟩ ⟨O13, (decide (x0 < (16 : Int))), rfl, T16, hO, hS, hF, h⟩
    refine wo_know 26 false rfl hc35 ?_
    refine wo_seg Θ_ok [5, 6, 7, 8] [(0, (.int .i64 x0)), (1, (.int .i64 x1)), (21, (.bool false))] rfl ⟨rfl, rfl, rfl, trivial⟩ ?_
    refine wo_nil ?_
    exact wq_join hK20 [(0, (.int .i64 x0)), (1, (.int .i64 x1)), (21, (.bool false))] ⟨rfl, rfl, rfl, trivial⟩ ⟨O13, false, rfl, T16, hO, hS, hF, h⟩
  rintro E w23 ⟨O22, p21, rfl, T16, hO, hS, hF, h⟩
  subst hk18
  (try dsimp only at h)
  rcases bif_some h with ⟨hc24, h⟩ | ⟨hc24, h⟩
  · refine wc_known_true rfl hc24 ?_
    refine wc_seq ?_
    refine wc_region (l := [0, 1, 2, 3]) rfl ?_
    refine wo_seg Θ_ok [0, 1, 2, 3] [(4, (.int .i64 (IntKind.i64.wrap ((2 : Int) * x0)))), (5, (.int .i64 0))] rfl ⟨rfl, rfl, trivial⟩ ?_
    refine wo_nil ?_
    refine wq_seq ?_
    refine wc_ret ?_
    subst h
    exact wq_block_ret (wq_then_ret (wq_ret rfl ⟨_, rfl, ⟨_, _, rfl, (int_is.2 rfl), (int_is.2 rfl)⟩, hF⟩))
  refine wc_known_false rfl hc24 ?_
  obtain ⟨k26, hk27, h⟩ := letk_some h
  refine wc_join (fun E W => ∃ (O31 : List Nat) (p30 : Bool), E = [(0, (.int .i64 x0)), (32, (.bool p30))] ∧ Tr O22 w23 O31 W ∧ OB O31 W ∧ Sub O O31 ∧ Fr [] w W ∧ k26 p30 = r) ?_ (fun K28 hK29 => ?_)
  rotate_left
  · clear hk27
    have T25 := Tr.refl O22 w23
    refine wc_region (l := [0, 1, 2, 3, 4, 5, 6, 7, 8]) rfl ?_
    refine wo_seg Θ_ok [0, 1, 2, 3, 4] [(0, (.int .i64 x0)), (37, (.bool (decide (x1 < (IntKind.i64.wrap (x0.tdiv (2 : Int)))))))] rfl ⟨rfl, rfl, trivial⟩ ?_
    rcases bif_some h with ⟨hc34, h⟩ | ⟨hc34, h⟩
    · refine wo_know 37 true rfl hc34 ?_
      refine wo_seg Θ_ok [5, 6, 7, 8] [(0, (.int .i64 x0)), (32, (.bool (decide (x0 > (4 : Int)))))] rfl ⟨rfl, rfl, trivial⟩ ?_
      refine wo_nil ?_
      exact wq_join hK29 [(0, (.int .i64 x0)), (32, (.bool (decide (x0 > (4 : Int)))))] ⟨rfl, rfl, trivial⟩ ⟨O22, (decide (x0 > (4 : Int))), rfl, T25, hO, hS, hF, h⟩
    refine wo_know 37 false rfl hc34 ?_
    refine wo_seg Θ_ok [5, 6, 7, 8] [(0, (.int .i64 x0)), (32, (.bool false))] rfl ⟨rfl, rfl, trivial⟩ ?_
    refine wo_nil ?_
    exact wq_join hK29 [(0, (.int .i64 x0)), (32, (.bool false))] ⟨rfl, rfl, trivial⟩ ⟨O22, false, rfl, T25, hO, hS, hF, h⟩
  rintro E w32 ⟨O31, p30, rfl, T25, hO, hS, hF, h⟩
  subst hk27
  (try dsimp only at h)
  rcases bif_some h with ⟨hc33, h⟩ | ⟨hc33, h⟩
  · refine wc_known_true rfl hc33 ?_
    refine wc_seq ?_
    refine wc_region (l := [0, 1, 2, 3]) rfl ?_
    refine wo_seg Θ_ok [0, 1, 2, 3] [(4, (.int .i64 (IntKind.i64.wrap (x0.tdiv (2 : Int))))), (5, (.int .i64 0))] rfl ⟨rfl, rfl, trivial⟩ ?_
    refine wo_nil ?_
    refine wq_seq ?_
    refine wc_ret ?_
    subst h
    exact wq_block_ret (wq_then_ret (wq_ret rfl ⟨_, rfl, ⟨_, _, rfl, (int_is.2 rfl), (int_is.2 rfl)⟩, hF⟩))
  refine wc_known_false rfl hc33 ?_
  refine wc_skip ?_
  refine wq_block (wq_seq ?_)
  refine wc_seq ?_
  refine wc_region (l := [0, 1, 2]) rfl ?_
  refine wo_seg Θ_ok [0, 1, 2] [(4, (.int .i64 x0)), (5, (.int .i64 0))] rfl ⟨rfl, rfl, trivial⟩ ?_
  refine wo_nil ?_
  refine wq_seq ?_
  refine wc_ret ?_
  subst h
  exact wq_ret rfl ⟨_, rfl, ⟨_, _, rfl, (int_is.2 rfl), (int_is.2 rfl)⟩, hF⟩
set_option maxRecDepth 100000 in
set_option maxHeartbeats 4000000 in
theorem b_Of_c {O : List Nat} {w : World} (hO : OB O w) {v0 : Value} {x0 : Int} (h0 : (Ty.int .u64).is O w v0 x0) {v1 : Value} {x1 : Int} (h1 : (Ty.int .i64).is O w v1 x1) {r : Int × Int} (h : b_Of x0 x1 = some r) : Calls Try.prog 17 #[v0, v1] w (Gives (rt2 (Ty.int .i64) (Ty.int .i64)) O w r) := by
  obtain rfl := int_is.1 h0
  obtain rfl := int_is.1 h1
  have hF := Fr.refl [] w
  have hO0 := hO
  have hS := Sub.refl O
  refine calls_of (args := [(.int .u64 x0), (.int .i64 x1)]) (N := 20) Try.func17 rfl rfl rfl ?_
  unfold b_Of at h
  refine wc_seq ?_
  refine wc_region (l := [0, 1]) rfl ?_
  refine wo_seg Θ_ok [0, 1] [(0, (.int .u64 x0)), (1, (.int .i64 x1))] rfl ⟨rfl, rfl, trivial⟩ ?_
  refine wo_nil ?_
  refine wq_seq ?_
  refine wc_seq ?_
  refine wc_region (l := [0, 1, 2, 3, 4, 5, 6, 7]) rfl ?_
  refine wo_gives rfl rfl rfl rfl rfl ent37 rfl (depths_c hO ) (fun v3 w4 h5 f6 => ?_)
  have hO := f6.ob hO
  have hF := hF.trans f6
  refine wo_seg Θ_ok [1] [(0, (.int .u64 x0)), (9, v3), (10, (.int .i64 x1))] rfl ⟨rfl, rfl, rfl, trivial⟩ ?_
  refine wo_lookM Θ_ok rfl rfl rfl rfl rfl rfl rfl rfl rfl rfl rfl rfl rfl rfl h5 ?_
  refine wo_seg Θ_ok [3, 4, 5, 6, 7] [(0, (.int .u64 x0)), (6, (.int .i64 ((lookM depths x1).getD 0))), (7, (.bool (lookM depths x1).isSome))] rfl ⟨rfl, rfl, rfl, trivial⟩ ?_
  refine wo_nil ?_
  refine wq_seq ?_
  refine wc_seq ?_
  refine wc_seq ?_
  refine wc_region (l := [0, 1]) rfl ?_
  refine wo_seg Θ_ok [0, 1] [(0, (.int .u64 x0)), (6, (.int .i64 ((lookM depths x1).getD 0))), (15, (.bool (!(lookM depths x1).isSome)))] rfl ⟨rfl, rfl, rfl, trivial⟩ ?_
  refine wo_nil ?_
  refine wq_seq ?_
  rcases bif_some h with ⟨hc7, h⟩ | ⟨hc7, h⟩
  · refine wc_known_true rfl hc7 ?_
    refine wc_seq ?_
    refine wc_region (l := [0, 1]) rfl ?_
    refine wo_seg Θ_ok [0, 1] [(4, (.int .i64 0)), (5, (.int .i64 2))] rfl ⟨rfl, rfl, trivial⟩ ?_
    refine wo_nil ?_
    refine wq_seq ?_
    refine wc_ret ?_
    cases h
    exact wq_then_ret (wq_ret rfl ⟨_, rfl, ⟨_, _, rfl, (int_is.2 rfl), (int_is.2 rfl)⟩, hF⟩)
  refine wc_known_false rfl hc7 ?_
  refine wc_skip ?_
  refine wq_seq ?_
  refine wc_seq ?_
  refine wc_region (l := [0, 1, 2, 3, 4, 5]) rfl ?_
  refine wo_seg Θ_ok [0] [(6, (.int .i64 ((lookM depths x1).getD 0))), (16, (.int .u64 x0))] rfl ⟨rfl, rfl, trivial⟩ ?_
  refine wo_gives rfl rfl rfl rfl rfl ent14 rfl (b_Hash_c hO (int_is.2 rfl)) (fun v8 w9 h10 f11 => ?_)
  have hO := f11.ob hO
  have hF := hF.trans f11
  obtain rfl := int_is.1 h10
  refine wo_seg Θ_ok [2] [(17, (.int .u64 (b_Hash x0))), (18, (.int .i64 ((lookM depths x1).getD 0)))] rfl ⟨rfl, rfl, trivial⟩ ?_
  obtain ⟨y16, hy17, h⟩ := bind_some h
  refine wo_gives rfl rfl rfl rfl rfl ent39 rfl (b_at_c hO (int_is.2 rfl) (int_is.2 rfl) hy17) (fun v12 w13 h14 f15 => ?_)
  have hO := f15.ob hO
  have hF := hF.trans f15
  obtain rfl := int_is.1 h14
  refine wo_seg Θ_ok [4, 5] [(4, (.int .i64 y16)), (5, (.int .i64 0))] rfl ⟨rfl, rfl, trivial⟩ ?_
  refine wo_nil ?_
  refine wq_seq ?_
  refine wc_ret ?_
  cases h
  exact wq_ret rfl ⟨_, rfl, ⟨_, _, rfl, (int_is.2 rfl), (int_is.2 rfl)⟩, hF⟩
set_option maxRecDepth 100000 in
set_option maxHeartbeats 4000000 in
theorem s_Clone_c {O : List Nat} {w : World} (hO : OB O w) {v0 : Value} {x0 : List Int} (h0 : (Ty.slice (Ty.int .u64)).is O w v0 x0) {r : List Int} (h : s_Clone x0 = some r) : Calls Try.prog 16 #[v0] w (Gives (rt1 (Ty.slice (Ty.int .u64))) O w r) := by
  have hF := Fr.refl [] w
  have hO0 := hO
  have hS := Sub.refl O
  refine calls_of (args := [v0]) (N := 8) Try.func16 rfl rfl rfl ?_
  unfold s_Clone at h
  refine wc_seq ?_
  refine wc_region (l := [0]) rfl ?_
  refine wo_seg Θ_ok [0] [(0, v0)] rfl ⟨rfl, trivial⟩ ?_
  refine wo_nil ?_
  refine wq_seq ?_
  refine wc_seq ?_
  refine wc_seq ?_
  refine wc_region (l := [0, 1]) rfl ?_
  refine wo_seg Θ_ok [0] [(0, v0), (3, v0)] rfl ⟨rfl, rfl, trivial⟩ ?_
  obtain ⟨A2, c3, rfl, hlc3, hmc3⟩ := slice_form h0
  refine wo_seg Θ_ok [1] [(0, (.slice A2 x0.length c3)), (4, (.bool A2.isNone))] rfl ⟨rfl, rfl, trivial⟩ ?_
  refine wo_nil ?_
  refine wq_seq ?_
  rcases A2 with _ | ad16
  · obtain rfl := slice_none h0
    (try simp [app] at h)
    (try subst h)
    refine wc_true rfl ?_
    refine wc_seq ?_
    refine wc_region (l := [0]) rfl ?_
    refine wo_seg Θ_ok [0] [(2, (.slice none 0 0))] rfl ⟨rfl, trivial⟩ ?_
    refine wo_nil ?_
    refine wq_seq ?_
    refine wc_ret ?_
    exact wq_then_ret (wq_ret rfl ⟨_, rfl, (slice_nil _ _ _), hF⟩)
  refine wc_false rfl ?_
  refine wc_skip ?_
  refine wq_seq ?_
  refine wc_seq ?_
  refine wc_region (l := [0, 1, 2, 3]) rfl ?_
  refine wo_lit Θ_ok rfl rfl rfl rfl rfl rfl rfl rfl rfl rfl (T := (Ty.int .u64)) (xs := ([] : List Int)) (vs := []) rfl trivial rfl rfl rfl hO (fun b4 w5 q6 => ?_)
  obtain ⟨_, nq6, _⟩ := q6.new
  have h7 := q6.own hF.size
  have h0 := h0.tr nq6.tr
  have hO := nq6.ob
  have hF := hF.trans nq6.fr
  have hS := Sub.cons hS b4
  generalize (Value.slice (some ⟨b4, 0, none⟩) 0 0) = v8 at *
  refine wo_seg Θ_ok [1] [(5, v8), (6, (.slice (some ad16) x0.length c3))] rfl ⟨rfl, rfl, trivial⟩ ?_
  obtain ⟨z9, hz10, h⟩ := bind_some h
  refine wo_app Θ_ok rfl rfl rfl rfl rfl rfl rfl rfl rfl rfl rfl rfl rfl rfl hF hO h7 h0 hz10 (fun v11 w12 O13 ap14 => ?_)
  have hF := ap14.fr0 h7 hF
  have hS := Sub.trans hS ap14.sub
  have hO := ap14.ob
  have h15 := ap14.own
  refine wo_seg Θ_ok [3] [(2, v11)] rfl ⟨rfl, trivial⟩ ?_
  refine wo_nil ?_
  refine wq_seq ?_
  refine wc_ret ?_
  cases h
  exact wq_ret rfl ⟨_, rfl, (h15.share0 hS hO0), hF⟩
set_option maxRecDepth 100000 in
set_option maxHeartbeats 4000000 in
theorem i_Clone_f {O : List Nat} {w : World} (hO : OB O w) {B : Nat} (hB : B ≤ w.heap.size) {v0 : Value} {x0 : List Int} (h0 : (Ty.slice (Ty.int .i64)).is O w v0 x0) {r : List Int} (h : i_Clone x0 = some r) : Calls Try.prog 29 #[v0] w (GivesOwn (Ty.int .i64) 3 B O w (.slice none 0 0) r) := by
  have hF := Fr.refl [] w
  have hO0 := hO
  have hS := Sub.refl O
  refine calls_of (args := [v0]) (N := 8) Try.func29 rfl rfl rfl ?_
  unfold i_Clone at h
  refine wc_seq ?_
  refine wc_region (l := [0]) rfl ?_
  refine wo_seg Θ_ok [0] [(0, v0)] rfl ⟨rfl, trivial⟩ ?_
  refine wo_nil ?_
  refine wq_seq ?_
  refine wc_seq ?_
  refine wc_seq ?_
  refine wc_region (l := [0, 1]) rfl ?_
  refine wo_seg Θ_ok [0] [(0, v0), (3, v0)] rfl ⟨rfl, rfl, trivial⟩ ?_
  obtain ⟨A2, c3, rfl, hlc3, hmc3⟩ := slice_form h0
  refine wo_seg Θ_ok [1] [(0, (.slice A2 x0.length c3)), (4, (.bool A2.isNone))] rfl ⟨rfl, rfl, trivial⟩ ?_
  refine wo_nil ?_
  refine wq_seq ?_
  rcases A2 with _ | ad16
  · obtain rfl := slice_none h0
    (try simp [app] at h)
    (try subst h)
    refine wc_true rfl ?_
    refine wc_seq ?_
    refine wc_region (l := [0]) rfl ?_
    refine wo_seg Θ_ok [0] [(2, (.slice none 0 0))] rfl ⟨rfl, trivial⟩ ?_
    refine wo_nil ?_
    refine wq_seq ?_
    refine wc_ret ?_
    exact wq_then_ret (wq_ret rfl (fresh_own Own.nil_ hS hF hO0 hB))
  refine wc_false rfl ?_
  refine wc_skip ?_
  refine wq_seq ?_
  refine wc_seq ?_
  refine wc_region (l := [0, 1, 2, 3]) rfl ?_
  refine wo_lit Θ_ok rfl rfl rfl rfl rfl rfl rfl rfl rfl rfl (T := (Ty.int .i64)) (xs := ([] : List Int)) (vs := []) rfl trivial rfl rfl rfl hO (fun b4 w5 q6 => ?_)
  obtain ⟨_, nq6, _⟩ := q6.new
  have h7 := q6.own hF.size
  have h0 := h0.tr nq6.tr
  have hO := nq6.ob
  have hF := hF.trans nq6.fr
  have hS := Sub.cons hS b4
  generalize (Value.slice (some ⟨b4, 0, none⟩) 0 0) = v8 at *
  refine wo_seg Θ_ok [1] [(5, v8), (6, (.slice (some ad16) x0.length c3))] rfl ⟨rfl, rfl, trivial⟩ ?_
  obtain ⟨z9, hz10, h⟩ := bind_some h
  refine wo_app Θ_ok rfl rfl rfl rfl rfl rfl rfl rfl rfl rfl rfl rfl rfl rfl hF hO h7 h0 hz10 (fun v11 w12 O13 ap14 => ?_)
  have hF := ap14.fr0 h7 hF
  have hS := Sub.trans hS ap14.sub
  have hO := ap14.ob
  have h15 := ap14.own
  refine wo_seg Θ_ok [3] [(2, v11)] rfl ⟨rfl, trivial⟩ ?_
  refine wo_nil ?_
  refine wq_seq ?_
  refine wc_ret ?_
  cases h
  exact wq_ret rfl (fresh_own h15 hS hF hO0 hB)
theorem i_Clone_c {O : List Nat} {w : World} (hO : OB O w) {v0 : Value} {x0 : List Int} (h0 : (Ty.slice (Ty.int .i64)).is O w v0 x0) {r : List Int} (h : i_Clone x0 = some r) : Calls Try.prog 29 #[v0] w (Gives (rt1 (Ty.slice (Ty.int .i64))) O w r) := (i_Clone_f hO (Nat.le_refl _) h0 h).mono fun _ _ hh => gives_of_own hO hh
set_option maxRecDepth 100000 in
set_option maxHeartbeats 4000000 in
theorem s_Equal_c {O : List Nat} {w : World} (hO : OB O w) {v0 : Value} {x0 : List Int} (h0 : (Ty.slice (Ty.int .u64)).is O w v0 x0) {v1 : Value} {x1 : List Int} (h1 : (Ty.slice (Ty.int .u64)).is O w v1 x1) {r : Bool} (h : s_Equal x0 x1 = some r) : Calls Try.prog 25 #[v0, v1] w (Gives (rt1 Ty.bool) O w r) := by
  have hF := Fr.refl [] w
  have hO0 := hO
  have hS := Sub.refl O
  refine calls_of (args := [v0, v1]) (N := 26) Try.func25 rfl rfl rfl ?_
  unfold s_Equal at h
  refine wc_seq ?_
  refine wc_region (l := [0]) rfl ?_
  refine wo_seg Θ_ok [0] [(0, v0), (1, v1)] rfl ⟨rfl, rfl, trivial⟩ ?_
  refine wo_nil ?_
  refine wq_seq ?_
  refine wc_seq ?_
  refine wc_seq ?_
  refine wc_region (l := [0, 1, 2, 3, 4]) rfl ?_
  refine wo_seg Θ_ok [0] [(0, v0), (1, v1), (6, v0)] rfl ⟨rfl, rfl, rfl, trivial⟩ ?_
  obtain ⟨A3, c4, rfl, hlc4, hmc4⟩ := slice_form h0
  refine wo_seg Θ_ok [1] [(0, (.slice A3 x0.length c4)), (1, v1), (7, (.int .i64 (x0.length : Int)))] rfl ⟨rfl, rfl, rfl, trivial⟩ ?_
  refine wo_seg Θ_ok [2] [(0, (.slice A3 x0.length c4)), (1, v1), (7, (.int .i64 (x0.length : Int))), (8, v1)] rfl ⟨rfl, rfl, rfl, rfl, trivial⟩ ?_
  obtain ⟨A5, c6, rfl, hlc6, hmc6⟩ := slice_form h1
  refine wo_seg Θ_ok [3] [(0, (.slice A3 x0.length c4)), (1, (.slice A5 x1.length c6)), (7, (.int .i64 (x0.length : Int))), (9, (.int .i64 (x1.length : Int)))] rfl ⟨rfl, rfl, rfl, rfl, trivial⟩ ?_
  refine wo_seg Θ_ok [4] [(0, (.slice A3 x0.length c4)), (1, (.slice A5 x1.length c6)), (10, (.bool ((x0.length : Int) != (x1.length : Int))))] rfl ⟨rfl, rfl, rfl, trivial⟩ ?_
  refine wo_nil ?_
  refine wq_seq ?_
  rcases bif_some h with ⟨hc7, h⟩ | ⟨hc7, h⟩
  · refine wc_known_true rfl hc7 ?_
    refine wc_seq ?_
    refine wc_region (l := [0]) rfl ?_
    refine wo_seg Θ_ok [0] [(4, (.bool false))] rfl ⟨rfl, trivial⟩ ?_
    refine wo_nil ?_
    refine wq_seq ?_
    refine wc_ret ?_
    cases h
    exact wq_then_ret (wq_ret rfl ⟨_, rfl, (bool_is.2 rfl), hF⟩)
  refine wc_known_false rfl hc7 ?_
  refine wc_skip ?_
  refine wq_seq ?_
  obtain ⟨k9, hk10, h⟩ := letk_some h
  refine wc_join (fun E W => ∃ (O13 : List Nat), E = [] ∧ Tr O w O13 W ∧ OB O13 W ∧ Sub O O13 ∧ Fr [] w W ∧ k9 = some r) ?_ (fun K11 hK12 => ?_)
  · rintro E w14 ⟨O13, rfl, T8, hO, hS, hF, h⟩
    subst hk10
    (try dsimp only at h)
    refine wc_seq ?_
    refine wc_region (l := [0]) rfl ?_
    refine wo_seg Θ_ok [0] [(4, (.bool true))] rfl ⟨rfl, trivial⟩ ?_
    refine wo_nil ?_
    refine wq_seq ?_
    refine wc_ret ?_
    cases h
    exact wq_ret rfl ⟨_, rfl, (bool_is.2 rfl), hF⟩
  clear hk10
  have T8 := Tr.refl O w
  refine wc_seq ?_
  refine wc_region (l := [0, 1, 2]) rfl ?_
  refine wo_seg Θ_ok [0, 1, 2] [(0, (.slice A3 x0.length c4)), (1, (.slice A5 x1.length c6)), (12, (.int .i64 (x0.length : Int))), (13, (.int .i64 0))] rfl ⟨rfl, rfl, rfl, rfl, trivial⟩ ?_
  refine wo_nil ?_
  refine wq_seq ?_
  refine wc_block ?_
  refine wc_loop (fun m E W => ∃ (rest17 : List Int) (i16 : Nat) (O20 : List Nat), rest17.length = m ∧ x0.drop i16 = rest17 ∧ E = [(0, (.slice A3 x0.length c4)), (1, (.slice A5 x1.length c6)), (12, (.int .i64 (x0.length : Int))), (13, (.int .i64 (i16 : Int)))] ∧ Tr O w O20 W ∧ OB O20 W ∧ Sub O O20 ∧ Fr [] w W ∧ s_Equal_l1 x1 k9 rest17 i16 = some r) _ [(0, (.slice A3 x0.length c4)), (1, (.slice A5 x1.length c6)), (12, (.int .i64 (x0.length : Int))), (13, (.int .i64 ((0 : Nat) : Int)))] ⟨rfl, rfl, rfl, rfl, trivial⟩ ⟨x0, 0, O, rfl, rfl, rfl, Tr.refl _ _, hO, hS, hF, h⟩ ?_
  rintro m E w21 ⟨rest17, i16, O20, rfl, hd19, rfl, T15, hO, hS, hF, h⟩
  have T8 := T8.trans T15
  have h0 := h0.tr T15
  have h1 := h1.tr T15
  rcases rest17 with _ | ⟨z18, rest17⟩
  · rw [s_Equal_l1] at h
    have hl25 := drop_nil hd19
    have hc22 : (decide ((i16 : Int) < (x0.length : Int))) = false := decide_eq_false (by omega)
    refine wc_seq ?_
    refine wc_region (l := [0]) rfl ?_
    refine wo_seg Θ_ok [0] [(0, (.slice A3 x0.length c4)), (1, (.slice A5 x1.length c6)), (12, (.int .i64 (x0.length : Int))), (13, (.int .i64 (i16 : Int))), (14, (.bool (decide ((i16 : Int) < (x0.length : Int)))))] rfl ⟨rfl, rfl, rfl, rfl, rfl, trivial⟩ ?_
    refine wo_nil ?_
    refine wq_seq ?_
    refine wc_seq ?_
    refine wc_known_false rfl hc22 ?_
    refine wc_exit ?_
    exact wq_then_exit (wq_then_exit (wq_block_exit (wq_join hK12 [] trivial ⟨O20, rfl, T8, hO, hS, hF, h⟩)))
  rw [s_Equal_l1] at h
  obtain ⟨hl26, hg24, hd19⟩ := drop_cons hd19
  have hc23 : (decide ((i16 : Int) < (x0.length : Int))) = true := decide_eq_true (by omega)
  refine wc_seq ?_
  refine wc_region (l := [0]) rfl ?_
  refine wo_seg Θ_ok [0] [(0, (.slice A3 x0.length c4)), (1, (.slice A5 x1.length c6)), (12, (.int .i64 (x0.length : Int))), (13, (.int .i64 (i16 : Int))), (14, (.bool (decide ((i16 : Int) < (x0.length : Int)))))] rfl ⟨rfl, rfl, rfl, rfl, rfl, trivial⟩ ?_
  refine wo_nil ?_
  refine wq_seq ?_
  refine wc_seq ?_
  refine wc_known_true rfl hc23 ?_
  refine wc_skip ?_
  refine wq_seq ?_
  refine wc_seq ?_
  refine wc_block ?_
  refine wc_seq ?_
  refine wc_region (l := [0, 1]) rfl ?_
  refine wo_seg Θ_ok [0, 1] [(0, (.slice A3 x0.length c4)), (1, (.slice A5 x1.length c6)), (5, (.int .i64 (i16 : Int))), (12, (.int .i64 (x0.length : Int))), (13, (.int .i64 (i16 : Int)))] rfl ⟨rfl, rfl, rfl, rfl, rfl, trivial⟩ ?_
  refine wo_nil ?_
  refine wq_seq ?_
  refine wc_seq ?_
  obtain ⟨y27, hz28, h⟩ := bind_some h
  refine wc_draw mixed [⟨16, [], [0]⟩, ⟨17, [], [5]⟩, ⟨18, [0, 1], []⟩, ⟨19, [2], []⟩, ⟨20, [], [1]⟩, ⟨21, [], [5]⟩, ⟨22, [4, 5], []⟩, ⟨23, [6], []⟩, ⟨24, [3, 7], []⟩] [SP.eq (.slice A3 x0.length c4), SP.eq (.int .i64 (i16 : Int)), SP.is (Ty.ptr (Ty.int .u64)) O20 z18, SP.eq (.int .u64 z18), SP.eq (.slice A5 x1.length c6), SP.eq (.int .i64 (i16 : Int)), SP.is (Ty.ptr (Ty.int .u64)) O20 y27, SP.eq (.int .u64 y27), SP.eq (.bool (z18 != y27))] rfl rfl rfl ⟨?_, ?_, ?_, ?_, ?_, ?_, ?_, ?_, ?_, trivial⟩ ?_
  · intro a w2 hfr hN hds hb hd
    have h0 := h0.tr hfr.tr0
    exact op_plain Θ_ok ⟨hN, hds, rows_get (E := [(0, (.slice A3 x0.length c4))]) ⟨hb 0 rfl _ rfl, trivial⟩⟩ rfl rfl rfl rfl rfl
  · intro a w2 hfr hN hds hb hd
    exact op_plain Θ_ok ⟨hN, hds, rows_get (E := [(5, (.int .i64 (i16 : Int)))]) ⟨hb 5 rfl _ rfl, trivial⟩⟩ rfl rfl rfl rfl rfl
  · intro a w2 hfr hN hds hb hd
    have h0 := h0.tr hfr.tr0
    exact op_index (j := (i16 : Int)) Θ_ok ⟨hN, hds, rows_get (E := [(16, (.slice A3 x0.length c4)), (17, (.int .i64 (i16 : Int)))]) ⟨(hd 0 rfl _ _ rfl rfl), (hd 1 rfl _ _ rfl rfl), trivial⟩⟩ rfl rfl rfl rfl rfl rfl rfl rfl rfl h0 rfl (by omega) hg24
  · intro a w2 hfr hN hds hb hd
    have d31 : (Ty.ptr (Ty.int .u64)).is O20 w2 (a.tmps.getD 18 undef) z18 := hd 2 rfl _ _ rfl rfl
    obtain ⟨u29, e30⟩ : ∃ v, a.tmps.getD 18 undef = v := ⟨_, rfl⟩
    rw [e30] at d31
    exact (op_loadp Θ_ok ⟨hN, hds, rows_get (E := [(18, u29)]) ⟨e30, trivial⟩⟩ rfl rfl rfl rfl rfl rfl d31 rfl rfl).weaken (fun u w3 ⟨hu, hf⟩ => ⟨int_is.1 hu, hf⟩)
  · intro a w2 hfr hN hds hb hd
    have h1 := h1.tr hfr.tr0
    exact op_plain Θ_ok ⟨hN, hds, rows_get (E := [(1, (.slice A5 x1.length c6))]) ⟨hb 1 rfl _ rfl, trivial⟩⟩ rfl rfl rfl rfl rfl
  · intro a w2 hfr hN hds hb hd
    exact op_plain Θ_ok ⟨hN, hds, rows_get (E := [(5, (.int .i64 (i16 : Int)))]) ⟨hb 5 rfl _ rfl, trivial⟩⟩ rfl rfl rfl rfl rfl
  · intro a w2 hfr hN hds hb hd
    have h1 := h1.tr hfr.tr0
    exact op_index (j := (i16 : Int)) Θ_ok ⟨hN, hds, rows_get (E := [(20, (.slice A5 x1.length c6)), (21, (.int .i64 (i16 : Int)))]) ⟨(hd 4 rfl _ _ rfl rfl), (hd 5 rfl _ _ rfl rfl), trivial⟩⟩ rfl rfl rfl rfl rfl rfl rfl rfl rfl h1 rfl (idx_some hz28).1 (idx_some hz28).2
  · intro a w2 hfr hN hds hb hd
    have d34 : (Ty.ptr (Ty.int .u64)).is O20 w2 (a.tmps.getD 22 undef) y27 := hd 6 rfl _ _ rfl rfl
    obtain ⟨u32, e33⟩ : ∃ v, a.tmps.getD 22 undef = v := ⟨_, rfl⟩
    rw [e33] at d34
    exact (op_loadp Θ_ok ⟨hN, hds, rows_get (E := [(22, u32)]) ⟨e33, trivial⟩⟩ rfl rfl rfl rfl rfl rfl d34 rfl rfl).weaken (fun u w3 ⟨hu, hf⟩ => ⟨int_is.1 hu, hf⟩)
  · intro a w2 hfr hN hds hb hd
    exact op_plain Θ_ok ⟨hN, hds, rows_get (E := [(19, (.int .u64 z18)), (23, (.int .u64 y27))]) ⟨(hd 3 rfl _ _ rfl rfl), (hd 7 rfl _ _ rfl rfl), trivial⟩⟩ rfl rfl rfl rfl rfl
  intro a w36 f35 hN hds hb hr
  have h0 := h0.tr f35.tr0
  have h1 := h1.tr f35.tr0
  have T8 := T8.trans f35.tr0
  have T15 := T15.trans f35.tr0
  have hO := f35.ob hO
  have hF := hF.trans f35
  refine wq_go (E := [(0, (.slice A3 x0.length c4)), (1, (.slice A5 x1.length c6)), (12, (.int .i64 (x0.length : Int))), (13, (.int .i64 (i16 : Int))), (24, (.bool (z18 != y27)))]) hN hds ⟨hb 0 _ rfl rfl, hb 1 _ rfl rfl, hb 12 _ rfl rfl, hb 13 _ rfl rfl, (hr 8 _ _ rfl rfl), trivial⟩ ?_
  refine wq_seq ?_
  rcases bif_some h with ⟨hc37, h⟩ | ⟨hc37, h⟩
  rotate_left
  · refine wc_known_false rfl hc37 ?_
    refine wc_skip ?_
    refine wq_block (wq_seq ?_)
    refine wc_region (l := [0, 1]) rfl ?_
    refine wo_seg Θ_ok [0, 1] [(0, (.slice A3 x0.length c4)), (1, (.slice A5 x1.length c6)), (12, (.int .i64 (x0.length : Int))), (13, (.int .i64 (IntKind.i64.wrap ((i16 : Int) + (1 : Int)))))] rfl ⟨rfl, rfl, rfl, rfl, trivial⟩ ?_
    refine wo_nil ?_
    exact wq_next rest17.length [(0, (.slice A3 x0.length c4)), (1, (.slice A5 x1.length c6)), (12, (.int .i64 (x0.length : Int))), (13, (.int .i64 ((i16 + 1 : Nat) : Int)))] (Nat.lt_succ_self _) ⟨rfl, rfl, rfl, congrArg (fun z => some (Value.int .i64 z)) (wrap_succ hl26 (Nat.le_trans hlc4 hmc4)), trivial⟩ ⟨rest17, i16 + 1, O20, rfl, hd19, rfl, T15, hO, hS, hF, h⟩
  refine wc_known_true rfl hc37 ?_
  refine wc_seq ?_
  refine wc_region (l := [0]) rfl ?_
  refine wo_seg Θ_ok [0] [(4, (.bool false))] rfl ⟨rfl, trivial⟩ ?_
  refine wo_nil ?_
  refine wq_seq ?_
  refine wc_ret ?_
  cases h
  exact wq_block_ret (wq_then_ret (wq_then_ret (wq_block_ret (wq_then_ret (wq_ret rfl ⟨_, rfl, (bool_is.2 rfl), hF⟩)))))
set_option maxRecDepth 100000 in
set_option maxHeartbeats 4000000 in
theorem s_EqualFunc_c {O : List Nat} {w : World} (hO : OB O w) {v0 : Value} {x0 : List (List Int)} (h0 : (Ty.slice (Ty.slice (Ty.int .u64))).is O w v0 x0) {v1 : Value} {x1 : List (List Int)} (h1 : (Ty.slice (Ty.slice (Ty.int .u64))).is O w v1 x1) {v2 : Value} {x2 : List Int → List Int → Option (Bool)} (h2 : (Ty.fn2 Try.prog (Ty.slice (Ty.int .u64)) (Ty.slice (Ty.int .u64)) (rt1 Ty.bool)).is O w v2 x2) {r : Bool} (h : s_EqualFunc x0 x1 x2 = some r) : Calls Try.prog 41 #[v0, v1, v2] w (Gives (rt1 Ty.bool) O w r) := by
  have hF := Fr.refl [] w
  have hO0 := hO
  have hS := Sub.refl O
  refine calls_of (args := [v0, v1, v2]) (N := 32) Try.func41 rfl rfl rfl ?_
  unfold s_EqualFunc at h
  refine wc_seq ?_
  refine wc_region (l := [0]) rfl ?_
  refine wo_seg Θ_ok [0] [(0, v0), (1, v1), (2, v2)] rfl ⟨rfl, rfl, rfl, trivial⟩ ?_
  refine wo_nil ?_
  refine wq_seq ?_
  refine wc_seq ?_
  refine wc_seq ?_
  refine wc_region (l := [0, 1, 2, 3, 4]) rfl ?_
  refine wo_seg Θ_ok [0] [(0, v0), (1, v1), (2, v2), (10, v0)] rfl ⟨rfl, rfl, rfl, rfl, trivial⟩ ?_
  obtain ⟨A4, c5, rfl, hlc5, hmc5⟩ := slice_form h0
  refine wo_seg Θ_ok [1] [(0, (.slice A4 x0.length c5)), (1, v1), (2, v2), (11, (.int .i64 (x0.length : Int)))] rfl ⟨rfl, rfl, rfl, rfl, trivial⟩ ?_
  refine wo_seg Θ_ok [2] [(0, (.slice A4 x0.length c5)), (1, v1), (2, v2), (11, (.int .i64 (x0.length : Int))), (12, v1)] rfl ⟨rfl, rfl, rfl, rfl, rfl, trivial⟩ ?_
  obtain ⟨A6, c7, rfl, hlc7, hmc7⟩ := slice_form h1
  refine wo_seg Θ_ok [3] [(0, (.slice A4 x0.length c5)), (1, (.slice A6 x1.length c7)), (2, v2), (11, (.int .i64 (x0.length : Int))), (13, (.int .i64 (x1.length : Int)))] rfl ⟨rfl, rfl, rfl, rfl, rfl, trivial⟩ ?_
  refine wo_seg Θ_ok [4] [(0, (.slice A4 x0.length c5)), (1, (.slice A6 x1.length c7)), (2, v2), (14, (.bool ((x0.length : Int) != (x1.length : Int))))] rfl ⟨rfl, rfl, rfl, rfl, trivial⟩ ?_
  refine wo_nil ?_
  refine wq_seq ?_
  rcases bif_some h with ⟨hc8, h⟩ | ⟨hc8, h⟩
  · refine wc_known_true rfl hc8 ?_
    refine wc_seq ?_
    refine wc_region (l := [0]) rfl ?_
    refine wo_seg Θ_ok [0] [(6, (.bool false))] rfl ⟨rfl, trivial⟩ ?_
    refine wo_nil ?_
    refine wq_seq ?_
    refine wc_ret ?_
    cases h
    exact wq_then_ret (wq_ret rfl ⟨_, rfl, (bool_is.2 rfl), hF⟩)
  refine wc_known_false rfl hc8 ?_
  refine wc_skip ?_
  refine wq_seq ?_
  obtain ⟨k10, hk11, h⟩ := letk_some h
  refine wc_join (fun E W => ∃ (O14 : List Nat), E = [] ∧ Tr O w O14 W ∧ OB O14 W ∧ Sub O O14 ∧ Fr [] w W ∧ k10 = some r) ?_ (fun K12 hK13 => ?_)
  · rintro E w15 ⟨O14, rfl, T9, hO, hS, hF, h⟩
    subst hk11
    (try dsimp only at h)
    refine wc_seq ?_
    refine wc_region (l := [0]) rfl ?_
    refine wo_seg Θ_ok [0] [(6, (.bool true))] rfl ⟨rfl, trivial⟩ ?_
    refine wo_nil ?_
    refine wq_seq ?_
    refine wc_ret ?_
    cases h
    exact wq_ret rfl ⟨_, rfl, (bool_is.2 rfl), hF⟩
  clear hk11
  have T9 := Tr.refl O w
  refine wc_seq ?_
  refine wc_region (l := [0, 1, 2]) rfl ?_
  refine wo_seg Θ_ok [0, 1, 2] [(1, (.slice A6 x1.length c7)), (2, v2), (15, (.slice A4 x0.length c5)), (16, (.int .i64 (x0.length : Int))), (17, (.int .i64 0))] rfl ⟨rfl, rfl, rfl, rfl, rfl, trivial⟩ ?_
  refine wo_nil ?_
  refine wq_seq ?_
  refine wc_block ?_
  refine wc_loop (fun m E W => ∃ (rest18 : List (List Int)) (i17 : Nat) (O21 : List Nat), rest18.length = m ∧ x0.drop i17 = rest18 ∧ E = [(1, (.slice A6 x1.length c7)), (2, v2), (15, (.slice A4 x0.length c5)), (16, (.int .i64 (x0.length : Int))), (17, (.int .i64 (i17 : Int)))] ∧ Tr O w O21 W ∧ OB O21 W ∧ Sub O O21 ∧ Fr [] w W ∧ s_EqualFunc_l1 x1 x2 k10 rest18 i17 = some r) _ [(1, (.slice A6 x1.length c7)), (2, v2), (15, (.slice A4 x0.length c5)), (16, (.int .i64 (x0.length : Int))), (17, (.int .i64 ((0 : Nat) : Int)))] ⟨rfl, rfl, rfl, rfl, rfl, trivial⟩ ⟨x0, 0, O, rfl, rfl, rfl, Tr.refl _ _, hO, hS, hF, h⟩ ?_
  rintro m E w22 ⟨rest18, i17, O21, rfl, hd20, rfl, T16, hO, hS, hF, h⟩
  have T9 := T9.trans T16
  have h1 := h1.tr T16
  have h2 := h2.tr T16
  have h0 := h0.tr T16
  rcases rest18 with _ | ⟨z19, rest18⟩
  · rw [s_EqualFunc_l1] at h
    have hl26 := drop_nil hd20
    have hc23 : (decide ((i17 : Int) < (x0.length : Int))) = false := decide_eq_false (by omega)
    refine wc_seq ?_
    refine wc_region (l := [0]) rfl ?_
    refine wo_seg Θ_ok [0] [(1, (.slice A6 x1.length c7)), (2, v2), (15, (.slice A4 x0.length c5)), (16, (.int .i64 (x0.length : Int))), (17, (.int .i64 (i17 : Int))), (18, (.bool (decide ((i17 : Int) < (x0.length : Int)))))] rfl ⟨rfl, rfl, rfl, rfl, rfl, rfl, trivial⟩ ?_
    refine wo_nil ?_
    refine wq_seq ?_
    refine wc_seq ?_
    refine wc_known_false rfl hc23 ?_
    refine wc_exit ?_
    exact wq_then_exit (wq_then_exit (wq_block_exit (wq_join hK13 [] trivial ⟨O21, rfl, T9, hO, hS, hF, h⟩)))
  rw [s_EqualFunc_l1] at h
  obtain ⟨hl27, hg25, hd20⟩ := drop_cons hd20
  have hc24 : (decide ((i17 : Int) < (x0.length : Int))) = true := decide_eq_true (by omega)
  refine wc_seq ?_
  refine wc_region (l := [0]) rfl ?_
  refine wo_seg Θ_ok [0] [(1, (.slice A6 x1.length c7)), (2, v2), (15, (.slice A4 x0.length c5)), (16, (.int .i64 (x0.length : Int))), (17, (.int .i64 (i17 : Int))), (18, (.bool (decide ((i17 : Int) < (x0.length : Int)))))] rfl ⟨rfl, rfl, rfl, rfl, rfl, rfl, trivial⟩ ?_
  refine wo_nil ?_
  refine wq_seq ?_
  refine wc_seq ?_
  refine wc_known_true rfl hc24 ?_
  refine wc_skip ?_
  refine wq_seq ?_
  refine wc_seq ?_
  refine wc_block ?_
  refine wc_seq ?_
  refine wc_region (l := [0, 1, 2, 3, 4]) rfl ?_
  refine wo_seg Θ_ok [0] [(1, (.slice A6 x1.length c7)), (2, v2), (15, (.slice A4 x0.length c5)), (16, (.int .i64 (x0.length : Int))), (17, (.int .i64 (i17 : Int))), (19, (.int .i64 (i17 : Int)))] rfl ⟨rfl, rfl, rfl, rfl, rfl, rfl, trivial⟩ ?_
  refine wo_index Θ_ok rfl rfl rfl rfl rfl rfl rfl rfl rfl rfl h0 rfl (by omega) hg25 (fun p28 h29 => ?_)
  refine wo_loadp Θ_ok rfl rfl rfl rfl rfl rfl rfl h29 rfl rfl (fun v30 h31 => ?_)
  refine wo_seg Θ_ok [3, 4] [(1, (.slice A6 x1.length c7)), (2, v2), (7, (.int .i64 (i17 : Int))), (8, v30), (15, (.slice A4 x0.length c5)), (16, (.int .i64 (x0.length : Int))), (17, (.int .i64 (i17 : Int)))] rfl ⟨rfl, rfl, rfl, rfl, rfl, rfl, rfl, trivial⟩ ?_
  refine wo_nil ?_
  refine wq_seq ?_
  refine wc_seq ?_
  refine wc_region (l := [0, 1, 2, 3, 4]) rfl ?_
  refine wo_seg Θ_ok [0, 1] [(1, (.slice A6 x1.length c7)), (2, v2), (8, v30), (15, (.slice A4 x0.length c5)), (16, (.int .i64 (x0.length : Int))), (17, (.int .i64 (i17 : Int))), (22, (.slice A6 x1.length c7)), (23, (.int .i64 (i17 : Int)))] rfl ⟨rfl, rfl, rfl, rfl, rfl, rfl, rfl, rfl, trivial⟩ ?_
  obtain ⟨y34, hz35, h⟩ := bind_some h
  refine wo_index Θ_ok rfl rfl rfl rfl rfl rfl rfl rfl rfl rfl h1 rfl (idx_some hz35).1 (idx_some hz35).2 (fun p32 h33 => ?_)
  refine wo_loadp Θ_ok rfl rfl rfl rfl rfl rfl rfl h33 rfl rfl (fun v36 h37 => ?_)
  refine wo_seg Θ_ok [4] [(1, (.slice A6 x1.length c7)), (2, v2), (8, v30), (9, v36), (15, (.slice A4 x0.length c5)), (16, (.int .i64 (x0.length : Int))), (17, (.int .i64 (i17 : Int)))] rfl ⟨rfl, rfl, rfl, rfl, rfl, rfl, rfl, trivial⟩ ?_
  refine wo_nil ?_
  refine wq_seq ?_
  refine wc_seq ?_
  refine wc_region (l := [0, 1, 2, 3, 4]) rfl ?_
  refine wo_seg Θ_ok [0, 1, 2] [(1, (.slice A6 x1.length c7)), (2, v2), (15, (.slice A4 x0.length c5)), (16, (.int .i64 (x0.length : Int))), (17, (.int .i64 (i17 : Int))), (26, v2), (27, v30), (28, v36)] rfl ⟨rfl, rfl, rfl, rfl, rfl, rfl, rfl, rfl, trivial⟩ ?_
  obtain ⟨y38, hy39, h⟩ := bind_some h
  refine wo_dyn2 rfl rfl rfl rfl rfl rfl rfl h2 hO h31 h37 hy39 (fun v40 w41 h42 f43 => ?_)
  have h1 := h1.tr f43.tr0
  have h2 := h2.tr f43.tr0
  have h0 := h0.tr f43.tr0
  have T9 := T9.trans f43.tr0
  have T16 := T16.trans f43.tr0
  have hO := f43.ob hO
  have hF := hF.trans f43
  obtain rfl := bool_is.1 h42
  refine wo_seg Θ_ok [4] [(1, (.slice A6 x1.length c7)), (2, v2), (15, (.slice A4 x0.length c5)), (16, (.int .i64 (x0.length : Int))), (17, (.int .i64 (i17 : Int))), (30, (.bool (!y38)))] rfl ⟨rfl, rfl, rfl, rfl, rfl, rfl, trivial⟩ ?_
  refine wo_nil ?_
  refine wq_seq ?_
  rcases bif_some h with ⟨hc44, h⟩ | ⟨hc44, h⟩
  rotate_left
  · refine wc_known_false rfl hc44 ?_
    refine wc_skip ?_
    refine wq_block (wq_seq ?_)
    refine wc_region (l := [0, 1]) rfl ?_
    refine wo_seg Θ_ok [0, 1] [(1, (.slice A6 x1.length c7)), (2, v2), (15, (.slice A4 x0.length c5)), (16, (.int .i64 (x0.length : Int))), (17, (.int .i64 (IntKind.i64.wrap ((i17 : Int) + (1 : Int)))))] rfl ⟨rfl, rfl, rfl, rfl, rfl, trivial⟩ ?_
    refine wo_nil ?_
    exact wq_next rest18.length [(1, (.slice A6 x1.length c7)), (2, v2), (15, (.slice A4 x0.length c5)), (16, (.int .i64 (x0.length : Int))), (17, (.int .i64 ((i17 + 1 : Nat) : Int)))] (Nat.lt_succ_self _) ⟨rfl, rfl, rfl, rfl, congrArg (fun z => some (Value.int .i64 z)) (wrap_succ hl27 (Nat.le_trans hlc5 hmc5)), trivial⟩ ⟨rest18, i17 + 1, O21, rfl, hd20, rfl, T16, hO, hS, hF, h⟩
  refine wc_known_true rfl hc44 ?_
  refine wc_seq ?_
  refine wc_region (l := [0]) rfl ?_
  refine wo_seg Θ_ok [0] [(6, (.bool false))] rfl ⟨rfl, trivial⟩ ?_
  refine wo_nil ?_
  refine wq_seq ?_
  refine wc_ret ?_
  cases h
  exact wq_block_ret (wq_then_ret (wq_then_ret (wq_block_ret (wq_then_ret (wq_ret rfl ⟨_, rfl, (bool_is.2 rfl), hF⟩)))))
set_option maxRecDepth 100000 in
set_option maxHeartbeats 4000000 in
theorem same_c {O : List Nat} {w : World} (hO : OB O w) {v0 : Value} {x0 : List (List Int)} (h0 : (Ty.slice (Ty.slice (Ty.int .u64))).is O w v0 x0) {v1 : Value} {x1 : List (List Int)} (h1 : (Ty.slice (Ty.slice (Ty.int .u64))).is O w v1 x1) {r : Bool} (h : same x0 x1 = some r) : Calls Try.prog 22 #[v0, v1] w (Gives (rt1 Ty.bool) O w r) := by
  have hF := Fr.refl [] w
  have hO0 := hO
  have hS := Sub.refl O
  refine calls_of (args := [v0, v1]) (N := 8) Try.func22 rfl rfl rfl ?_
  unfold same at h
  refine wc_seq ?_
  refine wc_region (l := [0]) rfl ?_
  refine wo_seg Θ_ok [0] [(0, v0), (1, v1)] rfl ⟨rfl, rfl, trivial⟩ ?_
  refine wo_nil ?_
  refine wq_seq ?_
  refine wc_seq ?_
  refine wc_region (l := [0, 1, 2, 3]) rfl ?_
  refine wo_seg Θ_ok [0, 1] [(5, v0), (6, v1)] rfl ⟨rfl, rfl, trivial⟩ ?_
  obtain ⟨y7, hy8, h⟩ := bind_some h
  refine wo_gives rfl rfl rfl rfl rfl ent41 rfl (s_EqualFunc_c hO h0 h1 (fn2_is (first := []) (cap := []) ent25 (fun O' w' ht hO u0 z0 q0 u1 z1 q1 y hy => s_Equal_c hO q0 q1 hy)) hy8) (fun v3 w4 h5 f6 => ?_)
  have hO := f6.ob hO
  have hF := hF.trans f6
  obtain rfl := bool_is.1 h5
  refine wo_seg Θ_ok [3] [(4, (.bool y7))] rfl ⟨rfl, trivial⟩ ?_
  refine wo_nil ?_
  refine wq_seq ?_
  refine wc_ret ?_
  cases h
  exact wq_ret rfl ⟨_, rfl, (bool_is.2 rfl), hF⟩
set_option maxRecDepth 100000 in
set_option maxHeartbeats 4000000 in
theorem s_Index_c {O : List Nat} {w : World} (hO : OB O w) {v0 : Value} {x0 : List Int} (h0 : (Ty.slice (Ty.int .u64)).is O w v0 x0) {v1 : Value} {x1 : Int} (h1 : (Ty.int .u64).is O w v1 x1) : Calls Try.prog 47 #[v0, v1] w (Gives (rt1 (Ty.int .i64)) O w (s_Index x0 x1)) := by
  obtain rfl := int_is.1 h1
  have hF := Fr.refl [] w
  have hO0 := hO
  have hS := Sub.refl O
  obtain ⟨r, h⟩ : ∃ r, s_Index x0 x1 = r := ⟨_, rfl⟩
  rw [h]
  refine calls_of (args := [v0, (.int .u64 x1)]) (N := 19) Try.func47 rfl rfl rfl ?_
  unfold s_Index at h
  refine wc_seq ?_
  refine wc_region (l := [0]) rfl ?_
  refine wo_seg Θ_ok [0] [(0, v0), (1, (.int .u64 x1))] rfl ⟨rfl, rfl, trivial⟩ ?_
  refine wo_nil ?_
  refine wq_seq ?_
  obtain ⟨k4, hk5, h⟩ := letk_some h
  refine wc_join (fun E W => ∃ (O8 : List Nat), E = [] ∧ Tr O w O8 W ∧ OB O8 W ∧ Sub O O8 ∧ Fr [] w W ∧ k4 = r) ?_ (fun K6 hK7 => ?_)
  · rintro E w9 ⟨O8, rfl, T3, hO, hS, hF, h⟩
    subst hk5
    (try dsimp only at h)
    refine wc_seq ?_
    refine wc_region (l := [0]) rfl ?_
    refine wo_seg Θ_ok [0] [(4, (.int .i64 (-1)))] rfl ⟨rfl, trivial⟩ ?_
    refine wo_nil ?_
    refine wq_seq ?_
    refine wc_ret ?_
    subst h
    exact wq_ret rfl ⟨_, rfl, (int_is.2 rfl), hF⟩
  clear hk5
  have T3 := Tr.refl O w
  refine wc_seq ?_
  refine wc_region (l := [0, 1, 2]) rfl ?_
  refine wo_seg Θ_ok [0] [(0, v0), (1, (.int .u64 x1)), (6, v0)] rfl ⟨rfl, rfl, rfl, trivial⟩ ?_
  obtain ⟨A10, c11, rfl, hlc11, hmc11⟩ := slice_form h0
  refine wo_seg Θ_ok [1] [(0, (.slice A10 x0.length c11)), (1, (.int .u64 x1)), (7, (.int .i64 (x0.length : Int)))] rfl ⟨rfl, rfl, rfl, trivial⟩ ?_
  refine wo_seg Θ_ok [2] [(0, (.slice A10 x0.length c11)), (1, (.int .u64 x1)), (7, (.int .i64 (x0.length : Int))), (8, (.int .i64 0))] rfl ⟨rfl, rfl, rfl, rfl, trivial⟩ ?_
  refine wo_nil ?_
  refine wq_seq ?_
  refine wc_block ?_
  refine wc_loop (fun m E W => ∃ (rest14 : List Int) (i13 : Nat) (O17 : List Nat), rest14.length = m ∧ x0.drop i13 = rest14 ∧ E = [(0, (.slice A10 x0.length c11)), (1, (.int .u64 x1)), (7, (.int .i64 (x0.length : Int))), (8, (.int .i64 (i13 : Int)))] ∧ Tr O w O17 W ∧ OB O17 W ∧ Sub O O17 ∧ Fr [] w W ∧ s_Index_l1 x1 k4 rest14 i13 = r) _ [(0, (.slice A10 x0.length c11)), (1, (.int .u64 x1)), (7, (.int .i64 (x0.length : Int))), (8, (.int .i64 ((0 : Nat) : Int)))] ⟨rfl, rfl, rfl, rfl, trivial⟩ ⟨x0, 0, O, rfl, rfl, rfl, Tr.refl _ _, hO, hS, hF, h⟩ ?_
  rintro m E w18 ⟨rest14, i13, O17, rfl, hd16, rfl, T12, hO, hS, hF, h⟩
  have T3 := T3.trans T12
  have h0 := h0.tr T12
  rcases rest14 with _ | ⟨z15, rest14⟩
  · rw [s_Index_l1] at h
    have hl22 := drop_nil hd16
    have hc19 : (decide ((i13 : Int) < (x0.length : Int))) = false := decide_eq_false (by omega)
    refine wc_seq ?_
    refine wc_region (l := [0]) rfl ?_
    refine wo_seg Θ_ok [0] [(0, (.slice A10 x0.length c11)), (1, (.int .u64 x1)), (7, (.int .i64 (x0.length : Int))), (8, (.int .i64 (i13 : Int))), (9, (.bool (decide ((i13 : Int) < (x0.length : Int)))))] rfl ⟨rfl, rfl, rfl, rfl, rfl, trivial⟩ ?_
    refine wo_nil ?_
    refine wq_seq ?_
    refine wc_seq ?_
    refine wc_known_false rfl hc19 ?_
    refine wc_exit ?_
    exact wq_then_exit (wq_then_exit (wq_block_exit (wq_join hK7 [] trivial ⟨O17, rfl, T3, hO, hS, hF, h⟩)))
  rw [s_Index_l1] at h
  obtain ⟨hl23, hg21, hd16⟩ := drop_cons hd16
  have hc20 : (decide ((i13 : Int) < (x0.length : Int))) = true := decide_eq_true (by omega)
  refine wc_seq ?_
  refine wc_region (l := [0]) rfl ?_
  refine wo_seg Θ_ok [0] [(0, (.slice A10 x0.length c11)), (1, (.int .u64 x1)), (7, (.int .i64 (x0.length : Int))), (8, (.int .i64 (i13 : Int))), (9, (.bool (decide ((i13 : Int) < (x0.length : Int)))))] rfl ⟨rfl, rfl, rfl, rfl, rfl, trivial⟩ ?_
  refine wo_nil ?_
  refine wq_seq ?_
  refine wc_seq ?_
  refine wc_known_true rfl hc20 ?_
  refine wc_skip ?_
  refine wq_seq ?_
  refine wc_seq ?_
  refine wc_block ?_
  refine wc_seq ?_
  refine wc_region (l := [0, 1]) rfl ?_
  refine wo_seg Θ_ok [0, 1] [(0, (.slice A10 x0.length c11)), (1, (.int .u64 x1)), (5, (.int .i64 (i13 : Int))), (7, (.int .i64 (x0.length : Int))), (8, (.int .i64 (i13 : Int)))] rfl ⟨rfl, rfl, rfl, rfl, rfl, trivial⟩ ?_
  refine wo_nil ?_
  refine wq_seq ?_
  refine wc_seq ?_
  refine wc_region (l := [0, 1, 2, 3, 4, 5]) rfl ?_
  refine wo_seg Θ_ok [0, 1, 2] [(0, (.slice A10 x0.length c11)), (1, (.int .u64 x1)), (5, (.int .i64 (i13 : Int))), (7, (.int .i64 (x0.length : Int))), (8, (.int .i64 (i13 : Int))), (11, (.int .u64 x1)), (12, (.slice A10 x0.length c11)), (13, (.int .i64 (i13 : Int)))] rfl ⟨rfl, rfl, rfl, rfl, rfl, rfl, rfl, rfl, trivial⟩ ?_
  refine wo_index Θ_ok rfl rfl rfl rfl rfl rfl rfl rfl rfl rfl h0 rfl (by omega) hg21 (fun p24 h25 => ?_)
  refine wo_loadp Θ_ok rfl rfl rfl rfl rfl rfl rfl h25 rfl rfl (fun v26 h27 => ?_)
  obtain rfl := int_is.1 h27
  refine wo_seg Θ_ok [5] [(0, (.slice A10 x0.length c11)), (1, (.int .u64 x1)), (5, (.int .i64 (i13 : Int))), (7, (.int .i64 (x0.length : Int))), (8, (.int .i64 (i13 : Int))), (16, (.bool (x1 == z15)))] rfl ⟨rfl, rfl, rfl, rfl, rfl, rfl, trivial⟩ ?_
  refine wo_nil ?_
  refine wq_seq ?_
  rcases bif_some h with ⟨hc28, h⟩ | ⟨hc28, h⟩
  rotate_left
  · refine wc_known_false rfl hc28 ?_
    refine wc_skip ?_
    refine wq_block (wq_seq ?_)
    refine wc_region (l := [0, 1]) rfl ?_
    refine wo_seg Θ_ok [0, 1] [(0, (.slice A10 x0.length c11)), (1, (.int .u64 x1)), (7, (.int .i64 (x0.length : Int))), (8, (.int .i64 (IntKind.i64.wrap ((i13 : Int) + (1 : Int)))))] rfl ⟨rfl, rfl, rfl, rfl, trivial⟩ ?_
    refine wo_nil ?_
    exact wq_next rest14.length [(0, (.slice A10 x0.length c11)), (1, (.int .u64 x1)), (7, (.int .i64 (x0.length : Int))), (8, (.int .i64 ((i13 + 1 : Nat) : Int)))] (Nat.lt_succ_self _) ⟨rfl, rfl, rfl, congrArg (fun z => some (Value.int .i64 z)) (wrap_succ hl23 (Nat.le_trans hlc11 hmc11)), trivial⟩ ⟨rest14, i13 + 1, O17, rfl, hd16, rfl, T12, hO, hS, hF, h⟩
  refine wc_known_true rfl hc28 ?_
  refine wc_seq ?_
  refine wc_region (l := [0, 1]) rfl ?_
  refine wo_seg Θ_ok [0, 1] [(4, (.int .i64 (i13 : Int)))] rfl ⟨rfl, trivial⟩ ?_
  refine wo_nil ?_
  refine wq_seq ?_
  refine wc_ret ?_
  subst h
  exact wq_block_ret (wq_then_ret (wq_then_ret (wq_block_ret (wq_then_ret (wq_ret rfl ⟨_, rfl, (int_is.2 rfl), hF⟩)))))
set_option maxRecDepth 100000 in
set_option maxHeartbeats 4000000 in
theorem s_Contains_c {O : List Nat} {w : World} (hO : OB O w) {v0 : Value} {x0 : List Int} (h0 : (Ty.slice (Ty.int .u64)).is O w v0 x0) {v1 : Value} {x1 : Int} (h1 : (Ty.int .u64).is O w v1 x1) : Calls Try.prog 36 #[v0, v1] w (Gives (rt1 Ty.bool) O w (s_Contains x0 x1)) := by
  obtain rfl := int_is.1 h1
  have hF := Fr.refl [] w
  have hO0 := hO
  have hS := Sub.refl O
  obtain ⟨r, h⟩ : ∃ r, s_Contains x0 x1 = r := ⟨_, rfl⟩
  rw [h]
  refine calls_of (args := [v0, (.int .u64 x1)]) (N := 9) Try.func36 rfl rfl rfl ?_
  unfold s_Contains at h
  refine wc_seq ?_
  refine wc_region (l := [0]) rfl ?_
  refine wo_seg Θ_ok [0] [(0, v0), (1, (.int .u64 x1))] rfl ⟨rfl, rfl, trivial⟩ ?_
  refine wo_nil ?_
  refine wq_seq ?_
  refine wc_seq ?_
  refine wc_region (l := [0, 1, 2, 3, 4]) rfl ?_
  refine wo_seg Θ_ok [0, 1] [(5, v0), (6, (.int .u64 x1))] rfl ⟨rfl, rfl, trivial⟩ ?_
  refine wo_gives rfl rfl rfl rfl rfl ent47 rfl (s_Index_c hO h0 (int_is.2 rfl)) (fun v3 w4 h5 f6 => ?_)
  have hO := f6.ob hO
  have hF := hF.trans f6
  obtain rfl := int_is.1 h5
  refine wo_seg Θ_ok [3, 4] [(4, (.bool (decide ((s_Index x0 x1) ≥ (0 : Int)))))] rfl ⟨rfl, trivial⟩ ?_
  refine wo_nil ?_
  refine wq_seq ?_
  refine wc_ret ?_
  subst h
  exact wq_ret rfl ⟨_, rfl, (bool_is.2 rfl), hF⟩
set_option maxRecDepth 100000 in
set_option maxHeartbeats 4000000 in
theorem own_c {O : List Nat} {w : World} (hO : OB O w) {v0 : Value} {x0 : List (List Int)} (h0 : (Ty.slice (Ty.slice (Ty.int .u64))).is O w v0 x0) {r : List (List Int)} (h : own x0 = some r) : Calls Try.prog 26 #[v0] w (Gives (rt1 (Ty.slice (Ty.slice (Ty.int .u64)))) O w r) := by
  have hF := Fr.refl [] w
  have hO0 := hO
  have hS := Sub.refl O
  refine calls_of (args := [v0]) (N := 27) Try.func26 rfl rfl rfl ?_
  unfold own at h
  refine wc_seq ?_
  refine wc_region (l := [0]) rfl ?_
  refine wo_seg Θ_ok [0] [(0, v0)] rfl ⟨rfl, trivial⟩ ?_
  refine wo_nil ?_
  refine wq_seq ?_
  refine wc_seq ?_
  refine wc_region (l := [0]) rfl ?_
  refine wo_seg Θ_ok [0] [(0, v0), (3, (.slice none 0 0))] rfl ⟨rfl, rfl, trivial⟩ ?_
  refine wo_nil ?_
  refine wq_seq ?_
  obtain ⟨k3, hk4, h⟩ := letk_some h
  refine wc_join (fun E W => ∃ (O10 : List Nat) (p7 : List (List Int)) (v8 : Value), E = [(3, v8)] ∧ Tr O w O10 W ∧ OB O10 W ∧ Sub O O10 ∧ Fr [] w W ∧ Go.Dc.Own (Ty.slice (Ty.int .u64)) 35 w.heap.size O10 W v8 p7 ∧ k3 p7 = some r) ?_ (fun K5 hK6 => ?_)
  · rintro E w11 ⟨O10, p7, v8, rfl, T2, hO, hS, hF, h9, h⟩
    subst hk4
    (try dsimp only at h)
    refine wc_seq ?_
    refine wc_region (l := [0, 1]) rfl ?_
    refine wo_seg Θ_ok [0, 1] [(2, v8)] rfl ⟨rfl, trivial⟩ ?_
    refine wo_nil ?_
    refine wq_seq ?_
    refine wc_ret ?_
    cases h
    exact wq_ret rfl ⟨_, rfl, (h9.share0 hS hO0), hF⟩
  clear hk4
  have T2 := Tr.refl O w
  refine wc_seq ?_
  refine wc_region (l := [0, 1, 2, 3, 4, 5, 6]) rfl ?_
  refine wo_seg Θ_ok [0, 1] [(3, (.slice none 0 0)), (6, v0), (7, v0)] rfl ⟨rfl, rfl, rfl, trivial⟩ ?_
  obtain ⟨A12, c13, rfl, hlc13, hmc13⟩ := slice_form h0
  refine wo_seg Θ_ok [2] [(3, (.slice none 0 0)), (6, (.slice A12 x0.length c13)), (8, (.int .i64 (x0.length : Int)))] rfl ⟨rfl, rfl, rfl, trivial⟩ ?_
  refine wo_seg Θ_ok [3] [(3, (.slice none 0 0)), (6, (.slice A12 x0.length c13)), (9, (.int .i64 (if (33 : Int) < (x0.length : Int) then (33 : Int) else (x0.length : Int))))] rfl ⟨rfl, rfl, rfl, trivial⟩ ?_
  obtain ⟨y14, hz15, h⟩ := bind_some h
  refine wo_cut (l' := none) (h' := some (.i64, (if (33 : Int) < (x0.length : Int) then (33 : Int) else (x0.length : Int)))) (m' := none) Θ_ok rfl rfl rfl rfl rfl rfl rfl rfl rfl rfl rfl rfl rfl h0 hz15 (fun v16 h17 => ?_)
  obtain ⟨A18, c19, rfl, hlc19, hmc19⟩ := slice_form h17
  refine wo_seg Θ_ok [5] [(3, (.slice none 0 0)), (10, (.slice A18 y14.length c19)), (11, (.int .i64 (y14.length : Int)))] rfl ⟨rfl, rfl, rfl, trivial⟩ ?_
  refine wo_seg Θ_ok [6] [(3, (.slice none 0 0)), (10, (.slice A18 y14.length c19)), (11, (.int .i64 (y14.length : Int))), (12, (.int .i64 0))] rfl ⟨rfl, rfl, rfl, rfl, trivial⟩ ?_
  refine wo_nil ?_
  refine wq_seq ?_
  refine wc_block ?_
  refine wc_loop (fun m E W => ∃ (rest25 : List (List Int)) (i24 : Nat) (O28 : List Nat) (p21 : List (List Int)) (v22 : Value), rest25.length = m ∧ y14.drop i24 = rest25 ∧ E = [(3, v22), (10, (.slice A18 y14.length c19)), (11, (.int .i64 (y14.length : Int))), (12, (.int .i64 (i24 : Int)))] ∧ Tr O w O28 W ∧ OB O28 W ∧ Sub O O28 ∧ Fr [] w W ∧ Go.Dc.Own (Ty.slice (Ty.int .u64)) 35 w.heap.size O28 W v22 p21 ∧ own_l1 k3 rest25 i24 p21 = some r) _ [(3, (.slice none 0 0)), (10, (.slice A18 y14.length c19)), (11, (.int .i64 (y14.length : Int))), (12, (.int .i64 ((0 : Nat) : Int)))] ⟨rfl, rfl, rfl, rfl, trivial⟩ ⟨y14, 0, O, ([] : List (List Int)), (.slice none 0 0), rfl, rfl, rfl, Tr.refl _ _, hO, hS, hF, (Go.Dc.Own.nil_ : Go.Dc.Own (Ty.slice (Ty.int .u64)) 35 w.heap.size _ _ _ _), h⟩ ?_
  rintro m E w29 ⟨rest25, i24, O28, p21, v22, rfl, hd27, rfl, T20, hO, hS, hF, h23, h⟩
  have T2 := T2.trans T20
  have h17 := h17.tr T20
  rcases rest25 with _ | ⟨z26, rest25⟩
  · rw [own_l1] at h
    have hl33 := drop_nil hd27
    have hc30 : (decide ((i24 : Int) < (y14.length : Int))) = false := decide_eq_false (by omega)
    refine wc_seq ?_
    refine wc_region (l := [0]) rfl ?_
    refine wo_seg Θ_ok [0] [(3, v22), (10, (.slice A18 y14.length c19)), (11, (.int .i64 (y14.length : Int))), (12, (.int .i64 (i24 : Int))), (13, (.bool (decide ((i24 : Int) < (y14.length : Int)))))] rfl ⟨rfl, rfl, rfl, rfl, rfl, trivial⟩ ?_
    refine wo_nil ?_
    refine wq_seq ?_
    refine wc_seq ?_
    refine wc_known_false rfl hc30 ?_
    refine wc_exit ?_
    exact wq_then_exit (wq_then_exit (wq_block_exit (wq_join hK6 [(3, v22)] ⟨rfl, trivial⟩ ⟨O28, p21, v22, rfl, T2, hO, hS, hF, h23, h⟩)))
  rw [own_l1] at h
  obtain ⟨hl34, hg32, hd27⟩ := drop_cons hd27
  have hc31 : (decide ((i24 : Int) < (y14.length : Int))) = true := decide_eq_true (by omega)
  refine wc_seq ?_
  refine wc_region (l := [0]) rfl ?_
  refine wo_seg Θ_ok [0] [(3, v22), (10, (.slice A18 y14.length c19)), (11, (.int .i64 (y14.length : Int))), (12, (.int .i64 (i24 : Int))), (13, (.bool (decide ((i24 : Int) < (y14.length : Int)))))] rfl ⟨rfl, rfl, rfl, rfl, rfl, trivial⟩ ?_
  refine wo_nil ?_
  refine wq_seq ?_
  refine wc_seq ?_
  refine wc_known_true rfl hc31 ?_
  refine wc_skip ?_
  refine wq_seq ?_
  refine wc_seq ?_
  refine wc_block ?_
  refine wc_seq ?_
  refine wc_region (l := [0, 1, 2]) rfl ?_
  refine wo_index Θ_ok rfl rfl rfl rfl rfl rfl rfl rfl rfl rfl h17 rfl (by omega) hg32 (fun p35 h36 => ?_)
  refine wo_loadp Θ_ok rfl rfl rfl rfl rfl rfl rfl h36 rfl rfl (fun v37 h38 => ?_)
  refine wo_seg Θ_ok [2] [(3, v22), (5, v37), (10, (.slice A18 y14.length c19)), (11, (.int .i64 (y14.length : Int))), (12, (.int .i64 (i24 : Int)))] rfl ⟨rfl, rfl, rfl, rfl, rfl, trivial⟩ ?_
  refine wo_nil ?_
  refine wq_seq ?_
  refine wc_region (l := [0, 1, 2, 3, 4, 5, 6, 7, 8, 9]) rfl ?_
  refine wo_seg Θ_ok [0, 1, 2] [(10, (.slice A18 y14.length c19)), (11, (.int .i64 (y14.length : Int))), (12, (.int .i64 (i24 : Int))), (16, v22), (17, v37), (18, v37)] rfl ⟨rfl, rfl, rfl, rfl, rfl, rfl, trivial⟩ ?_
  obtain ⟨A39, c40, rfl, hlc40, hmc40⟩ := slice_form h38
  refine wo_seg Θ_ok [3] [(10, (.slice A18 y14.length c19)), (11, (.int .i64 (y14.length : Int))), (12, (.int .i64 (i24 : Int))), (16, v22), (17, (.slice A39 z26.length c40)), (19, (.int .i64 (z26.length : Int)))] rfl ⟨rfl, rfl, rfl, rfl, rfl, rfl, trivial⟩ ?_
  refine wo_seg Θ_ok [4] [(10, (.slice A18 y14.length c19)), (11, (.int .i64 (y14.length : Int))), (12, (.int .i64 (i24 : Int))), (16, v22), (17, (.slice A39 z26.length c40)), (20, (.int .i64 (if (24 : Int) < (z26.length : Int) then (24 : Int) else (z26.length : Int))))] rfl ⟨rfl, rfl, rfl, rfl, rfl, rfl, trivial⟩ ?_
  obtain ⟨y41, hz42, h⟩ := bind_some h
  refine wo_cut (l' := none) (h' := some (.i64, (if (24 : Int) < (z26.length : Int) then (24 : Int) else (z26.length : Int)))) (m' := none) Θ_ok rfl rfl rfl rfl rfl rfl rfl rfl rfl rfl rfl rfl rfl h38 hz42 (fun v43 h44 => ?_)
  obtain ⟨y49, hy50, h⟩ := bind_some h
  refine wo_gives rfl rfl rfl rfl rfl ent16 rfl (s_Clone_c hO h44 hy50) (fun v45 w46 h47 f48 => ?_)
  have h17 := h17.tr f48.tr0
  have h23 := h23.fr0 f48
  have T2 := T2.trans f48.tr0
  have T20 := T20.trans f48.tr0
  have hO := f48.ob hO
  have hF := hF.trans f48
  refine wo_litd Θ_ok rfl rfl rfl rfl rfl rfl rfl rfl rfl rfl (T := (Ty.slice (Ty.int .u64))) (xs := [y49]) (vs := [v45]) rfl ⟨h47, trivial⟩ rfl rfl rfl hO (fun v51 w52 h53 f54 => ?_)
  have h17 := h17.tr f54.tr0
  have h23 := h23.fr0 f54
  have T2 := T2.trans f54.tr0
  have T20 := T20.trans f54.tr0
  have hO := f54.ob hO
  have hF := hF.trans f54
  obtain ⟨z55, hz56, h⟩ := bind_some h
  refine wo_app Θ_ok rfl rfl rfl rfl rfl rfl rfl rfl rfl rfl rfl rfl rfl rfl hF hO h23 h53 hz56 (fun v57 w58 O59 ap60 => ?_)
  have h17 := h17.tr ap60.tr
  have T2 := T2.trans ap60.tr
  have T20 := T20.trans ap60.tr
  have hF := ap60.fr0 h23 hF
  have hS := Sub.trans hS ap60.sub
  have hO := ap60.ob
  have h61 := ap60.own
  refine wo_seg Θ_ok [9] [(3, v57), (10, (.slice A18 y14.length c19)), (11, (.int .i64 (y14.length : Int))), (12, (.int .i64 (i24 : Int)))] rfl ⟨rfl, rfl, rfl, rfl, trivial⟩ ?_
  refine wo_nil ?_
  refine wq_block (wq_seq ?_)
  refine wc_region (l := [0, 1]) rfl ?_
  refine wo_seg Θ_ok [0, 1] [(3, v57), (10, (.slice A18 y14.length c19)), (11, (.int .i64 (y14.length : Int))), (12, (.int .i64 (IntKind.i64.wrap ((i24 : Int) + (1 : Int)))))] rfl ⟨rfl, rfl, rfl, rfl, trivial⟩ ?_
  refine wo_nil ?_
  exact wq_next rest25.length [(3, v57), (10, (.slice A18 y14.length c19)), (11, (.int .i64 (y14.length : Int))), (12, (.int .i64 ((i24 + 1 : Nat) : Int)))] (Nat.lt_succ_self _) ⟨rfl, rfl, rfl, congrArg (fun z => some (Value.int .i64 z)) (wrap_succ hl34 (Nat.le_trans hlc19 hmc19)), trivial⟩ ⟨rest25, i24 + 1, O59, z55, v57, rfl, hd27, rfl, T20, hO, hS, hF, h61, h⟩
set_option maxRecDepth 100000 in
set_option maxHeartbeats 4000000 in
theorem r_Put_c {O : List Nat} {w : World} (hO : OB O w) {v0 : Value} {x0 : List Int} (h0 : (Ty.slice (Ty.int .u64)).is O w v0 x0) {v1 : Value} {x1 : Int} (h1 : (Ty.int .u64).is O w v1 x1) {r : List Int} (h : r_Put x0 x1 = some r) : Calls Try.prog 42 #[v0, v1] w (Gives (rt1 (Ty.slice (Ty.int .u64))) O w r) := by
  obtain rfl := int_is.1 h1
  have hF := Fr.refl [] w
  have hO0 := hO
  have hS := Sub.refl O
  refine calls_of (args := [v0, (.int .u64 x1)]) (N := 47) Try.func42 rfl rfl rfl ?_
  unfold r_Put at h
  refine wc_seq ?_
  refine wc_region (l := [0]) rfl ?_
  refine wo_seg Θ_ok [0] [(0, v0), (1, (.int .u64 x1))] rfl ⟨rfl, rfl, trivial⟩ ?_
  refine wo_nil ?_
  refine wq_seq ?_
  refine wc_seq ?_
  refine wc_region (l := [0]) rfl ?_
  refine wo_seg Θ_ok [0] [(0, v0), (1, (.int .u64 x1)), (5, (.slice none 0 0))] rfl ⟨rfl, rfl, rfl, trivial⟩ ?_
  refine wo_nil ?_
  refine wq_seq ?_
  obtain ⟨k4, hk5, h⟩ := letk_some h
  refine wc_join (fun E W => ∃ (O11 : List Nat) (p8 : List Int) (v9 : Value), E = [(0, v0), (1, (.int .u64 x1)), (5, v9)] ∧ Tr O w O11 W ∧ OB O11 W ∧ Sub O O11 ∧ Fr [] w W ∧ Go.Dc.Own (Ty.int .u64) 31 w.heap.size O11 W v9 p8 ∧ k4 p8 = some r) ?_ (fun K6 hK7 => ?_)
  rotate_left
  · clear hk5
    have T3 := Tr.refl O w
    refine wc_seq ?_
    refine wc_region (l := [0, 1, 2]) rfl ?_
    refine wo_seg Θ_ok [0] [(0, v0), (1, (.int .u64 x1)), (5, (.slice none 0 0)), (10, v0)] rfl ⟨rfl, rfl, rfl, rfl, trivial⟩ ?_
    obtain ⟨A75, c76, rfl, hlc76, hmc76⟩ := slice_form h0
    refine wo_seg Θ_ok [1] [(0, (.slice A75 x0.length c76)), (1, (.int .u64 x1)), (5, (.slice none 0 0)), (10, (.slice A75 x0.length c76)), (11, (.int .i64 (x0.length : Int)))] rfl ⟨rfl, rfl, rfl, rfl, rfl, trivial⟩ ?_
    refine wo_seg Θ_ok [2] [(0, (.slice A75 x0.length c76)), (1, (.int .u64 x1)), (5, (.slice none 0 0)), (10, (.slice A75 x0.length c76)), (11, (.int .i64 (x0.length : Int))), (12, (.int .i64 0))] rfl ⟨rfl, rfl, rfl, rfl, rfl, rfl, trivial⟩ ?_
    refine wo_nil ?_
    refine wq_seq ?_
    refine wc_block ?_
    refine wc_loop (fun m E W => ∃ (rest82 : List Int) (i81 : Nat) (O85 : List Nat) (p78 : List Int) (v79 : Value), rest82.length = m ∧ x0.drop i81 = rest82 ∧ E = [(0, (.slice A75 x0.length c76)), (1, (.int .u64 x1)), (5, v79), (10, (.slice A75 x0.length c76)), (11, (.int .i64 (x0.length : Int))), (12, (.int .i64 (i81 : Int)))] ∧ Tr O w O85 W ∧ OB O85 W ∧ Sub O O85 ∧ Fr [] w W ∧ Go.Dc.Own (Ty.int .u64) 31 w.heap.size O85 W v79 p78 ∧ r_Put_l2 x1 k4 rest82 i81 p78 = some r) _ [(0, (.slice A75 x0.length c76)), (1, (.int .u64 x1)), (5, (.slice none 0 0)), (10, (.slice A75 x0.length c76)), (11, (.int .i64 (x0.length : Int))), (12, (.int .i64 ((0 : Nat) : Int)))] ⟨rfl, rfl, rfl, rfl, rfl, rfl, trivial⟩ ⟨x0, 0, O, ([] : List Int), (.slice none 0 0), rfl, rfl, rfl, Tr.refl _ _, hO, hS, hF, (Go.Dc.Own.nil_ : Go.Dc.Own (Ty.int .u64) 31 w.heap.size _ _ _ _), h⟩ ?_
    rintro m E w86 ⟨rest82, i81, O85, p78, v79, rfl, hd84, rfl, T77, hO, hS, hF, h80, h⟩
    have T3 := T3.trans T77
    have h0 := h0.tr T77
    rcases rest82 with _ | ⟨z83, rest82⟩
    · rw [r_Put_l2] at h
      have hl90 := drop_nil hd84
      have hc87 : (decide ((i81 : Int) < (x0.length : Int))) = false := decide_eq_false (by omega)
      refine wc_seq ?_
      refine wc_region (l := [0]) rfl ?_
      refine wo_seg Θ_ok [0] [(0, (.slice A75 x0.length c76)), (1, (.int .u64 x1)), (5, v79), (10, (.slice A75 x0.length c76)), (11, (.int .i64 (x0.length : Int))), (12, (.int .i64 (i81 : Int))), (13, (.bool (decide ((i81 : Int) < (x0.length : Int)))))] rfl ⟨rfl, rfl, rfl, rfl, rfl, rfl, rfl, trivial⟩ ?_
      refine wo_nil ?_
      refine wq_seq ?_
      refine wc_seq ?_
      refine wc_known_false rfl hc87 ?_
      refine wc_exit ?_
      exact wq_then_exit (wq_then_exit (wq_block_exit (wq_join hK7 [(0, (.slice A75 x0.length c76)), (1, (.int .u64 x1)), (5, v79)] ⟨rfl, rfl, rfl, trivial⟩ ⟨O85, p78, v79, rfl, T3, hO, hS, hF, h80, h⟩)))
    rw [r_Put_l2] at h
    obtain ⟨hl91, hg89, hd84⟩ := drop_cons hd84
    have hc88 : (decide ((i81 : Int) < (x0.length : Int))) = true := decide_eq_true (by omega)
    refine wc_seq ?_
    refine wc_region (l := [0]) rfl ?_
    refine wo_seg Θ_ok [0] [(0, (.slice A75 x0.length c76)), (1, (.int .u64 x1)), (5, v79), (10, (.slice A75 x0.length c76)), (11, (.int .i64 (x0.length : Int))), (12, (.int .i64 (i81 : Int))), (13, (.bool (decide ((i81 : Int) < (x0.length : Int)))))] rfl ⟨rfl, rfl, rfl, rfl, rfl, rfl, rfl, trivial⟩ ?_
    refine wo_nil ?_
    refine wq_seq ?_
    refine wc_seq ?_
    refine wc_known_true rfl hc88 ?_
    refine wc_skip ?_
    refine wq_seq ?_
    refine wc_seq ?_
    refine wc_block ?_
    refine wc_seq ?_
    refine wc_region (l := [0, 1, 2]) rfl ?_
    refine wo_index Θ_ok rfl rfl rfl rfl rfl rfl rfl rfl rfl rfl h0 rfl (by omega) hg89 (fun p92 h93 => ?_)
    refine wo_loadp Θ_ok rfl rfl rfl rfl rfl rfl rfl h93 rfl rfl (fun v94 h95 => ?_)
    obtain rfl := int_is.1 h95
    refine wo_seg Θ_ok [2] [(0, (.slice A75 x0.length c76)), (1, (.int .u64 x1)), (5, v79), (7, (.int .u64 z83)), (10, (.slice A75 x0.length c76)), (11, (.int .i64 (x0.length : Int))), (12, (.int .i64 (i81 : Int)))] rfl ⟨rfl, rfl, rfl, rfl, rfl, rfl, rfl, trivial⟩ ?_
    refine wo_nil ?_
    refine wq_seq ?_
    refine wc_seq ?_
    refine wc_region (l := [0, 1, 2, 3, 4]) rfl ?_
    refine wo_seg Θ_ok [0] [(0, (.slice A75 x0.length c76)), (1, (.int .u64 x1)), (5, v79), (7, (.int .u64 z83)), (10, (.slice A75 x0.length c76)), (11, (.int .i64 (x0.length : Int))), (12, (.int .i64 (i81 : Int))), (16, (.int .u64 z83))] rfl ⟨rfl, rfl, rfl, rfl, rfl, rfl, rfl, rfl, trivial⟩ ?_
    refine wo_gives rfl rfl rfl rfl rfl ent19 rfl (r_Hash_c hO (int_is.2 rfl)) (fun v96 w97 h98 f99 => ?_)
    have h0 := h0.tr f99.tr0
    have h80 := h80.fr0 f99
    have T3 := T3.trans f99.tr0
    have T77 := T77.trans f99.tr0
    have hO := f99.ob hO
    have hF := hF.trans f99
    obtain rfl := int_is.1 h98
    refine wo_seg Θ_ok [2] [(0, (.slice A75 x0.length c76)), (1, (.int .u64 x1)), (5, v79), (7, (.int .u64 z83)), (10, (.slice A75 x0.length c76)), (11, (.int .i64 (x0.length : Int))), (12, (.int .i64 (i81 : Int))), (17, (.int .u64 (r_Hash z83))), (18, (.int .u64 x1))] rfl ⟨rfl, rfl, rfl, rfl, rfl, rfl, rfl, rfl, rfl, trivial⟩ ?_
    refine wo_gives rfl rfl rfl rfl rfl ent19 rfl (r_Hash_c hO (int_is.2 rfl)) (fun v100 w101 h102 f103 => ?_)
    have h0 := h0.tr f103.tr0
    have h80 := h80.fr0 f103
    have T3 := T3.trans f103.tr0
    have T77 := T77.trans f103.tr0
    have hO := f103.ob hO
    have hF := hF.trans f103
    obtain rfl := int_is.1 h102
    refine wo_seg Θ_ok [4] [(0, (.slice A75 x0.length c76)), (1, (.int .u64 x1)), (5, v79), (7, (.int .u64 z83)), (10, (.slice A75 x0.length c76)), (11, (.int .i64 (x0.length : Int))), (12, (.int .i64 (i81 : Int))), (20, (.bool (decide ((r_Hash z83) < (r_Hash x1)))))] rfl ⟨rfl, rfl, rfl, rfl, rfl, rfl, rfl, rfl, trivial⟩ ?_
    refine wo_nil ?_
    refine wq_seq ?_
    rcases bif_some h with ⟨hc104, h⟩ | ⟨hc104, h⟩
    rotate_left
    · refine wc_known_false rfl hc104 ?_
      refine wc_skip ?_
      refine wq_block (wq_seq ?_)
      refine wc_region (l := [0, 1]) rfl ?_
      refine wo_seg Θ_ok [0, 1] [(0, (.slice A75 x0.length c76)), (1, (.int .u64 x1)), (5, v79), (10, (.slice A75 x0.length c76)), (11, (.int .i64 (x0.length : Int))), (12, (.int .i64 (IntKind.i64.wrap ((i81 : Int) + (1 : Int)))))] rfl ⟨rfl, rfl, rfl, rfl, rfl, rfl, trivial⟩ ?_
      refine wo_nil ?_
      exact wq_next rest82.length [(0, (.slice A75 x0.length c76)), (1, (.int .u64 x1)), (5, v79), (10, (.slice A75 x0.length c76)), (11, (.int .i64 (x0.length : Int))), (12, (.int .i64 ((i81 + 1 : Nat) : Int)))] (Nat.lt_succ_self _) ⟨rfl, rfl, rfl, rfl, rfl, congrArg (fun z => some (Value.int .i64 z)) (wrap_succ hl91 (Nat.le_trans hlc76 hmc76)), trivial⟩ ⟨rest82, i81 + 1, O85, p78, v79, rfl, hd84, rfl, T77, hO, hS, hF, h80, h⟩
    refine wc_known_true rfl hc104 ?_
    refine wc_region (l := [0, 1, 2, 3, 4]) rfl ?_
    refine wo_seg Θ_ok [0, 1] [(0, (.slice A75 x0.length c76)), (1, (.int .u64 x1)), (10, (.slice A75 x0.length c76)), (11, (.int .i64 (x0.length : Int))), (12, (.int .i64 (i81 : Int))), (21, v79), (22, (.int .u64 z83))] rfl ⟨rfl, rfl, rfl, rfl, rfl, rfl, rfl, trivial⟩ ?_
    refine wo_litd Θ_ok rfl rfl rfl rfl rfl rfl rfl rfl rfl rfl (T := (Ty.int .u64)) (xs := [z83]) (vs := [(.int .u64 z83)]) rfl ⟨(int_is.2 rfl), trivial⟩ rfl rfl rfl hO (fun v105 w106 h107 f108 => ?_)
    have h0 := h0.tr f108.tr0
    have h80 := h80.fr0 f108
    have T3 := T3.trans f108.tr0
    have T77 := T77.trans f108.tr0
    have hO := f108.ob hO
    have hF := hF.trans f108
    obtain ⟨z109, hz110, h⟩ := bind_some h
    refine wo_app Θ_ok rfl rfl rfl rfl rfl rfl rfl rfl rfl rfl rfl rfl rfl rfl hF hO h80 h107 hz110 (fun v111 w112 O113 ap114 => ?_)
    have h0 := h0.tr ap114.tr
    have T3 := T3.trans ap114.tr
    have T77 := T77.trans ap114.tr
    have hF := ap114.fr0 h80 hF
    have hS := Sub.trans hS ap114.sub
    have hO := ap114.ob
    have h115 := ap114.own
    refine wo_seg Θ_ok [4] [(0, (.slice A75 x0.length c76)), (1, (.int .u64 x1)), (5, v111), (10, (.slice A75 x0.length c76)), (11, (.int .i64 (x0.length : Int))), (12, (.int .i64 (i81 : Int)))] rfl ⟨rfl, rfl, rfl, rfl, rfl, rfl, trivial⟩ ?_
    refine wo_nil ?_
    refine wq_block (wq_seq ?_)
    refine wc_region (l := [0, 1]) rfl ?_
    refine wo_seg Θ_ok [0, 1] [(0, (.slice A75 x0.length c76)), (1, (.int .u64 x1)), (5, v111), (10, (.slice A75 x0.length c76)), (11, (.int .i64 (x0.length : Int))), (12, (.int .i64 (IntKind.i64.wrap ((i81 : Int) + (1 : Int)))))] rfl ⟨rfl, rfl, rfl, rfl, rfl, rfl, trivial⟩ ?_
    refine wo_nil ?_
    exact wq_next rest82.length [(0, (.slice A75 x0.length c76)), (1, (.int .u64 x1)), (5, v111), (10, (.slice A75 x0.length c76)), (11, (.int .i64 (x0.length : Int))), (12, (.int .i64 ((i81 + 1 : Nat) : Int)))] (Nat.lt_succ_self _) ⟨rfl, rfl, rfl, rfl, rfl, congrArg (fun z => some (Value.int .i64 z)) (wrap_succ hl91 (Nat.le_trans hlc76 hmc76)), trivial⟩ ⟨rest82, i81 + 1, O113, z109, v111, rfl, hd84, rfl, T77, hO, hS, hF, h115, h⟩
  rintro E w12 ⟨O11, p8, v9, rfl, T3, hO, hS, hF, h10, h⟩
  have h0 := h0.tr T3
  subst hk5
  (try dsimp only at h)
  refine wc_seq ?_
  refine wc_region (l := [0, 1, 2, 3, 4]) rfl ?_
  refine wo_seg Θ_ok [0, 1] [(0, v0), (1, (.int .u64 x1)), (26, v9), (27, (.int .u64 x1))] rfl ⟨rfl, rfl, rfl, rfl, trivial⟩ ?_
  refine wo_litd Θ_ok rfl rfl rfl rfl rfl rfl rfl rfl rfl rfl (T := (Ty.int .u64)) (xs := [x1]) (vs := [(.int .u64 x1)]) rfl ⟨(int_is.2 rfl), trivial⟩ rfl rfl rfl hO (fun v13 w14 h15 f16 => ?_)
  have h0 := h0.tr f16.tr0
  have h10 := h10.fr0 f16
  have hO := f16.ob hO
  have hF := hF.trans f16
  obtain ⟨z17, hz18, h⟩ := bind_some h
  refine wo_app Θ_ok rfl rfl rfl rfl rfl rfl rfl rfl rfl rfl rfl rfl rfl rfl hF hO h10 h15 hz18 (fun v19 w20 O21 ap22 => ?_)
  have h0 := h0.tr ap22.tr
  have hF := ap22.fr0 h10 hF
  have hS := Sub.trans hS ap22.sub
  have hO := ap22.ob
  have h23 := ap22.own
  refine wo_seg Θ_ok [4] [(0, v0), (1, (.int .u64 x1)), (5, v19)] rfl ⟨rfl, rfl, rfl, trivial⟩ ?_
  refine wo_nil ?_
  refine wq_seq ?_
  obtain ⟨k25, hk26, h⟩ := letk_some h
  refine wc_join (fun E W => ∃ (O32 : List Nat) (p29 : List Int) (v30 : Value), E = [(5, v30)] ∧ Tr O21 w20 O32 W ∧ OB O32 W ∧ Sub O O32 ∧ Fr [] w W ∧ Go.Dc.Own (Ty.int .u64) 31 w.heap.size O32 W v30 p29 ∧ k25 p29 = some r) ?_ (fun K27 hK28 => ?_)
  · rintro E w33 ⟨O32, p29, v30, rfl, T24, hO, hS, hF, h31, h⟩
    subst hk26
    (try dsimp only at h)
    refine wc_seq ?_
    refine wc_region (l := [0, 1]) rfl ?_
    refine wo_seg Θ_ok [0, 1] [(4, v30)] rfl ⟨rfl, trivial⟩ ?_
    refine wo_nil ?_
    refine wq_seq ?_
    refine wc_ret ?_
    cases h
    exact wq_ret rfl ⟨_, rfl, (h31.share0 hS hO0), hF⟩
  clear hk26
  have T24 := Tr.refl O21 w20
  refine wc_seq ?_
  refine wc_region (l := [0, 1, 2]) rfl ?_
  refine wo_seg Θ_ok [0] [(1, (.int .u64 x1)), (5, v19), (30, v0)] rfl ⟨rfl, rfl, rfl, trivial⟩ ?_
  obtain ⟨A34, c35, rfl, hlc35, hmc35⟩ := slice_form h0
  refine wo_seg Θ_ok [1] [(1, (.int .u64 x1)), (5, v19), (30, (.slice A34 x0.length c35)), (31, (.int .i64 (x0.length : Int)))] rfl ⟨rfl, rfl, rfl, rfl, trivial⟩ ?_
  refine wo_seg Θ_ok [2] [(1, (.int .u64 x1)), (5, v19), (30, (.slice A34 x0.length c35)), (31, (.int .i64 (x0.length : Int))), (32, (.int .i64 0))] rfl ⟨rfl, rfl, rfl, rfl, rfl, trivial⟩ ?_
  refine wo_nil ?_
  refine wq_seq ?_
  refine wc_block ?_
  refine wc_loop (fun m E W => ∃ (rest41 : List Int) (i40 : Nat) (O44 : List Nat) (p37 : List Int) (v38 : Value), rest41.length = m ∧ x0.drop i40 = rest41 ∧ E = [(1, (.int .u64 x1)), (5, v38), (30, (.slice A34 x0.length c35)), (31, (.int .i64 (x0.length : Int))), (32, (.int .i64 (i40 : Int)))] ∧ Tr O21 w20 O44 W ∧ OB O44 W ∧ Sub O O44 ∧ Fr [] w W ∧ Go.Dc.Own (Ty.int .u64) 31 w.heap.size O44 W v38 p37 ∧ r_Put_l1 x1 k25 rest41 i40 p37 = some r) _ [(1, (.int .u64 x1)), (5, v19), (30, (.slice A34 x0.length c35)), (31, (.int .i64 (x0.length : Int))), (32, (.int .i64 ((0 : Nat) : Int)))] ⟨rfl, rfl, rfl, rfl, rfl, trivial⟩ ⟨x0, 0, O21, z17, v19, rfl, rfl, rfl, Tr.refl _ _, hO, hS, hF, h23, h⟩ ?_
  rintro m E w45 ⟨rest41, i40, O44, p37, v38, rfl, hd43, rfl, T36, hO, hS, hF, h39, h⟩
  have T24 := T24.trans T36
  have h0 := h0.tr T36
  rcases rest41 with _ | ⟨z42, rest41⟩
  · rw [r_Put_l1] at h
    have hl49 := drop_nil hd43
    have hc46 : (decide ((i40 : Int) < (x0.length : Int))) = false := decide_eq_false (by omega)
    refine wc_seq ?_
    refine wc_region (l := [0]) rfl ?_
    refine wo_seg Θ_ok [0] [(1, (.int .u64 x1)), (5, v38), (30, (.slice A34 x0.length c35)), (31, (.int .i64 (x0.length : Int))), (32, (.int .i64 (i40 : Int))), (33, (.bool (decide ((i40 : Int) < (x0.length : Int)))))] rfl ⟨rfl, rfl, rfl, rfl, rfl, rfl, trivial⟩ ?_
    refine wo_nil ?_
    refine wq_seq ?_
    refine wc_seq ?_
    refine wc_known_false rfl hc46 ?_
    refine wc_exit ?_
    exact wq_then_exit (wq_then_exit (wq_block_exit (wq_join hK28 [(5, v38)] ⟨rfl, trivial⟩ ⟨O44, p37, v38, rfl, T24, hO, hS, hF, h39, h⟩)))
  rw [r_Put_l1] at h
  obtain ⟨hl50, hg48, hd43⟩ := drop_cons hd43
  have hc47 : (decide ((i40 : Int) < (x0.length : Int))) = true := decide_eq_true (by omega)
  refine wc_seq ?_
  refine wc_region (l := [0]) rfl ?_
  refine wo_seg Θ_ok [0] [(1, (.int .u64 x1)), (5, v38), (30, (.slice A34 x0.length c35)), (31, (.int .i64 (x0.length : Int))), (32, (.int .i64 (i40 : Int))), (33, (.bool (decide ((i40 : Int) < (x0.length : Int)))))] rfl ⟨rfl, rfl, rfl, rfl, rfl, rfl, trivial⟩ ?_
  refine wo_nil ?_
  refine wq_seq ?_
  refine wc_seq ?_
  refine wc_known_true rfl hc47 ?_
  refine wc_skip ?_
  refine wq_seq ?_
  refine wc_seq ?_
  refine wc_block ?_
  refine wc_seq ?_
  refine wc_region (l := [0, 1, 2]) rfl ?_
  refine wo_index Θ_ok rfl rfl rfl rfl rfl rfl rfl rfl rfl rfl h0 rfl (by omega) hg48 (fun p51 h52 => ?_)
  refine wo_loadp Θ_ok rfl rfl rfl rfl rfl rfl rfl h52 rfl rfl (fun v53 h54 => ?_)
  obtain rfl := int_is.1 h54
  refine wo_seg Θ_ok [2] [(1, (.int .u64 x1)), (5, v38), (9, (.int .u64 z42)), (30, (.slice A34 x0.length c35)), (31, (.int .i64 (x0.length : Int))), (32, (.int .i64 (i40 : Int)))] rfl ⟨rfl, rfl, rfl, rfl, rfl, rfl, trivial⟩ ?_
  refine wo_nil ?_
  refine wq_seq ?_
  refine wc_seq ?_
  refine wc_region (l := [0, 1, 2, 3, 4]) rfl ?_
  refine wo_seg Θ_ok [0] [(1, (.int .u64 x1)), (5, v38), (9, (.int .u64 z42)), (30, (.slice A34 x0.length c35)), (31, (.int .i64 (x0.length : Int))), (32, (.int .i64 (i40 : Int))), (36, (.int .u64 z42))] rfl ⟨rfl, rfl, rfl, rfl, rfl, rfl, rfl, trivial⟩ ?_
  refine wo_gives rfl rfl rfl rfl rfl ent19 rfl (r_Hash_c hO (int_is.2 rfl)) (fun v55 w56 h57 f58 => ?_)
  have h0 := h0.tr f58.tr0
  have h39 := h39.fr0 f58
  have T24 := T24.trans f58.tr0
  have T36 := T36.trans f58.tr0
  have hO := f58.ob hO
  have hF := hF.trans f58
  obtain rfl := int_is.1 h57
  refine wo_seg Θ_ok [2] [(1, (.int .u64 x1)), (5, v38), (9, (.int .u64 z42)), (30, (.slice A34 x0.length c35)), (31, (.int .i64 (x0.length : Int))), (32, (.int .i64 (i40 : Int))), (37, (.int .u64 (r_Hash z42))), (38, (.int .u64 x1))] rfl ⟨rfl, rfl, rfl, rfl, rfl, rfl, rfl, rfl, trivial⟩ ?_
  refine wo_gives rfl rfl rfl rfl rfl ent19 rfl (r_Hash_c hO (int_is.2 rfl)) (fun v59 w60 h61 f62 => ?_)
  have h0 := h0.tr f62.tr0
  have h39 := h39.fr0 f62
  have T24 := T24.trans f62.tr0
  have T36 := T36.trans f62.tr0
  have hO := f62.ob hO
  have hF := hF.trans f62
  obtain rfl := int_is.1 h61
  refine wo_seg Θ_ok [4] [(1, (.int .u64 x1)), (5, v38), (9, (.int .u64 z42)), (30, (.slice A34 x0.length c35)), (31, (.int .i64 (x0.length : Int))), (32, (.int .i64 (i40 : Int))), (40, (.bool (decide ((r_Hash z42) > (r_Hash x1)))))] rfl ⟨rfl, rfl, rfl, rfl, rfl, rfl, rfl, trivial⟩ ?_
  refine wo_nil ?_
  refine wq_seq ?_
  rcases bif_some h with ⟨hc63, h⟩ | ⟨hc63, h⟩
  rotate_left
  · refine wc_known_false rfl hc63 ?_
    refine wc_skip ?_
    refine wq_block (wq_seq ?_)
    refine wc_region (l := [0, 1]) rfl ?_
    refine wo_seg Θ_ok [0, 1] [(1, (.int .u64 x1)), (5, v38), (30, (.slice A34 x0.length c35)), (31, (.int .i64 (x0.length : Int))), (32, (.int .i64 (IntKind.i64.wrap ((i40 : Int) + (1 : Int)))))] rfl ⟨rfl, rfl, rfl, rfl, rfl, trivial⟩ ?_
    refine wo_nil ?_
    exact wq_next rest41.length [(1, (.int .u64 x1)), (5, v38), (30, (.slice A34 x0.length c35)), (31, (.int .i64 (x0.length : Int))), (32, (.int .i64 ((i40 + 1 : Nat) : Int)))] (Nat.lt_succ_self _) ⟨rfl, rfl, rfl, rfl, congrArg (fun z => some (Value.int .i64 z)) (wrap_succ hl50 (Nat.le_trans hlc35 hmc35)), trivial⟩ ⟨rest41, i40 + 1, O44, p37, v38, rfl, hd43, rfl, T36, hO, hS, hF, h39, h⟩
  refine wc_known_true rfl hc63 ?_
  refine wc_region (l := [0, 1, 2, 3, 4]) rfl ?_
  refine wo_seg Θ_ok [0, 1] [(1, (.int .u64 x1)), (30, (.slice A34 x0.length c35)), (31, (.int .i64 (x0.length : Int))), (32, (.int .i64 (i40 : Int))), (41, v38), (42, (.int .u64 z42))] rfl ⟨rfl, rfl, rfl, rfl, rfl, rfl, trivial⟩ ?_
  refine wo_litd Θ_ok rfl rfl rfl rfl rfl rfl rfl rfl rfl rfl (T := (Ty.int .u64)) (xs := [z42]) (vs := [(.int .u64 z42)]) rfl ⟨(int_is.2 rfl), trivial⟩ rfl rfl rfl hO (fun v64 w65 h66 f67 => ?_)
  have h0 := h0.tr f67.tr0
  have h39 := h39.fr0 f67
  have T24 := T24.trans f67.tr0
  have T36 := T36.trans f67.tr0
  have hO := f67.ob hO
  have hF := hF.trans f67
  obtain ⟨z68, hz69, h⟩ := bind_some h
  refine wo_app Θ_ok rfl rfl rfl rfl rfl rfl rfl rfl rfl rfl rfl rfl rfl rfl hF hO h39 h66 hz69 (fun v70 w71 O72 ap73 => ?_)
  have h0 := h0.tr ap73.tr
  have T24 := T24.trans ap73.tr
  have T36 := T36.trans ap73.tr
  have hF := ap73.fr0 h39 hF
  have hS := Sub.trans hS ap73.sub
  have hO := ap73.ob
  have h74 := ap73.own
  refine wo_seg Θ_ok [4] [(1, (.int .u64 x1)), (5, v70), (30, (.slice A34 x0.length c35)), (31, (.int .i64 (x0.length : Int))), (32, (.int .i64 (i40 : Int)))] rfl ⟨rfl, rfl, rfl, rfl, rfl, trivial⟩ ?_
  refine wo_nil ?_
  refine wq_block (wq_seq ?_)
  refine wc_region (l := [0, 1]) rfl ?_
  refine wo_seg Θ_ok [0, 1] [(1, (.int .u64 x1)), (5, v70), (30, (.slice A34 x0.length c35)), (31, (.int .i64 (x0.length : Int))), (32, (.int .i64 (IntKind.i64.wrap ((i40 : Int) + (1 : Int)))))] rfl ⟨rfl, rfl, rfl, rfl, rfl, trivial⟩ ?_
  refine wo_nil ?_
  exact wq_next rest41.length [(1, (.int .u64 x1)), (5, v70), (30, (.slice A34 x0.length c35)), (31, (.int .i64 (x0.length : Int))), (32, (.int .i64 ((i40 + 1 : Nat) : Int)))] (Nat.lt_succ_self _) ⟨rfl, rfl, rfl, rfl, congrArg (fun z => some (Value.int .i64 z)) (wrap_succ hl50 (Nat.le_trans hlc35 hmc35)), trivial⟩ ⟨rest41, i40 + 1, O72, z68, v70, rfl, hd43, rfl, T36, hO, hS, hF, h74, h⟩
end Go.Proofs.Ytdemjanelbajlaa
