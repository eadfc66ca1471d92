/-
  The program's functions compute the plain ones (printed by a tool of the prover's).
-/
import Derived.Test.YtjdeaihnpgkphaaGWalk4
namespace Go.Proofs.Ytjdeaihnpgkphaa
open Go.RowKit Go.Dc Go.Shelf
set_option maxRecDepth 100000 in
set_option maxRecDepth 100000 in
set_option maxHeartbeats 4000000 in
theorem s_InsertB_c {O : List Nat} {w : World} (hO : OB O w) {B : Nat} (hB : B ≤ w.heap.size) {v : Value} {xs : List (Int × Value)} (hv : Go.Dc.Own (rawT .u64) 61 B O w v xs) {v1 : Value} {j : Int} (h1 : (Ty.int .i64).is O w v1 j) {u : Value} {ys : List (Int × Value)} (hu : (Ty.slice (rawT .u64)).is O w u ys) (hp : Plain w u) {zs : List (Int × Value)} (hz : s_InsertB xs j ys = some zs) :
    Calls Try.prog 65 #[v, v1, u] w (GivesOwn (rawT .u64) 61 B O w v zs) := by
  obtain rfl := int_is.1 h1
  obtain ⟨hj0, hj1, hsz, rfl⟩ := insL_some hz
  obtain ⟨k, rfl⟩ : ∃ k : Nat, j = k := ⟨j.toNat, by omega⟩
  simp only [Int.toNat_natCast] at *
  have hkn : k ≤ xs.length := by omega
  obtain ⟨A, c, rfl, hnc, hcm⟩ := hv.form
  obtain ⟨Au, cu, rfl, hmc, hmm⟩ := slice_form hu
  refine calls_of (args := [.slice A xs.length c, .int .i64 k, .slice Au ys.length cu]) (N := 95) Try.func65 rfl rfl rfl ?_
  refine wc_seq ?_
  refine wc_region (l := [0]) rfl ?_
  refine wo_seg Θ_ok [0] [(0, .slice A xs.length c), (1, .int .i64 k), (2, .slice Au ys.length cu)] rfl ⟨rfl, rfl, rfl, trivial⟩ ?_
  refine wo_nil ?_
  refine wq_seq ?_
  refine wc_seq ?_
  refine wc_region (l := [0, 1, 2]) rfl ?_
  refine wo_seg Θ_ok [0, 1] [(0, .slice A xs.length c), (1, .int .i64 k), (2, .slice Au ys.length cu), (10, .slice A xs.length c), (11, .int .i64 k)] rfl ⟨rfl, rfl, rfl, rfl, rfl, trivial⟩ ?_
  refine wo_cutlo Θ_ok rfl rfl rfl rfl rfl rfl rfl rfl rfl rfl hnc hkn ?_
  refine wo_nil ?_
  refine wq_seq ?_
  refine wc_seq ?_
  refine wc_region (l := [0, 1, 2]) rfl ?_
  refine wo_seg Θ_ok [0, 1, 2] [(0, .slice A xs.length c), (1, .int .i64 k), (2, .slice Au ys.length cu), (7, .int .i64 (ys.length : Int))] rfl ⟨rfl, rfl, rfl, rfl, trivial⟩ ?_
  refine wo_nil ?_
  refine wq_seq ?_
  refine wc_seq ?_
  refine wc_seq ?_
  refine wc_region (l := [0, 1]) rfl ?_
  refine wo_seg Θ_ok [0, 1] [(0, .slice A xs.length c), (1, .int .i64 k), (2, .slice Au ys.length cu), (7, .int .i64 (ys.length : Int)), (16, .bool ((ys.length : Int) == 0))] rfl ⟨rfl, rfl, rfl, rfl, rfl, trivial⟩ ?_
  refine wo_nil ?_
  refine wq_seq ?_
  by_cases hm0 : ys.length = 0
  · have hys : ys = [] := List.eq_nil_of_length_eq_zero hm0
    refine wc_known_true rfl (by simp [hm0]) ?_
    refine wc_seq ?_
    refine wc_region (l := [0, 1]) rfl ?_
    refine wo_seg Θ_ok [0, 1] [(6, .slice A xs.length c)] rfl ⟨rfl, trivial⟩ ?_
    refine wo_nil ?_
    refine wq_seq ?_
    refine wc_ret ?_
    refine wq_then_ret (wq_ret rfl ⟨_, O, rfl, ?_⟩)
    have e : xs.take k ++ ys ++ xs.drop k = xs := by rw [hys]; simp
    rw [e]
    exact ⟨hv, Tr.refl _ _, hO, Sub.refl _, fun _ _ _ => rfl, fun _ _ h => h⟩
  refine wc_known_false rfl (beq_eq_false_iff_ne.2 (by omega)) ?_
  refine wc_skip ?_
  refine wq_seq ?_
  refine wc_seq ?_
  refine wc_region (l := [0, 1, 2]) rfl ?_
  refine wo_seg Θ_ok [0, 1, 2] [(0, .slice A xs.length c), (1, .int .i64 k), (2, .slice Au ys.length cu), (7, .int .i64 (ys.length : Int)), (8, .int .i64 (xs.length : Int))] rfl ⟨rfl, rfl, rfl, rfl, rfl, trivial⟩ ?_
  refine wo_nil ?_
  refine wq_seq ?_
  refine wc_seq ?_
  refine wc_seq ?_
  refine wc_region (l := [0, 1, 2]) rfl ?_
  refine wo_seg Θ_ok [0, 1, 2] [(0, .slice A xs.length c), (1, .int .i64 k), (2, .slice Au ys.length cu), (7, .int .i64 (ys.length : Int)), (8, .int .i64 (xs.length : Int)), (22, .bool ((k : Int) == (xs.length : Int)))] rfl ⟨rfl, rfl, rfl, rfl, rfl, rfl, trivial⟩ ?_
  refine wo_nil ?_
  refine wq_seq ?_
  by_cases hkn' : k = xs.length
  · refine wc_known_true rfl (by simp [hkn']) ?_
    refine wc_seq ?_
    refine wc_region (l := [0, 1, 2, 3]) rfl ?_
    refine wo_seg Θ_ok [0, 1] [(23, .slice A xs.length c), (24, .slice Au ys.length cu)] rfl ⟨rfl, rfl, trivial⟩ ?_
    refine wo_append Θ_ok rfl rfl rfl rfl rfl rfl rfl rfl rfl (by decide) rfl (by decide) rfl rfl hB hO hv hu (by simp only [Nat.reduceMul] at hsz ⊢; omega) (fun v' w' O' hap => ?_)
    refine wo_seg Θ_ok [3] [(6, v')] rfl ⟨rfl, trivial⟩ ?_
    refine wo_nil ?_
    refine wq_seq ?_
    refine wc_ret ?_
    refine wq_then_ret (wq_ret rfl ⟨_, O', rfl, ?_⟩)
    have e : xs.take k ++ ys ++ xs.drop k = xs ++ ys := by subst hkn'; simp
    rw [e]
    exact hap
  refine wc_known_false rfl (by simp; omega) ?_
  refine wc_skip ?_
  refine wq_seq ?_
  -- the rows
  obtain ⟨cs, ⟨hcl, hvv⟩, hrep⟩ := hv.ex
  rcases hvv with ⟨_, hl0⟩ | ⟨g, c2, cur, hvv, hBg, hh, hnc', hcm', hcs, hct⟩
  · omega
  injection hvv with hA hn2 hc2
  subst hA; subst hc2
  have hgO := hv.mem g rfl
  cases Au with
  | none => exact absurd (slice_none hu) (fun h => hm0 (by rw [h]; rfl))
  | some ad =>
  obtain ⟨hspot, cu', tu, hhu⟩ := hp ad _ _ rfl
  obtain ⟨_, us, hru, hcu⟩ := slice_cells hu
  have hus : us.length = ys.length * 2 := hru.len
  have hcl : cs.length = xs.length * 2 := hcl
  have hT : ((rawT .u64)).n = 2 := rfl
  rw [hT] at hcs hct
  have hadg : ad.block ≠ g := by
    intro e
    obtain ⟨y, hy⟩ : ∃ y, ys[0]? = some y := ⟨_, List.getElem?_eq_getElem (by omega)⟩
    obtain ⟨ad', e', hpt⟩ := slice_at hu hy
    cases e'
    obtain ⟨_, ⟨_, _, hc1, _, hno, _⟩, hc2⟩ := hpt
    subst hc1
    have hc2 : Value.pointer (some (ad.add (0 * ((rawT .u64)).n))) = .pointer (some _) := hc2
    injection hc2 with hc2
    injection hc2 with hc2
    rw [← hc2, add_block, e] at hno
    exact hno hgO
  have hcells : ∀ j, w.cell? ⟨g, j, none⟩ = cur[j]? := fun j => cell_of_row w g j cur 61 (0, 0) hh
  have hcurcs : ∀ j x, cs[j]? = some x → cur.toList[j]? = some x := fun j x hx => by
    rw [← hct, List.getElem?_take] at hx
    split at hx
    · exact hx
    · cases hx
  have hcsAt : ∀ q, CellsAt w ⟨g, q, none⟩ (cs.drop q) := fun q j x hx => by
    rw [add_at, hcells, ← Array.getElem?_toList]
    rw [List.getElem?_drop] at hx
    exact hcurcs _ x hx
  have hkS : k * 2 ≤ xs.length * 2 := Nat.mul_le_mul_right _ hkn
  have hcapS : xs.length * 2 ≤ c * 2 := Nat.mul_le_mul_right _ hnc'
  have hone : ∀ x ∈ cs, x.oneCell' = true := hrep.one
  refine wc_seq ?_
  refine wc_seq ?_
  refine wc_region (l := [0, 1, 2, 3, 4, 5]) rfl ?_
  have hwnm : IntKind.i64.wrap ((xs.length : Int) + (ys.length : Int)) = ((xs.length + ys.length : Nat) : Int) := by
    rw [IntKind.wrap_i64]; unfold maxLen at *; omega
  refine wo_seg Θ_ok [0, 1, 2, 3, 4, 5] [(0, .slice (some ⟨g, 0, none⟩) xs.length c), (1, .int .i64 k), (2, .slice (some ad) ys.length cu), (7, .int .i64 (ys.length : Int)), (8, .int .i64 (xs.length : Int)), (31, .bool (decide (IntKind.i64.wrap ((xs.length : Int) + (ys.length : Int)) > (c : Int))))] rfl ⟨rfl, rfl, rfl, rfl, rfl, rfl, trivial⟩ ?_
  refine wo_nil ?_
  refine wq_seq ?_
  rw [hwnm]
  by_cases hgrow : c < xs.length + ys.length
  · refine wc_known_true rfl (by simp; omega) ?_
    refine wc_seq ?_
    refine wc_region (l := [0, 1, 2, 3, 4, 5, 6, 7, 8, 9]) rfl ?_
    refine wo_seg Θ_ok [0, 1] [(0, .slice (some ⟨g, 0, none⟩) xs.length c), (1, .int .i64 k), (2, .slice (some ad) ys.length cu), (7, .int .i64 (ys.length : Int)), (8, .int .i64 (xs.length : Int)), (32, .slice (some ⟨g, 0, none⟩) xs.length c), (33, .int .i64 k)] rfl ⟨rfl, rfl, rfl, rfl, rfl, rfl, rfl, trivial⟩ ?_
    refine wo_cuthi Θ_ok rfl rfl rfl rfl rfl rfl rfl rfl rfl rfl hnc' (by omega) ?_
    refine wo_seg Θ_ok [3, 4, 5, 6, 7] [(0, .slice (some ⟨g, 0, none⟩) xs.length c), (1, .int .i64 k), (2, .slice (some ad) ys.length cu), (7, .int .i64 (ys.length : Int)), (34, .slice (some ⟨g, 0, none⟩) k c), (39, .int .i64 (IntKind.i64.wrap (IntKind.i64.wrap ((xs.length : Int) + (ys.length : Int)) - (k : Int))))] rfl ⟨rfl, rfl, rfl, rfl, rfl, rfl, trivial⟩ ?_
    have hw2 : IntKind.i64.wrap (IntKind.i64.wrap ((xs.length : Int) + (ys.length : Int)) - (k : Int)) = ((xs.length + ys.length - k : Nat) : Int) := by
      rw [hwnm, IntKind.wrap_i64]; unfold maxLen at *; omega
    rw [hw2]
    have htl : (cs.take (k * 2)).length = k * 2 := by rw [List.length_take]; omega
    refine wo_appz Θ_ok rfl rfl rfl rfl rfl rfl rfl rfl rfl rfl rfl rfl rfl (us := cs.take (k * 2)) (fun j x hx => by
      rw [List.getElem?_take] at hx
      split at hx
      · have := hcsAt 0 j x (by simpa using hx); exact this
      · cases hx) htl (by omega) (by omega) (by simp only [Nat.reduceMul] at hsz ⊢; omega) rfl ?_
    have hnk : k + (xs.length + ys.length - k) = xs.length + ys.length := by omega
    rw [hnk]
    generalize hC : grownCap w (xs.length + ys.length) c 61 = C
    have hCge : xs.length + ys.length ≤ C := by rw [← hC]; exact grownCap_ge _ _ _ _
    have hCm : C ≤ maxLen := by rw [← hC]; exact grownCap_le_maxLen _ _ _ _ (by unfold maxLen at *; omega)
    have hCS : (xs.length + ys.length) * 2 ≤ C * 2 := Nat.mul_le_mul_right _ hCge
    refine wo_seg Θ_ok [9] [(0, .slice (some ⟨g, 0, none⟩) xs.length c), (1, .int .i64 k), (2, .slice (some ad) ys.length cu), (7, .int .i64 (ys.length : Int)), (9, .slice (some ⟨w.heap.size, 0, none⟩) (xs.length + ys.length) C)] rfl ⟨rfl, rfl, rfl, rfl, rfl, trivial⟩ ?_
    refine wo_nil ?_
    refine wq_seq ?_
    obtain ⟨Z, hZ1, hZ2⟩ := row_parts (cs := cs.take (k * 2)) (xs.length + ys.length - k) (C - (xs.length + ys.length)) (show ((Value.cells (.agg #[(.int .u64 0), (.slice none 0 0)])).size) = 2 from rfl)
    rw [show xs.length + ys.length - k + (C - (xs.length + ys.length)) = C - k by omega] at hZ2
    generalize (cs.take (k * 2)).toArray ++ Builtin.zeroCells _ (xs.length + ys.length - k) ++ Builtin.zeroCells _ (C - (xs.length + ys.length)) = row at *
    have hCk : (C - k) * 2 + k * 2 = C * 2 := by rw [← Nat.add_mul]; congr 1; omega
    have hrsz : row.size = C * 2 := by rw [← Array.length_toList, hZ1, List.length_append, hZ2, htl]; omega
    have hn1 := new_alloc (O := O) (w := w.drew) hO 61 row.toList
    simp only [Array.toArray_toList] at hn1
    generalize hw1 : w.drew.alloc (.cells row 61) = w1 at *
    have hG1 : w1.heap[w.heap.size]? = some (.cells row 61 (0, 0)) := by have := hn1.blk; unfold Blk at this; simpa using this
    have hf1 : Fr [] w w1 := (Fr.drew [] w).trans hn1.fr
    have hsplit : (xs.length + ys.length) * 2 = k * 2 + ys.length * 2 + (xs.length - k) * 2 := by rw [← Nat.add_mul, ← Nat.add_mul]; congr 1; omega
    have hkm : (k + ys.length) * 2 = k * 2 + ys.length * 2 := Nat.add_mul _ _ _
    have hnkS : (xs.length - k) * 2 + k * 2 = xs.length * 2 := by rw [← Nat.add_mul]; congr 1; omega
    refine wc_seq ?_
    refine wc_region (l := [0, 1, 2, 3, 4]) rfl ?_
    refine wo_seg Θ_ok [0, 1] [(0, .slice (some ⟨g, 0, none⟩) xs.length c), (1, .int .i64 k), (2, .slice (some ad) ys.length cu), (7, .int .i64 (ys.length : Int)), (9, .slice (some ⟨w.heap.size, 0, none⟩) (xs.length + ys.length) C), (41, .slice (some ⟨w.heap.size, 0, none⟩) (xs.length + ys.length) C), (42, .int .i64 k)] rfl ⟨rfl, rfl, rfl, rfl, rfl, rfl, rfl, trivial⟩ ?_
    refine wo_cutlo Θ_ok rfl rfl rfl rfl rfl rfl rfl rfl rfl rfl hCge (by omega) ?_
    rw [if_neg (by omega), Option.map_some, add_at, Nat.zero_add]
    refine wo_seg Θ_ok [3] [(0, .slice (some ⟨g, 0, none⟩) xs.length c), (1, .int .i64 k), (7, .int .i64 (ys.length : Int)), (9, .slice (some ⟨w.heap.size, 0, none⟩) (xs.length + ys.length) C), (43, .slice (some ⟨w.heap.size, k * 2, none⟩) (xs.length + ys.length - k) (C - k)), (44, .slice (some ad) ys.length cu)] rfl ⟨rfl, rfl, rfl, rfl, rfl, rfl, trivial⟩ ?_
    have hadl : ad.block < w.heap.size := (Array.getElem?_eq_some_iff.1 hhu).1
    refine wo_copyv Θ_ok rfl rfl rfl rfl rfl rfl rfl rfl rfl rfl hG1 (hcu.keep (hf1.block _ hadl (by simp))) hus hru.one (by omega) (by omega) (fun z => ?_)
    rw [hZ1, List.take_left' htl]
    generalize hr2 : (cs.take (k * 2) ++ us ++ List.drop (k * 2 + us.length) (cs.take (k * 2) ++ Z)).toArray = row2
    obtain ⟨Z2, hZ21, hZ22⟩ : ∃ Z2 : List Value, row2.toList = cs.take (k * 2) ++ us ++ Z2 ∧ Z2.length = C * 2 - (k * 2 + ys.length * 2) := by
      refine ⟨_, by rw [← hr2], ?_⟩
      simp only [List.length_drop, List.length_append, htl, hZ2, hus]
      omega
    clear hr2
    have hf2 := setRow_fr (new := row2) hG1
    have hG2 : (w1.setRow w.heap.size row2).heap[w.heap.size]? = some (.cells row2 61 (0, 0)) := setRow_heap w1 _ _ _ _ _ hG1
    generalize hw2' : w1.setRow w.heap.size row2 = w2 at *
    have hF2 : Fr [] w w2 := hf1.own hf2 (Nat.le_refl _)
    refine wo_nil ?_
    refine wq_seq ?_
    refine wc_seq ?_
    have hw3 : IntKind.i64.wrap ((k : Int) + (ys.length : Int)) = ((k + ys.length : Nat) : Int) := by rw [IntKind.wrap_i64]; unfold maxLen at *; omega
    refine wc_drawT mixed [⟨46, [], [9]⟩, ⟨47, [], [1]⟩, ⟨48, [], [7]⟩, ⟨49, [1, 2], []⟩, ⟨50, [0, 3], []⟩, ⟨51, [], [0]⟩, ⟨52, [], [1]⟩, ⟨53, [5, 6], []⟩] [SP.eq (.slice (some ⟨w.heap.size, 0, none⟩) (xs.length + ys.length) C), SP.eq (.int .i64 k), SP.eq (.int .i64 (ys.length : Int)), SP.eq (.int .i64 (IntKind.i64.wrap ((k : Int) + (ys.length : Int)))), SP.eq (.slice (some ⟨w.heap.size, (k + ys.length) * 2, none⟩) (xs.length - k) (C - (k + ys.length))), SP.eq (.slice (some ⟨g, 0, none⟩) xs.length c), SP.eq (.int .i64 k), SP.eq (.slice (some ⟨g, k * 2, none⟩) (xs.length - k) (c - k))] rfl rfl rfl rfl ⟨?_, ?_, ?_, ?_, ?_, ?_, ?_, ?_, trivial⟩ ?_
    · intro a w3 hfr hN hds hb hd
      exact op_plain Θ_ok ⟨hN, hds, rows_get (E := [(9, .slice (some ⟨w.heap.size, 0, none⟩) (xs.length + ys.length) C)]) ⟨hb 9 rfl _ rfl, trivial⟩⟩ rfl rfl rfl rfl rfl
    · intro a w3 hfr hN hds hb hd
      exact op_plain Θ_ok ⟨hN, hds, rows_get (E := [(1, .int .i64 k)]) ⟨hb 1 rfl _ rfl, trivial⟩⟩ rfl rfl rfl rfl rfl
    · intro a w3 hfr hN hds hb hd
      exact op_plain Θ_ok ⟨hN, hds, rows_get (E := [(7, .int .i64 (ys.length : Int))]) ⟨hb 7 rfl _ rfl, trivial⟩⟩ rfl rfl rfl rfl rfl
    · intro a w3 hfr hN hds hb hd
      exact op_plain Θ_ok ⟨hN, hds, rows_get (E := [(47, .int .i64 k), (48, .int .i64 (ys.length : Int))]) ⟨(hd 1 rfl _ _ rfl rfl), (hd 2 rfl _ _ rfl rfl), trivial⟩⟩ rfl rfl rfl rfl rfl
    · intro a w3 hfr hN hds hb hd
      have h49 : a.tmps.getD 49 undef = .int .i64 ((k + ys.length : Nat) : Int) := by rw [← hw3]; exact hd 3 rfl _ _ rfl rfl
      refine (op_cutlo Θ_ok ⟨hN, hds, rows_get (E := [(46, .slice (some ⟨w.heap.size, 0, none⟩) (xs.length + ys.length) C), (49, .int .i64 ((k + ys.length : Nat) : Int))]) ⟨(hd 0 rfl _ _ rfl rfl), h49, trivial⟩⟩ rfl rfl rfl rfl rfl rfl rfl rfl rfl hCge (by omega)).weaken (fun u w4 ⟨hu, hf⟩ => ⟨?_, hf⟩)
      rw [hu, if_neg (by omega), Option.map_some, add_at, Nat.zero_add, show xs.length + ys.length - (k + ys.length) = xs.length - k by omega]
      rfl
    · intro a w3 hfr hN hds hb hd
      exact op_plain Θ_ok ⟨hN, hds, rows_get (E := [(0, .slice (some ⟨g, 0, none⟩) xs.length c)]) ⟨hb 0 rfl _ rfl, trivial⟩⟩ rfl rfl rfl rfl rfl
    · intro a w3 hfr hN hds hb hd
      exact op_plain Θ_ok ⟨hN, hds, rows_get (E := [(1, .int .i64 k)]) ⟨hb 1 rfl _ rfl, trivial⟩⟩ rfl rfl rfl rfl rfl
    · intro a w3 hfr hN hds hb hd
      refine (op_cutlo Θ_ok ⟨hN, hds, rows_get (E := [(51, .slice (some ⟨g, 0, none⟩) xs.length c), (52, .int .i64 k)]) ⟨(hd 5 rfl _ _ rfl rfl), (hd 6 rfl _ _ rfl rfl), trivial⟩⟩ rfl rfl rfl rfl rfl rfl rfl rfl rfl hnc' hkn).weaken (fun u w4 ⟨hu, hf⟩ => ⟨?_, hf⟩)
      rw [hu, if_neg (by omega), Option.map_some, add_at, Nat.zero_add]
      rfl
    intro a w3 f3 hN hds hb hr
    have hG3 : w3.heap[w.heap.size]? = some (.cells row2 61 (0, 0)) := (f3.block _ (Array.getElem?_eq_some_iff.1 hG2).1 (by simp)).trans hG2
    have hF3 : Fr [] w w3 := hF2.trans f3
    refine wo_go (E := [(9, .slice (some ⟨w.heap.size, 0, none⟩) (xs.length + ys.length) C), (50, .slice (some ⟨w.heap.size, (k + ys.length) * 2, none⟩) (xs.length - k) (C - (k + ys.length))), (53, .slice (some ⟨g, k * 2, none⟩) (xs.length - k) (c - k))]) (l := [8]) hN hds ⟨hb 9 _ rfl rfl, (hr 4 _ _ rfl rfl), (hr 7 _ _ rfl rfl), trivial⟩ rfl ?_
    have hgl : g < w.heap.size := (Array.getElem?_eq_some_iff.1 hh).1
    have hr2sz : row2.size = C * 2 := by rw [← Array.length_toList, hZ21, List.length_append, List.length_append, htl, hus, hZ22]; omega
    have hdl : (cs.drop (k * 2)).length = (xs.length - k) * 2 := by rw [List.length_drop]; omega
    refine wo_copyv Θ_ok rfl rfl rfl rfl rfl rfl rfl rfl rfl rfl hG3 ((hcsAt (k * 2)).keep (hF3.block _ hgl (by simp))) hdl (fun u hu => hone u (List.mem_of_mem_drop hu)) (Nat.le_refl _) (by omega) (fun z => ?_)
    rw [hZ21, List.take_left' (by rw [List.length_append, htl, hus, hkm])]
    generalize hr3 : (cs.take (k * 2) ++ us ++ cs.drop (k * 2) ++ List.drop ((k + ys.length) * 2 + (cs.drop (k * 2)).length) (cs.take (k * 2) ++ us ++ Z2)).toArray = row3
    obtain ⟨Z3, hZ31, hZ32⟩ : ∃ Z3 : List Value, row3.toList = cs.take (k * 2) ++ us ++ cs.drop (k * 2) ++ Z3 ∧ Z3.length = C * 2 - (xs.length + ys.length) * 2 := by
      refine ⟨_, by rw [← hr3], ?_⟩
      simp only [List.length_drop, List.length_append, htl, hZ22, hus, hcl]
      omega
    clear hr3
    have hf4 := setRow_fr (new := row3) hG3
    have hG4 : (w3.setRow w.heap.size row3).heap[w.heap.size]? = some (.cells row3 61 (0, 0)) := setRow_heap w3 _ _ _ _ _ hG3
    generalize w3.setRow w.heap.size row3 = w4 at *
    have hF4 : Fr [] w w4 := hF3.own hf4 (Nat.le_refl _)
    refine wo_nil ?_
    refine wq_seq ?_
    refine wc_seq ?_
    refine wc_region (l := [0, 1]) rfl ?_
    refine wo_seg Θ_ok [0, 1] [(6, .slice (some ⟨w.heap.size, 0, none⟩) (xs.length + ys.length) C)] rfl ⟨rfl, trivial⟩ ?_
    refine wo_nil ?_
    refine wq_seq ?_
    refine wc_ret ?_
    refine wq_then_ret (wq_ret rfl ⟨_, w.heap.size :: O, rfl, ?_⟩)
    have hzl : (xs.take k ++ ys ++ xs.drop k).length = xs.length + ys.length := by simp only [List.length_append, List.length_take, List.length_drop]; omega
    have htr : Tr O w (w.heap.size :: O) w4 := tr_box hF4 (Nat.le_refl _)
    have := grew' (T := (rawT .u64)) (e := 61) (B := B) (v := .slice (some ⟨g, 0, none⟩) xs.length c) (zs := xs.take k ++ ys ++ xs.drop k) (cap := C) (cs := cs.take (k * 2) ++ us ++ cs.drop (k * 2)) hO (Nat.le_refl _) hB hF4 hG4 (by rw [hT, ← Array.length_toList, hZ31]; simp only [List.length_append, htl, hus, hdl, hZ32]; omega) hCm (by omega)
      ((((hrep.take k).app hru).app (hrep.drop k)).tr htr) (by rw [hzl, hT, hZ31]; exact List.take_left' (by simp only [List.length_append, htl, hus, hdl]; omega))
    rw [hzl] at this
    exact this
  · -- in place
    refine wc_known_false rfl (by simp; omega) ?_
    refine wc_skip ?_
    refine wq_seq ?_
    have hroomS : (xs.length + ys.length) * 2 ≤ c * 2 := Nat.mul_le_mul_right _ (by omega)
    have hsplit : (xs.length + ys.length) * 2 = k * 2 + ys.length * 2 + (xs.length - k) * 2 := by rw [← Nat.add_mul, ← Nat.add_mul]; congr 1; omega
    have hkm : (k + ys.length) * 2 = k * 2 + ys.length * 2 := Nat.add_mul _ _ _
    have hnkS : (xs.length - k) * 2 + k * 2 = xs.length * 2 := by rw [← Nat.add_mul]; congr 1; omega
    have hdl : (cs.drop (k * 2)).length = (xs.length - k) * 2 := by rw [List.length_drop]; omega
    have htl : (cs.take (k * 2)).length = k * 2 := by rw [List.length_take]; omega
    refine wc_seq ?_
    refine wc_region (l := [0, 1, 2, 3, 4, 5]) rfl ?_
    refine wo_seg Θ_ok [0, 1, 2, 3] [(1, .int .i64 k), (2, .slice (some ad) ys.length cu), (7, .int .i64 (ys.length : Int)), (8, .int .i64 (xs.length : Int)), (56, .slice (some ⟨g, 0, none⟩) xs.length c), (59, .int .i64 (IntKind.i64.wrap ((xs.length : Int) + (ys.length : Int))))] rfl ⟨rfl, rfl, rfl, rfl, rfl, rfl, trivial⟩ ?_
    rw [hwnm]
    refine wo_cuthi Θ_ok rfl rfl rfl rfl rfl rfl rfl rfl rfl rfl hnc' (by omega) ?_
    refine wo_seg Θ_ok [5] [(0, .slice (some ⟨g, 0, none⟩) (xs.length + ys.length) c), (1, .int .i64 k), (2, .slice (some ad) ys.length cu), (7, .int .i64 (ys.length : Int)), (8, .int .i64 (xs.length : Int))] rfl ⟨rfl, rfl, rfl, rfl, rfl, trivial⟩ ?_
    refine wo_nil ?_
    refine wq_seq ?_
    refine wc_seq ?_
    refine wc_seq ?_
    refine wc_region (l := [0, 1, 2, 3, 4, 5, 6, 7]) rfl ?_
    have hw3 : IntKind.i64.wrap ((k : Int) + (ys.length : Int)) = ((k + ys.length : Nat) : Int) := by rw [IntKind.wrap_i64]; unfold maxLen at *; omega
    refine wo_seg Θ_ok [0, 1, 2, 3, 4] [(0, .slice (some ⟨g, 0, none⟩) (xs.length + ys.length) c), (1, .int .i64 k), (2, .slice (some ad) ys.length cu), (7, .int .i64 (ys.length : Int)), (8, .int .i64 (xs.length : Int)), (61, .slice (some ad) ys.length cu), (62, .slice (some ⟨g, 0, none⟩) (xs.length + ys.length) c), (65, .int .i64 (IntKind.i64.wrap ((k : Int) + (ys.length : Int))))] rfl ⟨rfl, rfl, rfl, rfl, rfl, rfl, rfl, rfl, trivial⟩ ?_
    rw [hw3]
    refine wo_cutlo Θ_ok rfl rfl rfl rfl rfl rfl rfl rfl rfl rfl (by omega) (by omega) ?_
    rw [if_neg (by omega), Option.map_some, add_at, Nat.zero_add]
    refine wo_overlaps Θ_ok rfl rfl rfl rfl rfl Try.func70 rfl rfl rfl rfl rfl rfl rfl rfl rfl hadg hhu hh (by rw [hcs]; omega) ?_
    refine wo_seg Θ_ok [7] [(0, .slice (some ⟨g, 0, none⟩) (xs.length + ys.length) c), (1, .int .i64 k), (2, .slice (some ad) ys.length cu), (7, .int .i64 (ys.length : Int)), (68, .bool (!false))] rfl ⟨rfl, rfl, rfl, rfl, rfl, trivial⟩ ?_
    refine wo_nil ?_
    refine wq_seq ?_
    refine wc_known_true rfl rfl ?_
    refine wc_seq ?_
    refine wc_drawT mixed [⟨69, [], [0]⟩, ⟨70, [], [1]⟩, ⟨71, [], [7]⟩, ⟨72, [1, 2], []⟩, ⟨73, [0, 3], []⟩, ⟨74, [], [0]⟩, ⟨75, [], [1]⟩, ⟨76, [5, 6], []⟩] [SP.eq (.slice (some ⟨g, 0, none⟩) (xs.length + ys.length) c), SP.eq (.int .i64 k), SP.eq (.int .i64 (ys.length : Int)), SP.eq (.int .i64 (IntKind.i64.wrap ((k : Int) + (ys.length : Int)))), SP.eq (.slice (some ⟨g, (k + ys.length) * 2, none⟩) (xs.length - k) (c - (k + ys.length))), SP.eq (.slice (some ⟨g, 0, none⟩) (xs.length + ys.length) c), SP.eq (.int .i64 k), SP.eq (.slice (some ⟨g, k * 2, none⟩) (xs.length + ys.length - k) (c - k))] rfl rfl rfl rfl ⟨?_, ?_, ?_, ?_, ?_, ?_, ?_, ?_, trivial⟩ ?_
    · intro a w3 hfr hN hds hb hd
      exact op_plain Θ_ok ⟨hN, hds, rows_get (E := [(0, .slice (some ⟨g, 0, none⟩) (xs.length + ys.length) c)]) ⟨hb 0 rfl _ rfl, trivial⟩⟩ rfl rfl rfl rfl rfl
    · intro a w3 hfr hN hds hb hd
      exact op_plain Θ_ok ⟨hN, hds, rows_get (E := [(1, .int .i64 k)]) ⟨hb 1 rfl _ rfl, trivial⟩⟩ rfl rfl rfl rfl rfl
    · intro a w3 hfr hN hds hb hd
      exact op_plain Θ_ok ⟨hN, hds, rows_get (E := [(7, .int .i64 (ys.length : Int))]) ⟨hb 7 rfl _ rfl, trivial⟩⟩ rfl rfl rfl rfl rfl
    · intro a w3 hfr hN hds hb hd
      exact op_plain Θ_ok ⟨hN, hds, rows_get (E := [(70, .int .i64 k), (71, .int .i64 (ys.length : Int))]) ⟨(hd 1 rfl _ _ rfl rfl), (hd 2 rfl _ _ rfl rfl), trivial⟩⟩ rfl rfl rfl rfl rfl
    · intro a w3 hfr hN hds hb hd
      have h72 : a.tmps.getD 72 undef = .int .i64 ((k + ys.length : Nat) : Int) := by rw [← hw3]; exact hd 3 rfl _ _ rfl rfl
      refine (op_cutlo Θ_ok ⟨hN, hds, rows_get (E := [(69, .slice (some ⟨g, 0, none⟩) (xs.length + ys.length) c), (72, .int .i64 ((k + ys.length : Nat) : Int))]) ⟨(hd 0 rfl _ _ rfl rfl), h72, trivial⟩⟩ rfl rfl rfl rfl rfl rfl rfl rfl rfl (by omega) (by omega)).weaken (fun u w4 ⟨hu, hf⟩ => ⟨?_, hf⟩)
      rw [hu, if_neg (by omega), Option.map_some, add_at, Nat.zero_add, show xs.length + ys.length - (k + ys.length) = xs.length - k by omega]
      rfl
    · intro a w3 hfr hN hds hb hd
      exact op_plain Θ_ok ⟨hN, hds, rows_get (E := [(0, .slice (some ⟨g, 0, none⟩) (xs.length + ys.length) c)]) ⟨hb 0 rfl _ rfl, trivial⟩⟩ rfl rfl rfl rfl rfl
    · intro a w3 hfr hN hds hb hd
      exact op_plain Θ_ok ⟨hN, hds, rows_get (E := [(1, .int .i64 k)]) ⟨hb 1 rfl _ rfl, trivial⟩⟩ rfl rfl rfl rfl rfl
    · intro a w3 hfr hN hds hb hd
      refine (op_cutlo Θ_ok ⟨hN, hds, rows_get (E := [(74, .slice (some ⟨g, 0, none⟩) (xs.length + ys.length) c), (75, .int .i64 k)]) ⟨(hd 5 rfl _ _ rfl rfl), (hd 6 rfl _ _ rfl rfl), trivial⟩⟩ rfl rfl rfl rfl rfl rfl rfl rfl rfl (by omega) (by omega)).weaken (fun u w4 ⟨hu, hf⟩ => ⟨?_, hf⟩)
      rw [hu, if_neg (by omega), Option.map_some, add_at, Nat.zero_add]
      rfl
    intro a w3 f3 hN hds hb hr
    have hG3 : w3.heap[g]? = some (.cells cur 61 (0, 0)) := (f3.block _ (Array.getElem?_eq_some_iff.1 hh).1 (by simp)).trans hh
    refine wo_go (E := [(0, .slice (some ⟨g, 0, none⟩) (xs.length + ys.length) c), (1, .int .i64 k), (2, .slice (some ad) ys.length cu), (73, .slice (some ⟨g, (k + ys.length) * 2, none⟩) (xs.length - k) (c - (k + ys.length))), (76, .slice (some ⟨g, k * 2, none⟩) (xs.length + ys.length - k) (c - k))]) (l := [8]) hN hds ⟨hb 0 _ rfl rfl, hb 1 _ rfl rfl, hb 2 _ rfl rfl, (hr 4 _ _ rfl rfl), (hr 7 _ _ rfl rfl), trivial⟩ rfl ?_
    have hgl : g < w.heap.size := (Array.getElem?_eq_some_iff.1 hh).1
    have hadl : ad.block < w.heap.size := (Array.getElem?_eq_some_iff.1 hhu).1
    refine wo_copyd Θ_ok rfl rfl rfl rfl rfl rfl rfl rfl rfl rfl hG3 ((hcsAt (k * 2)).keep (f3.block _ hgl (by simp))) hdl (fun u hu => hone u (List.mem_of_mem_drop hu)) (by omega) (by omega) (fun z => ?_)
    generalize hr3 : (cur.toList.take ((k + ys.length) * 2) ++ cs.drop (k * 2) ++ List.drop ((k + ys.length) * 2 + (cs.drop (k * 2)).length) cur.toList).toArray = row3
    have hcurl : cur.toList.length = c * 2 := by rw [Array.length_toList, hcs]
    obtain ⟨Y, Z3, hZ31, hY, hZ32⟩ : ∃ Y Z3 : List Value, row3.toList = cs.take (k * 2) ++ Y ++ cs.drop (k * 2) ++ Z3 ∧ Y.length = ys.length * 2 ∧ Z3.length = c * 2 - (xs.length + ys.length) * 2 := by
      refine ⟨(cur.toList.take ((k + ys.length) * 2)).drop (k * 2), List.drop ((k + ys.length) * 2 + (cs.drop (k * 2)).length) cur.toList, ?_, ?_, ?_⟩
      · rw [← hr3]
        have e : cs.take (k * 2) = (cur.toList.take ((k + ys.length) * 2)).take (k * 2) := by
          rw [← hct, List.take_take, List.take_take]; congr 1; omega
        rw [e, List.take_append_drop]
      · rw [List.length_drop, List.length_take, hcurl]; omega
      · rw [List.length_drop, hcurl, hdl]; omega
    clear hr3
    have hf4 := setRow_fr (new := row3) hG3
    have hG4 : (w3.setRow g row3).heap[g]? = some (.cells row3 61 (0, 0)) := setRow_heap w3 _ _ _ _ _ hG3
    generalize w3.setRow g row3 = w4 at *
    have hF4 : Fr [g] w w4 := (f3.more (by simp)).trans hf4
    refine wo_nil ?_
    refine wq_seq ?_
    refine wc_seq ?_
    refine wc_region (l := [0, 1, 2, 3, 4]) rfl ?_
    refine wo_seg Θ_ok [0, 1] [(0, .slice (some ⟨g, 0, none⟩) (xs.length + ys.length) c), (2, .slice (some ad) ys.length cu), (78, .slice (some ⟨g, 0, none⟩) (xs.length + ys.length) c), (79, .int .i64 k)] rfl ⟨rfl, rfl, rfl, rfl, trivial⟩ ?_
    refine wo_cutlo Θ_ok rfl rfl rfl rfl rfl rfl rfl rfl rfl rfl (by omega) (by omega) ?_
    rw [if_neg (by omega), Option.map_some, add_at, Nat.zero_add]
    refine wo_seg Θ_ok [3] [(0, .slice (some ⟨g, 0, none⟩) (xs.length + ys.length) c), (80, .slice (some ⟨g, k * 2, none⟩) (xs.length + ys.length - k) (c - k)), (81, .slice (some ad) ys.length cu)] rfl ⟨rfl, rfl, rfl, trivial⟩ ?_
    have hr3sz : row3.size = c * 2 := by rw [← Array.length_toList, hZ31]; simp only [List.length_append, htl, hY, hdl, hZ32]; omega
    refine wo_copyv Θ_ok rfl rfl rfl rfl rfl rfl rfl rfl rfl rfl hG4 (hcu.keep (hF4.block _ hadl (by simp [hadg]))) hus hru.one (by omega) (by omega) (fun z => ?_)
    have e5 : (row3.toList.take (k * 2) ++ us ++ row3.toList.drop (k * 2 + us.length)) = cs.take (k * 2) ++ us ++ (cs.drop (k * 2) ++ Z3) := by
      rw [hZ31, List.append_assoc (cs.take (k * 2) ++ Y), List.append_assoc (cs.take (k * 2)), List.take_left' htl, ← List.append_assoc (cs.take (k * 2)), List.drop_left' (by rw [List.length_append, htl, hY, hus])]
    rw [e5]
    generalize hr5 : (cs.take (k * 2) ++ us ++ (cs.drop (k * 2) ++ Z3)).toArray = row5
    have hZ51 : row5.toList = cs.take (k * 2) ++ us ++ cs.drop (k * 2) ++ Z3 := by rw [← hr5, ← List.append_assoc]
    clear hr5
    have hf6 := setRow_fr (new := row5) hG4
    have hG6 : (w4.setRow g row5).heap[g]? = some (.cells row5 61 (0, 0)) := setRow_heap w4 _ _ _ _ _ hG4
    generalize w4.setRow g row5 = w6 at *
    have hF6 : Fr [g] w w6 := hF4.trans hf6
    refine wo_nil ?_
    refine wq_seq ?_
    refine wc_seq ?_
    refine wc_region (l := [0, 1]) rfl ?_
    refine wo_seg Θ_ok [0, 1] [(6, .slice (some ⟨g, 0, none⟩) (xs.length + ys.length) c)] rfl ⟨rfl, trivial⟩ ?_
    refine wo_nil ?_
    refine wq_seq ?_
    refine wc_ret ?_
    refine wq_then_ret (wq_ret rfl ⟨_, O, rfl, ?_⟩)
    have hzl : (xs.take k ++ ys ++ xs.drop k).length = xs.length + ys.length := by simp only [List.length_append, List.length_take, List.length_drop]; omega
    have htr : Tr O w O w6 := hF6.tr (one_in hgO)
    have := wrote' (T := (rawT .u64)) (e := 61) (B := B) (n0 := xs.length) (zs := xs.take k ++ ys ++ xs.drop k) (cap := c) (cs := cs.take (k * 2) ++ us ++ cs.drop (k * 2)) hO hgO hBg hF6 hG6 (by rw [hT, ← Array.length_toList, hZ51]; simp only [List.length_append, htl, hus, hdl, hZ32]; omega) hcm' (by omega)
      ((((hrep.take k).app hru).app (hrep.drop k)).tr htr) (by rw [hzl, hT, hZ51]; exact List.take_left' (by simp only [List.length_append, htl, hus, hdl]; omega))
    rw [hzl] at this
    exact this

set_option maxRecDepth 100000 in
theorem forest_get : ∀ {S : List Nat} {rs : List (Int × Value)} {xs : List (Int × List Int)} {B : Nat} {w : World} {k : Nat} {r : Int × Value} {y : Int × List Int}, Forest TW 29 B w S rs xs → rs[k]? = some r → xs[k]? = some y → r.1 = y.1 ∧ FOwn TW 29 B w r.2 y.2 ∧ ∀ g, r.2.ownBlock = some g → g ∈ S
  | _, x :: rs, z :: xs, _, _, 0, r, y, ⟨S2, h1, h2, h3, h4⟩, hr, hy => by
    simp at hr hy
    subst hr; subst hy
    exact ⟨h1, h3, fun g hg => by rw [h2, hg]; simp⟩
  | _, x :: rs, z :: xs, _, _, k + 1, r, y, ⟨S2, h1, h2, h3, h4⟩, hr, hy => by
    obtain ⟨a, b, c⟩ := forest_get h4 (by simpa using hr) (by simpa using hy)
    exact ⟨a, b, fun g hg => by rw [h2]; exact List.mem_append_right _ (c g hg)⟩
  | _, [], _, _, _, _, _, _, _, hr, _ => by simp at hr
  | _, _ :: _, [], _, _, _, _, _, h, _, _ => h.elim
/-- the row of boxes as data -/
theorem raw_data {B : Nat} {O2 : List Nat} {w : World} {rv : Value} {S : List Nat} {raws : List (Int × Value)} {bs : List GBox} (hr : FOwn TR 61 B w rv raws) (hf : Forest TW 29 B w S raws (bs.map bx)) (h1 : ∀ g, rv.ownBlock = some g → g ∉ O2) (h2 : ∀ g ∈ S, g ∉ O2) : (Ty.slice tGBox).is O2 w rv bs := by
  have hlen : raws.length = bs.length := by have := hf.len; simpa using this
  obtain ⟨cs, ⟨A, c, hc, hl, hx⟩, hv⟩ := hr.data (rawT_flat _) h1
  refine ⟨cs, ⟨A, c, by rw [← hlen]; exact hc, by rw [← hlen]; exact hl, fun k z hk => ?_⟩, hv⟩
  have hkr : k < raws.length := by rw [hlen]; exact (List.getElem?_eq_some_iff.1 hk).1
  obtain ⟨ad, es, hA, hb, ho, hrep, hce⟩ := hx k _ (List.getElem?_eq_getElem hkr)
  obtain ⟨e1, e2, e3⟩ := forest_get hf (List.getElem?_eq_getElem hkr) (show (bs.map bx)[k]? = some (bx z) by simp [hk])
  refine ⟨ad, es, hA, hb, ho, ?_, hce⟩
  refine ⟨[.int .u64 z.fPid], [raws[k].2], ?_, rfl, rep_of rfl (e2.data TW_flat fun g hg => h2 g (e3 g hg))⟩
  rw [hrep.1, e1]
  rfl
theorem HandF.boxData {B : Nat} {O O2 : List Nat} {w : World} {b : Nat} {nv rv : Value} {S : List Nat} {raws : List (Int × Value)} {x : GIpc} (h : HandF B O w b nv rv S raws x) (hO : ∀ g ∈ O2, g < B) : (Ty.slice tGBox).is O2 w rv x.fBoxes :=
  raw_data h.row.fown h.fo (fun g hg ho => by have := (h.row.lt g hg).1; have := hO g ho; omega) (fun g hg ho => by have := (h.fo.lt g hg).1; have := hO g ho; omega)
theorem tGName_flat : tGName.Flat := fun h => h
theorem HandF.nameData {B : Nat} {O O2 : List Nat} {w : World} {b : Nat} {nv rv : Value} {S : List Nat} {raws : List (Int × Value)} {x : GIpc} (h : HandF B O w b nv rv S raws x) (hO : ∀ g ∈ O2, g < B) : (Ty.slice tGName).is O2 w nv x.fNames :=
  h.ns.fown.data tGName_flat (fun g hg ho => by have := (h.ns.lt g hg).1; have := hO g ho; omega)
/-- the state as data -/
theorem HandF.data {B : Nat} {O O2 : List Nat} {w : World} {b : Nat} {nv rv : Value} {S : List Nat} {raws : List (Int × Value)} {x : GIpc} (h : HandF B O w b nv rv S raws x) (hO : ∀ g ∈ O2, g < B) : tGIpc.is O2 w (.agg #[nv, rv]) x :=
  tGIpc_is.2 ⟨_, _, rfl, h.nameData hO, h.boxData hO⟩
theorem forest_filter : ∀ {S : List Nat} {rs : List (Int × Value)} {bs : List GBox} {B : Nat} {w : World}, Forest TW 29 B w S rs (bs.map bx) → ∃ S', S'.Sublist S ∧ Forest TW 29 B w S' (rs.filter fun r => !emp r) ((bs.filter fun z => !(z.fWords.length == 0)).map bx)
  | _, [], [], _, _, h => ⟨[], by simp, rfl⟩
  | _, r :: rs, z :: bs, _, _, ⟨S2, h1, h2, h3, h4⟩ => by
    obtain ⟨S', s1, s2⟩ := forest_filter h4
    obtain ⟨A, c, e, _, _⟩ := h3.form
    have he : emp r = (z.fWords.length == 0) := by unfold emp; rw [e]; rfl
    rw [List.filter_cons, List.filter_cons, he]
    cases hz : z.fWords.length == 0 with
    | true =>
      simp only [Bool.not_true]
      exact ⟨S', s1.trans (by rw [h2]; exact List.sublist_append_right _ _), s2⟩
    | false =>
      simp only [Bool.not_false, if_true, List.map_cons]
      exact ⟨r.2.ownBlock.toList ++ S', by rw [h2]; exact List.Sublist.append (List.Sublist.refl _) s1, S', h1, rfl, h3, s2⟩
  | _, [], _ :: _, _, _, h => h.elim
  | _, _ :: _, [], _, _, h => h.elim
set_option maxRecDepth 100000 in
set_option maxHeartbeats 4000000 in
theorem i_tidy_h {O : List Nat} {w : World} (hO : OB O w) {B b : Nat} {x : GIpc} (hB : B ≤ w.heap.size) (h : HandX B O w b x) : Calls Try.prog 42 #[.pointer (some ⟨b, 0, none⟩)] w (fun en w' => en = .returned (.tuple #[]) ∧ ∃ O', Stp B O w O' w' ∧ HandX B O' w' b (tidyX x)) := by
  obtain ⟨nv, rv, S, raws, h⟩ := h
  refine calls_of (args := [.pointer (some ⟨b, 0, none⟩)]) (N := 12) Try.func42 rfl rfl rfl ?_
  refine wc_region (l := [0, 1, 2, 3, 4, 5, 6, 7, 8, 9, 10]) rfl ?_
  refine wo_seg Θ_ok [0, 1, 2, 3, 4] [(2, (.pointer (some ⟨b, 0, none⟩))), (6, (.pointer (some ⟨b, 1, none⟩)))] rfl ⟨rfl, rfl, trivial⟩ ?_
  obtain ⟨A1, c1, rfl, _, _⟩ := h.row.form
  refine wo_load Θ_ok rfl rfl rfl rfl rfl rfl rfl h.blk [.slice A1 raws.length c1] rfl rfl (.inr rfl) (.slice A1 raws.length c1) rfl ?_
  refine wo_ownc rfl rfl rfl rfl rfl ent57 rfl (s_DeleteB_r hO h.row) (fun v' w' O' ap => ?_)
  have hS1 := Stp.of_ap hB h.row ap
  have hb1 := ap.blk h.blk h.rb
  obtain ⟨A2, c2, rfl, _, _⟩ := ap.own.form
  generalize hL : (raws.filter fun r => !emp r) = L at *
  refine wo_seg Θ_ok [7, 8, 9] [(8, .slice A2 L.length c2), (11, (.pointer (some ⟨b, 1, none⟩)))] rfl ⟨rfl, rfl, trivial⟩ ?_
  refine wo_store Θ_ok rfl rfl rfl rfl rfl rfl rfl hb1 [.slice A2 L.length c2] rfl rfl (by simp [Value.oneCell']) rfl [nv, .slice A2 L.length c2] rfl (fun w3 hb3 f3 => ?_)
  have hS2 := hS1.trans (Stp.of_store hS1.ob (ap.sub _ h.mem) h.ge f3)
  obtain ⟨S', hsub, hfo⟩ := forest_filter h.fo
  rw [hL] at hfo
  refine wo_nil ?_
  exact wq_end rfl ⟨rfl, _, hS2, _, _, _, _, h.boxes (x' := tidyX x) ap hb3 f3 hfo (h.nd.sublist hsub) (fun g hg => h.out g (hsub.subset hg)) rfl⟩
set_option maxRecDepth 100000 in
set_option maxHeartbeats 4000000 in
theorem i_box_h {O : List Nat} {w : World} (hO : OB O w) {B b : Nat} {x : GIpc} (hB : B ≤ w.heap.size) (h : HandX B O w b x) {fuel : Nat} {pid : Int} {r : GIpc × Int} (hr : i_box fuel x pid = some r) :
    Calls Try.prog 56 #[.pointer (some ⟨b, 0, none⟩), .int .u64 pid] w (fun en w' => en = .returned (.int .i64 r.2) ∧ ∃ O', Stp B O w O' w' ∧ HandX B O' w' b r.1) := by
  obtain ⟨nv, rv, S, raws, h⟩ := h
  unfold i_box at hr
  refine calls_of (args := [.pointer (some ⟨b, 0, none⟩), .int .u64 pid]) (N := 34) Try.func56 rfl rfl rfl ?_
  refine wc_seq ?_
  refine wc_region (l := [0]) rfl ?_
  refine wo_seg Θ_ok [0] [(0, (.pointer (some ⟨b, 0, none⟩))), (1, .int .u64 pid)] rfl ⟨rfl, rfl, trivial⟩ ?_
  refine wo_nil ?_
  refine wq_seq ?_
  refine wc_seq ?_
  refine wc_region (l := [0, 1, 2, 3, 4, 5, 6, 7, 8, 9, 10, 11]) rfl ?_
  refine wo_seg Θ_ok [0, 1, 2, 3] [(0, (.pointer (some ⟨b, 0, none⟩))), (1, .int .u64 pid), (11, (.pointer (some ⟨b, 1, none⟩)))] rfl ⟨rfl, rfl, rfl, trivial⟩ ?_
  obtain ⟨A1, c1, rfl, _, _⟩ := h.row.form
  refine wo_load Θ_ok rfl rfl rfl rfl rfl rfl rfl h.blk [.slice A1 raws.length c1] rfl rfl (.inr rfl) (.slice A1 raws.length c1) rfl ?_
  refine wo_seg Θ_ok [5] [(0, (.pointer (some ⟨b, 0, none⟩))), (1, .int .u64 pid), (12, .slice A1 raws.length c1), (13, .int .u64 pid)] rfl ⟨rfl, rfl, rfl, rfl, trivial⟩ ?_
  obtain ⟨f, hf, hr⟩ := bind_some hr
  refine wo_gives rfl rfl rfl rfl rfl ent63 rfl (i_findB_c (ob_nil _) (h.boxData (fun _ hg => by cases hg)) (int_is.2 rfl) (fn1_is (first := []) (cap := []) ent64 (fun O' w' ht hO u0 z0 q0 y hy => by cases hy; exact i_pidOf_c hO q0)) hf) (fun v2 w2 g2 f2 => ?_)
  obtain ⟨_, _, rfl, q1, q2⟩ := g2
  obtain rfl := int_is.1 q1
  obtain rfl := bool_is.1 q2
  have h := h.fr0 f2
  have hS2 : Stp B O w O w2 := Stp.of_fr hO hB f2
  refine wo_seg Θ_ok [7, 8, 9, 10, 11] [(0, (.pointer (some ⟨b, 0, none⟩))), (1, .int .u64 pid), (5, .int .i64 f.1), (6, .bool f.2)] rfl ⟨rfl, rfl, rfl, rfl, trivial⟩ ?_
  refine wo_nil ?_
  refine wq_seq ?_
  refine wc_seq ?_
  refine wc_seq ?_
  refine wc_region (l := [0, 1]) rfl ?_
  refine wo_seg Θ_ok [0, 1] [(0, (.pointer (some ⟨b, 0, none⟩))), (1, .int .u64 pid), (5, .int .i64 f.1), (18, .bool (!f.2))] rfl ⟨rfl, rfl, rfl, rfl, trivial⟩ ?_
  refine wo_nil ?_
  refine wq_seq ?_
  rcases bif_some hr with ⟨hc, hr⟩ | ⟨hc, hr⟩
  rotate_left
  · refine wc_known_false rfl hc ?_
    refine wc_skip ?_
    refine wq_seq ?_
    refine wc_seq ?_
    refine wc_region (l := [0, 1]) rfl ?_
    refine wo_seg Θ_ok [0, 1] [(4, .int .i64 f.1)] rfl ⟨rfl, trivial⟩ ?_
    refine wo_nil ?_
    refine wq_seq ?_
    refine wc_ret ?_
    cases hr
    exact wq_ret rfl ⟨rfl, _, hS2, _, _, _, _, h⟩
  refine wc_known_true rfl hc ?_
  obtain ⟨bs, hbs, hr⟩ := bind_some hr
  cases hr
  refine wc_region (l := [0, 1, 2, 3, 4, 5, 6, 7, 8, 9, 10, 11, 12, 13, 14]) rfl ?_
  refine wo_seg Θ_ok [0, 1, 2, 3, 4] [(1, .int .u64 pid), (5, .int .i64 f.1), (19, (.pointer (some ⟨b, 0, none⟩))), (23, (.pointer (some ⟨b, 1, none⟩)))] rfl ⟨rfl, rfl, rfl, rfl, trivial⟩ ?_
  refine wo_load Θ_ok rfl rfl rfl rfl rfl rfl rfl h.blk [.slice A1 raws.length c1] rfl rfl (.inr rfl) (.slice A1 raws.length c1) rfl ?_
  refine wo_seg Θ_ok [6, 7, 8] [(5, .int .i64 f.1), (19, (.pointer (some ⟨b, 0, none⟩))), (24, .slice A1 raws.length c1), (25, .int .i64 f.1), (27, .agg #[.int .u64 pid, .slice none 0 0])] rfl ⟨rfl, rfl, rfl, rfl, rfl, trivial⟩ ?_
  refine wo_lit Θ_ok rfl rfl rfl rfl rfl rfl rfl rfl rfl rfl (T := TR) (xs := [(pid, .slice none 0 0)]) (vs := [.agg #[.int .u64 pid, .slice none 0 0]]) rfl ⟨⟨_, ⟨rfl, _, _, _, rfl⟩, rfl⟩, trivial⟩ rfl rfl rfl hS2.ob (fun b3 w3 q3 => ?_)
  have h := h.fr0 q3.fr
  have hS3 := hS2.trans (Stp.of_fr hS2.ob (Nat.le_trans hB hS2.tr.size) q3.fr)
  have hd3 := q3.data hS2.ob
  have hp3 := (q3.own (B := 0) (Nat.zero_le _)).plain
  have hB3 : B ≤ w3.heap.size := Nat.le_trans hB hS3.tr.size
  obtain ⟨j0, j1, jsz, rfl⟩ := insL_some hbs
  have hlen : raws.length = x.fBoxes.length := by have := h.fo.len; simpa using this
  have hins : s_InsertB raws f.1 [(pid, .slice none 0 0)] = some (raws.take f.1.toNat ++ [(pid, .slice none 0 0)] ++ raws.drop f.1.toNat) := by
    unfold s_InsertB insL
    rw [if_pos ⟨j0, by rw [hlen]; exact j1, by rw [hlen]; exact jsz⟩]
  refine wo_ownc rfl rfl rfl rfl rfl ent65 rfl (s_InsertB_c hS3.ob hB3 h.row (int_is.2 rfl) hd3 hp3 hins) (fun v' w' O' ap => ?_)
  have hS4 := hS3.trans (Stp.of_ap hB3 h.row ap)
  have hb4 := ap.blk h.blk h.rb
  obtain ⟨A2, c2, rfl, _, _⟩ := ap.own.form
  have hfo := h.fo.ins f.1.toNat pid (by rw [hlen]; omega)
  generalize hL : (raws.take f.1.toNat ++ [(pid, .slice none 0 0)] ++ raws.drop f.1.toNat) = L at *
  refine wo_seg Θ_ok [11, 12, 13] [(5, .int .i64 f.1), (29, .slice A2 L.length c2), (32, (.pointer (some ⟨b, 1, none⟩)))] rfl ⟨rfl, rfl, rfl, trivial⟩ ?_
  refine wo_store Θ_ok rfl rfl rfl rfl rfl rfl rfl hb4 [.slice A2 L.length c2] rfl rfl (by simp [Value.oneCell']) rfl [nv, .slice A2 L.length c2] rfl (fun w5 hb5 f5 => ?_)
  have hS5 := hS4.trans (Stp.of_store hS4.ob (ap.sub _ h.mem) h.ge f5)
  refine wo_nil ?_
  refine wq_seq ?_
  refine wc_seq ?_
  refine wc_region (l := [0, 1]) rfl ?_
  refine wo_seg Θ_ok [0, 1] [(4, .int .i64 f.1)] rfl ⟨rfl, trivial⟩ ?_
  refine wo_nil ?_
  refine wq_seq ?_
  refine wc_ret ?_
  refine wq_ret rfl ⟨rfl, _, hS5, _, _, _, _, h.boxes (x' := GIpc.mk x.fNames (x.fBoxes.take f.1.toNat ++ [GBox.mk pid []] ++ x.fBoxes.drop f.1.toNat)) ap hb5 f5 ?_ h.nd h.out rfl⟩
  simpa [List.map_take, List.map_drop, bx] using hfo
/-- a call of a function value, whatever it gives -/
theorem wo_dynE {P : Program} {r : Option Nat} {N : Nat} {ops : Array Oper} {Q : Exit → Act → World → Prop} {l : List Nat} {E : Env} {ds : List Deferred} {w : World} {i d : Nat} {o : Oper} (ho : ops[i]? = some o) (hw : want N ops E o.guard = some true) (hd : o.dst = some d) (hN : Nat.blt d N = true) {x : Operand} {args : Array Operand} {ts : Array TypeId} (hop : o.op = .call { callee := .value x, args := args, argTypes := ts })
    {g : FuncId} {first cap vs : List Value} (hx : ev E x = some (.func (.func g) first.toArray cap.toArray)) (hvs : allEv E args.toList = some vs) (he : ∀ (vs : Array Value) (u : World), (callFunc g vs).run P u = .ok (.enter g vs) u)
    {R : Ending → World → Prop} (hcall : Calls P g (first ++ vs ++ cap).toArray w R) (h : ∀ e w', R e w' → ∃ v, e = .returned v ∧ WO P r N ops Q l ((d, v) :: E) ds w') : WO P r N ops Q (i :: l) E ds w :=
  wo_enter ho hw hd hN (by rw [hop]; simp) (fun a ha => by simpa using run_dyn (w := w) ha hop hx hvs he) hcall h
def BegH (O : List Nat) (w : World) (r : GIpc × Int × Int) (en : Ending) (w' : World) : Prop :=
  ∃ pv O', en = .returned (.tuple #[pv, .int .i64 r.2.1, .int .i64 r.2.2]) ∧ Stp w.heap.size O w O' w' ∧ (r.2.2 = 0 → ∃ b, pv = .pointer (some ⟨b, 0, none⟩) ∧ HandX w.heap.size O' w' b r.1)
theorem Stp.to {O O1 O' : List Nat} {w w1 w' : World} (h : Stp w.heap.size O w O1 w1) (k : Stp w1.heap.size O1 w1 O' w') : Stp w.heap.size O w O' w' :=
  h.trans ⟨k.tr, k.ob, k.sub, fun i hi => k.below i (Nat.lt_of_lt_of_le hi h.tr.size)⟩
theorem HandX.less {B B' : Nat} {O : List Nat} {w : World} {b : Nat} {x : GIpc} (h : HandX B O w b x) (hb : B' ≤ B) : HandX B' O w b x := by
  obtain ⟨nv, rv, S, raws, h⟩ := h
  have less : ∀ {α : Type} {T : Ty α} {e : Nat} {v : Value} {xs : List α}, Go.Dc.Own T e B O w v xs → Go.Dc.Own T e B' O w v xs := fun h => by
    obtain ⟨⟨cs, ⟨h0, h1⟩, h2⟩, h3⟩ := h
    refine ⟨⟨cs, ⟨h0, ?_⟩, h2⟩, h3⟩
    rcases h1 with h1 | ⟨g, cap, cur, hv, hg, r⟩
    · exact .inl h1
    · exact .inr ⟨g, cap, cur, hv, Nat.le_trans hb hg, r⟩
  have fless : ∀ {S : List Nat} {rs : List (Int × Value)} {xs : List (Int × List Int)}, Forest TW 29 B w S rs xs → Forest TW 29 B' w S rs xs := fun {S rs xs} h => by
    induction rs generalizing S xs with
    | nil => cases xs with
      | nil => exact h
      | cons _ _ => exact h.elim
    | cons r rs ih => cases xs with
      | nil => exact h.elim
      | cons y ys => obtain ⟨S2, h1, h2, h3, h4⟩ := h; exact ⟨S2, h1, h2, h3.less hb, ih h4⟩
  exact ⟨nv, rv, S, raws, h.mem, Nat.le_trans hb h.ge, h.blk, less h.ns, less h.row, fless h.fo, h.nd, h.out, h.nb, h.rb, h.dj⟩
set_option maxRecDepth 100000 in
set_option maxHeartbeats 4000000 in
theorem i_begin_h {O : List Nat} {w : World} (hO : OB O w) {fuel : Nat} {v0 : Value} {x0 : GIpc} (h0 : tGIpc.is [] w v0 x0) {pid : Int} {r : GIpc × Int × Int} (h : i_begin fuel x0 pid = some r) : Calls Try.prog 41 #[v0, .int .u64 pid] w (BegH O w r) := by
  obtain ⟨v0_1, v0_2, rfl, h0_1, h0_2⟩ := tGIpc_is.1 h0
  have hS0 : Stp w.heap.size O w O w := Stp.refl hO
  refine calls_of (args := [(.agg #[v0_1, v0_2]), .int .u64 pid]) (N := 29) Try.func41 rfl rfl rfl ?_
  unfold i_begin at h
  refine wc_seq ?_
  refine wc_region (l := [0, 1, 2, 3]) rfl ?_
  refine wo_box rfl rfl rfl rfl rfl rfl [v0_1, v0_2] rfl hO (fun b1 w1 n1 => ?_)
  have hb1 := n1.blk
  have hS1 := hS0.trans (Stp.of_new hS0.tr.size n1)
  refine wo_seg Θ_ok [1, 2, 3] [(1, .int .u64 pid), (2, (.pointer (some ⟨b1, 0, none⟩)))] rfl ⟨rfl, rfl, trivial⟩ ?_
  refine wo_nil ?_
  refine wq_seq ?_
  refine wc_seq ?_
  refine wc_region (l := [0, 1, 2, 3, 4, 5, 6]) rfl ?_
  refine wo_load Θ_ok rfl rfl rfl rfl rfl rfl rfl hb1 [v0_1, v0_2] rfl rfl (.inl rfl) (.agg #[v0_1, v0_2]) rfl ?_
  obtain ⟨e, he, h⟩ := bind_some h
  refine wo_call rfl rfl rfl rfl rfl ent33 rfl (i_own_h hS1.ob (h0.tr hS1.fr.tr0) he) (fun _ w2 hg => ?_)
  obtain ⟨pv, O2, rfl, hS2, hH0⟩ := hg
  refine ⟨_, rfl, ?_⟩
  have hS3 := hS1.to hS2
  refine wo_seg Θ_ok [2, 3, 4, 5, 6] [(1, .int .u64 pid), (7, pv), (8, .int .i64 e.2)] rfl ⟨rfl, rfl, rfl, trivial⟩ ?_
  refine wo_nil ?_
  refine wq_seq ?_
  refine wc_seq ?_
  refine wc_block ?_
  refine wc_seq ?_
  refine wc_region (l := [0, 1, 2]) rfl ?_
  refine wo_seg Θ_ok [0, 1, 2] [(1, .int .u64 pid), (7, pv), (8, .int .i64 e.2), (15, .bool (!(e.2 == 0)))] rfl ⟨rfl, rfl, rfl, rfl, trivial⟩ ?_
  refine wo_nil ?_
  refine wq_seq ?_
  rcases bif_some h with ⟨hc, h⟩ | ⟨hc, h⟩
  · refine wc_known_true rfl hc ?_
    refine wc_seq ?_
    refine wc_region (l := [0, 1, 2, 3]) rfl ?_
    refine wo_seg Θ_ok [0, 1, 2, 3] [(4, (.pointer none)), (5, .int .i64 0), (6, .int .i64 e.2)] rfl ⟨rfl, rfl, rfl, trivial⟩ ?_
    refine wo_nil ?_
    refine wq_seq ?_
    refine wc_ret ?_
    cases h
    exact wq_block_ret (wq_then_ret (wq_ret rfl ⟨_, _, rfl, hS3, fun h0 => by simp at hc; exact absurd h0 hc⟩))
  refine wc_known_false rfl hc ?_
  have he0 : e.2 = 0 := by simpa using hc
  obtain ⟨b, rfl, hH⟩ := hH0 he0
  have hH := hH.less hS1.tr.size
  refine wc_seq ?_
  refine wc_region (l := [0, 1, 2, 3]) rfl ?_
  refine wo_seg Θ_ok [0] [(1, .int .u64 pid), (7, (.pointer (some ⟨b, 0, none⟩))), (8, .int .i64 e.2), (20, .int .u64 pid)] rfl ⟨rfl, rfl, rfl, rfl, trivial⟩ ?_
  refine wo_gives rfl rfl rfl rfl rfl ent34 rfl (i_isPid_c hS3.ob (int_is.2 rfl)) (fun v4 w4 g4 f4 => ?_)
  obtain rfl := bool_is.1 g4
  have hS4 := hS3.trans (Stp.of_fr hS3.ob hS3.tr.size f4)
  have hH : HandX w.heap.size O2 w4 b e.1 := let ⟨_, _, _, _, k⟩ := hH; ⟨_, _, _, _, k.fr0 f4⟩
  refine wo_seg Θ_ok [2, 3] [(1, .int .u64 pid), (7, (.pointer (some ⟨b, 0, none⟩))), (19, .bool (!(i_isPid pid)))] rfl ⟨rfl, rfl, rfl, trivial⟩ ?_
  refine wo_nil ?_
  refine wq_seq ?_
  rcases bif_some h with ⟨hc, h⟩ | ⟨hc, h⟩
  · refine wc_known_true rfl hc ?_
    refine wc_seq ?_
    refine wc_region (l := [0, 1, 2]) rfl ?_
    refine wo_seg Θ_ok [0, 1, 2] [(4, (.pointer none)), (5, .int .i64 0), (6, .int .i64 2)] rfl ⟨rfl, rfl, rfl, trivial⟩ ?_
    refine wo_nil ?_
    refine wq_seq ?_
    refine wc_ret ?_
    cases h
    exact wq_block_ret (wq_then_ret (wq_ret rfl ⟨_, _, rfl, hS4, fun h0 => by cases h0⟩))
  refine wc_known_false rfl hc ?_
  refine wc_skip ?_
  refine wq_block (wq_seq ?_)
  refine wc_seq ?_
  refine wc_region (l := [0, 1, 2]) rfl ?_
  refine wo_seg Θ_ok [0, 1, 2] [(1, .int .u64 pid), (7, (.pointer (some ⟨b, 0, none⟩))), (9, .func (.func 56) #[.pointer (some ⟨b, 0, none⟩)] #[])] rfl ⟨rfl, rfl, rfl, trivial⟩ ?_
  refine wo_nil ?_
  refine wq_seq ?_
  refine wc_seq ?_
  refine wc_region (l := [0, 1, 2, 3, 4, 5, 6]) rfl ?_
  refine wo_seg Θ_ok [0, 1, 2] [(25, (.pointer (some ⟨b, 0, none⟩))), (26, .func (.func 56) #[.pointer (some ⟨b, 0, none⟩)] #[]), (27, .int .u64 pid)] rfl ⟨rfl, rfl, rfl, trivial⟩ ?_
  obtain ⟨q, hq, h⟩ := bind_some h
  cases h
  refine wo_dynE (first := [.pointer (some ⟨b, 0, none⟩)]) (cap := []) rfl rfl rfl rfl rfl rfl rfl ent56 (i_box_h hS4.ob hS4.tr.size hH hq) (fun _ w5 hg => ?_)
  obtain ⟨rfl, O5, hS5, hH5⟩ := hg
  refine ⟨_, rfl, ?_⟩
  refine wo_seg Θ_ok [4, 5, 6] [(4, (.pointer (some ⟨b, 0, none⟩))), (5, .int .i64 q.2), (6, .int .i64 0)] rfl ⟨rfl, rfl, rfl, trivial⟩ ?_
  refine wo_nil ?_
  refine wq_seq ?_
  refine wc_ret ?_
  exact wq_ret rfl ⟨_, _, rfl, hS4.trans hS5, fun _ => ⟨b, rfl, hH5⟩⟩

set_option maxRecDepth 100000 in
set_option maxHeartbeats 4000000 in
theorem s_InsertN_c {O : List Nat} {w : World} (hO : OB O w) {B : Nat} (hB : B ≤ w.heap.size) {v : Value} {xs : List GName} (hv : Go.Dc.Own tGName 31 B O w v xs) {v1 : Value} {j : Int} (h1 : (Ty.int .i64).is O w v1 j) {u : Value} {ys : List GName} (hu : (Ty.slice tGName).is O w u ys) (hp : Plain w u) {zs : List GName} (hz : s_InsertN xs j ys = some zs) :
    Calls Try.prog 37 #[v, v1, u] w (GivesOwn tGName 31 B O w v zs) := by
  obtain rfl := int_is.1 h1
  obtain ⟨hj0, hj1, hsz, rfl⟩ := insL_some hz
  obtain ⟨k, rfl⟩ : ∃ k : Nat, j = k := ⟨j.toNat, by omega⟩
  simp only [Int.toNat_natCast] at *
  have hkn : k ≤ xs.length := by omega
  obtain ⟨A, c, rfl, hnc, hcm⟩ := hv.form
  obtain ⟨Au, cu, rfl, hmc, hmm⟩ := slice_form hu
  refine calls_of (args := [.slice A xs.length c, .int .i64 k, .slice Au ys.length cu]) (N := 95) Try.func37 rfl rfl rfl ?_
  refine wc_seq ?_
  refine wc_region (l := [0]) rfl ?_
  refine wo_seg Θ_ok [0] [(0, .slice A xs.length c), (1, .int .i64 k), (2, .slice Au ys.length cu)] rfl ⟨rfl, rfl, rfl, trivial⟩ ?_
  refine wo_nil ?_
  refine wq_seq ?_
  refine wc_seq ?_
  refine wc_region (l := [0, 1, 2]) rfl ?_
  refine wo_seg Θ_ok [0, 1] [(0, .slice A xs.length c), (1, .int .i64 k), (2, .slice Au ys.length cu), (10, .slice A xs.length c), (11, .int .i64 k)] rfl ⟨rfl, rfl, rfl, rfl, rfl, trivial⟩ ?_
  refine wo_cutlo Θ_ok rfl rfl rfl rfl rfl rfl rfl rfl rfl rfl hnc hkn ?_
  refine wo_nil ?_
  refine wq_seq ?_
  refine wc_seq ?_
  refine wc_region (l := [0, 1, 2]) rfl ?_
  refine wo_seg Θ_ok [0, 1, 2] [(0, .slice A xs.length c), (1, .int .i64 k), (2, .slice Au ys.length cu), (7, .int .i64 (ys.length : Int))] rfl ⟨rfl, rfl, rfl, rfl, trivial⟩ ?_
  refine wo_nil ?_
  refine wq_seq ?_
  refine wc_seq ?_
  refine wc_seq ?_
  refine wc_region (l := [0, 1]) rfl ?_
  refine wo_seg Θ_ok [0, 1] [(0, .slice A xs.length c), (1, .int .i64 k), (2, .slice Au ys.length cu), (7, .int .i64 (ys.length : Int)), (16, .bool ((ys.length : Int) == 0))] rfl ⟨rfl, rfl, rfl, rfl, rfl, trivial⟩ ?_
  refine wo_nil ?_
  refine wq_seq ?_
  by_cases hm0 : ys.length = 0
  · have hys : ys = [] := List.eq_nil_of_length_eq_zero hm0
    refine wc_known_true rfl (by simp [hm0]) ?_
    refine wc_seq ?_
    refine wc_region (l := [0, 1]) rfl ?_
    refine wo_seg Θ_ok [0, 1] [(6, .slice A xs.length c)] rfl ⟨rfl, trivial⟩ ?_
    refine wo_nil ?_
    refine wq_seq ?_
    refine wc_ret ?_
    refine wq_then_ret (wq_ret rfl ⟨_, O, rfl, ?_⟩)
    have e : xs.take k ++ ys ++ xs.drop k = xs := by rw [hys]; simp
    rw [e]
    exact ⟨hv, Tr.refl _ _, hO, Sub.refl _, fun _ _ _ => rfl, fun _ _ h => h⟩
  refine wc_known_false rfl (beq_eq_false_iff_ne.2 (by omega)) ?_
  refine wc_skip ?_
  refine wq_seq ?_
  refine wc_seq ?_
  refine wc_region (l := [0, 1, 2]) rfl ?_
  refine wo_seg Θ_ok [0, 1, 2] [(0, .slice A xs.length c), (1, .int .i64 k), (2, .slice Au ys.length cu), (7, .int .i64 (ys.length : Int)), (8, .int .i64 (xs.length : Int))] rfl ⟨rfl, rfl, rfl, rfl, rfl, trivial⟩ ?_
  refine wo_nil ?_
  refine wq_seq ?_
  refine wc_seq ?_
  refine wc_seq ?_
  refine wc_region (l := [0, 1, 2]) rfl ?_
  refine wo_seg Θ_ok [0, 1, 2] [(0, .slice A xs.length c), (1, .int .i64 k), (2, .slice Au ys.length cu), (7, .int .i64 (ys.length : Int)), (8, .int .i64 (xs.length : Int)), (22, .bool ((k : Int) == (xs.length : Int)))] rfl ⟨rfl, rfl, rfl, rfl, rfl, rfl, trivial⟩ ?_
  refine wo_nil ?_
  refine wq_seq ?_
  by_cases hkn' : k = xs.length
  · refine wc_known_true rfl (by simp [hkn']) ?_
    refine wc_seq ?_
    refine wc_region (l := [0, 1, 2, 3]) rfl ?_
    refine wo_seg Θ_ok [0, 1] [(23, .slice A xs.length c), (24, .slice Au ys.length cu)] rfl ⟨rfl, rfl, trivial⟩ ?_
    refine wo_append Θ_ok rfl rfl rfl rfl rfl rfl rfl rfl rfl (by decide) rfl (by decide) rfl rfl hB hO hv hu (by simp only [Nat.reduceMul] at hsz ⊢; omega) (fun v' w' O' hap => ?_)
    refine wo_seg Θ_ok [3] [(6, v')] rfl ⟨rfl, trivial⟩ ?_
    refine wo_nil ?_
    refine wq_seq ?_
    refine wc_ret ?_
    refine wq_then_ret (wq_ret rfl ⟨_, O', rfl, ?_⟩)
    have e : xs.take k ++ ys ++ xs.drop k = xs ++ ys := by subst hkn'; simp
    rw [e]
    exact hap
  refine wc_known_false rfl (by simp; omega) ?_
  refine wc_skip ?_
  refine wq_seq ?_
  -- the rows
  obtain ⟨cs, ⟨hcl, hvv⟩, hrep⟩ := hv.ex
  rcases hvv with ⟨_, hl0⟩ | ⟨g, c2, cur, hvv, hBg, hh, hnc', hcm', hcs, hct⟩
  · omega
  injection hvv with hA hn2 hc2
  subst hA; subst hc2
  have hgO := hv.mem g rfl
  cases Au with
  | none => exact absurd (slice_none hu) (fun h => hm0 (by rw [h]; rfl))
  | some ad =>
  obtain ⟨hspot, cu', tu, hhu⟩ := hp ad _ _ rfl
  obtain ⟨_, us, hru, hcu⟩ := slice_cells hu
  have hus : us.length = ys.length * 2 := hru.len
  have hcl : cs.length = xs.length * 2 := hcl
  have hT : (tGName).n = 2 := rfl
  rw [hT] at hcs hct
  have hadg : ad.block ≠ g := by
    intro e
    obtain ⟨y, hy⟩ : ∃ y, ys[0]? = some y := ⟨_, List.getElem?_eq_getElem (by omega)⟩
    obtain ⟨ad', e', hpt⟩ := slice_at hu hy
    cases e'
    obtain ⟨_, ⟨_, _, hc1, _, hno, _⟩, hc2⟩ := hpt
    subst hc1
    have hc2 : Value.pointer (some (ad.add (0 * (tGName).n))) = .pointer (some _) := hc2
    injection hc2 with hc2
    injection hc2 with hc2
    rw [← hc2, add_block, e] at hno
    exact hno hgO
  have hcells : ∀ j, w.cell? ⟨g, j, none⟩ = cur[j]? := fun j => cell_of_row w g j cur 31 (0, 0) hh
  have hcurcs : ∀ j x, cs[j]? = some x → cur.toList[j]? = some x := fun j x hx => by
    rw [← hct, List.getElem?_take] at hx
    split at hx
    · exact hx
    · cases hx
  have hcsAt : ∀ q, CellsAt w ⟨g, q, none⟩ (cs.drop q) := fun q j x hx => by
    rw [add_at, hcells, ← Array.getElem?_toList]
    rw [List.getElem?_drop] at hx
    exact hcurcs _ x hx
  have hkS : k * 2 ≤ xs.length * 2 := Nat.mul_le_mul_right _ hkn
  have hcapS : xs.length * 2 ≤ c * 2 := Nat.mul_le_mul_right _ hnc'
  have hone : ∀ x ∈ cs, x.oneCell' = true := hrep.one
  refine wc_seq ?_
  refine wc_seq ?_
  refine wc_region (l := [0, 1, 2, 3, 4, 5]) rfl ?_
  have hwnm : IntKind.i64.wrap ((xs.length : Int) + (ys.length : Int)) = ((xs.length + ys.length : Nat) : Int) := by
    rw [IntKind.wrap_i64]; unfold maxLen at *; omega
  refine wo_seg Θ_ok [0, 1, 2, 3, 4, 5] [(0, .slice (some ⟨g, 0, none⟩) xs.length c), (1, .int .i64 k), (2, .slice (some ad) ys.length cu), (7, .int .i64 (ys.length : Int)), (8, .int .i64 (xs.length : Int)), (31, .bool (decide (IntKind.i64.wrap ((xs.length : Int) + (ys.length : Int)) > (c : Int))))] rfl ⟨rfl, rfl, rfl, rfl, rfl, rfl, trivial⟩ ?_
  refine wo_nil ?_
  refine wq_seq ?_
  rw [hwnm]
  by_cases hgrow : c < xs.length + ys.length
  · refine wc_known_true rfl (by simp; omega) ?_
    refine wc_seq ?_
    refine wc_region (l := [0, 1, 2, 3, 4, 5, 6, 7, 8, 9]) rfl ?_
    refine wo_seg Θ_ok [0, 1] [(0, .slice (some ⟨g, 0, none⟩) xs.length c), (1, .int .i64 k), (2, .slice (some ad) ys.length cu), (7, .int .i64 (ys.length : Int)), (8, .int .i64 (xs.length : Int)), (32, .slice (some ⟨g, 0, none⟩) xs.length c), (33, .int .i64 k)] rfl ⟨rfl, rfl, rfl, rfl, rfl, rfl, rfl, trivial⟩ ?_
    refine wo_cuthi Θ_ok rfl rfl rfl rfl rfl rfl rfl rfl rfl rfl hnc' (by omega) ?_
    refine wo_seg Θ_ok [3, 4, 5, 6, 7] [(0, .slice (some ⟨g, 0, none⟩) xs.length c), (1, .int .i64 k), (2, .slice (some ad) ys.length cu), (7, .int .i64 (ys.length : Int)), (34, .slice (some ⟨g, 0, none⟩) k c), (39, .int .i64 (IntKind.i64.wrap (IntKind.i64.wrap ((xs.length : Int) + (ys.length : Int)) - (k : Int))))] rfl ⟨rfl, rfl, rfl, rfl, rfl, rfl, trivial⟩ ?_
    have hw2 : IntKind.i64.wrap (IntKind.i64.wrap ((xs.length : Int) + (ys.length : Int)) - (k : Int)) = ((xs.length + ys.length - k : Nat) : Int) := by
      rw [hwnm, IntKind.wrap_i64]; unfold maxLen at *; omega
    rw [hw2]
    have htl : (cs.take (k * 2)).length = k * 2 := by rw [List.length_take]; omega
    refine wo_appz Θ_ok rfl rfl rfl rfl rfl rfl rfl rfl rfl rfl rfl rfl rfl (us := cs.take (k * 2)) (fun j x hx => by
      rw [List.getElem?_take] at hx
      split at hx
      · have := hcsAt 0 j x (by simpa using hx); exact this
      · cases hx) htl (by omega) (by omega) (by simp only [Nat.reduceMul] at hsz ⊢; omega) rfl ?_
    have hnk : k + (xs.length + ys.length - k) = xs.length + ys.length := by omega
    rw [hnk]
    generalize hC : grownCap w (xs.length + ys.length) c 31 = C
    have hCge : xs.length + ys.length ≤ C := by rw [← hC]; exact grownCap_ge _ _ _ _
    have hCm : C ≤ maxLen := by rw [← hC]; exact grownCap_le_maxLen _ _ _ _ (by unfold maxLen at *; omega)
    have hCS : (xs.length + ys.length) * 2 ≤ C * 2 := Nat.mul_le_mul_right _ hCge
    refine wo_seg Θ_ok [9] [(0, .slice (some ⟨g, 0, none⟩) xs.length c), (1, .int .i64 k), (2, .slice (some ad) ys.length cu), (7, .int .i64 (ys.length : Int)), (9, .slice (some ⟨w.heap.size, 0, none⟩) (xs.length + ys.length) C)] rfl ⟨rfl, rfl, rfl, rfl, rfl, trivial⟩ ?_
    refine wo_nil ?_
    refine wq_seq ?_
    obtain ⟨Z, hZ1, hZ2⟩ := row_parts (cs := cs.take (k * 2)) (xs.length + ys.length - k) (C - (xs.length + ys.length)) (show ((Value.cells (.agg #[(.int .u64 0), (.int .u64 0)])).size) = 2 from rfl)
    rw [show xs.length + ys.length - k + (C - (xs.length + ys.length)) = C - k by omega] at hZ2
    generalize (cs.take (k * 2)).toArray ++ Builtin.zeroCells _ (xs.length + ys.length - k) ++ Builtin.zeroCells _ (C - (xs.length + ys.length)) = row at *
    have hCk : (C - k) * 2 + k * 2 = C * 2 := by rw [← Nat.add_mul]; congr 1; omega
    have hrsz : row.size = C * 2 := by rw [← Array.length_toList, hZ1, List.length_append, hZ2, htl]; omega
    have hn1 := new_alloc (O := O) (w := w.drew) hO 31 row.toList
    simp only [Array.toArray_toList] at hn1
    generalize hw1 : w.drew.alloc (.cells row 31) = w1 at *
    have hG1 : w1.heap[w.heap.size]? = some (.cells row 31 (0, 0)) := by have := hn1.blk; unfold Blk at this; simpa using this
    have hf1 : Fr [] w w1 := (Fr.drew [] w).trans hn1.fr
    have hsplit : (xs.length + ys.length) * 2 = k * 2 + ys.length * 2 + (xs.length - k) * 2 := by rw [← Nat.add_mul, ← Nat.add_mul]; congr 1; omega
    have hkm : (k + ys.length) * 2 = k * 2 + ys.length * 2 := Nat.add_mul _ _ _
    have hnkS : (xs.length - k) * 2 + k * 2 = xs.length * 2 := by rw [← Nat.add_mul]; congr 1; omega
    refine wc_seq ?_
    refine wc_region (l := [0, 1, 2, 3, 4]) rfl ?_
    refine wo_seg Θ_ok [0, 1] [(0, .slice (some ⟨g, 0, none⟩) xs.length c), (1, .int .i64 k), (2, .slice (some ad) ys.length cu), (7, .int .i64 (ys.length : Int)), (9, .slice (some ⟨w.heap.size, 0, none⟩) (xs.length + ys.length) C), (41, .slice (some ⟨w.heap.size, 0, none⟩) (xs.length + ys.length) C), (42, .int .i64 k)] rfl ⟨rfl, rfl, rfl, rfl, rfl, rfl, rfl, trivial⟩ ?_
    refine wo_cutlo Θ_ok rfl rfl rfl rfl rfl rfl rfl rfl rfl rfl hCge (by omega) ?_
    rw [if_neg (by omega), Option.map_some, add_at, Nat.zero_add]
    refine wo_seg Θ_ok [3] [(0, .slice (some ⟨g, 0, none⟩) xs.length c), (1, .int .i64 k), (7, .int .i64 (ys.length : Int)), (9, .slice (some ⟨w.heap.size, 0, none⟩) (xs.length + ys.length) C), (43, .slice (some ⟨w.heap.size, k * 2, none⟩) (xs.length + ys.length - k) (C - k)), (44, .slice (some ad) ys.length cu)] rfl ⟨rfl, rfl, rfl, rfl, rfl, rfl, trivial⟩ ?_
    have hadl : ad.block < w.heap.size := (Array.getElem?_eq_some_iff.1 hhu).1
    refine wo_copyv Θ_ok rfl rfl rfl rfl rfl rfl rfl rfl rfl rfl hG1 (hcu.keep (hf1.block _ hadl (by simp))) hus hru.one (by omega) (by omega) (fun z => ?_)
    rw [hZ1, List.take_left' htl]
    generalize hr2 : (cs.take (k * 2) ++ us ++ List.drop (k * 2 + us.length) (cs.take (k * 2) ++ Z)).toArray = row2
    obtain ⟨Z2, hZ21, hZ22⟩ : ∃ Z2 : List Value, row2.toList = cs.take (k * 2) ++ us ++ Z2 ∧ Z2.length = C * 2 - (k * 2 + ys.length * 2) := by
      refine ⟨_, by rw [← hr2], ?_⟩
      simp only [List.length_drop, List.length_append, htl, hZ2, hus]
      omega
    clear hr2
    have hf2 := setRow_fr (new := row2) hG1
    have hG2 : (w1.setRow w.heap.size row2).heap[w.heap.size]? = some (.cells row2 31 (0, 0)) := setRow_heap w1 _ _ _ _ _ hG1
    generalize hw2' : w1.setRow w.heap.size row2 = w2 at *
    have hF2 : Fr [] w w2 := hf1.own hf2 (Nat.le_refl _)
    refine wo_nil ?_
    refine wq_seq ?_
    refine wc_seq ?_
    have hw3 : IntKind.i64.wrap ((k : Int) + (ys.length : Int)) = ((k + ys.length : Nat) : Int) := by rw [IntKind.wrap_i64]; unfold maxLen at *; omega
    refine wc_drawT mixed [⟨46, [], [9]⟩, ⟨47, [], [1]⟩, ⟨48, [], [7]⟩, ⟨49, [1, 2], []⟩, ⟨50, [0, 3], []⟩, ⟨51, [], [0]⟩, ⟨52, [], [1]⟩, ⟨53, [5, 6], []⟩] [SP.eq (.slice (some ⟨w.heap.size, 0, none⟩) (xs.length + ys.length) C), SP.eq (.int .i64 k), SP.eq (.int .i64 (ys.length : Int)), SP.eq (.int .i64 (IntKind.i64.wrap ((k : Int) + (ys.length : Int)))), SP.eq (.slice (some ⟨w.heap.size, (k + ys.length) * 2, none⟩) (xs.length - k) (C - (k + ys.length))), SP.eq (.slice (some ⟨g, 0, none⟩) xs.length c), SP.eq (.int .i64 k), SP.eq (.slice (some ⟨g, k * 2, none⟩) (xs.length - k) (c - k))] rfl rfl rfl rfl ⟨?_, ?_, ?_, ?_, ?_, ?_, ?_, ?_, trivial⟩ ?_
    · intro a w3 hfr hN hds hb hd
      exact op_plain Θ_ok ⟨hN, hds, rows_get (E := [(9, .slice (some ⟨w.heap.size, 0, none⟩) (xs.length + ys.length) C)]) ⟨hb 9 rfl _ rfl, trivial⟩⟩ rfl rfl rfl rfl rfl
    · intro a w3 hfr hN hds hb hd
      exact op_plain Θ_ok ⟨hN, hds, rows_get (E := [(1, .int .i64 k)]) ⟨hb 1 rfl _ rfl, trivial⟩⟩ rfl rfl rfl rfl rfl
    · intro a w3 hfr hN hds hb hd
      exact op_plain Θ_ok ⟨hN, hds, rows_get (E := [(7, .int .i64 (ys.length : Int))]) ⟨hb 7 rfl _ rfl, trivial⟩⟩ rfl rfl rfl rfl rfl
    · intro a w3 hfr hN hds hb hd
      exact op_plain Θ_ok ⟨hN, hds, rows_get (E := [(47, .int .i64 k), (48, .int .i64 (ys.length : Int))]) ⟨(hd 1 rfl _ _ rfl rfl), (hd 2 rfl _ _ rfl rfl), trivial⟩⟩ rfl rfl rfl rfl rfl
    · intro a w3 hfr hN hds hb hd
      have h49 : a.tmps.getD 49 undef = .int .i64 ((k + ys.length : Nat) : Int) := by rw [← hw3]; exact hd 3 rfl _ _ rfl rfl
      refine (op_cutlo Θ_ok ⟨hN, hds, rows_get (E := [(46, .slice (some ⟨w.heap.size, 0, none⟩) (xs.length + ys.length) C), (49, .int .i64 ((k + ys.length : Nat) : Int))]) ⟨(hd 0 rfl _ _ rfl rfl), h49, trivial⟩⟩ rfl rfl rfl rfl rfl rfl rfl rfl rfl hCge (by omega)).weaken (fun u w4 ⟨hu, hf⟩ => ⟨?_, hf⟩)
      rw [hu, if_neg (by omega), Option.map_some, add_at, Nat.zero_add, show xs.length + ys.length - (k + ys.length) = xs.length - k by omega]
      rfl
    · intro a w3 hfr hN hds hb hd
      exact op_plain Θ_ok ⟨hN, hds, rows_get (E := [(0, .slice (some ⟨g, 0, none⟩) xs.length c)]) ⟨hb 0 rfl _ rfl, trivial⟩⟩ rfl rfl rfl rfl rfl
    · intro a w3 hfr hN hds hb hd
      exact op_plain Θ_ok ⟨hN, hds, rows_get (E := [(1, .int .i64 k)]) ⟨hb 1 rfl _ rfl, trivial⟩⟩ rfl rfl rfl rfl rfl
    · intro a w3 hfr hN hds hb hd
      refine (op_cutlo Θ_ok ⟨hN, hds, rows_get (E := [(51, .slice (some ⟨g, 0, none⟩) xs.length c), (52, .int .i64 k)]) ⟨(hd 5 rfl _ _ rfl rfl), (hd 6 rfl _ _ rfl rfl), trivial⟩⟩ rfl rfl rfl rfl rfl rfl rfl rfl rfl hnc' hkn).weaken (fun u w4 ⟨hu, hf⟩ => ⟨?_, hf⟩)
      rw [hu, if_neg (by omega), Option.map_some, add_at, Nat.zero_add]
      rfl
    intro a w3 f3 hN hds hb hr
    have hG3 : w3.heap[w.heap.size]? = some (.cells row2 31 (0, 0)) := (f3.block _ (Array.getElem?_eq_some_iff.1 hG2).1 (by simp)).trans hG2
    have hF3 : Fr [] w w3 := hF2.trans f3
    refine wo_go (E := [(9, .slice (some ⟨w.heap.size, 0, none⟩) (xs.length + ys.length) C), (50, .slice (some ⟨w.heap.size, (k + ys.length) * 2, none⟩) (xs.length - k) (C - (k + ys.length))), (53, .slice (some ⟨g, k * 2, none⟩) (xs.length - k) (c - k))]) (l := [8]) hN hds ⟨hb 9 _ rfl rfl, (hr 4 _ _ rfl rfl), (hr 7 _ _ rfl rfl), trivial⟩ rfl ?_
    have hgl : g < w.heap.size := (Array.getElem?_eq_some_iff.1 hh).1
    have hr2sz : row2.size = C * 2 := by rw [← Array.length_toList, hZ21, List.length_append, List.length_append, htl, hus, hZ22]; omega
    have hdl : (cs.drop (k * 2)).length = (xs.length - k) * 2 := by rw [List.length_drop]; omega
    refine wo_copyv Θ_ok rfl rfl rfl rfl rfl rfl rfl rfl rfl rfl hG3 ((hcsAt (k * 2)).keep (hF3.block _ hgl (by simp))) hdl (fun u hu => hone u (List.mem_of_mem_drop hu)) (Nat.le_refl _) (by omega) (fun z => ?_)
    rw [hZ21, List.take_left' (by rw [List.length_append, htl, hus, hkm])]
    generalize hr3 : (cs.take (k * 2) ++ us ++ cs.drop (k * 2) ++ List.drop ((k + ys.length) * 2 + (cs.drop (k * 2)).length) (cs.take (k * 2) ++ us ++ Z2)).toArray = row3
    obtain ⟨Z3, hZ31, hZ32⟩ : ∃ Z3 : List Value, row3.toList = cs.take (k * 2) ++ us ++ cs.drop (k * 2) ++ Z3 ∧ Z3.length = C * 2 - (xs.length + ys.length) * 2 := by
      refine ⟨_, by rw [← hr3], ?_⟩
      simp only [List.length_drop, List.length_append, htl, hZ22, hus, hcl]
      omega
    clear hr3
    have hf4 := setRow_fr (new := row3) hG3
    have hG4 : (w3.setRow w.heap.size row3).heap[w.heap.size]? = some (.cells row3 31 (0, 0)) := setRow_heap w3 _ _ _ _ _ hG3
    generalize w3.setRow w.heap.size row3 = w4 at *
    have hF4 : Fr [] w w4 := hF3.own hf4 (Nat.le_refl _)
    refine wo_nil ?_
    refine wq_seq ?_
    refine wc_seq ?_
    refine wc_region (l := [0, 1]) rfl ?_
    refine wo_seg Θ_ok [0, 1] [(6, .slice (some ⟨w.heap.size, 0, none⟩) (xs.length + ys.length) C)] rfl ⟨rfl, trivial⟩ ?_
    refine wo_nil ?_
    refine wq_seq ?_
    refine wc_ret ?_
    refine wq_then_ret (wq_ret rfl ⟨_, w.heap.size :: O, rfl, ?_⟩)
    have hzl : (xs.take k ++ ys ++ xs.drop k).length = xs.length + ys.length := by simp only [List.length_append, List.length_take, List.length_drop]; omega
    have htr : Tr O w (w.heap.size :: O) w4 := tr_box hF4 (Nat.le_refl _)
    have := grew' (T := tGName) (e := 31) (B := B) (v := .slice (some ⟨g, 0, none⟩) xs.length c) (zs := xs.take k ++ ys ++ xs.drop k) (cap := C) (cs := cs.take (k * 2) ++ us ++ cs.drop (k * 2)) hO (Nat.le_refl _) hB hF4 hG4 (by rw [hT, ← Array.length_toList, hZ31]; simp only [List.length_append, htl, hus, hdl, hZ32]; omega) hCm (by omega)
      ((((hrep.take k).app hru).app (hrep.drop k)).tr htr) (by rw [hzl, hT, hZ31]; exact List.take_left' (by simp only [List.length_append, htl, hus, hdl]; omega))
    rw [hzl] at this
    exact this
  · -- in place
    refine wc_known_false rfl (by simp; omega) ?_
    refine wc_skip ?_
    refine wq_seq ?_
    have hroomS : (xs.length + ys.length) * 2 ≤ c * 2 := Nat.mul_le_mul_right _ (by omega)
    have hsplit : (xs.length + ys.length) * 2 = k * 2 + ys.length * 2 + (xs.length - k) * 2 := by rw [← Nat.add_mul, ← Nat.add_mul]; congr 1; omega
    have hkm : (k + ys.length) * 2 = k * 2 + ys.length * 2 := Nat.add_mul _ _ _
    have hnkS : (xs.length - k) * 2 + k * 2 = xs.length * 2 := by rw [← Nat.add_mul]; congr 1; omega
    have hdl : (cs.drop (k * 2)).length = (xs.length - k) * 2 := by rw [List.length_drop]; omega
    have htl : (cs.take (k * 2)).length = k * 2 := by rw [List.length_take]; omega
    refine wc_seq ?_
    refine wc_region (l := [0, 1, 2, 3, 4, 5]) rfl ?_
    refine wo_seg Θ_ok [0, 1, 2, 3] [(1, .int .i64 k), (2, .slice (some ad) ys.length cu), (7, .int .i64 (ys.length : Int)), (8, .int .i64 (xs.length : Int)), (56, .slice (some ⟨g, 0, none⟩) xs.length c), (59, .int .i64 (IntKind.i64.wrap ((xs.length : Int) + (ys.length : Int))))] rfl ⟨rfl, rfl, rfl, rfl, rfl, rfl, trivial⟩ ?_
    rw [hwnm]
    refine wo_cuthi Θ_ok rfl rfl rfl rfl rfl rfl rfl rfl rfl rfl hnc' (by omega) ?_
    refine wo_seg Θ_ok [5] [(0, .slice (some ⟨g, 0, none⟩) (xs.length + ys.length) c), (1, .int .i64 k), (2, .slice (some ad) ys.length cu), (7, .int .i64 (ys.length : Int)), (8, .int .i64 (xs.length : Int))] rfl ⟨rfl, rfl, rfl, rfl, rfl, trivial⟩ ?_
    refine wo_nil ?_
    refine wq_seq ?_
    refine wc_seq ?_
    refine wc_seq ?_
    refine wc_region (l := [0, 1, 2, 3, 4, 5, 6, 7]) rfl ?_
    have hw3 : IntKind.i64.wrap ((k : Int) + (ys.length : Int)) = ((k + ys.length : Nat) : Int) := by rw [IntKind.wrap_i64]; unfold maxLen at *; omega
    refine wo_seg Θ_ok [0, 1, 2, 3, 4] [(0, .slice (some ⟨g, 0, none⟩) (xs.length + ys.length) c), (1, .int .i64 k), (2, .slice (some ad) ys.length cu), (7, .int .i64 (ys.length : Int)), (8, .int .i64 (xs.length : Int)), (61, .slice (some ad) ys.length cu), (62, .slice (some ⟨g, 0, none⟩) (xs.length + ys.length) c), (65, .int .i64 (IntKind.i64.wrap ((k : Int) + (ys.length : Int))))] rfl ⟨rfl, rfl, rfl, rfl, rfl, rfl, rfl, rfl, trivial⟩ ?_
    rw [hw3]
    refine wo_cutlo Θ_ok rfl rfl rfl rfl rfl rfl rfl rfl rfl rfl (by omega) (by omega) ?_
    rw [if_neg (by omega), Option.map_some, add_at, Nat.zero_add]
    refine wo_overlaps Θ_ok rfl rfl rfl rfl rfl Try.func54 rfl rfl rfl rfl rfl rfl rfl rfl rfl hadg hhu hh (by rw [hcs]; omega) ?_
    refine wo_seg Θ_ok [7] [(0, .slice (some ⟨g, 0, none⟩) (xs.length + ys.length) c), (1, .int .i64 k), (2, .slice (some ad) ys.length cu), (7, .int .i64 (ys.length : Int)), (68, .bool (!false))] rfl ⟨rfl, rfl, rfl, rfl, rfl, trivial⟩ ?_
    refine wo_nil ?_
    refine wq_seq ?_
    refine wc_known_true rfl rfl ?_
    refine wc_seq ?_
    refine wc_drawT mixed [⟨69, [], [0]⟩, ⟨70, [], [1]⟩, ⟨71, [], [7]⟩, ⟨72, [1, 2], []⟩, ⟨73, [0, 3], []⟩, ⟨74, [], [0]⟩, ⟨75, [], [1]⟩, ⟨76, [5, 6], []⟩] [SP.eq (.slice (some ⟨g, 0, none⟩) (xs.length + ys.length) c), SP.eq (.int .i64 k), SP.eq (.int .i64 (ys.length : Int)), SP.eq (.int .i64 (IntKind.i64.wrap ((k : Int) + (ys.length : Int)))), SP.eq (.slice (some ⟨g, (k + ys.length) * 2, none⟩) (xs.length - k) (c - (k + ys.length))), SP.eq (.slice (some ⟨g, 0, none⟩) (xs.length + ys.length) c), SP.eq (.int .i64 k), SP.eq (.slice (some ⟨g, k * 2, none⟩) (xs.length + ys.length - k) (c - k))] rfl rfl rfl rfl ⟨?_, ?_, ?_, ?_, ?_, ?_, ?_, ?_, trivial⟩ ?_
    · intro a w3 hfr hN hds hb hd
      exact op_plain Θ_ok ⟨hN, hds, rows_get (E := [(0, .slice (some ⟨g, 0, none⟩) (xs.length + ys.length) c)]) ⟨hb 0 rfl _ rfl, trivial⟩⟩ rfl rfl rfl rfl rfl
    · intro a w3 hfr hN hds hb hd
      exact op_plain Θ_ok ⟨hN, hds, rows_get (E := [(1, .int .i64 k)]) ⟨hb 1 rfl _ rfl, trivial⟩⟩ rfl rfl rfl rfl rfl
    · intro a w3 hfr hN hds hb hd
      exact op_plain Θ_ok ⟨hN, hds, rows_get (E := [(7, .int .i64 (ys.length : Int))]) ⟨hb 7 rfl _ rfl, trivial⟩⟩ rfl rfl rfl rfl rfl
    · intro a w3 hfr hN hds hb hd
      exact op_plain Θ_ok ⟨hN, hds, rows_get (E := [(70, .int .i64 k), (71, .int .i64 (ys.length : Int))]) ⟨(hd 1 rfl _ _ rfl rfl), (hd 2 rfl _ _ rfl rfl), trivial⟩⟩ rfl rfl rfl rfl rfl
    · intro a w3 hfr hN hds hb hd
      have h72 : a.tmps.getD 72 undef = .int .i64 ((k + ys.length : Nat) : Int) := by rw [← hw3]; exact hd 3 rfl _ _ rfl rfl
      refine (op_cutlo Θ_ok ⟨hN, hds, rows_get (E := [(69, .slice (some ⟨g, 0, none⟩) (xs.length + ys.length) c), (72, .int .i64 ((k + ys.length : Nat) : Int))]) ⟨(hd 0 rfl _ _ rfl rfl), h72, trivial⟩⟩ rfl rfl rfl rfl rfl rfl rfl rfl rfl (by omega) (by omega)).weaken (fun u w4 ⟨hu, hf⟩ => ⟨?_, hf⟩)
      rw [hu, if_neg (by omega), Option.map_some, add_at, Nat.zero_add, show xs.length + ys.length - (k + ys.length) = xs.length - k by omega]
      rfl
    · intro a w3 hfr hN hds hb hd
      exact op_plain Θ_ok ⟨hN, hds, rows_get (E := [(0, .slice (some ⟨g, 0, none⟩) (xs.length + ys.length) c)]) ⟨hb 0 rfl _ rfl, trivial⟩⟩ rfl rfl rfl rfl rfl
    · intro a w3 hfr hN hds hb hd
      exact op_plain Θ_ok ⟨hN, hds, rows_get (E := [(1, .int .i64 k)]) ⟨hb 1 rfl _ rfl, trivial⟩⟩ rfl rfl rfl rfl rfl
    · intro a w3 hfr hN hds hb hd
      refine (op_cutlo Θ_ok ⟨hN, hds, rows_get (E := [(74, .slice (some ⟨g, 0, none⟩) (xs.length + ys.length) c), (75, .int .i64 k)]) ⟨(hd 5 rfl _ _ rfl rfl), (hd 6 rfl _ _ rfl rfl), trivial⟩⟩ rfl rfl rfl rfl rfl rfl rfl rfl rfl (by omega) (by omega)).weaken (fun u w4 ⟨hu, hf⟩ => ⟨?_, hf⟩)
      rw [hu, if_neg (by omega), Option.map_some, add_at, Nat.zero_add]
      rfl
    intro a w3 f3 hN hds hb hr
    have hG3 : w3.heap[g]? = some (.cells cur 31 (0, 0)) := (f3.block _ (Array.getElem?_eq_some_iff.1 hh).1 (by simp)).trans hh
    refine wo_go (E := [(0, .slice (some ⟨g, 0, none⟩) (xs.length + ys.length) c), (1, .int .i64 k), (2, .slice (some ad) ys.length cu), (73, .slice (some ⟨g, (k + ys.length) * 2, none⟩) (xs.length - k) (c - (k + ys.length))), (76, .slice (some ⟨g, k * 2, none⟩) (xs.length + ys.length - k) (c - k))]) (l := [8]) hN hds ⟨hb 0 _ rfl rfl, hb 1 _ rfl rfl, hb 2 _ rfl rfl, (hr 4 _ _ rfl rfl), (hr 7 _ _ rfl rfl), trivial⟩ rfl ?_
    have hgl : g < w.heap.size := (Array.getElem?_eq_some_iff.1 hh).1
    have hadl : ad.block < w.heap.size := (Array.getElem?_eq_some_iff.1 hhu).1
    refine wo_copyd Θ_ok rfl rfl rfl rfl rfl rfl rfl rfl rfl rfl hG3 ((hcsAt (k * 2)).keep (f3.block _ hgl (by simp))) hdl (fun u hu => hone u (List.mem_of_mem_drop hu)) (by omega) (by omega) (fun z => ?_)
    generalize hr3 : (cur.toList.take ((k + ys.length) * 2) ++ cs.drop (k * 2) ++ List.drop ((k + ys.length) * 2 + (cs.drop (k * 2)).length) cur.toList).toArray = row3
    have hcurl : cur.toList.length = c * 2 := by rw [Array.length_toList, hcs]
    obtain ⟨Y, Z3, hZ31, hY, hZ32⟩ : ∃ Y Z3 : List Value, row3.toList = cs.take (k * 2) ++ Y ++ cs.drop (k * 2) ++ Z3 ∧ Y.length = ys.length * 2 ∧ Z3.length = c * 2 - (xs.length + ys.length) * 2 := by
      refine ⟨(cur.toList.take ((k + ys.length) * 2)).drop (k * 2), List.drop ((k + ys.length) * 2 + (cs.drop (k * 2)).length) cur.toList, ?_, ?_, ?_⟩
      · rw [← hr3]
        have e : cs.take (k * 2) = (cur.toList.take ((k + ys.length) * 2)).take (k * 2) := by
          rw [← hct, List.take_take, List.take_take]; congr 1; omega
        rw [e, List.take_append_drop]
      · rw [List.length_drop, List.length_take, hcurl]; omega
      · rw [List.length_drop, hcurl, hdl]; omega
    clear hr3
    have hf4 := setRow_fr (new := row3) hG3
    have hG4 : (w3.setRow g row3).heap[g]? = some (.cells row3 31 (0, 0)) := setRow_heap w3 _ _ _ _ _ hG3
    generalize w3.setRow g row3 = w4 at *
    have hF4 : Fr [g] w w4 := (f3.more (by simp)).trans hf4
    refine wo_nil ?_
    refine wq_seq ?_
    refine wc_seq ?_
    refine wc_region (l := [0, 1, 2, 3, 4]) rfl ?_
    refine wo_seg Θ_ok [0, 1] [(0, .slice (some ⟨g, 0, none⟩) (xs.length + ys.length) c), (2, .slice (some ad) ys.length cu), (78, .slice (some ⟨g, 0, none⟩) (xs.length + ys.length) c), (79, .int .i64 k)] rfl ⟨rfl, rfl, rfl, rfl, trivial⟩ ?_
    refine wo_cutlo Θ_ok rfl rfl rfl rfl rfl rfl rfl rfl rfl rfl (by omega) (by omega) ?_
    rw [if_neg (by omega), Option.map_some, add_at, Nat.zero_add]
    refine wo_seg Θ_ok [3] [(0, .slice (some ⟨g, 0, none⟩) (xs.length + ys.length) c), (80, .slice (some ⟨g, k * 2, none⟩) (xs.length + ys.length - k) (c - k)), (81, .slice (some ad) ys.length cu)] rfl ⟨rfl, rfl, rfl, trivial⟩ ?_
    have hr3sz : row3.size = c * 2 := by rw [← Array.length_toList, hZ31]; simp only [List.length_append, htl, hY, hdl, hZ32]; omega
    refine wo_copyv Θ_ok rfl rfl rfl rfl rfl rfl rfl rfl rfl rfl hG4 (hcu.keep (hF4.block _ hadl (by simp [hadg]))) hus hru.one (by omega) (by omega) (fun z => ?_)
    have e5 : (row3.toList.take (k * 2) ++ us ++ row3.toList.drop (k * 2 + us.length)) = cs.take (k * 2) ++ us ++ (cs.drop (k * 2) ++ Z3) := by
      rw [hZ31, List.append_assoc (cs.take (k * 2) ++ Y), List.append_assoc (cs.take (k * 2)), List.take_left' htl, ← List.append_assoc (cs.take (k * 2)), List.drop_left' (by rw [List.length_append, htl, hY, hus])]
    rw [e5]
    generalize hr5 : (cs.take (k * 2) ++ us ++ (cs.drop (k * 2) ++ Z3)).toArray = row5
    have hZ51 : row5.toList = cs.take (k * 2) ++ us ++ cs.drop (k * 2) ++ Z3 := by rw [← hr5, ← List.append_assoc]
    clear hr5
    have hf6 := setRow_fr (new := row5) hG4
    have hG6 : (w4.setRow g row5).heap[g]? = some (.cells row5 31 (0, 0)) := setRow_heap w4 _ _ _ _ _ hG4
    generalize w4.setRow g row5 = w6 at *
    have hF6 : Fr [g] w w6 := hF4.trans hf6
    refine wo_nil ?_
    refine wq_seq ?_
    refine wc_seq ?_
    refine wc_region (l := [0, 1]) rfl ?_
    refine wo_seg Θ_ok [0, 1] [(6, .slice (some ⟨g, 0, none⟩) (xs.length + ys.length) c)] rfl ⟨rfl, trivial⟩ ?_
    refine wo_nil ?_
    refine wq_seq ?_
    refine wc_ret ?_
    refine wq_then_ret (wq_ret rfl ⟨_, O, rfl, ?_⟩)
    have hzl : (xs.take k ++ ys ++ xs.drop k).length = xs.length + ys.length := by simp only [List.length_append, List.length_take, List.length_drop]; omega
    have htr : Tr O w O w6 := hF6.tr (one_in hgO)
    have := wrote' (T := tGName) (e := 31) (B := B) (n0 := xs.length) (zs := xs.take k ++ ys ++ xs.drop k) (cap := c) (cs := cs.take (k * 2) ++ us ++ cs.drop (k * 2)) hO hgO hBg hF6 hG6 (by rw [hT, ← Array.length_toList, hZ51]; simp only [List.length_append, htl, hus, hdl, hZ32]; omega) hcm' (by omega)
      ((((hrep.take k).app hru).app (hrep.drop k)).tr htr) (by rw [hzl, hT, hZ51]; exact List.take_left' (by simp only [List.length_append, htl, hus, hdl]; omega))
    rw [hzl] at this
    exact this

set_option maxRecDepth 100000 in
section
variable {P : Program} {r : Option Nat} {N : Nat} {Θ : Tys} {ops : Array Oper} {Q : Exit → Act → World → Prop} {l : List Nat} {E : Env} {ds : List Deferred} {w : World} {i d : Nat} {o : Oper} {O : List Nat}
theorem op_cuthi (hΘ : Θ.ok P) {a : Act} (ha : Has N E ds a) (ho : ops[i]? = some o) (hw : want N ops E o.guard = some true) (hd : o.dst = some d) {t : Nat} {x y : Operand} {ti te : TI} (hop : o.op = .slice t x none (some y) none) (ht : Θ.get t = some ti)
    (h5 : ti.tag = 5) (hte : Θ.get ti.e = some te) {ad : Addr} {n c hi : Nat} {k : IntKind} (hx : ev E x = some (.slice (some ad) n c)) (hy : ev E y = some (.int k hi)) (hnc : n ≤ c) (hhi : hi ≤ c) :
    OpK P r ops Q i d a w (fun u w' => u = .slice (some ad) hi c ∧ Fr [] w w') := by
  refine op_of ho (want_ok ha hw) hd (b := true) (v := .slice (some ad) hi c) (w' := w) ?_ ⟨rfl, Fr.refl _ _⟩
  simp only [if_true]
  refine ⟨by rw [hop]; simp, ?_⟩
  simp only [execOp, hop, Sem.run_bind, ha.eval hx, Option.map_some, Option.map_none, ha.eval hy, run_cuthi hΘ ht h5 hte hnc hhi]
  rfl
theorem wo_cutlh (hΘ : Θ.ok P) (ho : ops[i]? = some o) (hw : want N ops E o.guard = some true) (hd : o.dst = some d) (hN : Nat.blt d N = true) {t : Nat} {x y z : Operand} {ti te : TI} (hop : o.op = .slice t x (some y) (some z) none) (ht : Θ.get t = some ti)
    (h5 : ti.tag = 5) (hte : Θ.get ti.e = some te) {ad : Addr} {n c lo hi : Nat} {k k' : IntKind} (hx : ev E x = some (.slice (some ad) n c)) (hy : ev E y = some (.int k lo)) (hz : ev E z = some (.int k' hi)) (hnc : n ≤ c) (hlo : lo ≤ hi) (hhi : hi ≤ c) (hlc : lo < c)
    (h : WO P r N ops Q l ((d, .slice (some (ad.add (lo * te.size))) (hi - lo) (c - lo)) :: E) ds w) : WO P r N ops Q (i :: l) E ds w := by
  have hu := (hΘ.fits ht).slice h5
  have hb := run_bounds (P := P) (w := w) (b := true) (n := n) (c := c) (lo := some (k, (lo : Int))) (hi := some (k', (hi : Int))) (mx := none) hnc (by simp) (by simp; omega) (by simp; omega) (by simp) (by simp)
  simp only [Option.map_some, Option.map_none, Option.getD_some, Option.getD_none, intV, Int.toNat_natCast] at hb
  refine wo_value ho hw hd hN (by rw [hop]; simp) (fun a ha => ?_) h
  simp only [execOp, hop, Sem.run_bind, ha.eval hx, Option.map_some, Option.map_none, ha.eval hy, ha.eval hz, Instr.sliceAt, run_underlying hu, Result.andThen_ok, Instr.slice, hb, sizeOf_run (hΘ.fits hte), Sem.run_pure]
  rw [if_neg (by omega)]
/-- append where there is room -/
theorem wo_appIn (hΘ : Θ.ok P) (ho : ops[i]? = some o) (hw : want N ops E o.guard = some true) (hd : o.dst = some d) (hN : Nat.blt d N = true) {t : Nat} {x y : Operand} {ti te : TI}
    (hop : o.op = .call { callee := .builtin .append, args := #[x, y], argTypes := #[t, t] }) (ht : Θ.get t = some ti) (h5 : ti.tag = 5) (hte : Θ.get ti.e = some te) {g k c m c' e : Nat} {ad : Addr} {cur : Array Value} {us : List Value}
    (hx : ev E x = some (.slice (some ⟨g, 0, none⟩) k c)) (hy : ev E y = some (.slice (some ad) m c')) (hg : w.heap[g]? = some (.cells cur e (0, 0))) (hus : CellsAt w ad us) (hul : us.length = m * te.size) (h1 : ∀ u ∈ us, u.oneCell' = true) (hfit : k + m ≤ c) (hcs : (k + m) * te.size ≤ cur.size)
    (h : ∀ (W : World) (new : Array Value), Fr [g] w W → W.heap[g]? = some (.cells new e (0, 0)) → new = (cur.toList.take (k * te.size) ++ us ++ cur.toList.drop (k * te.size + us.length)).toArray → WO P r N ops Q l ((d, .slice (some ⟨g, 0, none⟩) (k + m) c) :: E) ds W) : WO P r N ops Q (i :: l) E ds w := by
  have hu5 := (hΘ.fits ht).slice h5
  obtain ⟨x', hx', hs, hby, hzr⟩ := (hΘ.fits hte).info
  have hst := run_storeCells_at P g (k * te.size) e us 0 cur w hg (by rw [hul]; rw [Nat.add_mul] at hcs; omega) h1
  simp only [Nat.add_zero] at hst
  have hgo := h (w.setRow g (cur.toList.take (k * te.size) ++ us ++ cur.toList.drop (k * te.size + us.length)).toArray) _ (setRow_fr hg) (by simp only [World.setRow, Array.getElem?_modify, hg, if_true, Option.map_some]) rfl
  refine wo_value ho hw hd hN (by rw [hop]; simp) (fun a ha => ?_) hgo
  have hfc := run_firstCells_some (P := P) (w := w) te.size m ad m c' us hul hus
  have hrun : (Builtin.append_ #[t, t] o.type #[.slice (some ⟨g, 0, none⟩) k c, .slice (some ad) m c']).run P w = .ok (.slice (some ⟨g, 0, none⟩) (k + m) c) (w.setRow g (cur.toList.take (k * te.size) ++ us ++ cur.toList.drop (k * te.size + us.length)).toArray) := by
    simp [Builtin.append_, run_underlying hu5, sizeOf, typeInfo, hx', Builtin.lenOf, hs, hfc, hfit, add_at, hst]
  simp only [execOp, hop, Sem.run_bind, resolve, Sem.run_pure, Result.andThen_ok, invoke, builtin, List.map_toArray, List.map_cons, List.map_nil, ha.eval hx, ha.eval hy, hrun]
end
def np (z : GName) : Value × Value := (.int .u64 z.fName, .int .u64 z.fPid)
def nc (L : List GName) : List Value := pc (L.map np)
theorem nc_rep {O : List Nat} {w : World} : ∀ {L : List GName}, RepAll tGName O w (nc L) L
  | [] => rfl
  | z :: L => ⟨[.int .u64 z.fName, .int .u64 z.fPid], nc L, rfl, ⟨[.int .u64 z.fName], [.int .u64 z.fPid], rfl, rfl, rfl⟩, nc_rep⟩
theorem rep_nc {O : List Nat} {w : World} : ∀ {L : List GName} {cs : List Value}, RepAll tGName O w cs L → cs = nc L
  | [], _, h => h
  | z :: L, cs, ⟨c1, c2, h1, h2, h3⟩ => by
    rw [h1, rep_nc h3, tGName_rep h2]
    rfl
theorem nc_len (L : List GName) : (nc L).length = L.length * 2 := by rw [nc, pc_len, List.length_map]
theorem nc_take (L : List GName) (k : Nat) : (nc L).take (k * 2) = nc (L.take k) := by rw [nc, pc_take, nc, List.map_take]
theorem nc_drop (L : List GName) (k : Nat) : (nc L).drop (k * 2) = nc (L.drop k) := by rw [nc, pc_drop, nc, List.map_drop]
theorem nc_app (L M : List GName) : nc (L ++ M) = nc L ++ nc M := by rw [nc, List.map_append, pc_app]; rfl
theorem nc_one : ∀ {L : List GName} {u : Value}, u ∈ nc L → u.oneCell' = true := fun {L u} h => RepAll.one (nc_rep (O := []) (w := default) (L := L)) u h
set_option maxRecDepth 100000 in
set_option maxHeartbeats 4000000 in
theorem s_DeleteN_o {O : List Nat} {w : World} (hO : OB O w) {B : Nat} {v : Value} {xs : List GName} (hv : Go.Dc.Own tGName 31 B O w v xs) {i j : Int} {zs : List GName} (hz : s_DeleteN xs i j = some zs) :
    Calls Try.prog 38 #[v, .int .i64 i, .int .i64 j] w (GivesOwn tGName 31 B O w v zs) := by
  unfold s_DeleteN at hz
  split at hz
  case isFalse => cases hz
  rename_i hij
  cases hz
  obtain ⟨i, rfl⟩ : ∃ k : Nat, i = k := ⟨i.toNat, by omega⟩
  obtain ⟨j, rfl⟩ : ∃ k : Nat, j = k := ⟨j.toNat, by omega⟩
  simp only [Int.toNat_natCast] at *
  obtain ⟨A, c, rfl, hnc, hcm⟩ := hv.form
  have hdata : (Ty.slice tGName).is [] w (.slice A xs.length c) xs := hv.fown.data tGName_flat (fun _ _ h => by cases h)
  refine calls_of (args := [.slice A xs.length c, .int .i64 i, .int .i64 j]) (N := 33) Try.func38 rfl rfl rfl ?_
  refine wc_seq ?_
  refine wc_region (l := [0]) rfl ?_
  refine wo_seg Θ_ok [0] [(0, .slice A xs.length c), (1, .int .i64 i), (2, .int .i64 j)] rfl ⟨rfl, rfl, rfl, trivial⟩ ?_
  refine wo_nil ?_
  refine wq_seq ?_
  refine wc_seq ?_
  refine wc_region (l := [0, 1, 2, 3, 4, 5]) rfl ?_
  refine wo_seg Θ_ok [0, 1, 2, 3, 4] [(0, .slice A xs.length c), (1, .int .i64 i), (2, .int .i64 j), (8, .slice A xs.length c), (9, .int .i64 i), (10, .int .i64 j), (12, .int .i64 (xs.length : Int))] rfl ⟨rfl, rfl, rfl, rfl, rfl, rfl, rfl, trivial⟩ ?_
  refine wo_cut (l' := some (.i64, (i : Int))) (h' := some (.i64, (j : Int))) (m' := some (.i64, (xs.length : Int))) (ys := (xs.take j).drop i) Θ_ok rfl rfl rfl rfl rfl rfl rfl rfl rfl rfl rfl rfl rfl hdata (by
    simp only [Option.map_some]
    unfold cutx
    rw [if_pos (by simp; omega)]
    simp) (fun v1 h1 => ?_)
  refine wo_nil ?_
  refine wq_seq ?_
  refine wc_seq ?_
  refine wc_seq ?_
  refine wc_region (l := [0, 1, 2]) rfl ?_
  refine wo_seg Θ_ok [0, 1, 2] [(0, .slice A xs.length c), (1, .int .i64 i), (2, .int .i64 j), (16, .bool ((i : Int) == j))] rfl ⟨rfl, rfl, rfl, rfl, trivial⟩ ?_
  refine wo_nil ?_
  refine wq_seq ?_
  by_cases hij2 : i = j
  · subst hij2
    refine wc_known_true rfl (by simp) ?_
    refine wc_seq ?_
    refine wc_region (l := [0, 1]) rfl ?_
    refine wo_seg Θ_ok [0, 1] [(6, .slice A xs.length c)] rfl ⟨rfl, trivial⟩ ?_
    refine wo_nil ?_
    refine wq_seq ?_
    refine wc_ret ?_
    refine wq_then_ret (wq_ret rfl ⟨_, O, rfl, ?_⟩)
    rw [List.take_append_drop]
    exact ⟨hv, Tr.refl _ _, hO, Sub.refl _, fun _ _ _ => rfl, fun _ _ h => h⟩
  refine wc_known_false rfl (beq_eq_false_iff_ne.2 (by omega)) ?_
  refine wc_skip ?_
  refine wq_seq ?_
  -- the row
  obtain ⟨cs, ⟨hcl, hvv⟩, hrep⟩ := hv.ex
  rcases hvv with ⟨_, hl0⟩ | ⟨g, cap, cur, hvv, hBg, hh, hnc', hcm', hcs, hct⟩
  · omega
  injection hvv with hA hn2 hc2
  subst hA; subst hc2
  have hgO := hv.mem g rfl
  have hcs' := rep_nc hrep
  have hT2 : tGName.n = 2 := rfl
  rw [hT2] at hcs hct
  obtain ⟨R, hR⟩ : ∃ R, R = cur.toList.drop (xs.length * 2) := ⟨_, rfl⟩
  have hcurl : cur.toList = nc xs ++ R := by
    rw [hR, ← hcs', ← hct]
    exact (List.take_append_drop _ _).symm
  have hRl : xs.length * 2 + R.length = c * 2 := by
    have := congrArg List.length hcurl
    rw [Array.length_toList, hcs] at this
    simp only [List.length_append, nc_len] at this
    omega
  have hb : Blk w g 31 (nc xs ++ R) := by
    unfold Blk
    rw [← hcurl, Array.toArray_toList]
    exact hh
  refine wc_seq ?_
  refine wc_region (l := [0, 1, 2]) rfl ?_
  refine wo_seg Θ_ok [0, 1, 2] [(0, .slice (some ⟨g, 0, none⟩) xs.length c), (1, .int .i64 i), (2, .int .i64 j), (7, .int .i64 (xs.length : Int))] rfl ⟨rfl, rfl, rfl, rfl, trivial⟩ ?_
  refine wo_nil ?_
  refine wq_seq ?_
  refine wc_seq ?_
  refine wc_drawT mixed [⟨20, [], [0]⟩, ⟨21, [], [1]⟩, ⟨22, [0, 1], []⟩, ⟨23, [], [0]⟩, ⟨24, [], [2]⟩, ⟨25, [3, 4], []⟩] [SP.eq (.slice (some ⟨g, 0, none⟩) xs.length c), SP.eq (.int .i64 i), SP.eq (.slice (some ⟨g, 0, none⟩) i c), SP.eq (.slice (some ⟨g, 0, none⟩) xs.length c), SP.eq (.int .i64 j), SP.eq (.slice (if c = j then some ⟨g, 0, none⟩ else (some ⟨g, 0, none⟩ : Option Addr).map (·.add (j * 2))) (xs.length - j) (c - j))] rfl rfl rfl rfl ⟨?_, ?_, ?_, ?_, ?_, ?_, trivial⟩ ?_
  · intro a w2 hfr hN hds hb hd
    exact op_plain Θ_ok ⟨hN, hds, rows_get (E := [(0, .slice (some ⟨g, 0, none⟩) xs.length c)]) ⟨hb 0 rfl _ rfl, trivial⟩⟩ rfl rfl rfl rfl rfl
  · intro a w2 hfr hN hds hb hd
    exact op_plain Θ_ok ⟨hN, hds, rows_get (E := [(1, .int .i64 i)]) ⟨hb 1 rfl _ rfl, trivial⟩⟩ rfl rfl rfl rfl rfl
  · intro a w2 hfr hN hds hb hd
    exact op_cuthi (n := xs.length) (c := c) (hi := i) Θ_ok ⟨hN, hds, rows_get (E := [(20, .slice (some ⟨g, 0, none⟩) xs.length c), (21, .int .i64 i)]) ⟨(hd 0 rfl _ _ rfl rfl), (hd 1 rfl _ _ rfl rfl), trivial⟩⟩ rfl rfl rfl rfl rfl rfl rfl rfl rfl hnc' (by omega)
  · intro a w2 hfr hN hds hb hd
    exact op_plain Θ_ok ⟨hN, hds, rows_get (E := [(0, .slice (some ⟨g, 0, none⟩) xs.length c)]) ⟨hb 0 rfl _ rfl, trivial⟩⟩ rfl rfl rfl rfl rfl
  · intro a w2 hfr hN hds hb hd
    exact op_plain Θ_ok ⟨hN, hds, rows_get (E := [(2, .int .i64 j)]) ⟨hb 2 rfl _ rfl, trivial⟩⟩ rfl rfl rfl rfl rfl
  · intro a w2 hfr hN hds hb hd
    refine (op_cutlo (A := some ⟨g, 0, none⟩) (n := xs.length) (c := c) (lo := j) Θ_ok ⟨hN, hds, rows_get (E := [(23, .slice (some ⟨g, 0, none⟩) xs.length c), (24, .int .i64 j)]) ⟨(hd 3 rfl _ _ rfl rfl), (hd 4 rfl _ _ rfl rfl), trivial⟩⟩ rfl rfl rfl rfl rfl rfl rfl rfl rfl hnc' (by omega)).weaken (fun u w3 hh => ?_)
    exact hh
  intro a w3 f3 hN hds hbs hr
  have hb3 := hb.fr0 f3
  obtain ⟨ad, had, hcells⟩ : ∃ ad, (if c = j then some ⟨g, 0, none⟩ else (some ⟨g, 0, none⟩ : Option Addr).map (·.add (j * 2))) = some ad ∧ CellsAt w3 ad (nc (xs.drop j)) := by
    by_cases hcj : c = j
    · refine ⟨⟨g, 0, none⟩, by rw [if_pos hcj], ?_⟩
      rw [List.drop_eq_nil_of_le (by omega)]
      intro k u hk
      simp [nc, pc] at hk
    · refine ⟨⟨g, j * 2, none⟩, by rw [if_neg hcj, Option.map_some, add_at, Nat.zero_add], ?_⟩
      intro k u hk
      rw [add_at, hb3.cell]
      rw [← nc_drop, List.getElem?_drop] at hk
      have hlt := (List.getElem?_eq_some_iff.1 hk).1
      rw [List.getElem?_append_left hlt]
      exact hk
  rw [had] at hr
  refine wo_go (E := [(1, .int .i64 i), (2, .int .i64 j), (7, .int .i64 (xs.length : Int)), (22, .slice (some ⟨g, 0, none⟩) i c), (25, .slice (some ad) (xs.length - j) (c - j))]) (l := [6, 7]) hN hds ⟨hbs 1 _ rfl rfl, hbs 2 _ rfl rfl, hbs 7 _ rfl rfl, (hr 2 _ _ rfl rfl), (hr 5 _ _ rfl rfl), trivial⟩ rfl ?_
  have hdl : (nc (xs.drop j)).length = (xs.length - j) * 2 := by rw [nc_len, List.length_drop]
  refine wo_appIn Θ_ok rfl rfl rfl rfl rfl rfl rfl rfl rfl rfl hb3 hcells hdl (fun u hu => nc_one hu) (by omega) (by simp only [List.size_toArray, List.length_append, nc_len]; show (i + (xs.length - j)) * 2 ≤ _; omega) (fun w4 new hf4 hh4 hnew => ?_)
  have hn4 : new.toList = nc (xs.take i ++ xs.drop j) ++ (nc xs ++ R).drop (i * 2 + (xs.length - j) * 2) := by
    rw [hnew]
    simp only [List.toList_toArray]
    rw [hdl, nc_app, List.append_assoc, List.append_assoc]
    congr 1
    show List.take (i * 2) (nc xs ++ R) = _
    rw [List.take_append_of_le_length (by rw [nc_len]; omega), nc_take]
  have hzl : (xs.take i ++ xs.drop j).length = i + (xs.length - j) := by simp; omega
  refine wo_seg Θ_ok [7] [(0, .slice (some ⟨g, 0, none⟩) (i + (xs.length - j)) c), (1, .int .i64 i), (2, .int .i64 j), (7, .int .i64 (xs.length : Int))] rfl ⟨rfl, rfl, rfl, rfl, trivial⟩ ?_
  refine wo_nil ?_
  refine wq_seq ?_
  refine wc_seq ?_
  refine wc_region (l := [0, 1, 2, 3, 4, 5]) rfl ?_
  refine wo_seg Θ_ok [0, 1, 2, 3] [(0, .slice (some ⟨g, 0, none⟩) (i + (xs.length - j)) c), (27, .slice (some ⟨g, 0, none⟩) (i + (xs.length - j)) c), (29, .int .i64 ((i + (xs.length - j) : Nat) : Int)), (30, .int .i64 (xs.length : Int))] rfl ⟨rfl, rfl, rfl, rfl, trivial⟩ ?_
  refine wo_cutlh (n := i + (xs.length - j)) (c := c) (lo := i + (xs.length - j)) (hi := xs.length) Θ_ok rfl rfl rfl rfl rfl rfl rfl rfl rfl rfl rfl (by omega) (by omega) hnc' (by omega) ?_
  obtain ⟨q, hq⟩ : ∃ q, xs.length - (i + (xs.length - j)) = q + 1 := ⟨xs.length - (i + (xs.length - j)) - 1, by omega⟩
  rw [hq, add_at, Nat.zero_add]
  have hns4 : new.size = c * 2 := by
    rw [← Array.length_toList, hn4]
    simp only [List.length_append, List.length_drop, nc_len, List.length_take]
    omega
  refine wo_clearG (k := 2) Θ_ok rfl rfl rfl rfl rfl rfl rfl rfl hh4 rfl (fun u hu => zero2 rfl rfl hu) (by rw [hns4]; show (i + (xs.length - j)) * 2 + (q + 1) * 2 ≤ c * 2; omega) (fun w5 new2 hf5 hh5 hnew2 => ?_)
  have hn5 : new2.toList = nc (xs.take i ++ xs.drop j) ++ ((Builtin.zeroCells (Value.agg #[.int .u64 0, .int .u64 0]).cells (q + 1)).toList ++ new.toList.drop ((i + (xs.length - j)) * 2 + (q + 1) * 2)) := by
    rw [hnew2]
    simp only [List.toList_toArray, List.append_assoc]
    congr 1
    show List.take ((i + (xs.length - j)) * 2) new.toList = _
    rw [hn4]
    exact List.take_left' (by rw [nc_len, hzl])
  have hns5 : new2.size = c * 2 := by
    rw [← Array.length_toList, hn5]
    simp only [List.length_append, List.length_drop, nc_len, Array.length_toList, size_zeroCells, hns4, List.length_take]
    show _ + ((q + 1) * 2 + _) = _
    omega
  refine wo_nil ?_
  refine wq_seq ?_
  refine wc_seq ?_
  refine wc_region (l := [0, 1]) rfl ?_
  refine wo_seg Θ_ok [0, 1] [(6, .slice (some ⟨g, 0, none⟩) (i + (xs.length - j)) c)] rfl ⟨rfl, trivial⟩ ?_
  refine wo_nil ?_
  refine wq_seq ?_
  refine wc_ret ?_
  refine wq_ret rfl ⟨_, O, rfl, ?_⟩
  have hF5 : Fr [g] w w5 := (f3.more (by simp)).trans (hf4.trans hf5)
  have := wrote' (T := tGName) (e := 31) (B := B) (n0 := xs.length) (zs := xs.take i ++ xs.drop j) (cap := c) hO hgO hBg hF5 hh5 hns5 hcm' (by rw [hzl]; omega) nc_rep (by
    rw [hn5]
    exact List.take_left' (by rw [nc_len, hzl]; rfl))
  rw [hzl] at this
  exact this

end Go.Proofs.Ytjdeaihnpgkphaa
