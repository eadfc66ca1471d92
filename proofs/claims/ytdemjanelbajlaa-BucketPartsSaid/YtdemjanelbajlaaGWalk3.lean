/-
  The program's functions compute the plain ones (printed by a tool of the prover's).
-/
import Derived.Test.YtdemjanelbajlaaGWalk2
namespace Go.Proofs.Ytdemjanelbajlaa
open Go.RowKit Go.Dc Go.Shelf
set_option maxRecDepth 100000 in
theorem cells_at {L : List Int} {R : List Value} {k : Nat} {x : Int} (h : L[k]? = some x) : ((L.map (Value.int .u64) ++ R).drop k).take 1 = [.int .u64 x] := by
  have hk : k < L.length := (List.getElem?_eq_some_iff.1 h).1
  rw [List.drop_append_of_le_length (by simp; omega)]
  have : (L.map (Value.int .u64)).drop k = .int .u64 x :: (L.map (Value.int .u64)).drop (k + 1) := by
    rw [List.drop_eq_getElem_cons (by simp; omega)]
    have := (List.getElem?_eq_some_iff.1 h).2
    simp [this]
  rw [this]
  rfl
theorem cells_set {L : List Int} {R : List Value} {k : Nat} {x : Int} (hk : k < L.length) : putAt (L.map (Value.int .u64) ++ R) k [.int .u64 x] = (L.set k x).map (Value.int .u64) ++ R := by
  have := map_set' (Value.int .u64) L k x hk
  unfold putAt at this ⊢
  rw [← this, List.take_append_of_le_length (by simp; omega), List.drop_append_of_le_length (by simp; omega)]
  simp
theorem zero1 {n : Nat} {u : Value} (h : u ∈ (Builtin.zeroCells (Value.int .u64 0).cells n).toList) : u = .int .u64 0 := by
  simp only [Builtin.zeroCells, Value.cells, Array.toList_map, List.mem_map] at h
  obtain ⟨i, _, rfl⟩ := h
  simp [Nat.mod_one]
theorem clearK {P : Program} {r : Option Nat} {N : Nat} {Θ : Tys} {ops : Array Oper} {Q : Exit → Act → World → Prop} {l : List Nat} {E : Env} {ds : List Deferred} {w : World} {i : Nat} {o : Oper}
    (hΘ : Θ.ok P) (ho : ops[i]? = some o) (hw : want N ops E o.guard = some true) (hd : o.dst = none) {t : Nat} {x : Operand} {ti te : TI}
    (hop : o.op = .call { callee := .builtin .clear, args := #[x], argTypes := #[t] }) (ht : Θ.get t = some ti) (h5 : ti.tag = 5) (hte : Θ.get ti.e = some te) {g of m c e : Nat} {cur : Array Value} (hx : ev E x = some (.slice (some ⟨g, of, none⟩) (m + 1) c)) (hg : w.heap[g]? = some (.cells cur e (0, 0))) (hz : te.zero.cells.size = 1) (h1 : ∀ u ∈ (Builtin.zeroCells te.zero.cells (m + 1)).toList, u.oneCell' = true) (hfit : of + (m + 1) ≤ cur.size)
    (h : ∀ (W : World) (new : Array Value), Fr [g] w W → W.heap[g]? = some (.cells new e (0, 0)) → new = (cur.toList.take of ++ (Builtin.zeroCells te.zero.cells (m + 1)).toList ++ cur.toList.drop (of + (m + 1))).toArray → WO P r N ops Q l E ds W) : WO P r N ops Q (i :: l) E ds w := by
  refine wo_clearV hΘ ho hw hd hop ht h5 hte hx hg hz h1 hfit (h _ _ (setRow_fr hg) ?_ rfl)
  simp [World.setRow, Array.getElem?_modify, hg]
set_option maxRecDepth 100000 in
set_option maxHeartbeats 4000000 in
theorem s_Compact_c {O : List Nat} {w : World} (hO : OB O w) {B : Nat} (_hB : B ≤ w.heap.size) {v : Value} {xs : List Int} (hv : Go.Dc.Own (Ty.int .u64) 31 B O w v xs) {zs : List Int} (hz : s_Compact xs = some zs) :
    Calls Try.prog 50 #[v] w (GivesOwn (Ty.int .u64) 31 B O w v zs) := by
  cases hz
  obtain ⟨A, c, rfl, hnc, hcm⟩ := hv.form
  refine calls_of (args := [.slice A xs.length c]) (N := 61) Try.func50 rfl rfl rfl ?_
  refine wc_seq ?_
  refine wc_region (l := [0]) rfl ?_
  refine wo_seg Θ_ok [0] [(0, .slice A xs.length c)] rfl ⟨rfl, trivial⟩ ?_
  refine wo_nil ?_
  refine wq_seq ?_
  refine wc_seq ?_
  refine wc_seq ?_
  refine wc_region (l := [0, 1, 2]) rfl ?_
  refine wo_seg Θ_ok [0, 1, 2] [(0, .slice A xs.length c), (8, .bool (decide ((xs.length : Int) < 2)))] rfl ⟨rfl, rfl, trivial⟩ ?_
  refine wo_nil ?_
  refine wq_seq ?_
  by_cases h2 : xs.length < 2
  · refine wc_known_true rfl (decide_eq_true (by omega)) ?_
    refine wc_seq ?_
    refine wc_region (l := [0, 1]) rfl ?_
    refine wo_seg Θ_ok [0, 1] [(2, .slice A xs.length c)] rfl ⟨rfl, trivial⟩ ?_
    refine wo_nil ?_
    refine wq_seq ?_
    refine wc_ret ?_
    refine wq_then_ret (wq_ret rfl ⟨_, O, rfl, ?_⟩)
    have e : dedup xs = xs := by
      match xs, h2 with
      | [], _ => rfl
      | [a], _ => rfl
      | _ :: _ :: _, h => simp at h; omega
    rw [e]
    exact ⟨hv, Tr.refl _ _, hO, Sub.refl _, fun _ _ _ => rfl, fun _ _ h => h⟩
  refine wc_known_false rfl (decide_eq_false (by omega)) ?_
  refine wc_skip ?_
  refine wq_seq ?_
  -- the row
  obtain ⟨cs, ⟨hcl, hvv⟩, hrep⟩ := hv.ex
  rcases hvv with ⟨_, hl0⟩ | ⟨g, cap, cur, hvv, hBg, hh, hnc', hcm', hcs, hct⟩
  · omega
  injection hvv with hA hn2 hc2
  subst hA; subst hc2
  have hgO := hv.mem g rfl
  have hgl : g < w.heap.size := (Array.getElem?_eq_some_iff.1 hh).1
  have hcsx : ∀ (ys : List Int) (ds : List Value), RepAll (Ty.int .u64) O w ds ys → ds = ys.map (Value.int .u64) := by
    intro ys
    induction ys with
    | nil => intro ds h; exact h
    | cons y ys ih => intro ds ⟨c1, r1, e1, e2, e3⟩; rw [e1, ih r1 e3, show c1 = [.int .u64 y] from e2]; rfl
  have hcs' := hcsx xs cs hrep
  have hT1 : (Ty.int .u64).n = 1 := rfl
  rw [hT1, Nat.mul_one] at hcs hct
  obtain ⟨R, hR⟩ : ∃ R, R = cur.toList.drop xs.length := ⟨_, rfl⟩
  have hcurl : cur.toList = xs.map (Value.int .u64) ++ R := by
    rw [hR, ← hcs', ← hct]
    exact (List.take_append_drop _ _).symm
  have hRl : xs.length + R.length = c := by
    have := congrArg List.length hcurl
    rw [Array.length_toList, hcs] at this
    simp only [List.length_append, List.length_map] at this
    omega
  have hb : Blk w g 31 (xs.map (Value.int .u64) ++ R) := by
    unfold Blk
    rw [← hcurl, Array.toArray_toList]
    exact hh
  clear hcurl hR hct hcs hh hcs' hrep hcl
  refine wc_seq ?_
  refine wc_seq ?_
  refine wc_region (l := [0]) rfl ?_
  refine wo_seg Θ_ok [0] [(0, .slice (some ⟨g, 0, none⟩) xs.length c), (3, .int .i64 ((1 : Nat) : Int))] rfl ⟨rfl, rfl, trivial⟩ ?_
  refine wo_nil ?_
  refine wq_seq ?_
  refine wc_block ?_
  refine wc_loop (fun m E W => ∃ k : Nat, xs.length - k = m ∧ 1 ≤ k ∧ k ≤ xs.length ∧ E = [(0, .slice (some ⟨g, 0, none⟩) xs.length c), (3, .int .i64 (k : Int))] ∧ Fr [] w W ∧ dedup (xs.take k) = xs.take k) _
    [(0, .slice (some ⟨g, 0, none⟩) xs.length c), (3, .int .i64 ((1 : Nat) : Int))] ⟨rfl, rfl, trivial⟩ ⟨1, rfl, Nat.le_refl _, by omega, rfl, Fr.refl _ _, ?_⟩ ?_
  · match xs, h2 with
    | [], h => simp at h
    | a :: r, _ => rfl
  rintro m E W ⟨k, hm, hk1, hkn, rfl, hF, hded⟩
  refine wc_seq ?_
  refine wc_seq ?_
  refine wc_region (l := [0, 1, 2, 3]) rfl ?_
  refine wo_seg Θ_ok [0, 1, 2, 3] [(0, .slice (some ⟨g, 0, none⟩) xs.length c), (3, .int .i64 (k : Int)), (13, .bool (decide ((k : Int) < (xs.length : Int))))] rfl ⟨rfl, rfl, rfl, trivial⟩ ?_
  refine wo_nil ?_
  refine wq_seq ?_
  by_cases hkl : k < xs.length
  case neg =>
    refine wc_known_false rfl (decide_eq_false (by omega)) ?_
    refine wc_exit ?_
    refine wq_then_exit (wq_then_exit (wq_block_exit (wq_seq ?_)))
    refine wc_seq ?_
    refine wc_region (l := [0, 1]) rfl ?_
    refine wo_seg Θ_ok [0, 1] [(2, .slice (some ⟨g, 0, none⟩) xs.length c)] rfl ⟨rfl, trivial⟩ ?_
    refine wo_nil ?_
    refine wq_seq ?_
    refine wc_ret ?_
    refine wq_ret rfl ⟨_, O, rfl, ?_⟩
    have e : dedup xs = xs := by
      have : xs.take k = xs := List.take_of_length_le (by omega)
      rwa [this] at hded
    rw [e]
    exact ⟨hv.fr0 hF, hF.tr0, hF.ob hO, Sub.refl _, fun k hk _ => hF.block k hk (by simp), fun _ _ h => h⟩
  refine wc_known_true rfl (decide_eq_true (by omega)) ?_
  refine wc_skip ?_
  refine wq_seq ?_
  obtain ⟨x, hx⟩ : ∃ x, xs[k]? = some x := ⟨_, List.getElem?_eq_getElem hkl⟩
  obtain ⟨y, hy⟩ : ∃ y, xs[k - 1]? = some y := ⟨_, List.getElem?_eq_getElem (by omega)⟩
  have hwk : IntKind.i64.wrap ((k : Int) - 1) = ((k - 1 : Nat) : Int) := by unfold maxLen at *; rw [IntWalk.i64_in] <;> omega
  refine wc_seq ?_
  refine wc_block ?_
  refine wc_seq ?_
  have hbW := hb.fr0 hF
  refine wc_drawT mixed [⟨16, [], [0]⟩, ⟨17, [], [3]⟩, ⟨18, [0, 1], []⟩, ⟨19, [2], []⟩, ⟨20, [], [0]⟩, ⟨21, [], [3]⟩, ⟨22, [5], []⟩, ⟨23, [4, 6], []⟩, ⟨24, [7], []⟩, ⟨25, [3, 8], []⟩] [SP.eq (.slice (some ⟨g, 0, none⟩) xs.length c), SP.eq (.int .i64 k), SP.eq (.pointer (some ⟨g, k, none⟩)), SP.eq (.int .u64 x), SP.eq (.slice (some ⟨g, 0, none⟩) xs.length c), SP.eq (.int .i64 k), SP.eq (.int .i64 (IntKind.i64.wrap ((k : Int) - 1))), SP.eq (.pointer (some ⟨g, k - 1, none⟩)), SP.eq (.int .u64 y), SP.eq (.bool (x == y))] rfl rfl rfl rfl ⟨?_, ?_, ?_, ?_, ?_, ?_, ?_, ?_, ?_, ?_, trivial⟩ ?_
  · intro a w2 hfr hN hds hb hd
    exact op_plain Θ_ok ⟨hN, hds, rows_get (E := [(0, .slice (some ⟨g, 0, none⟩) xs.length c)]) ⟨hb 0 rfl _ rfl, trivial⟩⟩ rfl rfl rfl rfl rfl
  · intro a w2 hfr hN hds hb hd
    exact op_plain Θ_ok ⟨hN, hds, rows_get (E := [(3, .int .i64 k)]) ⟨hb 3 rfl _ rfl, trivial⟩⟩ rfl rfl rfl rfl rfl
  · intro a w2 hfr hN hds hb hd
    refine (op_indexV Θ_ok ⟨hN, hds, rows_get (E := [(16, .slice (some ⟨g, 0, none⟩) xs.length c), (17, .int .i64 k)]) ⟨(hd 0 rfl _ _ rfl rfl), (hd 1 rfl _ _ rfl rfl), trivial⟩⟩ rfl rfl rfl rfl rfl rfl rfl rfl rfl (by omega) (by simpa using hkl)).weaken (fun u w3 ⟨hu, hf⟩ => ⟨?_, hf⟩)
    rw [hu, add_at, Nat.zero_add, Int.toNat_natCast]
    exact congrArg (fun q => Value.pointer (some ⟨g, q, none⟩)) (Nat.mul_one _)
  · intro a w2 hfr hN hds hb hd
    exact op_load Θ_ok ⟨hN, hds, rows_get (E := [(18, .pointer (some ⟨g, k, none⟩))]) ⟨(hd 2 rfl _ _ rfl rfl), trivial⟩⟩ rfl rfl rfl rfl rfl rfl (hbW.fr0 hfr) [.int .u64 x] (cells_at hx) rfl (.inr rfl) (.int .u64 x) rfl
  · intro a w2 hfr hN hds hb hd
    exact op_plain Θ_ok ⟨hN, hds, rows_get (E := [(0, .slice (some ⟨g, 0, none⟩) xs.length c)]) ⟨hb 0 rfl _ rfl, trivial⟩⟩ rfl rfl rfl rfl rfl
  · intro a w2 hfr hN hds hb hd
    exact op_plain Θ_ok ⟨hN, hds, rows_get (E := [(3, .int .i64 k)]) ⟨hb 3 rfl _ rfl, trivial⟩⟩ rfl rfl rfl rfl rfl
  · intro a w2 hfr hN hds hb hd
    exact op_plain Θ_ok ⟨hN, hds, rows_get (E := [(21, .int .i64 k)]) ⟨(hd 5 rfl _ _ rfl rfl), trivial⟩⟩ rfl rfl rfl rfl rfl
  · intro a w2 hfr hN hds hb hd
    refine (op_indexV Θ_ok ⟨hN, hds, rows_get (E := [(20, .slice (some ⟨g, 0, none⟩) xs.length c), (22, .int .i64 ((k - 1 : Nat) : Int))]) ⟨(hd 4 rfl _ _ rfl rfl), by rw [← hwk]; exact (hd 6 rfl _ _ rfl rfl), trivial⟩⟩ rfl rfl rfl rfl rfl rfl rfl rfl rfl (by omega) (by rw [Int.toNat_natCast]; omega)).weaken (fun u w3 ⟨hu, hf⟩ => ⟨?_, hf⟩)
    rw [hu, add_at, Nat.zero_add, Int.toNat_natCast]
    exact congrArg (fun q => Value.pointer (some ⟨g, q, none⟩)) (Nat.mul_one _)
  · intro a w2 hfr hN hds hb hd
    exact op_load Θ_ok ⟨hN, hds, rows_get (E := [(23, .pointer (some ⟨g, k - 1, none⟩))]) ⟨(hd 7 rfl _ _ rfl rfl), trivial⟩⟩ rfl rfl rfl rfl rfl rfl (hbW.fr0 hfr) [.int .u64 y] (cells_at hy) rfl (.inr rfl) (.int .u64 y) rfl
  · intro a w2 hfr hN hds hb hd
    exact op_plain Θ_ok ⟨hN, hds, rows_get (E := [(19, .int .u64 x), (24, .int .u64 y)]) ⟨(hd 3 rfl _ _ rfl rfl), (hd 8 rfl _ _ rfl rfl), trivial⟩⟩ rfl rfl rfl rfl rfl
  intro a w3 f3 hN hds hbs hr
  have hF3 := hF.trans f3
  refine wo_go (E := [(0, .slice (some ⟨g, 0, none⟩) xs.length c), (3, .int .i64 k), (25, .bool (x == y))]) (l := []) hN hds ⟨hbs 0 _ rfl rfl, hbs 3 _ rfl rfl, (hr 9 _ _ rfl rfl), trivial⟩ rfl ?_
  refine wo_nil ?_
  refine wq_seq ?_
  have hk2 : k = (k - 1) + 1 := by omega
  have hdt := dedup_take (xs := xs) (j := k - 1) hy (by rw [← hk2]; exact hx)
  rw [← hk2, show k - 1 + 2 = k + 1 by omega] at hdt
  by_cases hxy : x = y
  case neg =>
    refine wc_known_false rfl (beq_eq_false_iff_ne.2 hxy) ?_
    refine wc_skip ?_
    refine wq_block (wq_seq ?_)
    refine wc_region (l := [0, 1, 2]) rfl ?_
    refine wo_seg Θ_ok [0, 1, 2] [(0, .slice (some ⟨g, 0, none⟩) xs.length c), (3, .int .i64 (IntKind.i64.wrap ((k : Int) + 1)))] rfl ⟨rfl, rfl, trivial⟩ ?_
    rw [wrap_succ hkl (by omega)]
    refine wo_nil ?_
    refine wq_next (xs.length - (k + 1)) [(0, .slice (some ⟨g, 0, none⟩) xs.length c), (3, .int .i64 ((k + 1 : Nat) : Int))] (by omega) ⟨rfl, rfl, trivial⟩ ⟨k + 1, rfl, by omega, by omega, rfl, hF3, ?_⟩
    rw [hdt, if_neg (fun e => hxy e.symm), hded]
    rw [List.take_add_one, hx]
    rfl
  refine wc_known_true rfl (by simp [hxy]) ?_
  rw [if_pos hxy.symm, hded] at hdt
  have hb3 := hb.fr0 hF3
  refine wc_seq ?_
  refine wc_region (l := [0, 1, 2, 3]) rfl ?_
  refine wo_seg Θ_ok [0, 1] [(0, .slice (some ⟨g, 0, none⟩) xs.length c), (3, .int .i64 k), (26, .slice (some ⟨g, 0, none⟩) xs.length c), (27, .int .i64 k)] rfl ⟨rfl, rfl, rfl, rfl, trivial⟩ ?_
  refine wo_cutlo Θ_ok rfl rfl rfl rfl rfl rfl rfl rfl rfl rfl hnc' hkn ?_
  rw [if_neg (by omega), Option.map_some, add_at, Nat.zero_add, show k * ({ tag := 2, k := 7, e := 0, fs := [], size := 1, bytes := 8, zero := .int .u64 0 } : TI).size = k from Nat.mul_one k]
  refine wo_seg Θ_ok [3] [(0, .slice (some ⟨g, 0, none⟩) xs.length c), (3, .int .i64 k), (4, .slice (some ⟨g, k, none⟩) (xs.length - k) (c - k))] rfl ⟨rfl, rfl, rfl, trivial⟩ ?_
  refine wo_nil ?_
  refine wq_seq ?_
  refine wc_seq ?_
  refine wc_seq ?_
  refine wc_region (l := [0]) rfl ?_
  refine wo_seg Θ_ok [0] [(0, .slice (some ⟨g, 0, none⟩) xs.length c), (3, .int .i64 k), (4, .slice (some ⟨g, k, none⟩) (xs.length - k) (c - k)), (5, .int .i64 ((1 : Nat) : Int))] rfl ⟨rfl, rfl, rfl, rfl, trivial⟩ ?_
  refine wo_nil ?_
  refine wq_seq ?_
  refine wc_block ?_
  refine wc_loop (fun m E W => ∃ (p q : Nat) (M : List Int), xs.length - (k + q) = m ∧ 1 ≤ q ∧ k + q ≤ xs.length ∧ p ≤ k + q - 1 ∧ 1 ≤ p ∧ E = [(0, .slice (some ⟨g, 0, none⟩) xs.length c), (3, .int .i64 (p : Int)), (4, .slice (some ⟨g, k, none⟩) (xs.length - k) (c - k)), (5, .int .i64 (q : Int))] ∧ Fr [g] w W ∧ Blk W g 31 (M.map (Value.int .u64) ++ R) ∧ M.length = xs.length ∧ M.take p = dedup (xs.take (k + q)) ∧ M.drop (k + q - 1) = xs.drop (k + q - 1)) _
    [(0, .slice (some ⟨g, 0, none⟩) xs.length c), (3, .int .i64 k), (4, .slice (some ⟨g, k, none⟩) (xs.length - k) (c - k)), (5, .int .i64 ((1 : Nat) : Int))] ⟨rfl, rfl, rfl, rfl, trivial⟩ ⟨k, 1, xs, rfl, Nat.le_refl _, by omega, by omega, hk1, rfl, hF3.more (by simp), hb3, rfl, hdt.symm, rfl⟩ ?_
  rintro m2 E W2 ⟨p, q, M, hm2, hq1, hqn, hpq, hp1, rfl, hFg, hbM, hMl, hMt, hMd⟩
  refine wc_seq ?_
  refine wc_seq ?_
  refine wc_region (l := [0, 1, 2, 3]) rfl ?_
  refine wo_seg Θ_ok [0, 1, 2, 3] [(0, .slice (some ⟨g, 0, none⟩) xs.length c), (3, .int .i64 p), (4, .slice (some ⟨g, k, none⟩) (xs.length - k) (c - k)), (5, .int .i64 q), (32, .bool (decide ((q : Int) < ((xs.length - k : Nat) : Int))))] rfl ⟨rfl, rfl, rfl, rfl, rfl, trivial⟩ ?_
  refine wo_nil ?_
  refine wq_seq ?_
  by_cases hql : k + q < xs.length
  case neg =>
    refine wc_known_false rfl (decide_eq_false (by omega)) ?_
    refine wc_exit ?_
    refine wq_then_exit (wq_then_exit (wq_block_exit (wq_seq ?_)))
    refine wc_seq ?_
    refine wc_region (l := [0, 1, 2, 3]) rfl ?_
    refine wo_seg Θ_ok [0, 1] [(0, .slice (some ⟨g, 0, none⟩) xs.length c), (3, .int .i64 p), (54, .slice (some ⟨g, 0, none⟩) xs.length c), (55, .int .i64 p)] rfl ⟨rfl, rfl, rfl, rfl, trivial⟩ ?_
    have hpn : p < xs.length := by omega
    refine wo_cutlo Θ_ok rfl rfl rfl rfl rfl rfl rfl rfl rfl rfl hnc' (by omega) ?_
    rw [if_neg (by omega), Option.map_some, add_at, Nat.zero_add, show p * ({ tag := 2, k := 7, e := 0, fs := [], size := 1, bytes := 8, zero := .int .u64 0 } : TI).size = p from Nat.mul_one p]
    obtain ⟨j, hj⟩ : ∃ j, xs.length - p = j + 1 := ⟨xs.length - p - 1, by omega⟩
    rw [hj]
    have hsz : (M.map (Value.int .u64) ++ R).length = c := by simp only [List.length_append, List.length_map]; omega
    refine clearK Θ_ok rfl rfl rfl rfl rfl rfl rfl rfl hbM rfl (fun u hu => by rw [zero1 hu]; rfl) (by simp only [List.size_toArray, hsz]; omega) (fun W3 new hsr hsh hnew => ?_)
    have hnl : new.toList = (M.take p).map (Value.int .u64) ++ ((Builtin.zeroCells (Value.int .u64 0).cells (j + 1)).toList ++ (M.map (Value.int .u64) ++ R).drop (p + (j + 1))) := by
      rw [hnew]
      simp only [List.toList_toArray, List.append_assoc]
      rw [List.take_append_of_le_length (by simp; omega), List.map_take]
    have hns : new.size = c := by
      rw [← Array.length_toList, hnl]
      simp only [List.length_append, List.length_take, List.length_drop, Array.length_toList, size_zeroCells, List.length_map]
      simp only [Value.cells, List.size_toArray, List.length_cons, List.length_nil]
      omega
    have hF5 : Fr [g] w W3 := hFg.trans hsr
    refine wo_nil ?_
    refine wq_seq ?_
    refine wc_seq ?_
    refine wc_region (l := [0, 1, 2, 3]) rfl ?_
    refine wo_seg Θ_ok [0, 1] [(57, .slice (some ⟨g, 0, none⟩) xs.length c), (58, .int .i64 p)] rfl ⟨rfl, rfl, trivial⟩ ?_
    refine wo_cuthi Θ_ok rfl rfl rfl rfl rfl rfl rfl rfl rfl rfl hnc' (by omega) ?_
    refine wo_seg Θ_ok [3] [(2, .slice (some ⟨g, 0, none⟩) p c)] rfl ⟨rfl, trivial⟩ ?_
    refine wo_nil ?_
    refine wq_seq ?_
    refine wc_ret ?_
    refine wq_block_ret (wq_then_ret (wq_then_ret (wq_block_ret (wq_then_ret (wq_ret rfl ⟨_, O, rfl, ?_⟩)))))
    have hxq : xs.take (k + q) = xs := List.take_of_length_le (by omega)
    rw [hxq] at hMt
    have hpl : (dedup xs).length = p := by rw [← hMt, List.length_take]; omega
    have hrr : ∀ (ys : List Int), RepAll (Ty.int .u64) O W3 (ys.map (Value.int .u64)) ys := by
      intro ys
      induction ys with
      | nil => rfl
      | cons y ys ih => exact ⟨[.int .u64 y], _, rfl, rfl, ih⟩
    have := wrote' (T := Ty.int .u64) (e := 31) (B := B) (n0 := xs.length) (zs := dedup xs) (cap := c) hO hgO hBg hF5 hsh (by rw [hns]; exact (Nat.mul_one c).symm) hcm' (by omega) (hrr (dedup xs)) (by
      rw [hnl, hMt]
      show List.take ((dedup xs).length * 1) (List.map (Value.int .u64) (dedup xs) ++ _) = _
      rw [Nat.mul_one]
      exact List.take_left' (by simp))
    rw [hpl] at this
    exact this
  refine wc_known_true rfl (decide_eq_true (by omega)) ?_
  refine wc_skip ?_
  refine wq_seq ?_
  obtain ⟨x2, hx2⟩ : ∃ x, xs[k + q]? = some x := ⟨_, List.getElem?_eq_getElem hql⟩
  obtain ⟨y2, hy2⟩ : ∃ y, xs[k + q - 1]? = some y := ⟨_, List.getElem?_eq_getElem (by omega)⟩
  have hMx : M[k + q]? = some x2 := by
    have := congrArg (·[1]?) hMd
    simp only [List.getElem?_drop] at this
    rw [show k + q - 1 + 1 = k + q by omega] at this
    rw [this, hx2]
  have hMy : M[k + q - 1]? = some y2 := by
    have := congrArg (·[0]?) hMd
    simp only [List.getElem?_drop, Nat.add_zero] at this
    rw [this, hy2]
  have hwq : IntKind.i64.wrap ((q : Int) - 1) = ((q - 1 : Nat) : Int) := by unfold maxLen at *; rw [IntWalk.i64_in] <;> omega
  refine wc_seq ?_
  refine wc_block ?_
  refine wc_seq ?_
  refine wc_drawT mixed [⟨35, [], [4]⟩, ⟨36, [], [5]⟩, ⟨37, [0, 1], []⟩, ⟨38, [2], []⟩, ⟨39, [], [4]⟩, ⟨40, [], [5]⟩, ⟨41, [5], []⟩, ⟨42, [4, 6], []⟩, ⟨43, [7], []⟩, ⟨44, [3, 8], []⟩] [SP.eq (.slice (some ⟨g, k, none⟩) (xs.length - k) (c - k)), SP.eq (.int .i64 q), SP.eq (.pointer (some ⟨g, k + q, none⟩)), SP.eq (.int .u64 x2), SP.eq (.slice (some ⟨g, k, none⟩) (xs.length - k) (c - k)), SP.eq (.int .i64 q), SP.eq (.int .i64 (IntKind.i64.wrap ((q : Int) - 1))), SP.eq (.pointer (some ⟨g, k + q - 1, none⟩)), SP.eq (.int .u64 y2), SP.eq (.bool (x2 != y2))] rfl rfl rfl rfl ⟨?_, ?_, ?_, ?_, ?_, ?_, ?_, ?_, ?_, ?_, trivial⟩ ?_
  · intro a w2 hfr hN hds hb hd
    exact op_plain Θ_ok ⟨hN, hds, rows_get (E := [(4, .slice (some ⟨g, k, none⟩) (xs.length - k) (c - k))]) ⟨hb 4 rfl _ rfl, trivial⟩⟩ rfl rfl rfl rfl rfl
  · intro a w2 hfr hN hds hb hd
    exact op_plain Θ_ok ⟨hN, hds, rows_get (E := [(5, .int .i64 q)]) ⟨hb 5 rfl _ rfl, trivial⟩⟩ rfl rfl rfl rfl rfl
  · intro a w2 hfr hN hds hb hd
    refine (op_indexV Θ_ok ⟨hN, hds, rows_get (E := [(35, .slice (some ⟨g, k, none⟩) (xs.length - k) (c - k)), (36, .int .i64 q)]) ⟨(hd 0 rfl _ _ rfl rfl), (hd 1 rfl _ _ rfl rfl), trivial⟩⟩ rfl rfl rfl rfl rfl rfl rfl rfl rfl (by omega) (by rw [Int.toNat_natCast]; omega)).weaken (fun u w3 ⟨hu, hf⟩ => ⟨?_, hf⟩)
    rw [hu, add_at, Int.toNat_natCast]
    exact congrArg (fun q => Value.pointer (some ⟨g, k + q, none⟩)) (Nat.mul_one _)
  · intro a w2 hfr hN hds hb hd
    exact op_load Θ_ok ⟨hN, hds, rows_get (E := [(37, .pointer (some ⟨g, k + q, none⟩))]) ⟨(hd 2 rfl _ _ rfl rfl), trivial⟩⟩ rfl rfl rfl rfl rfl rfl (hbM.fr0 hfr) [.int .u64 x2] (cells_at hMx) rfl (.inr rfl) (.int .u64 x2) rfl
  · intro a w2 hfr hN hds hb hd
    exact op_plain Θ_ok ⟨hN, hds, rows_get (E := [(4, .slice (some ⟨g, k, none⟩) (xs.length - k) (c - k))]) ⟨hb 4 rfl _ rfl, trivial⟩⟩ rfl rfl rfl rfl rfl
  · intro a w2 hfr hN hds hb hd
    exact op_plain Θ_ok ⟨hN, hds, rows_get (E := [(5, .int .i64 q)]) ⟨hb 5 rfl _ rfl, trivial⟩⟩ rfl rfl rfl rfl rfl
  · intro a w2 hfr hN hds hb hd
    exact op_plain Θ_ok ⟨hN, hds, rows_get (E := [(40, .int .i64 q)]) ⟨(hd 5 rfl _ _ rfl rfl), trivial⟩⟩ rfl rfl rfl rfl rfl
  · intro a w2 hfr hN hds hb hd
    refine (op_indexV Θ_ok ⟨hN, hds, rows_get (E := [(39, .slice (some ⟨g, k, none⟩) (xs.length - k) (c - k)), (41, .int .i64 ((q - 1 : Nat) : Int))]) ⟨(hd 4 rfl _ _ rfl rfl), by rw [← hwq]; exact (hd 6 rfl _ _ rfl rfl), trivial⟩⟩ rfl rfl rfl rfl rfl rfl rfl rfl rfl (by omega) (by rw [Int.toNat_natCast]; omega)).weaken (fun u w3 ⟨hu, hf⟩ => ⟨?_, hf⟩)
    rw [hu, add_at, Int.toNat_natCast]
    rw [show k + q - 1 = k + (q - 1) by omega]
    exact congrArg (fun q => Value.pointer (some ⟨g, k + q, none⟩)) (Nat.mul_one _)
  · intro a w2 hfr hN hds hb hd
    exact op_load Θ_ok ⟨hN, hds, rows_get (E := [(42, .pointer (some ⟨g, k + q - 1, none⟩))]) ⟨(hd 7 rfl _ _ rfl rfl), trivial⟩⟩ rfl rfl rfl rfl rfl rfl (hbM.fr0 hfr) [.int .u64 y2] (cells_at hMy) rfl (.inr rfl) (.int .u64 y2) rfl
  · intro a w2 hfr hN hds hb hd
    exact op_plain Θ_ok ⟨hN, hds, rows_get (E := [(38, .int .u64 x2), (43, .int .u64 y2)]) ⟨(hd 3 rfl _ _ rfl rfl), (hd 8 rfl _ _ rfl rfl), trivial⟩⟩ rfl rfl rfl rfl rfl
  intro a w4 f4 hN hds hbs hr
  have hF4 : Fr [g] w w4 := hFg.trans (f4.more (by simp))
  have hbM4 := hbM.fr0 f4
  refine wo_go (E := [(0, .slice (some ⟨g, 0, none⟩) xs.length c), (3, .int .i64 p), (4, .slice (some ⟨g, k, none⟩) (xs.length - k) (c - k)), (5, .int .i64 q), (44, .bool (x2 != y2))]) (l := []) hN hds ⟨hbs 0 _ rfl rfl, hbs 3 _ rfl rfl, hbs 4 _ rfl rfl, hbs 5 _ rfl rfl, (hr 9 _ _ rfl rfl), trivial⟩ rfl ?_
  refine wo_nil ?_
  refine wq_seq ?_
  have hq2 : k + q = (k + q - 1) + 1 := by omega
  have hdq := dedup_take (xs := xs) (j := k + q - 1) hy2 (by rw [← hq2]; exact hx2)
  rw [← hq2, show k + q - 1 + 2 = k + (q + 1) by omega] at hdq
  have hMd' : ∀ (M' : List Int), (∀ j, k + q ≤ j → M'[j]? = M[j]?) → M'.drop (k + (q + 1) - 1) = xs.drop (k + (q + 1) - 1) := by
    intro M' h
    apply List.ext_getElem?
    intro j
    have := congrArg (·[j + 1]?) hMd
    simp only [List.getElem?_drop] at this ⊢
    rw [show k + (q + 1) - 1 + j = k + q - 1 + (j + 1) by omega, h _ (by omega), this]
  have hql2 : q < xs.length := by omega
  by_cases hxy2 : x2 = y2
  · refine wc_known_false rfl (by simp [hxy2]) ?_
    refine wc_skip ?_
    refine wq_block (wq_seq ?_)
    refine wc_region (l := [0, 1, 2]) rfl ?_
    refine wo_seg Θ_ok [0, 1, 2] [(0, .slice (some ⟨g, 0, none⟩) xs.length c), (3, .int .i64 p), (4, .slice (some ⟨g, k, none⟩) (xs.length - k) (c - k)), (5, .int .i64 (IntKind.i64.wrap ((q : Int) + 1)))] rfl ⟨rfl, rfl, rfl, rfl, trivial⟩ ?_
    rw [wrap_succ hql2 (by omega)]
    refine wo_nil ?_
    refine wq_next (xs.length - (k + (q + 1))) [(0, .slice (some ⟨g, 0, none⟩) xs.length c), (3, .int .i64 p), (4, .slice (some ⟨g, k, none⟩) (xs.length - k) (c - k)), (5, .int .i64 ((q + 1 : Nat) : Int))] (by omega) ⟨rfl, rfl, rfl, rfl, trivial⟩ ⟨p, q + 1, M, rfl, by omega, by omega, by omega, hp1, rfl, hF4, hbM4, hMl, ?_, hMd' M (fun _ _ => rfl)⟩
    rw [hdq, if_pos hxy2.symm, hMt]
  · refine wc_known_true rfl (by simpa using hxy2) ?_
    refine wc_seq ?_
    refine wc_region (l := [0, 1, 2, 3, 4, 5, 6, 7]) rfl ?_
    refine wo_seg Θ_ok [0, 1, 2, 3] [(0, .slice (some ⟨g, 0, none⟩) xs.length c), (3, .int .i64 p), (4, .slice (some ⟨g, k, none⟩) (xs.length - k) (c - k)), (5, .int .i64 q), (45, .slice (some ⟨g, 0, none⟩) xs.length c), (46, .int .i64 p), (47, .slice (some ⟨g, k, none⟩) (xs.length - k) (c - k)), (48, .int .i64 q)] rfl ⟨rfl, rfl, rfl, rfl, rfl, rfl, rfl, rfl, trivial⟩ ?_
    refine wo_indexV Θ_ok rfl rfl rfl rfl rfl rfl rfl rfl rfl rfl (by omega) (by rw [Int.toNat_natCast]; omega) ?_
    rw [add_at, Int.toNat_natCast, show q * ({ tag := 2, k := 7, e := 0, fs := [], size := 1, bytes := 8, zero := .int .u64 0 } : TI).size = q from Nat.mul_one q]
    refine wo_load Θ_ok rfl rfl rfl rfl rfl rfl rfl hbM4 [.int .u64 x2] (cells_at hMx) rfl (.inr rfl) (.int .u64 x2) rfl ?_
    refine wo_indexV Θ_ok rfl rfl rfl rfl rfl rfl rfl rfl rfl rfl (by omega) (by rw [Int.toNat_natCast]; omega) ?_
    rw [add_at, Int.toNat_natCast, Nat.zero_add, show p * ({ tag := 2, k := 7, e := 0, fs := [], size := 1, bytes := 8, zero := .int .u64 0 } : TI).size = p from Nat.mul_one p]
    refine wo_store Θ_ok rfl rfl rfl rfl rfl rfl rfl hbM4 [.int .u64 x2] rfl rfl (by simp [Value.oneCell']) (Nat.ble_eq_true_of_le (by simp only [List.length_append, List.length_map]; show p + 1 ≤ _; omega)) ((M.set p x2).map (Value.int .u64) ++ R) (cells_set (by omega)) (fun w6 hb6 f6 => ?_)
    refine wo_nil ?_
    refine wq_seq ?_
    refine wc_region (l := [0, 1, 2]) rfl ?_
    refine wo_seg Θ_ok [0, 1, 2] [(0, .slice (some ⟨g, 0, none⟩) xs.length c), (3, .int .i64 (IntKind.i64.wrap ((p : Int) + 1))), (4, .slice (some ⟨g, k, none⟩) (xs.length - k) (c - k)), (5, .int .i64 q)] rfl ⟨rfl, rfl, rfl, rfl, trivial⟩ ?_
    rw [wrap_succ (show p < xs.length by omega) (by omega)]
    refine wo_nil ?_
    refine wq_block (wq_seq ?_)
    refine wc_region (l := [0, 1, 2]) rfl ?_
    refine wo_seg Θ_ok [0, 1, 2] [(0, .slice (some ⟨g, 0, none⟩) xs.length c), (3, .int .i64 ((p + 1 : Nat) : Int)), (4, .slice (some ⟨g, k, none⟩) (xs.length - k) (c - k)), (5, .int .i64 (IntKind.i64.wrap ((q : Int) + 1)))] rfl ⟨rfl, rfl, rfl, rfl, trivial⟩ ?_
    rw [wrap_succ hql2 (by omega)]
    refine wo_nil ?_
    refine wq_next (xs.length - (k + (q + 1))) [(0, .slice (some ⟨g, 0, none⟩) xs.length c), (3, .int .i64 ((p + 1 : Nat) : Int)), (4, .slice (some ⟨g, k, none⟩) (xs.length - k) (c - k)), (5, .int .i64 ((q + 1 : Nat) : Int))] (by omega) ⟨rfl, rfl, rfl, rfl, trivial⟩ ⟨p + 1, q + 1, M.set p x2, rfl, by omega, by omega, by omega, by omega, rfl, hF4.trans f6, hb6, by rw [List.length_set]; exact hMl, ?_, hMd' _ (fun j hj => List.getElem?_set_ne (by omega))⟩
    rw [hdq, if_neg (fun e => hxy2 e.symm), ← hMt, List.take_add_one, List.take_set_of_le (by omega), List.getElem?_set_self (by omega)]
    rfl

set_option maxRecDepth 100000 in
theorem b_Hash_x (w : World) (x0 : Int) : Calls Try.prog 14 #[.int .u64 x0] w (fun e w' => e = .returned (.int .u64 (b_Hash x0)) ∧ w' = w) := by
  obtain ⟨r, h⟩ : ∃ r, b_Hash x0 = r := ⟨_, rfl⟩
  rw [h]
  refine calls_of (args := [(.int .u64 x0)]) (N := 5) Try.func14 rfl rfl rfl ?_
  unfold b_Hash at h
  refine wc_seq ?_
  refine wc_region (l := [0]) rfl ?_
  refine wo_seg Θ_ok [0] [(0, (.int .u64 x0))] rfl ⟨rfl, trivial⟩ ?_
  refine wo_nil ?_
  refine wq_seq ?_
  refine wc_seq ?_
  refine wc_region (l := [0, 1, 2]) rfl ?_
  refine wo_seg Θ_ok [0, 1, 2] [(2, (.int .u64 (IntKind.u64.wrap (x0 * (11400714819323198485 : Int)))))] rfl ⟨rfl, trivial⟩ ?_
  refine wo_nil ?_
  refine wq_seq ?_
  refine wc_ret ?_
  subst h
  exact wq_ret rfl ⟨rfl, rfl⟩
set_option maxRecDepth 100000 in
theorem b_compare_x (w : World) (x0 x1 : Int) : Calls Try.prog 53 #[.int .u64 x0, .int .u64 x1] w (fun e w' => e = .returned (.int .i64 (b_compare x0 x1)) ∧ w' = w) := by
  obtain ⟨r, h⟩ : ∃ r, b_compare x0 x1 = r := ⟨_, rfl⟩
  rw [h]
  refine calls_of (args := [(.int .u64 x0), (.int .u64 x1)]) (N := 19) Try.func53 rfl rfl rfl ?_
  unfold b_compare at h
  refine wc_seq ?_
  refine wc_region (l := [0]) rfl ?_
  refine wo_seg Θ_ok [0] [(0, (.int .u64 x0)), (1, (.int .u64 x1))] rfl ⟨rfl, rfl, trivial⟩ ?_
  refine wo_nil ?_
  refine wq_seq ?_
  refine wc_seq ?_
  refine wc_seq ?_
  refine wc_region (l := [0, 1, 2, 3, 4, 5]) rfl ?_
  refine wo_seg Θ_ok [0] [(1, (.int .u64 x1)), (7, (.int .u64 x0))] rfl ⟨rfl, rfl, trivial⟩ ?_
  refine wo_call rfl rfl rfl rfl rfl ent14 rfl (b_Hash_x w x0) (fun e w' ⟨he, hw⟩ => ⟨_, he, ?_⟩)
  subst hw
  refine wo_seg Θ_ok [2] [(8, (.int .u64 (b_Hash x0))), (9, (.int .u64 x1))] rfl ⟨rfl, rfl, trivial⟩ ?_
  refine wo_call rfl rfl rfl rfl rfl ent14 rfl (b_Hash_x _ x1) (fun e2 w2 ⟨he2, hw2⟩ => ⟨_, he2, ?_⟩)
  subst hw2
  refine wo_seg Θ_ok [4, 5] [(5, (.int .u64 (b_Hash x0))), (6, (.int .u64 (b_Hash x1)))] rfl ⟨rfl, rfl, trivial⟩ ?_
  refine wo_nil ?_
  refine wq_seq ?_
  refine wc_block ?_
  refine wc_seq ?_
  refine wc_region (l := [0, 1, 2, 3]) rfl ?_
  refine wo_seg Θ_ok [0, 1, 2, 3] [(5, (.int .u64 (b_Hash x0))), (6, (.int .u64 (b_Hash x1))), (11, (.bool (decide ((b_Hash x0) < (b_Hash x1)))))] rfl ⟨rfl, rfl, rfl, trivial⟩ ?_
  refine wo_nil ?_
  refine wq_seq ?_
  rcases bif_some h with ⟨hc9, h⟩ | ⟨hc9, h⟩
  · refine wc_known_true rfl hc9 ?_
    refine wc_seq ?_
    refine wc_region (l := [0]) rfl ?_
    refine wo_seg Θ_ok [0] [(4, (.int .i64 (-1)))] rfl ⟨rfl, trivial⟩ ?_
    refine wo_nil ?_
    refine wq_seq ?_
    refine wc_ret ?_
    subst h
    exact wq_block_ret (wq_then_ret (wq_ret rfl ⟨rfl, rfl⟩))
  refine wc_known_false rfl hc9 ?_
  refine wc_seq ?_
  refine wc_region (l := [0, 1, 2, 3]) rfl ?_
  refine wo_seg Θ_ok [0, 1, 2, 3] [(15, (.bool (decide ((b_Hash x0) > (b_Hash x1)))))] rfl ⟨rfl, trivial⟩ ?_
  refine wo_nil ?_
  refine wq_seq ?_
  rcases bif_some h with ⟨hc10, h⟩ | ⟨hc10, h⟩
  · refine wc_known_true rfl hc10 ?_
    refine wc_seq ?_
    refine wc_region (l := [0]) rfl ?_
    refine wo_seg Θ_ok [0] [(4, (.int .i64 1))] rfl ⟨rfl, trivial⟩ ?_
    refine wo_nil ?_
    refine wq_seq ?_
    refine wc_ret ?_
    subst h
    exact wq_block_ret (wq_then_ret (wq_ret rfl ⟨rfl, rfl⟩))
  refine wc_known_false rfl hc10 ?_
  refine wc_skip ?_
  refine wq_block (wq_seq ?_)
  refine wc_seq ?_
  refine wc_region (l := [0]) rfl ?_
  refine wo_seg Θ_ok [0] [(4, (.int .i64 0))] rfl ⟨rfl, trivial⟩ ?_
  refine wo_nil ?_
  refine wq_seq ?_
  refine wc_ret ?_
  subst h
  exact wq_ret rfl ⟨rfl, rfl⟩
theorem b_compare_reads (blk off size : Nat) (w : World) : CmpReads Try.prog 53 #[] (Value.int .u64) b_compare blk off size w :=
  fun _ _ _ _ x y => (b_compare_x _ x y).mono fun _ _ ⟨he, hw⟩ => ⟨he, 0, hw⟩
theorem b_lt (x y : Int) : ltOf b_compare x y = decide (b_Hash x < b_Hash y) := by
  unfold ltOf b_compare
  by_cases h1 : b_Hash x < b_Hash y
  · simp [h1]
  · by_cases h2 : b_Hash x > b_Hash y <;> simp [h1, h2]
theorem b_swo : Go.Sort.SWO (ltOf b_compare) where
  irrefl x := by rw [b_lt]; simp
  trans x y z h1 h2 := by rw [b_lt] at *; simp at *; omega
  ntrans x y z h1 h2 := by rw [b_lt] at *; simp at *; omega
/-- the world a sort leaves -/
theorem sort_row {enc : Int → Value} {w : World} {g n e : Nat} {d : Array Int} {os : Array Obj} {cur : Array Value} (hh : w.heap[g]? = some (.cells cur e (0, 0))) :
    Fr [g] w (sortWorld enc w g 0 n d os) ∧ (sortWorld enc w g 0 n d os).heap[g]? = some (.cells (Go.Sort.putCells enc 0 d cur) e (0, 0)) := by
  have hg : g < w.heap.size := (Array.getElem?_eq_some_iff.1 hh).1
  have key : ∀ k, k < w.heap.size → (sortWorld enc w g 0 n d os).heap[k]? = (w.heap.modify g (Go.Sort.onCells (Go.Sort.putCells enc 0 d)))[k]? := fun k hk => by
    show (Array.modify w.heap g _ ++ os)[k]? = _
    rw [Array.getElem?_append_left (by simpa using hk)]
  refine ⟨⟨rfl, rfl, rfl, ?_, fun k hk hn => ?_⟩, ?_⟩
  · show w.heap.size ≤ (Array.modify w.heap g _ ++ os).size
    simp
  · rw [key k hk, Array.getElem?_modify, if_neg (by simp at hn; omega)]
  · rw [key g hg, Array.getElem?_modify, if_pos rfl, hh]
    rfl
theorem put_take {enc : Int → Value} {d : Array Int} {cur : Array Value} (h : d.size ≤ cur.size) : (Go.Sort.putCells enc 0 d cur).toList.take d.size = d.toList.map enc := by
  apply List.ext_getElem?
  intro k
  rw [List.getElem?_take, Array.getElem?_toList]
  by_cases hk : k < d.size
  · rw [if_pos hk]
    simp only [Go.Sort.putCells, Array.getElem?_mapIdx, Nat.zero_add, Nat.zero_le, true_and, Nat.sub_zero, hk, if_true]
    rw [Array.getElem?_eq_getElem (by omega), List.getElem?_map, Array.getElem?_toList, Array.getElem?_eq_getElem hk]
    simp [getElem!_pos d k hk]
  · rw [if_neg hk, List.getElem?_eq_none (by simp; omega)]
theorem cells_of_u (O : List Nat) (w : World) : ∀ (ys : List Int) (ds : List Value), RepAll (Ty.int .u64) O w ds ys → ds = ys.map (Value.int .u64)
  | [], ds, h => h
  | y :: ys, ds, ⟨c1, r1, e1, e2, e3⟩ => by rw [e1, cells_of_u O w ys r1 e3, show c1 = [.int .u64 y] from e2]; rfl
theorem rep_of_u (O : List Nat) (w : World) : ∀ (ys : List Int), RepAll (Ty.int .u64) O w (ys.map (Value.int .u64)) ys
  | [] => rfl
  | y :: ys => ⟨[.int .u64 y], _, rfl, rfl, rep_of_u O w ys⟩
theorem sort_c {O : List Nat} {w : World} (hO : OB O w) {B : Nat} {v : Value} {ys : List Int} (hv : Go.Dc.Own (Ty.int .u64) 31 B O w v ys) (hsz : ys.length < 4611686018427387904) :
    Calls Try.prog 57 #[v, .func (.func 53) #[] #[]] w (fun e w' => e = .returned (.tuple #[]) ∧ Appended (Ty.int .u64) 31 B O w v (sortedU ys) O w' v) := by
  obtain ⟨cs, ⟨hcl, hvv⟩, hrep⟩ := hv.ex
  rcases hvv with ⟨rfl, hl0⟩ | ⟨g, cap, cur, rfl, hBg, hh, hnc', hcm', hcs, hct⟩
  · have : ys = [] := List.eq_nil_of_length_eq_zero hl0
    subst this
    have hcon := AnyF.slices_SortFunc_none (P := Try.prog) (ρ := Try.sortU_ren) { Try.sortU with } none 0 (.func (.func 53) #[] #[]) w
    refine hcon.mono fun e w' ⟨he, hw⟩ => ⟨he, ?_⟩
    subst hw
    have e0 : sortedU [] = [] := by
      have h := Go.Sort.pdq_sorts (ltOf b_compare) b_swo (#[] : Array Int) 0 0 (Go.Lib.bitLen 0) true true (Nat.zero_le _) (Nat.le_refl _) (Or.inl rfl)
      have := h.1.1
      exact List.eq_nil_of_length_eq_zero (by simpa [sortedU] using this)
    rw [e0]
    exact ⟨hv, Tr.refl _ _, hO, Sub.refl _, fun _ _ _ => rfl, fun _ _ h => h⟩
  · have hT1 : (Ty.int .u64).n = 1 := rfl
    rw [hT1, Nat.mul_one] at hcs hct
    have hcsx := cells_of_u O w ys cs hrep
    subst hcsx
    have hgO := hv.mem g rfl
    have hg : g < w.heap.size := (Array.getElem?_eq_some_iff.1 hh).1
    have hH : Go.Sort.Holds (Value.int .u64) w g 0 ys.toArray := fun j hj => by
      have hj' : j < ys.length := by simpa using hj
      have hc : cur[j]? = some (.int .u64 ys[j]) := by
        have := congrArg (·[j]?) hct
        rw [List.getElem?_take, if_pos hj', Array.getElem?_toList, List.getElem?_map, List.getElem?_eq_getElem hj'] at this
        exact this
      refine ⟨?_, ?_⟩
      · rw [cell_of_row w g _ cur 31 (0, 0) hh, Nat.zero_add, hc]
        simp [getElem!_pos, hj']
      · simp [World.frozen?, hh]
    have hcon := Any.slices_SortFunc_eq Try.sortU (Value.int .u64) (fun _ => rfl) b_compare b_swo 53 #[] g 0 cap ys.toArray w ent53 (b_compare_reads g 0 _ w).lays hH hg (by simpa using hsz)
    rw [List.size_toArray] at hcon
    refine hcon.mono fun e w' ⟨he, n, os, hw⟩ => ⟨he, ?_⟩
    subst hw
    have hs := (Go.Sort.pdq_sorts (ltOf b_compare) b_swo ys.toArray 0 ys.length (Go.Lib.bitLen ys.length) true true (Nat.zero_le _) (by simp) (Or.inl rfl)).1.1.trans List.size_toArray
    have hsl : (sortedU ys).length = ys.length := by rw [sortedU, Array.length_toList, hs]
    obtain ⟨hF, hh'⟩ := sort_row (enc := Value.int .u64) (n := n) (d := Go.Sort.pdq (ltOf b_compare) ys.toArray 0 ys.length (Go.Lib.bitLen ys.length) true true) (os := os) hh
    have := wrote' (T := Ty.int .u64) (e := 31) (B := B) (n0 := ys.length) (zs := sortedU ys) (cap := cap) hO hgO hBg hF hh' (by rw [hT1, Nat.mul_one]; simpa [Go.Sort.putCells] using hcs) hcm' (by omega) (rep_of_u O _ (sortedU ys)) (by
      rw [hT1, Nat.mul_one, hsl]
      have := put_take (enc := Value.int .u64) (d := Go.Sort.pdq (ltOf b_compare) ys.toArray 0 ys.length (Go.Lib.bitLen ys.length) true true) (cur := cur) (by rw [hs, hcs]; exact hnc')
      rw [hs] at this
      exact this)
    rw [hsl] at this
    exact this
set_option maxRecDepth 100000 in
set_option maxHeartbeats 4000000 in
theorem s_SortedFunc_f {O : List Nat} {w : World} (hO : OB O w) {B : Nat} (hB : B ≤ w.heap.size) {v0 : Value} {x0 : List Int} (h0 : (Ty.seq Try.prog (Value.int .u64)).is O w v0 x0) {r : List Int} (h : s_SortedFunc x0 = some r) : Calls Try.prog 51 #[v0, .func (.func 53) #[] #[]] w (GivesOwn (Ty.int .u64) 31 B O w (.slice none 0 0) r) := by
  have hF := Fr.refl [] w
  have hO0 := hO
  have hS := Sub.refl O
  refine calls_of (args := [v0, .func (.func 53) #[] #[]]) (N := 12) Try.func51 rfl rfl rfl ?_
  unfold s_SortedFunc at h
  refine wc_seq ?_
  refine wc_region (l := [0]) rfl ?_
  refine wo_seg Θ_ok [0] [(0, v0), (1, .func (.func 53) #[] #[])] rfl ⟨rfl, rfl, trivial⟩ ?_
  refine wo_nil ?_
  refine wq_seq ?_
  refine wc_seq ?_
  refine wc_region (l := [0, 1, 2]) rfl ?_
  refine wo_seg Θ_ok [0] [(1, .func (.func 53) #[] #[]), (6, v0)] rfl ⟨rfl, rfl, trivial⟩ ?_
  obtain ⟨ys, hys, h⟩ := bind_some h
  refine wo_ownc rfl rfl rfl rfl rfl ent56 rfl (s_Collect_f hO hF.size h0 hys) (fun v3 w4 O5 ap6 => ?_)
  have hF := ap6.fr0 (Go.Dc.Own.nil_ : Go.Dc.Own (Ty.int .u64) 31 w.heap.size _ _ _ _) hF
  have hS := Sub.trans hS ap6.sub
  have hO := ap6.ob
  have h7 := ap6.own
  split at h
  case isFalse => cases h
  rename_i hsz
  refine wo_seg Θ_ok [2] [(1, .func (.func 53) #[] #[]), (5, v3)] rfl ⟨rfl, rfl, trivial⟩ ?_
  refine wo_nil ?_
  refine wq_seq ?_
  refine wc_seq ?_
  refine wc_region (l := [0, 1, 2]) rfl ?_
  refine wo_seg Θ_ok [0, 1] [(5, v3), (8, v3), (9, .func (.func 53) #[] #[])] rfl ⟨rfl, rfl, rfl, trivial⟩ ?_
  refine wo_call rfl rfl rfl rfl rfl ent57 rfl (sort_c hO h7 hsz) (fun e w' ⟨he, ap⟩ => ⟨_, he, ?_⟩)
  have hF := ap.fr0 h7 hF
  have hS := Sub.trans hS ap.sub
  have hO := ap.ob
  have h8 := ap.own
  refine wo_nil ?_
  refine wq_seq ?_
  refine wc_seq ?_
  refine wc_region (l := [0, 1]) rfl ?_
  refine wo_seg Θ_ok [0, 1] [(4, v3)] rfl ⟨rfl, trivial⟩ ?_
  refine wo_nil ?_
  refine wq_seq ?_
  refine wc_ret ?_
  cases h
  exact wq_ret rfl (fresh_own h8 hS hF hO0 hB)

set_option maxRecDepth 100000 in
set_option maxHeartbeats 4000000 in
theorem b_sorted1_c {O : List Nat} {w : World} (hO : OB O w) {cv0 : Value} {ck0 : List Int} (ch0 : (Ty.ptr (Ty.slice (Ty.int .u64))).is O w cv0 ck0) {xs0 : List Int} (hx0 : b_sorted1 ck0 = some xs0) : Seq1 Try.prog 49 #[cv0] (Value.int .u64) O w (xs0) := by
  intro l0 J Jx Oz wz hT hO0 hJf hJxf hY hJ
  have ch0 := ch0.tr hT
  have hO := hO0
  have hF := Fr.refl [] wz
  have hS := Sub.refl Oz
  have h := hx0
  obtain ⟨kk, ekk⟩ : ∃ kk, kk = 0 := ⟨_, rfl⟩
  rw [← ekk] at hJ
  have hd : xs0.drop kk = xs0 := by rw [ekk]; rfl
  have hk : kk ≤ xs0.length := by rw [ekk]; exact Nat.zero_le _
  unfold b_sorted1 at h
  refine callsIn_of (args := [(.func (.yield l0) #[] #[]), cv0]) (N := 19) Try.func49 rfl rfl rfl ?_
  refine wc_seq ?_
  refine wc_region (l := [0, 1, 2, 3, 4, 5]) rfl ?_
  refine wo_loadp Θ_ok rfl rfl rfl rfl rfl rfl rfl ch0 rfl rfl (fun v2 h3 => ?_)
  refine wo_gives rfl rfl rfl rfl rfl ent52 rfl (s_Values_c hO h3) (fun v4 w5 h6 f7 => ?_)
  have hO := f7.ob hO
  have hF := hF.trans f7
  obtain ⟨z8, hz9, h⟩ := bind_some h
  refine wo_ownc rfl rfl rfl rfl rfl ent51 rfl (s_SortedFunc_f hO hF.size h6 hz9) (fun v10 w11 O12 ap13 => ?_)
  have hF := ap13.fr0 (Go.Dc.Own.nil_ : Go.Dc.Own (Ty.int .u64) 31 wz.heap.size _ _ _ _) hF
  have hS := Sub.trans hS ap13.sub
  have hO := ap13.ob
  have h14 := ap13.own
  obtain ⟨z15, hz16, h⟩ := bind_some h
  refine wo_ownc rfl rfl rfl rfl rfl ent50 rfl (s_Compact_c hO hF.size h14  hz16) (fun v17 w18 O19 ap20 => ?_)
  have hF := ap20.fr0 h14 hF
  have hS := Sub.trans hS ap20.sub
  have hO := ap20.ob
  have h21 := ap20.own
  have h21g := h21.give
  have hS := relv_sub h21 hS hO0
  have hO := relv_ob (v := v17) hO
  obtain ⟨A22, c23, rfl, hlc23, hmc23⟩ := slice_form h21g
  refine wo_seg Θ_ok [4] [(0, (.func (.yield l0) #[] #[])), (8, (.slice A22 z15.length c23)), (9, (.int .i64 (z15.length : Int)))] rfl ⟨rfl, rfl, rfl, trivial⟩ ?_
  refine wo_seg Θ_ok [5] [(0, (.func (.yield l0) #[] #[])), (8, (.slice A22 z15.length c23)), (9, (.int .i64 (z15.length : Int))), (10, (.int .i64 0))] rfl ⟨rfl, rfl, rfl, rfl, trivial⟩ ?_
  refine wo_nil ?_
  refine wq_seq ?_
  refine wc_block ?_
  have h := Option.some.inj h
  refine wc_loop (fun m E W => ∃ (rest26 : List Int) (i25 : Nat) (O29 : List Nat) (kk30 : Nat) (ys31 : List Int) (Oz32 : List Nat) (wz33 : World), rest26.length = m ∧ z15.drop i25 = rest26 ∧ E = [(0, (.func (.yield l0) #[] #[])), (8, (.slice A22 z15.length c23)), (9, (.int .i64 (z15.length : Int))), (10, (.int .i64 (i25 : Int)))] ∧ Tr (relv (.slice A22 z15.length c23) O19) w18 O29 W ∧ OB O29 W ∧ Sub Oz32 O29 ∧ Fr [] wz33 W ∧ xs0.drop kk30 = ys31 ∧ kk30 ≤ xs0.length ∧ J kk30 Oz32 wz33 ∧ OB Oz32 wz33 ∧ b_sorted1_l1 rest26 i25 = ys31) _ [(0, (.func (.yield l0) #[] #[])), (8, (.slice A22 z15.length c23)), (9, (.int .i64 (z15.length : Int))), (10, (.int .i64 ((0 : Nat) : Int)))] ⟨rfl, rfl, rfl, rfl, trivial⟩ ⟨z15, 0, relv (.slice A22 z15.length c23) O19, kk, _, Oz, wz, rfl, rfl, rfl, Tr.refl _ _, hO, hS, hF, hd, hk, hJ, hO0, h⟩ ?_
  rintro m E w34 ⟨rest26, i25, O29, kk30, ys31, Oz32, wz33, rfl, hd28, rfl, T24, hO, hS, hF, hd, hk, hJ, hO0, h⟩
  have h21g := h21g.tr T24
  rcases rest26 with _ | ⟨z27, rest26⟩
  · rw [b_sorted1_l1] at h
    have hl38 := drop_nil hd28
    have hc35 : (decide ((i25 : Int) < (z15.length : Int))) = false := decide_eq_false (by omega)
    refine wc_seq ?_
    refine wc_region (l := [0]) rfl ?_
    refine wo_seg Θ_ok [0] [(0, (.func (.yield l0) #[] #[])), (8, (.slice A22 z15.length c23)), (9, (.int .i64 (z15.length : Int))), (10, (.int .i64 (i25 : Int))), (11, (.bool (decide ((i25 : Int) < (z15.length : Int)))))] rfl ⟨rfl, rfl, rfl, rfl, rfl, trivial⟩ ?_
    refine wo_nil ?_
    refine wq_seq ?_
    refine wc_seq ?_
    refine wc_known_false rfl hc35 ?_
    refine wc_exit ?_
    exact wq_then_exit (wq_then_exit (wq_block_exit (wq_end rfl ⟨⟨_, rfl⟩, .inl ⟨_, iter_done hk (hd.trans h.symm) (hJf _ _ _ _ hJ hF)⟩⟩)))
  rw [b_sorted1_l1] at h
  obtain ⟨hl39, hg37, hd28⟩ := drop_cons hd28
  have hc36 : (decide ((i25 : Int) < (z15.length : Int))) = true := decide_eq_true (by omega)
  refine wc_seq ?_
  refine wc_region (l := [0]) rfl ?_
  refine wo_seg Θ_ok [0] [(0, (.func (.yield l0) #[] #[])), (8, (.slice A22 z15.length c23)), (9, (.int .i64 (z15.length : Int))), (10, (.int .i64 (i25 : Int))), (11, (.bool (decide ((i25 : Int) < (z15.length : Int)))))] rfl ⟨rfl, rfl, rfl, rfl, rfl, trivial⟩ ?_
  refine wo_nil ?_
  refine wq_seq ?_
  refine wc_seq ?_
  refine wc_known_true rfl hc36 ?_
  refine wc_skip ?_
  refine wq_seq ?_
  refine wc_seq ?_
  refine wc_block ?_
  refine wc_seq ?_
  refine wc_region (l := [0, 1, 2]) rfl ?_
  refine wo_index Θ_ok rfl rfl rfl rfl rfl rfl rfl rfl rfl rfl h21g rfl (by omega) hg37 (fun p40 h41 => ?_)
  refine wo_loadp Θ_ok rfl rfl rfl rfl rfl rfl rfl h41 rfl rfl (fun v42 h43 => ?_)
  obtain rfl := int_is.1 h43
  refine wo_seg Θ_ok [2] [(0, (.func (.yield l0) #[] #[])), (4, (.int .u64 z27)), (8, (.slice A22 z15.length c23)), (9, (.int .i64 (z15.length : Int))), (10, (.int .i64 (i25 : Int)))] rfl ⟨rfl, rfl, rfl, rfl, rfl, trivial⟩ ?_
  refine wo_nil ?_
  refine wq_seq ?_
  refine wc_seq ?_
  refine wc_region (l := [0, 1, 2, 3]) rfl ?_
  refine wo_seg Θ_ok [0, 1] [(0, (.func (.yield l0) #[] #[])), (8, (.slice A22 z15.length c23)), (9, (.int .i64 (z15.length : Int))), (10, (.int .i64 (i25 : Int))), (14, (.func (.yield l0) #[] #[])), (15, (.int .u64 z27))] rfl ⟨rfl, rfl, rfl, rfl, rfl, rfl, trivial⟩ ?_
  obtain ⟨hlt, hz, hd⟩ := drop_cons (hd.trans h.symm)
  have hk : (kk30 + 1) ≤ xs0.length := hlt
  clear h
  refine wo_yield (u := (Value.int .u64) z27) rfl rfl rfl rfl rfl rfl rfl (hY kk30 _ Oz32 w34 hz (hJf _ _ _ _ hJ hF) (hF.ob hO0)) ?_
  rintro e w_y (⟨rfl, O44, hJ, T46, hO0⟩ | ⟨rfl, hJx⟩)
  · obtain ⟨w45, rfl⟩ : ∃ u, u = w_y := ⟨_, rfl⟩
    refine ⟨.bool true, rfl, ?_⟩
    have h : _ = xs0.drop (kk30 + 1) := hd.symm
    have hd : xs0.drop (kk30 + 1) = xs0.drop (kk30 + 1) := rfl
    have T46 := T46.more hS
    have h21g := h21g.tr T46
    have T24 := T24.trans T46
    have hF := Fr.refl [] w45
    have hS := Sub.refl O44
    have hO := hO0
    refine wo_seg Θ_ok [3] [(0, (.func (.yield l0) #[] #[])), (8, (.slice A22 z15.length c23)), (9, (.int .i64 (z15.length : Int))), (10, (.int .i64 (i25 : Int))), (17, (.bool false))] rfl ⟨rfl, rfl, rfl, rfl, rfl, trivial⟩ ?_
    refine wo_nil ?_
    refine wq_seq ?_
    refine wc_false rfl ?_
    refine wc_skip ?_
    refine wq_block (wq_seq ?_)
    refine wc_region (l := [0, 1]) rfl ?_
    refine wo_seg Θ_ok [0, 1] [(0, (.func (.yield l0) #[] #[])), (8, (.slice A22 z15.length c23)), (9, (.int .i64 (z15.length : Int))), (10, (.int .i64 (IntKind.i64.wrap ((i25 : Int) + (1 : Int)))))] rfl ⟨rfl, rfl, rfl, rfl, trivial⟩ ?_
    refine wo_nil ?_
    exact wq_next rest26.length [(0, (.func (.yield l0) #[] #[])), (8, (.slice A22 z15.length c23)), (9, (.int .i64 (z15.length : Int))), (10, (.int .i64 ((i25 + 1 : Nat) : Int)))] (Nat.lt_succ_self _) ⟨rfl, rfl, rfl, congrArg (fun z => some (Value.int .i64 z)) (wrap_succ hl39 (Nat.le_trans hlc23 hmc23)), trivial⟩ ⟨rest26, i25 + 1, O44, (kk30 + 1), _, O44, w45, rfl, hd28, rfl, T24, hO, hS, hF, hd, hk, hJ, hO0, h⟩
  · obtain ⟨w47, rfl⟩ : ∃ u, u = w_y := ⟨_, rfl⟩
    refine ⟨.bool false, rfl, ?_⟩
    have hF := Fr.refl [] w47
    refine wo_seg Θ_ok [3] [(9, (.int .i64 (z15.length : Int))), (10, (.int .i64 (i25 : Int))), (17, (.bool true))] rfl ⟨rfl, rfl, rfl, trivial⟩ ?_
    refine wo_nil ?_
    refine wq_seq ?_
    refine wc_true rfl ?_
    refine wc_ret ?_
    exact wq_block_ret (wq_then_ret (wq_then_ret (wq_block_ret (wq_ret rfl ⟨⟨_, rfl⟩, .inr (hJxf _ _ hJx hF)⟩))))
set_option maxRecDepth 100000 in
set_option maxHeartbeats 4000000 in
theorem b_sorted_c {O : List Nat} {w : World} (hO : OB O w) {v0 : Value} {x0 : List Int} (h0 : (Ty.slice (Ty.int .u64)).is O w v0 x0) {r : List Int} (h : b_sorted x0 = some r) : Calls Try.prog 40 #[v0] w (Gives (rt1 (Ty.seq Try.prog (Value.int .u64))) O w r) := by
  have hF := Fr.refl [] w
  have hO0 := hO
  have hS := Sub.refl O
  refine calls_of (args := [v0]) (N := 4) Try.func40 rfl rfl rfl ?_
  unfold b_sorted at h
  refine wc_seq ?_
  refine wc_region (l := [0, 1]) rfl ?_
  refine wo_box rfl rfl rfl rfl rfl rfl [v0] (cells_of rfl h0) hO (fun b2 w3 n4 => ?_)
  have h0 := h0.tr n4.tr
  have hb2 := n4.blk
  have gb2 := n4.ge0 hF
  have ib2 : b2 ∈ b2 :: O := List.mem_cons_self
  have hO := n4.ob
  have hF := hF.trans n4.fr
  have hS := Sub.cons hS b2
  refine wo_seg Θ_ok [1] [(1, (.pointer (some ⟨b2, 0, none⟩)))] rfl ⟨rfl, trivial⟩ ?_
  refine wo_nil ?_
  refine wq_seq ?_
  refine wc_seq ?_
  refine wc_region (l := [0, 1]) rfl ?_
  have p5 := rel_ptr (T := (Ty.slice (Ty.int .u64))) hb2 (Ty.tr _ (rel_tr b2 (b2 :: O) w3) (rep_of rfl h0))
  have h0 := h0.tr (rel_tr b2 (b2 :: O) w3)
  have hO := rel_ob (b := b2) hO
  have hS := rel_sub hS hO0 gb2
  obtain ⟨z6, hz7, h⟩ := bind_some h
  refine wo_seg Θ_ok [0, 1] [(2, (.func (.func 49) #[] #[(.pointer (some ⟨b2, 0, none⟩))]))] rfl ⟨rfl, trivial⟩ ?_
  refine wo_nil ?_
  refine wq_seq ?_
  refine wc_ret ?_
  have h8 : (Ty.seq Try.prog (Value.int .u64)).is (rel b2 (b2 :: O)) w3 (.func (.func 49) #[] #[(.pointer (some ⟨b2, 0, none⟩))]) z6 := (seq_is (lb := [(.pointer (some ⟨b2, 0, none⟩))]) ent49 (fun O' w' ht hO => b_sorted1_c hO (p5.tr ht) hz7))
  cases h
  exact wq_ret rfl ⟨_, rfl, (h8.tr (Tr.less hS)), hF⟩
set_option maxRecDepth 100000 in
set_option maxHeartbeats 4000000 in
theorem b_Spread_m {O : List Nat} {w : World} (hO : OB O w) {O2 : List Nat} (hO2 : OB O2 w) {v0 : Value} {x0 : Int} (h0 : (Ty.int .i64).is O w v0 x0) {v1 : Value} {x1 : List Int} (h1 : (Ty.slice (Ty.int .u64)).is O w v1 x1) {r : (List (List Int)) × Int} (h : b_Spread x0 x1 = some r) : Calls Try.prog 21 #[v0, v1] w (Gives (rt2 (Ty.slice (Ty.slice (Ty.int .u64))) (Ty.int .i64)) O2 w r) := by
  obtain rfl := int_is.1 h0
  have hF := Fr.refl [] w
  have hO0 := hO
  have hS := Sub.refl O
  refine calls_of (args := [(.int .i64 x0), v1]) (N := 39) Try.func21 rfl rfl rfl ?_
  unfold b_Spread at h
  refine wc_seq ?_
  refine wc_region (l := [0, 1]) rfl ?_
  refine wo_seg Θ_ok [0, 1] [(0, (.int .i64 x0)), (1, v1)] rfl ⟨rfl, rfl, trivial⟩ ?_
  refine wo_nil ?_
  refine wq_seq ?_
  refine wc_seq ?_
  refine wc_region (l := [0, 1, 2, 3, 4, 5, 6, 7, 8]) rfl ?_
  refine wo_gives rfl rfl rfl rfl rfl ent37 rfl (depths_c hO ) (fun v3 w4 h5 f6 => ?_)
  have h1 := h1.tr f6.tr0
  have hO := f6.ob hO
  have hF := hF.trans f6
  refine wo_seg Θ_ok [1] [(0, (.int .i64 x0)), (1, v1), (12, v3), (13, (.int .i64 x0))] rfl ⟨rfl, rfl, rfl, rfl, trivial⟩ ?_
  refine wo_lookM Θ_ok rfl rfl rfl rfl rfl rfl rfl rfl rfl rfl rfl rfl rfl rfl h5 ?_
  refine wo_seg Θ_ok [3, 4, 5] [(0, (.int .i64 x0)), (1, v1), (15, (.int .i64 ((lookM depths x0).getD 0))), (16, (.bool (lookM depths x0).isSome))] rfl ⟨rfl, rfl, rfl, rfl, trivial⟩ ?_
  refine wo_alloc Θ_ok rfl rfl rfl rfl rfl rfl [(.int .i64 0)] rfl hO (fun b7 w8 n9 => ?_)
  have h1 := h1.tr n9.tr
  have hb7 := n9.blk
  have gb7 := n9.ge0 hF
  have ib7 : b7 ∈ b7 :: O := List.mem_cons_self
  have hO := n9.ob
  have hF := hF.trans n9.fr
  have hS := Sub.cons hS b7
  refine wo_store Θ_ok rfl rfl rfl rfl rfl rfl rfl hb7 [(.int .i64 ((lookM depths x0).getD 0))] rfl rfl (by simp [Value.oneCell']) rfl [(.int .i64 ((lookM depths x0).getD 0))] rfl (fun w10 hb7 f11 => ?_)
  have h1 := h1.tr (f11.tr (one_in ib7))
  have hO := f11.ob hO
  have hF := hF.own f11 gb7
  refine wo_seg Θ_ok [8] [(0, (.int .i64 x0)), (1, v1), (6, (.pointer (some ⟨b7, 0, none⟩))), (7, (.bool (lookM depths x0).isSome))] rfl ⟨rfl, rfl, rfl, rfl, trivial⟩ ?_
  refine wo_nil ?_
  refine wq_seq ?_
  refine wc_seq ?_
  refine wc_seq ?_
  refine wc_region (l := [0, 1]) rfl ?_
  refine wo_seg Θ_ok [0, 1] [(0, (.int .i64 x0)), (1, v1), (6, (.pointer (some ⟨b7, 0, none⟩))), (18, (.bool (!(lookM depths x0).isSome)))] rfl ⟨rfl, rfl, rfl, rfl, trivial⟩ ?_
  refine wo_nil ?_
  refine wq_seq ?_
  rcases bif_some h with ⟨hc12, h⟩ | ⟨hc12, h⟩
  · refine wc_known_true rfl hc12 ?_
    refine wc_seq ?_
    refine wc_region (l := [0, 1]) rfl ?_
    refine wo_seg Θ_ok [0, 1] [(4, (.slice none 0 0)), (5, (.int .i64 2))] rfl ⟨rfl, rfl, trivial⟩ ?_
    refine wo_nil ?_
    refine wq_seq ?_
    refine wc_ret ?_
    cases h
    exact wq_then_ret (wq_ret rfl ⟨_, rfl, ⟨_, _, rfl, (slice_nil _ _ _), (int_is.2 rfl)⟩, hF⟩)
  refine wc_known_false rfl hc12 ?_
  refine wc_skip ?_
  refine wq_seq ?_
  refine wc_seq ?_
  refine wc_region (l := [0, 1, 2, 3]) rfl ?_
  refine wo_seg Θ_ok [0] [(1, v1), (6, (.pointer (some ⟨b7, 0, none⟩))), (19, (.int .i64 x0))] rfl ⟨rfl, rfl, rfl, trivial⟩ ?_
  obtain ⟨z13, hz14, h⟩ := bind_some h
  refine wo_makeT Θ_ok rfl rfl rfl rfl rfl rfl rfl rfl rfl rfl (A := (OTy.row (OTy.of (Ty.int .u64)) 31)) (z := []) rfl rfl ⟨_, rfl, .inl ⟨rfl, rfl, rfl⟩⟩ hO hF.size hz14 (fun b15 w16 v17 n18 h19 => ?_)
  obtain ⟨_, n18⟩ := n18
  obtain ⟨sx20, hs21⟩ : ∃ s, s = [b15] := ⟨_, rfl⟩
  rw [← hs21] at h19
  have h1 := h1.tr n18.tr
  have qh19b7 : b7 ∉ sx20 := by rw [hs21]; exact nin (show b7 ≠ b15 by have := hb7.lt; have := n18.ge; omega)
  have hb7 := hb7.fr0 n18.fr
  have ib7 := List.mem_cons_of_mem b15 ib7
  have hO := n18.ob
  have hF := hF.trans n18.fr
  have hS := Sub.cons hS b15
  refine wo_alloc Θ_ok rfl rfl rfl rfl rfl rfl [(.slice none 0 0)] rfl hO (fun b22 w23 n24 => ?_)
  have h1 := h1.tr n24.tr
  have qh19b22 := h19.ne_new n24
  have h19 := h19.new n24
  have nb22b7 : b22 ≠ b7 := by have := hb7.lt; have := n24.ge; omega
  have hb7 := hb7.fr0 n24.fr
  have ib7 := List.mem_cons_of_mem b22 ib7
  have hb22 := n24.blk
  have gb22 := n24.ge0 hF
  have ib22 : b22 ∈ b22 :: (b15 :: b7 :: O) := List.mem_cons_self
  have hO := n24.ob
  have hF := hF.trans n24.fr
  have hS := Sub.cons hS b22
  obtain ⟨A25, c26, rfl, hlc26, hmc26⟩ := h19.form
  refine wo_store Θ_ok rfl rfl rfl rfl rfl rfl rfl hb22 [(.slice A25 z13.length c26)] rfl rfl (by simp [Value.oneCell']) rfl [(.slice A25 z13.length c26)] rfl (fun w27 hb22 f28 => ?_)
  have h1 := h1.tr (f28.tr (one_in ib22))
  have hb7 := hb7.fr f28 (nin nb22b7.symm)
  have h19 := h19.st f28 ib22 qh19b22
  have hO := f28.ob hO
  have hF := hF.own f28 gb22
  refine wo_nil ?_
  refine wq_seq ?_
  refine wc_seq ?_
  refine wc_seq ?_
  refine wc_region (l := [0, 1]) rfl ?_
  refine wo_seg Θ_ok [0] [(6, (.pointer (some ⟨b7, 0, none⟩))), (8, (.pointer (some ⟨b22, 0, none⟩))), (21, v1)] rfl ⟨rfl, rfl, rfl, trivial⟩ ?_
  obtain ⟨y33, hy34, h⟩ := bind_some h
  refine wo_gives rfl rfl rfl rfl rfl ent40 rfl (b_sorted_c hO h1 hy34) (fun v29 w30 h31 f32 => ?_)
  have hb7 := hb7.fr0 f32
  have hb22 := hb22.fr0 f32
  have h19 := h19.fr0 f32
  have hO := f32.ob hO
  have hF := hF.trans f32
  refine wo_nil ?_
  refine wq_seq ?_
  refine wc_block ?_
  have hFeb_Spread_l1 := hF
  refine wc_rangeFunc rfl h31 hO rfl (fun k O42 W => ∃ (rest39 : List Int) (p35 : List (List Int)) (v36 : Value) (sx38 : List Nat), y33.drop k = rest39 ∧ Sub O O42 ∧ Fr [] w W ∧ b7 ∈ O42 ∧ Blk W b7 3 [(.int .i64 ((lookM depths x0).getD 0))] ∧ b22 ∈ O42 ∧ Blk W b22 39 [v36] ∧ OwnT (OTy.row (OTy.of (Ty.int .u64)) 31) 35 w.heap.size O42 W sx38 v36 p35 ∧ b7 ∉ sx38 ∧ b22 ∉ sx38 ∧ b_Spread_l1 x0 rest39 p35 = some r) (fun c O2 W => False) (by rintro k O42 W W' hk ⟨rest39, p35, v36, sx38, hd40, hS, hF, ib7, hb7, ib22, hb22, h37, qh37b7, qh37b22, h⟩; exact ⟨rest39, p35, v36, sx38, hd40, hS, hk.fr hF hFeb_Spread_l1.size, ib7, hb7.bk hk, ib22, hb22.bk hk, h37.bk hk, qh37b7, qh37b22, h⟩) (by rintro k O42 W W' hk ⟨rest39, p35, v36, sx38, hd40, hS, hF, ib7, hb7, ib22, hb22, h37, qh37b7, qh37b22, h⟩; exact ⟨rest39, p35, v36, sx38, hd40, hS, hF.trans hk, ib7, hb7.fr0 hk, ib22, hb22.fr0 hk, h37.fr0 hk, qh37b7, qh37b22, h⟩) (fun _ _ _ _ _ h => h.elim) (fun _ _ _ _ _ h => h.elim) (fun O' W' T S B hk => ⟨y33, z13, (.slice A25 z13.length c26), sx20, (by simp), Sub.trans hS S, hF.trans hk, S _ ib7, hb7.fr0 hk, S _ ib22, hb22.fr0 hk, h19.into T hk S, qh19b7, qh19b22, h⟩) ?_ ?_ ?_
  · rintro D43 l44 k rec rec' z46 O42 w45 hz47 T41 hO grD43 grl44 irD43 irl44 nel44 hrl44 hrD43 ⟨rest39, p35, v36, sx38, hd40, hS, hF, ib7, hb7, ib22, hb22, h37, qh37b7, qh37b22, h⟩
    have T_ll44 := T41
    rw [drop_get hz47] at hd40
    subst hd40
    rw [b_Spread_l1] at h
    have h31 := h31.tr T41
    have T48 := Tr.refl O42 w45
    refine wc_region (l := [0]) rfl ?_
    refine wo_seg Θ_ok [0] [(6, (.pointer (some ⟨b7, 0, none⟩))), (8, (.pointer (some ⟨b22, 0, none⟩))), (9, (.int .u64 z46)), (22, v29)] rfl ⟨rfl, rfl, rfl, rfl, trivial⟩ ?_
    refine wo_nil ?_
    refine wq_begin (O2 := O42) irl44 nel44 hrl44 grl44 hrD43 (fun w50 hk49 hrl44 hrD43 => ?_)
    have h31 := h31.tr hk49.tr
    have hb7 := hb7.bk hk49
    have hb22 := hb22.bk hk49
    have h37 := h37.bk hk49
    have T48 := T48.trans hk49.tr
    have hF := hk49.fr hF hFeb_Spread_l1.size
    have hO := hk49.ob hO
    refine wc_block ?_
    refine wc_seq ?_
    obtain ⟨y51, hy52, h⟩ := bind_some h
    refine wc_draw mixed [⟨24, [], [9]⟩, ⟨25, [0], []⟩, ⟨26, [], [6]⟩, ⟨27, [1, 2], []⟩, ⟨10, [3], []⟩] [SP.eq (.int .u64 z46), SP.eq (.int .u64 (b_Hash z46)), SP.eq (.int .i64 ((lookM depths x0).getD 0)), SP.eq (.int .i64 y51), SP.eq (.int .i64 y51)] rfl rfl rfl ⟨?_, ?_, ?_, ?_, ?_, trivial⟩ ?_
    · intro a w2 hfr hN hds hb hd
      exact op_plain Θ_ok ⟨hN, hds, rows_get (E := [(9, (.int .u64 z46))]) ⟨hb 9 rfl _ rfl, trivial⟩⟩ rfl rfl rfl rfl rfl
    · intro a w2 hfr hN hds hb hd
      exact (op_call ⟨hN, hds, rows_get (E := [(24, (.int .u64 z46))]) ⟨(hd 0 rfl _ _ rfl rfl), trivial⟩⟩ rfl rfl rfl rfl ent14 rfl (b_Hash_c (hfr.ob hO) (int_is.2 rfl))).weaken (fun u w3 ⟨hu, hf⟩ => ⟨int_is.1 hu, hf⟩)
    · intro a w2 hfr hN hds hb hd
      have hb7 := hb7.fr0 hfr
      exact op_load Θ_ok ⟨hN, hds, rows_get (E := [(6, (.pointer (some ⟨b7, 0, none⟩)))]) ⟨hb 6 rfl _ rfl, trivial⟩⟩ rfl rfl rfl rfl rfl rfl hb7 [(.int .i64 ((lookM depths x0).getD 0))] rfl rfl (.inr rfl) (.int .i64 ((lookM depths x0).getD 0)) rfl
    · intro a w2 hfr hN hds hb hd
      exact (op_call ⟨hN, hds, rows_get (E := [(25, (.int .u64 (b_Hash z46))), (26, (.int .i64 ((lookM depths x0).getD 0)))]) ⟨(hd 1 rfl _ _ rfl rfl), (hd 2 rfl _ _ rfl rfl), trivial⟩⟩ rfl rfl rfl rfl ent39 rfl (b_at_c (hfr.ob hO) (int_is.2 rfl) (int_is.2 rfl) hy52)).weaken (fun u w3 ⟨hu, hf⟩ => ⟨int_is.1 hu, hf⟩)
    · intro a w2 hfr hN hds hb hd
      exact op_plain Θ_ok ⟨hN, hds, rows_get (E := [(27, (.int .i64 y51))]) ⟨(hd 3 rfl _ _ rfl rfl), trivial⟩⟩ rfl rfl rfl rfl rfl
    intro a w54 f53 hN hds hb hr
    have h31 := h31.tr f53.tr0
    have hb7 := hb7.fr0 f53
    have hb22 := hb22.fr0 f53
    have h37 := h37.fr0 f53
    have hrl44 := hrl44.fr0 f53
    have hrD43 := hrD43.fr0 f53
    have T48 := T48.trans f53.tr0
    have hO := f53.ob hO
    have hF := hF.trans f53
    refine wq_go (E := [(6, (.pointer (some ⟨b7, 0, none⟩))), (8, (.pointer (some ⟨b22, 0, none⟩))), (9, (.int .u64 z46)), (22, v29), (10, (.int .i64 y51))]) hN hds ⟨hb 6 _ rfl rfl, hb 8 _ rfl rfl, hb 9 _ rfl rfl, hb 22 _ rfl rfl, (hr 4 _ _ rfl rfl), trivial⟩ ?_
    refine wq_seq ?_
    obtain ⟨y55, hz56, h⟩ := bind_some h
    obtain ⟨z57, hz58, h⟩ := bind_some h
    obtain ⟨g59, cp60, cl61, u62, cr63, ev64, hbg65, hcl66, hgO67, hgS68, hxc69, hou70, hug71, h1u72, huS73, hup74⟩ := tree_at hO h37 (idx_some hz56).2
    subst ev64
    have hltg59 : y51.toNat < p35.length := (List.getElem?_eq_some_iff.1 (idx_some hz56).2).1
    refine wc_drawK mixed [⟨28, [], [8]⟩, ⟨29, [], [10]⟩, ⟨30, [], [8]⟩, ⟨31, [], [10]⟩, ⟨32, [2, 3], []⟩, ⟨33, [4], []⟩, ⟨34, [], [9]⟩, ⟨35, [6], []⟩] [SP.eq (.slice (some ⟨g59, 0, none⟩) p35.length cp60), SP.eq (.int .i64 y51), SP.eq (.slice (some ⟨g59, 0, none⟩) p35.length cp60), SP.eq (.int .i64 y51), SP.eq (.pointer (some ⟨g59, y51.toNat, none⟩)), SP.eq u62, SP.eq (.int .u64 z46), SP.is (Ty.slice (Ty.int .u64)) O42 [z46]] [some (.slice (some ⟨g59, 0, none⟩) p35.length cp60), some (.int .i64 y51), none, none, none, none, none, none] 36 [5, 7] [2, 3, 4, 5, 6, 7] (fun w1 w2 u => ∃ O', Appended (Ty.int .u64) 31 w.heap.size O42 w1 u62 z57 O' w2 u) rfl rfl rfl rfl rfl rfl ⟨fun _ _ h => h, fun _ _ h => h, trivial⟩ ⟨?_, ?_, ?_, ?_, ?_, ?_, ?_, ?_, trivial⟩ ?_ ⟨?_, ?_, rfl, rfl, rfl, rfl, rfl, rfl, trivial⟩ ?_
    · intro a w2 hfr hN hds hb hd
      have hb22 := hb22.fr0 hfr
      exact op_load Θ_ok ⟨hN, hds, rows_get (E := [(8, (.pointer (some ⟨b22, 0, none⟩)))]) ⟨hb 8 rfl _ rfl, trivial⟩⟩ rfl rfl rfl rfl rfl rfl hb22 [(.slice (some ⟨g59, 0, none⟩) p35.length cp60)] rfl rfl (.inr rfl) (.slice (some ⟨g59, 0, none⟩) p35.length cp60) rfl
    · intro a w2 hfr hN hds hb hd
      exact op_plain Θ_ok ⟨hN, hds, rows_get (E := [(10, (.int .i64 y51))]) ⟨hb 10 rfl _ rfl, trivial⟩⟩ rfl rfl rfl rfl rfl
    · intro a w2 hfr hN hds hb hd
      have hb22 := hb22.fr0 hfr
      exact op_load Θ_ok ⟨hN, hds, rows_get (E := [(8, (.pointer (some ⟨b22, 0, none⟩)))]) ⟨hb 8 rfl _ rfl, trivial⟩⟩ rfl rfl rfl rfl rfl rfl hb22 [(.slice (some ⟨g59, 0, none⟩) p35.length cp60)] rfl rfl (.inr rfl) (.slice (some ⟨g59, 0, none⟩) p35.length cp60) rfl
    · intro a w2 hfr hN hds hb hd
      exact op_plain Θ_ok ⟨hN, hds, rows_get (E := [(10, (.int .i64 y51))]) ⟨hb 10 rfl _ rfl, trivial⟩⟩ rfl rfl rfl rfl rfl
    · intro a w2 hfr hN hds hb hd
      refine (op_indexV Θ_ok ⟨hN, hds, rows_get (E := [(30, (.slice (some ⟨g59, 0, none⟩) p35.length cp60)), (31, (.int .i64 y51))]) ⟨(hd 2 rfl _ _ rfl rfl), (hd 3 rfl _ _ rfl rfl), trivial⟩⟩ rfl rfl rfl rfl rfl rfl rfl rfl rfl (idx_some hz56).1 hltg59).weaken (fun u w3 ⟨hu, hf⟩ => ⟨?_, hf⟩)
      rw [hu, add_at, Nat.zero_add]
      exact congrArg (fun q => Value.pointer (some ⟨g59, q, none⟩)) (Nat.mul_one _)
    · intro a w2 hfr hN hds hb hd
      exact op_load Θ_ok ⟨hN, hds, rows_get (E := [(32, (.pointer (some ⟨g59, y51.toNat, none⟩)))]) ⟨(hd 4 rfl _ _ rfl rfl), trivial⟩⟩ rfl rfl rfl rfl rfl rfl (hbg65.fr0 hfr) [u62] (by rw [← hcl66]; simp) rfl (.inr rfl) u62 rfl
    · intro a w2 hfr hN hds hb hd
      exact op_plain Θ_ok ⟨hN, hds, rows_get (E := [(9, (.int .u64 z46))]) ⟨hb 9 rfl _ rfl, trivial⟩⟩ rfl rfl rfl rfl rfl
    · intro a w2 hfr hN hds hb hd
      exact op_lit Θ_ok ⟨hN, hds, rows_get (E := [(34, (.int .u64 z46))]) ⟨(hd 6 rfl _ _ rfl rfl), trivial⟩⟩ rfl rfl rfl rfl rfl rfl rfl rfl rfl (T := (Ty.int .u64)) (xs := [z46]) (vs := [(.int .u64 z46)]) rfl ⟨(int_is.2 rfl), trivial⟩ rfl rfl rfl (hfr.ob hO)
    · intro a w2 hfr hN hds hd
      have hlit : (Ty.slice (Ty.int .u64)).is O42 w2 (a.tmps.getD 35 undef) [z46] := hd 7 rfl _ _ rfl rfl
      obtain ⟨lt, el⟩ : ∃ v, a.tmps.getD 35 undef = v := ⟨_, rfl⟩
      rw [el] at hlit
      exact OpK.weaken (op_app Θ_ok ⟨hN, hds, rows_get (E := [(33, u62), (35, lt)]) ⟨hd 5 rfl _ _ rfl rfl, el, trivial⟩⟩ rfl rfl rfl rfl rfl rfl rfl rfl rfl rfl rfl rfl rfl rfl rfl (hF.trans hfr) (hfr.ob hO) (hou70.fr0 hfr) hlit hz58) (fun _ _ h => h)
    · rintro w1 w2 u hf1 ⟨O', ap⟩ a w' hfr hN hds hb
      have hbb := (ap.blk (hb22.fr0 hf1) (huS73 _ qh37b22)).fr0 hfr
      exact op_load Θ_ok ⟨hN, hds, rows_get (E := [(8, (.pointer (some ⟨b22, 0, none⟩)))]) ⟨hb 8 rfl _ rfl, trivial⟩⟩ rfl rfl rfl rfl rfl rfl hbb [(.slice (some ⟨g59, 0, none⟩) p35.length cp60)] rfl rfl (.inr rfl) (.slice (some ⟨g59, 0, none⟩) p35.length cp60) rfl
    · rintro w1 w2 u hf1 ⟨O', ap⟩ a w' hfr hN hds hb
      exact op_plain Θ_ok ⟨hN, hds, rows_get (E := [(10, (.int .i64 y51))]) ⟨hb 10 rfl _ rfl, trivial⟩⟩ rfl rfl rfl rfl rfl
    rintro w78 w79 u90 a w75 f76 ⟨O80, ap81⟩ f77 hN hds hbs hkp hu
    obtain ⟨A82, c83, rfl, _, _⟩ := ap81.own.form
    refine wo_go (E := [(28, (.slice (some ⟨g59, 0, none⟩) p35.length cp60)), (29, (.int .i64 y51)), (36, (.slice A82 z57.length c83)), (6, (.pointer (some ⟨b7, 0, none⟩))), (8, (.pointer (some ⟨b22, 0, none⟩))), (22, v29)]) (l := [9, 10]) hN hds ⟨(hkp 0 _ _ rfl rfl), (hkp 1 _ _ rfl rfl), hu, hbs 6 _ rfl rfl, hbs 8 _ rfl rfl, hbs 22 _ rfl rfl, trivial⟩ rfl ?_
    refine wo_indexV Θ_ok rfl rfl rfl rfl rfl rfl rfl rfl rfl rfl (idx_some hz56).1 hltg59 ?_
    rw [add_at, Nat.zero_add]
    refine wo_store (off := y51.toNat) Θ_ok rfl rfl rfl rfl rfl (congrArg (fun q => some (Value.pointer (some ⟨g59, q, none⟩))) (Nat.mul_one _)) rfl ((ap81.blk (hbg65.fr0 f76) hug71).fr0 f77) [.slice A82 z57.length c83] rfl rfl (by simp [Value.oneCell']) (by rw [← hcl66]; exact Nat.ble_eq_true_of_le (by show cl61.length + 1 ≤ _; simp)) (cl61 ++ [.slice A82 z57.length c83] ++ cr63) (by rw [← hcl66]; simp [putAt]) (fun w84 hb85 f86 => ?_)
    obtain ⟨sx87, h88, up89⟩ := hup74 f76 ap81 ((f77.more (by simp)).trans f86) hb85
    have h31 := h31.tr up89.tr
    have T48 := T48.trans up89.tr
    have qh88b7 := up89.nin hb7 qh37b7
    have hb7 := up89.blk hb7 qh37b7
    have ib7 := up89.sub _ ib7
    have qh88b22 := up89.nin hb22 qh37b22
    have hb22 := up89.blk hb22 qh37b22
    have ib22 := up89.sub _ ib22
    have hrl44 := up89.mark hrl44 (hrl44.ne_ownT h37)
    have irl44 := up89.sub _ irl44
    have hrD43 := up89.mark hrD43 (hrD43.ne_ownT h37)
    have irD43 := up89.sub _ irD43
    have hF := up89.fr0 (fun g hg => (h37.lt g hg).1) hF
    have hO := up89.ob
    have hS := Sub.trans hS up89.sub
    refine wo_nil ?_
    exact wq_block (wq_round T48 hO irD43 irl44 hrl44 hrD43 ⟨(y33.drop (k + 1)), (p35.set y51.toNat z57), (.slice (some ⟨g59, 0, none⟩) p35.length cp60), sx87, rfl, hS, hF, ib7, hb7, ib22, hb22, h88, qh88b7, qh88b22, h⟩)
  · rintro D91 O42 w92 grD91 T41 hO irD91 hrD91 ⟨rest39, p35, v36, sx38, hd40, hS, hF, ib7, hb7, ib22, hb22, h37, qh37b7, qh37b22, h⟩
    rw [List.drop_length] at hd40
    subst hd40
    rw [b_Spread_l1] at h
    have grD91 := Nat.le_trans hFeb_Spread_l1.size grD91
    have h31 := h31.tr T41
    refine wq_block (wq_seq ?_)
    refine wc_seq ?_
    refine wc_region (l := [0, 1, 2]) rfl ?_
    refine wo_load Θ_ok rfl rfl rfl rfl rfl rfl rfl hb22 [v36] rfl rfl (.inr rfl) v36 rfl ?_
    refine wo_seg Θ_ok [1, 2] [(4, v36), (5, (.int .i64 0))] rfl ⟨rfl, rfl, trivial⟩ ?_
    refine wo_nil ?_
    refine wq_seq ?_
    refine wc_ret ?_
    refine wq_mark_ret (n0 := w.heap.size) hrD91 irD91 grD91 (fun w94 hk93 => ?_)
    have hb7 := hb7.bk hk93
    have hb22 := hb22.bk hk93
    have h37 := h37.bk hk93
    have hF := hk93.fr hF (Nat.le_refl _)
    have hO := hk93.ob hO
    cases h
    exact wq_ret rfl ⟨_, rfl, ⟨_, _, rfl, (OwnT.share_flat (any_row (any_of (fun h => h)) 31) h37 hO2), (int_is.2 rfl)⟩, hF⟩
  · intro _ _ _ _ _ _ _ _ hz
    exact hz.elim
theorem b_Spread_n {O : List Nat} {w : World} (hO : OB O w) {v0 : Value} {x0 : Int} (h0 : (Ty.int .i64).is [] w v0 x0) {v1 : Value} {x1 : List Int} (h1 : (Ty.slice (Ty.int .u64)).is [] w v1 x1) {r : (List (List Int)) × Int} (h : b_Spread x0 x1 = some r) : Calls Try.prog 21 #[v0, v1] w (Gives (rt2 (Ty.slice (Ty.slice (Ty.int .u64))) (Ty.int .i64)) O w r) := b_Spread_m (ob_nil w) hO h0 h1 h
theorem b_Spread_c {O : List Nat} {w : World} (hO : OB O w) {v0 : Value} {x0 : Int} (h0 : (Ty.int .i64).is O w v0 x0) {v1 : Value} {x1 : List Int} (h1 : (Ty.slice (Ty.int .u64)).is O w v1 x1) {r : (List (List Int)) × Int} (h : b_Spread x0 x1 = some r) : Calls Try.prog 21 #[v0, v1] w (Gives (rt2 (Ty.slice (Ty.slice (Ty.int .u64))) (Ty.int .i64)) O w r) := b_Spread_n hO (h0.tr (Tr.less (sub_nil _))) (h1.tr (Tr.less (sub_nil _))) h
set_option maxRecDepth 100000 in
set_option maxHeartbeats 4000000 in
theorem b_Check_c {O : List Nat} {w : World} (hO : OB O w) {v0 : Value} {x0 : List (List Int)} (h0 : (Ty.slice (Ty.slice (Ty.int .u64))).is O w v0 x0) {r : Int} (h : b_Check x0 = some r) : Calls Try.prog 28 #[v0] w (Gives (rt1 (Ty.int .i64)) O w r) := by
  have hF := Fr.refl [] w
  have hO0 := hO
  have hS := Sub.refl O
  refine calls_of (args := [v0]) (N := 21) Try.func28 rfl rfl rfl ?_
  unfold b_Check at h
  refine wc_seq ?_
  refine wc_region (l := [0]) rfl ?_
  refine wo_seg Θ_ok [0] [(0, v0)] rfl ⟨rfl, trivial⟩ ?_
  refine wo_nil ?_
  refine wq_seq ?_
  refine wc_seq ?_
  refine wc_region (l := [0, 1, 2, 3, 4, 5, 6, 7, 8, 9]) rfl ?_
  refine wo_seg Θ_ok [0] [(0, v0), (6, v0)] rfl ⟨rfl, rfl, trivial⟩ ?_
  obtain ⟨A2, c3, rfl, hlc3, hmc3⟩ := slice_form h0
  refine wo_seg Θ_ok [1] [(0, (.slice A2 x0.length c3)), (7, (.int .i64 (x0.length : Int)))] rfl ⟨rfl, rfl, trivial⟩ ?_
  refine wo_seg Θ_ok [2] [(0, (.slice A2 x0.length c3)), (7, (.int .i64 (x0.length : Int))), (8, (.slice A2 x0.length c3))] rfl ⟨rfl, rfl, rfl, trivial⟩ ?_
  obtain ⟨y8, hy9, h⟩ := bind_some h
  refine wo_gives rfl rfl rfl rfl rfl ent35 rfl (s_Concat_c hO h0 hy9) (fun v4 w5 h6 f7 => ?_)
  have h0 := h0.tr f7.tr0
  have hO := f7.ob hO
  have hF := hF.trans f7
  obtain ⟨y14, hy15, h⟩ := bind_some h
  refine wo_gives rfl rfl rfl rfl rfl ent21 rfl (b_Spread_c hO (int_is.2 rfl) h6 hy15) (fun v10 w11 h12 f13 => ?_)
  have h0 := h0.tr f13.tr0
  have hO := f13.ob hO
  have hF := hF.trans f13
  obtain ⟨u16, u18, rfl, h17, h19⟩ := h12
  obtain rfl := int_is.1 h19
  refine wo_seg Θ_ok [5, 6, 7, 8, 9] [(0, (.slice A2 x0.length c3)), (3, u16), (4, (.int .i64 y14.2))] rfl ⟨rfl, rfl, rfl, trivial⟩ ?_
  refine wo_nil ?_
  refine wq_seq ?_
  refine wc_seq ?_
  refine wc_seq ?_
  refine wc_region (l := [0, 1, 2, 3, 4, 5, 6, 7]) rfl ?_
  refine wo_seg Θ_ok [0, 1, 2] [(0, (.slice A2 x0.length c3)), (3, u16), (15, (.bool (y14.2 != (0 : Int))))] rfl ⟨rfl, rfl, rfl, trivial⟩ ?_
  rcases bif_some h with ⟨hc20, h⟩ | ⟨hc20, h⟩
  · refine wo_know 15 true rfl hc20 ?_
    refine wo_seg Θ_ok [3, 4, 5, 6, 7] [(20, (.bool true))] rfl ⟨rfl, trivial⟩ ?_
    refine wo_nil ?_
    refine wq_seq ?_
    refine wc_true rfl ?_
    refine wc_seq ?_
    refine wc_region (l := [0]) rfl ?_
    refine wo_seg Θ_ok [0] [(2, (.int .i64 280))] rfl ⟨rfl, trivial⟩ ?_
    refine wo_nil ?_
    refine wq_seq ?_
    refine wc_ret ?_
    cases h
    exact wq_then_ret (wq_ret rfl ⟨_, rfl, (int_is.2 rfl), hF⟩)
  refine wo_know 15 false rfl hc20 ?_
  refine wo_seg Θ_ok [3, 4] [(15, (.bool false)), (16, (.slice A2 x0.length c3)), (17, u16)] rfl ⟨rfl, rfl, rfl, trivial⟩ ?_
  obtain ⟨y25, hy26, h⟩ := bind_some h
  refine wo_gives rfl rfl rfl rfl rfl ent41 rfl (s_EqualFunc_c hO h0 h17 (fn2_is (first := []) (cap := []) ent25 (fun O' w' ht hO u0 z0 q0 u1 z1 q1 y hy => s_Equal_c hO q0 q1 hy)) hy26) (fun v21 w22 h23 f24 => ?_)
  have hO := f24.ob hO
  have hF := hF.trans f24
  obtain rfl := bool_is.1 h23
  refine wo_seg Θ_ok [6, 7] [(20, (.bool (!y25)))] rfl ⟨rfl, trivial⟩ ?_
  refine wo_nil ?_
  refine wq_seq ?_
  rcases bif_some h with ⟨hc27, h⟩ | ⟨hc27, h⟩
  · refine wc_known_true rfl hc27 ?_
    refine wc_seq ?_
    refine wc_region (l := [0]) rfl ?_
    refine wo_seg Θ_ok [0] [(2, (.int .i64 280))] rfl ⟨rfl, trivial⟩ ?_
    refine wo_nil ?_
    refine wq_seq ?_
    refine wc_ret ?_
    cases h
    exact wq_then_ret (wq_ret rfl ⟨_, rfl, (int_is.2 rfl), hF⟩)
  refine wc_known_false rfl hc27 ?_
  refine wc_skip ?_
  refine wq_seq ?_
  refine wc_seq ?_
  refine wc_region (l := [0]) rfl ?_
  refine wo_seg Θ_ok [0] [(2, (.int .i64 0))] rfl ⟨rfl, trivial⟩ ?_
  refine wo_nil ?_
  refine wq_seq ?_
  refine wc_ret ?_
  cases h
  exact wq_ret rfl ⟨_, rfl, (int_is.2 rfl), hF⟩
set_option maxRecDepth 100000 in
set_option maxHeartbeats 4000000 in
theorem b_Seam_c {O : List Nat} {w : World} (hO : OB O w) {v0 : Value} {x0 : List (List Int)} (h0 : (Ty.slice (Ty.slice (Ty.int .u64))).is O w v0 x0) {v1 : Value} {x1 : Int} (h1 : (Ty.int .i64).is O w v1 x1) {r : Int × Int} (h : b_Seam x0 x1 = some r) : Calls Try.prog 30 #[v0, v1] w (Gives (rt2 (Ty.int .i64) (Ty.int .i64)) O w r) := by
  obtain rfl := int_is.1 h1
  have hF := Fr.refl [] w
  have hO0 := hO
  have hS := Sub.refl O
  refine calls_of (args := [v0, (.int .i64 x1)]) (N := 28) Try.func30 rfl rfl rfl ?_
  unfold b_Seam at h
  refine wc_seq ?_
  refine wc_region (l := [0, 1]) rfl ?_
  refine wo_seg Θ_ok [0, 1] [(0, v0), (1, (.int .i64 x1))] rfl ⟨rfl, rfl, trivial⟩ ?_
  refine wo_nil ?_
  refine wq_seq ?_
  refine wc_seq ?_
  refine wc_block ?_
  refine wc_seq ?_
  refine wc_region (l := [0, 1, 2, 3]) rfl ?_
  refine wo_seg Θ_ok [0] [(0, v0), (1, (.int .i64 x1)), (7, v0)] rfl ⟨rfl, rfl, rfl, trivial⟩ ?_
  obtain ⟨y7, hy8, h⟩ := bind_some h
  refine wo_gives rfl rfl rfl rfl rfl ent28 rfl (b_Check_c hO h0 hy8) (fun v3 w4 h5 f6 => ?_)
  have h0 := h0.tr f6.tr0
  have hO := f6.ob hO
  have hF := hF.trans f6
  obtain rfl := int_is.1 h5
  refine wo_seg Θ_ok [2, 3] [(0, v0), (1, (.int .i64 x1)), (6, (.bool (y7 != (0 : Int))))] rfl ⟨rfl, rfl, rfl, trivial⟩ ?_
  refine wo_nil ?_
  refine wq_seq ?_
  rcases bif_some h with ⟨hc9, h⟩ | ⟨hc9, h⟩
  · refine wc_known_true rfl hc9 ?_
    refine wc_seq ?_
    refine wc_region (l := [0, 1]) rfl ?_
    refine wo_seg Θ_ok [0, 1] [(4, (.int .i64 0)), (5, (.int .i64 280))] rfl ⟨rfl, rfl, trivial⟩ ?_
    refine wo_nil ?_
    refine wq_seq ?_
    refine wc_ret ?_
    cases h
    exact wq_block_ret (wq_then_ret (wq_ret rfl ⟨_, rfl, ⟨_, _, rfl, (int_is.2 rfl), (int_is.2 rfl)⟩, hF⟩))
  refine wc_known_false rfl hc9 ?_
  refine wc_seq ?_
  refine wc_region (l := [0, 1, 2, 3, 4, 5, 6, 7, 8]) rfl ?_
  refine wo_seg Θ_ok [0, 1, 2] [(0, v0), (1, (.int .i64 x1)), (13, (.bool (decide (x1 < (0 : Int)))))] rfl ⟨rfl, rfl, rfl, trivial⟩ ?_
  rcases bif_some h with ⟨hc10, h⟩ | ⟨hc10, h⟩
  · refine wo_know 13 true rfl hc10 ?_
    refine wo_seg Θ_ok [3, 4, 5, 6, 7, 8] [(0, v0), (1, (.int .i64 x1)), (10, (.bool true))] rfl ⟨rfl, rfl, rfl, trivial⟩ ?_
    refine wo_nil ?_
    refine wq_seq ?_
    refine wc_true rfl ?_
    refine wc_seq ?_
    refine wc_region (l := [0, 1]) rfl ?_
    refine wo_seg Θ_ok [0, 1] [(4, (.int .i64 0)), (5, (.int .i64 2))] rfl ⟨rfl, rfl, trivial⟩ ?_
    refine wo_nil ?_
    refine wq_seq ?_
    refine wc_ret ?_
    cases h
    exact wq_block_ret (wq_then_ret (wq_ret rfl ⟨_, rfl, ⟨_, _, rfl, (int_is.2 rfl), (int_is.2 rfl)⟩, hF⟩))
  refine wo_know 13 false rfl hc10 ?_
  refine wo_seg Θ_ok [3, 4] [(0, v0), (1, (.int .i64 x1)), (13, (.bool false)), (14, (.int .i64 x1)), (15, v0)] rfl ⟨rfl, rfl, rfl, rfl, rfl, trivial⟩ ?_
  obtain ⟨A11, c12, rfl, hlc12, hmc12⟩ := slice_form h0
  refine wo_seg Θ_ok [5] [(0, (.slice A11 x0.length c12)), (1, (.int .i64 x1)), (13, (.bool false)), (14, (.int .i64 x1)), (16, (.int .i64 (x0.length : Int)))] rfl ⟨rfl, rfl, rfl, rfl, rfl, trivial⟩ ?_
  refine wo_seg Θ_ok [6, 7, 8] [(0, (.slice A11 x0.length c12)), (1, (.int .i64 x1)), (10, (.bool (decide (x1 ≥ (x0.length : Int)))))] rfl ⟨rfl, rfl, rfl, trivial⟩ ?_
  refine wo_nil ?_
  refine wq_seq ?_
  rcases bif_some h with ⟨hc13, h⟩ | ⟨hc13, h⟩
  · refine wc_known_true rfl hc13 ?_
    refine wc_seq ?_
    refine wc_region (l := [0, 1]) rfl ?_
    refine wo_seg Θ_ok [0, 1] [(4, (.int .i64 0)), (5, (.int .i64 2))] rfl ⟨rfl, rfl, trivial⟩ ?_
    refine wo_nil ?_
    refine wq_seq ?_
    refine wc_ret ?_
    cases h
    exact wq_block_ret (wq_then_ret (wq_ret rfl ⟨_, rfl, ⟨_, _, rfl, (int_is.2 rfl), (int_is.2 rfl)⟩, hF⟩))
  refine wc_known_false rfl hc13 ?_
  refine wc_skip ?_
  refine wq_block (wq_seq ?_)
  refine wc_seq ?_
  obtain ⟨y14, hz15, h⟩ := bind_some h
  obtain ⟨y16, hy17, h⟩ := bind_some h
  refine wc_draw mixed [⟨19, [], [0]⟩, ⟨20, [], [1]⟩, ⟨21, [0, 1], []⟩, ⟨22, [2], []⟩, ⟨23, [], []⟩, ⟨24, [], [0]⟩, ⟨25, [5], []⟩, ⟨26, [4, 6], []⟩, ⟨27, [3, 7], []⟩, ⟨4, [8], []⟩, ⟨5, [], []⟩] [SP.eq (.slice A11 x0.length c12), SP.eq (.int .i64 x1), SP.is (Ty.ptr (Ty.slice (Ty.int .u64))) O y14, SP.is (Ty.slice (Ty.int .u64)) O y14, SP.is (Ty.imap .i64 .i64) O depths, SP.eq (.slice A11 x0.length c12), SP.eq (.int .i64 (x0.length : Int)), SP.eq (.int .i64 ((lookM depths (x0.length : Int)).getD 0)), SP.eq (.int .i64 y16), SP.eq (.int .i64 y16), SP.eq (.int .i64 0)] rfl rfl rfl ⟨?_, ?_, ?_, ?_, ?_, ?_, ?_, ?_, ?_, ?_, ?_, trivial⟩ ?_
  · intro a w2 hfr hN hds hb hd
    have h0 := h0.tr hfr.tr0
    exact op_plain Θ_ok ⟨hN, hds, rows_get (E := [(0, (.slice A11 x0.length c12))]) ⟨hb 0 rfl _ rfl, trivial⟩⟩ rfl rfl rfl rfl rfl
  · intro a w2 hfr hN hds hb hd
    exact op_plain Θ_ok ⟨hN, hds, rows_get (E := [(1, (.int .i64 x1))]) ⟨hb 1 rfl _ rfl, trivial⟩⟩ rfl rfl rfl rfl rfl
  · intro a w2 hfr hN hds hb hd
    have h0 := h0.tr hfr.tr0
    exact op_index (j := x1) Θ_ok ⟨hN, hds, rows_get (E := [(19, (.slice A11 x0.length c12)), (20, (.int .i64 x1))]) ⟨(hd 0 rfl _ _ rfl rfl), (hd 1 rfl _ _ rfl rfl), trivial⟩⟩ rfl rfl rfl rfl rfl rfl rfl rfl rfl h0 rfl (idx_some hz15).1 (idx_some hz15).2
  · intro a w2 hfr hN hds hb hd
    have d20 : (Ty.ptr (Ty.slice (Ty.int .u64))).is O w2 (a.tmps.getD 21 undef) y14 := hd 2 rfl _ _ rfl rfl
    obtain ⟨u18, e19⟩ : ∃ v, a.tmps.getD 21 undef = v := ⟨_, rfl⟩
    rw [e19] at d20
    exact op_loadp Θ_ok ⟨hN, hds, rows_get (E := [(21, u18)]) ⟨e19, trivial⟩⟩ rfl rfl rfl rfl rfl rfl d20 rfl rfl
  · intro a w2 hfr hN hds hb hd
    exact (op_call ⟨hN, hds, rows_get (E := []) trivial⟩ rfl rfl rfl rfl ent37 rfl (depths_c (hfr.ob hO) )).weaken (fun u w3 ⟨hu, hf⟩ => ⟨hu, hf⟩)
  · intro a w2 hfr hN hds hb hd
    have h0 := h0.tr hfr.tr0
    exact op_plain Θ_ok ⟨hN, hds, rows_get (E := [(0, (.slice A11 x0.length c12))]) ⟨hb 0 rfl _ rfl, trivial⟩⟩ rfl rfl rfl rfl rfl
  · intro a w2 hfr hN hds hb hd
    have h0 := h0.tr hfr.tr0
    exact op_plain Θ_ok ⟨hN, hds, rows_get (E := [(24, (.slice A11 x0.length c12))]) ⟨(hd 5 rfl _ _ rfl rfl), trivial⟩⟩ rfl rfl rfl rfl rfl
  · intro a w2 hfr hN hds hb hd
    have d23 : (Ty.imap .i64 .i64).is O w2 (a.tmps.getD 23 undef) depths := hd 4 rfl _ _ rfl rfl
    obtain ⟨u21, e22⟩ : ∃ v, a.tmps.getD 23 undef = v := ⟨_, rfl⟩
    rw [e22] at d23
    exact OpK.weaken (op_lookM Θ_ok ⟨hN, hds, rows_get (E := [(23, u21), (25, (.int .i64 (x0.length : Int)))]) ⟨e22, (hd 6 rfl _ _ rfl rfl), trivial⟩⟩ rfl rfl rfl rfl rfl rfl rfl rfl rfl rfl rfl (by rfl) (by rfl) (by exact d23)) (fun _ _ h => by exact h)
  · intro a w2 hfr hN hds hb hd
    have d26 : (Ty.slice (Ty.int .u64)).is O w2 (a.tmps.getD 22 undef) y14 := hd 3 rfl _ _ rfl rfl
    obtain ⟨u24, e25⟩ : ∃ v, a.tmps.getD 22 undef = v := ⟨_, rfl⟩
    rw [e25] at d26
    exact (op_call ⟨hN, hds, rows_get (E := [(22, u24), (26, (.int .i64 ((lookM depths (x0.length : Int)).getD 0)))]) ⟨e25, (hd 7 rfl _ _ rfl rfl), trivial⟩⟩ rfl rfl rfl rfl ent44 rfl (b_seam_c (hfr.ob hO) d26 (int_is.2 rfl) hy17)).weaken (fun u w3 ⟨hu, hf⟩ => ⟨int_is.1 hu, hf⟩)
  · intro a w2 hfr hN hds hb hd
    exact op_plain Θ_ok ⟨hN, hds, rows_get (E := [(27, (.int .i64 y16))]) ⟨(hd 8 rfl _ _ rfl rfl), trivial⟩⟩ rfl rfl rfl rfl rfl
  · intro a w2 hfr hN hds hb hd
    exact op_plain Θ_ok ⟨hN, hds, rows_get (E := []) trivial⟩ rfl rfl rfl rfl rfl
  intro a w28 f27 hN hds hb hr
  have hO := f27.ob hO
  have hF := hF.trans f27
  refine wq_go (E := [(4, (.int .i64 y16)), (5, (.int .i64 0))]) hN hds ⟨(hr 9 _ _ rfl rfl), (hr 10 _ _ rfl rfl), trivial⟩ ?_
  refine wq_seq ?_
  refine wc_ret ?_
  cases h
  exact wq_ret rfl ⟨_, rfl, ⟨_, _, rfl, (int_is.2 rfl), (int_is.2 rfl)⟩, hF⟩
set_option maxRecDepth 100000 in
set_option maxHeartbeats 4000000 in
theorem b_Expand_n {O : List Nat} {w : World} (hO : OB O w) {v0 : Value} {x0 : List (List Int)} (h0 : (Ty.slice (Ty.slice (Ty.int .u64))).is [] w v0 x0) {r : (List (List Int)) × Int} (h : b_Expand x0 = some r) : Calls Try.prog 32 #[v0] w (Gives (rt2 (Ty.slice (Ty.slice (Ty.int .u64))) (Ty.int .i64)) O w r) := by
  have hF := Fr.refl [] w
  have hO0 := hO
  have hS := Sub.refl O
  refine calls_of (args := [v0]) (N := 42) Try.func32 rfl rfl rfl ?_
  unfold b_Expand at h
  refine wc_seq ?_
  refine wc_region (l := [0, 1]) rfl ?_
  refine wo_seg Θ_ok [0, 1] [(0, v0)] rfl ⟨rfl, trivial⟩ ?_
  refine wo_nil ?_
  refine wq_seq ?_
  refine wc_seq ?_
  refine wc_block ?_
  refine wc_seq ?_
  refine wc_region (l := [0, 1, 2, 3]) rfl ?_
  refine wo_seg Θ_ok [0] [(0, v0), (9, v0)] rfl ⟨rfl, rfl, trivial⟩ ?_
  obtain ⟨y6, hy7, h⟩ := bind_some h
  refine wo_gives rfl rfl rfl rfl rfl ent28 rfl (b_Check_c (ob_nil _) (h0.tr hF.tr0) hy7) (fun v2 w3 h4 f5 => ?_)
  have hO := f5.ob hO
  have hF := hF.trans f5
  obtain rfl := int_is.1 h4
  refine wo_seg Θ_ok [2, 3] [(0, v0), (8, (.bool (y6 != (0 : Int))))] rfl ⟨rfl, rfl, trivial⟩ ?_
  refine wo_nil ?_
  refine wq_seq ?_
  rcases bif_some h with ⟨hc8, h⟩ | ⟨hc8, h⟩
  · refine wc_known_true rfl hc8 ?_
    refine wc_seq ?_
    refine wc_region (l := [0, 1]) rfl ?_
    refine wo_seg Θ_ok [0, 1] [(2, (.slice none 0 0)), (3, (.int .i64 280))] rfl ⟨rfl, rfl, trivial⟩ ?_
    refine wo_nil ?_
    refine wq_seq ?_
    refine wc_ret ?_
    cases h
    exact wq_block_ret (wq_then_ret (wq_ret rfl ⟨_, rfl, ⟨_, _, rfl, (slice_nil _ _ _), (int_is.2 rfl)⟩, hF⟩))
  refine wc_known_false rfl hc8 ?_
  refine wc_seq ?_
  refine wc_region (l := [0, 1, 2, 3]) rfl ?_
  refine wo_seg Θ_ok [0] [(0, v0), (13, v0)] rfl ⟨rfl, rfl, trivial⟩ ?_
  obtain ⟨A9, c10, rfl, hlc10, hmc10⟩ := slice_form h0
  refine wo_seg Θ_ok [1] [(0, (.slice A9 x0.length c10)), (14, (.int .i64 (x0.length : Int)))] rfl ⟨rfl, rfl, trivial⟩ ?_
  refine wo_seg Θ_ok [2, 3] [(0, (.slice A9 x0.length c10)), (12, (.bool ((x0.length : Int) == (16 : Int))))] rfl ⟨rfl, rfl, trivial⟩ ?_
  refine wo_nil ?_
  refine wq_seq ?_
  rcases bif_some h with ⟨hc11, h⟩ | ⟨hc11, h⟩
  · refine wc_known_true rfl hc11 ?_
    refine wc_seq ?_
    refine wc_region (l := [0, 1]) rfl ?_
    refine wo_seg Θ_ok [0, 1] [(2, (.slice none 0 0)), (3, (.int .i64 6))] rfl ⟨rfl, rfl, trivial⟩ ?_
    refine wo_nil ?_
    refine wq_seq ?_
    refine wc_ret ?_
    cases h
    exact wq_block_ret (wq_then_ret (wq_ret rfl ⟨_, rfl, ⟨_, _, rfl, (slice_nil _ _ _), (int_is.2 rfl)⟩, hF⟩))
  refine wc_known_false rfl hc11 ?_
  refine wc_skip ?_
  refine wq_block (wq_seq ?_)
  refine wc_seq ?_
  refine wc_region (l := [0]) rfl ?_
  refine wo_seg Θ_ok [0] [(0, (.slice A9 x0.length c10)), (4, (.slice none 0 0))] rfl ⟨rfl, rfl, trivial⟩ ?_
  refine wo_nil ?_
  refine wq_seq ?_
  obtain ⟨k13, hk14, h⟩ := letk_some h
  refine wc_join (fun E W => ∃ (O20 : List Nat) (p17 : List (List Int)) (v18 : Value), E = [(4, v18)] ∧ Tr O w3 O20 W ∧ OB O20 W ∧ Sub O O20 ∧ Fr [] w W ∧ Go.Dc.Own (Ty.slice (Ty.int .u64)) 35 w.heap.size O20 W v18 p17 ∧ k13 p17 = some r) ?_ (fun K15 hK16 => ?_)
  · rintro E w21 ⟨O20, p17, v18, rfl, T12, hO, hS, hF, h19, h⟩
    subst hk14
    (try dsimp only at h)
    refine wc_seq ?_
    refine wc_region (l := [0, 1, 2]) rfl ?_
    refine wo_seg Θ_ok [0, 1, 2] [(2, v18), (3, (.int .i64 0))] rfl ⟨rfl, rfl, trivial⟩ ?_
    refine wo_nil ?_
    refine wq_seq ?_
    refine wc_ret ?_
    cases h
    exact wq_ret rfl ⟨_, rfl, ⟨_, _, rfl, (h19.share0 hS hO0), (int_is.2 rfl)⟩, hF⟩
  clear hk14
  have T12 := Tr.refl O w3
  refine wc_seq ?_
  refine wc_region (l := [0, 1, 2]) rfl ?_
  refine wo_seg Θ_ok [0, 1, 2] [(0, (.slice A9 x0.length c10)), (4, (.slice none 0 0)), (16, (.slice A9 x0.length c10)), (17, (.int .i64 (x0.length : Int))), (18, (.int .i64 0))] rfl ⟨rfl, rfl, rfl, rfl, rfl, trivial⟩ ?_
  refine wo_nil ?_
  refine wq_seq ?_
  refine wc_block ?_
  refine wc_loop (fun m E W => ∃ (rest27 : List (List Int)) (i26 : Nat) (O30 : List Nat) (p23 : List (List Int)) (v24 : Value), rest27.length = m ∧ x0.drop i26 = rest27 ∧ E = [(0, (.slice A9 x0.length c10)), (4, v24), (16, (.slice A9 x0.length c10)), (17, (.int .i64 (x0.length : Int))), (18, (.int .i64 (i26 : Int)))] ∧ Tr O w3 O30 W ∧ OB O30 W ∧ Sub O O30 ∧ Fr [] w W ∧ Go.Dc.Own (Ty.slice (Ty.int .u64)) 35 w.heap.size O30 W v24 p23 ∧ b_Expand_l1 x0 k13 rest27 i26 p23 = some r) _ [(0, (.slice A9 x0.length c10)), (4, (.slice none 0 0)), (16, (.slice A9 x0.length c10)), (17, (.int .i64 (x0.length : Int))), (18, (.int .i64 ((0 : Nat) : Int)))] ⟨rfl, rfl, rfl, rfl, rfl, trivial⟩ ⟨x0, 0, O, ([] : List (List Int)), (.slice none 0 0), rfl, rfl, rfl, Tr.refl _ _, hO, hS, hF, (Go.Dc.Own.nil_ : Go.Dc.Own (Ty.slice (Ty.int .u64)) 35 w.heap.size _ _ _ _), h⟩ ?_
  rintro m E w31 ⟨rest27, i26, O30, p23, v24, rfl, hd29, rfl, T22, hO, hS, hF, h25, h⟩
  have T12 := T12.trans T22
  rcases rest27 with _ | ⟨z28, rest27⟩
  · rw [b_Expand_l1] at h
    have hl35 := drop_nil hd29
    have hc32 : (decide ((i26 : Int) < (x0.length : Int))) = false := decide_eq_false (by omega)
    refine wc_seq ?_
    refine wc_region (l := [0]) rfl ?_
    refine wo_seg Θ_ok [0] [(0, (.slice A9 x0.length c10)), (4, v24), (16, (.slice A9 x0.length c10)), (17, (.int .i64 (x0.length : Int))), (18, (.int .i64 (i26 : Int))), (19, (.bool (decide ((i26 : Int) < (x0.length : Int)))))] rfl ⟨rfl, rfl, rfl, rfl, rfl, rfl, trivial⟩ ?_
    refine wo_nil ?_
    refine wq_seq ?_
    refine wc_seq ?_
    refine wc_known_false rfl hc32 ?_
    refine wc_exit ?_
    exact wq_then_exit (wq_then_exit (wq_block_exit (wq_join hK16 [(4, v24)] ⟨rfl, trivial⟩ ⟨O30, p23, v24, rfl, T12, hO, hS, hF, h25, h⟩)))
  rw [b_Expand_l1] at h
  obtain ⟨hl36, hg34, hd29⟩ := drop_cons hd29
  have hc33 : (decide ((i26 : Int) < (x0.length : Int))) = true := decide_eq_true (by omega)
  refine wc_seq ?_
  refine wc_region (l := [0]) rfl ?_
  refine wo_seg Θ_ok [0] [(0, (.slice A9 x0.length c10)), (4, v24), (16, (.slice A9 x0.length c10)), (17, (.int .i64 (x0.length : Int))), (18, (.int .i64 (i26 : Int))), (19, (.bool (decide ((i26 : Int) < (x0.length : Int)))))] rfl ⟨rfl, rfl, rfl, rfl, rfl, rfl, trivial⟩ ?_
  refine wo_nil ?_
  refine wq_seq ?_
  refine wc_seq ?_
  refine wc_known_true rfl hc33 ?_
  refine wc_skip ?_
  refine wq_seq ?_
  refine wc_seq ?_
  refine wc_block ?_
  refine wc_seq ?_
  refine wc_region (l := [0, 1, 2]) rfl ?_
  refine wo_index Θ_ok rfl rfl rfl rfl rfl rfl rfl rfl rfl rfl h0 rfl (by omega) hg34 (fun p37 h38 => ?_)
  refine wo_loadpA Θ_ok rfl rfl rfl rfl rfl rfl rfl h38 hF rfl rfl (fun v39 h40 => ?_)
  refine wo_seg Θ_ok [2] [(0, (.slice A9 x0.length c10)), (4, v24), (6, v39), (16, (.slice A9 x0.length c10)), (17, (.int .i64 (x0.length : Int))), (18, (.int .i64 (i26 : Int)))] rfl ⟨rfl, rfl, rfl, rfl, rfl, rfl, trivial⟩ ?_
  refine wo_nil ?_
  refine wq_seq ?_
  refine wc_seq ?_
  refine wc_region (l := [0, 1, 2, 3, 4, 5, 6]) rfl ?_
  refine wo_seg Θ_ok [0] [(0, (.slice A9 x0.length c10)), (4, v24), (6, v39), (16, (.slice A9 x0.length c10)), (17, (.int .i64 (x0.length : Int))), (18, (.int .i64 (i26 : Int))), (22, v39)] rfl ⟨rfl, rfl, rfl, rfl, rfl, rfl, rfl, trivial⟩ ?_
  refine wo_gives rfl rfl rfl rfl rfl ent37 rfl (depths_c hO ) (fun v41 w42 h43 f44 => ?_)
  have h25 := h25.fr0 f44
  have T12 := T12.trans f44.tr0
  have T22 := T22.trans f44.tr0
  have hO := f44.ob hO
  have hF := hF.trans f44
  refine wo_seg Θ_ok [2, 3] [(0, (.slice A9 x0.length c10)), (4, v24), (6, v39), (16, (.slice A9 x0.length c10)), (17, (.int .i64 (x0.length : Int))), (18, (.int .i64 (i26 : Int))), (22, v39), (23, v41), (25, (.int .i64 (x0.length : Int)))] rfl ⟨rfl, rfl, rfl, rfl, rfl, rfl, rfl, rfl, rfl, trivial⟩ ?_
  refine wo_lookM Θ_ok rfl rfl rfl rfl rfl rfl rfl rfl rfl rfl rfl rfl rfl rfl h43 ?_
  obtain ⟨y49, hy50, h⟩ := bind_some h
  refine wo_gives rfl rfl rfl rfl rfl ent44 rfl (b_seam_c (ob_nil _) (h40.tr hF.tr0) (int_is.2 rfl) hy50) (fun v45 w46 h47 f48 => ?_)
  have h25 := h25.fr0 f48
  have T12 := T12.trans f48.tr0
  have T22 := T22.trans f48.tr0
  have hO := f48.ob hO
  have hF := hF.trans f48
  obtain rfl := int_is.1 h47
  refine wo_seg Θ_ok [6] [(0, (.slice A9 x0.length c10)), (4, v24), (6, v39), (7, (.int .i64 y49)), (16, (.slice A9 x0.length c10)), (17, (.int .i64 (x0.length : Int))), (18, (.int .i64 (i26 : Int)))] rfl ⟨rfl, rfl, rfl, rfl, rfl, rfl, rfl, trivial⟩ ?_
  refine wo_nil ?_
  refine wq_seq ?_
  obtain ⟨y51, hz52, h⟩ := bind_some h
  obtain ⟨y53, hy54, h⟩ := bind_some h
  obtain ⟨y55, hz56, h⟩ := bind_some h
  obtain ⟨y57, hy58, h⟩ := bind_some h
  refine wc_drawT mixed [⟨28, [], [4]⟩, ⟨29, [], [6]⟩, ⟨30, [], [7]⟩, ⟨31, [], [7]⟩, ⟨32, [1, 2, 3], []⟩, ⟨33, [4], []⟩, ⟨34, [], [6]⟩, ⟨35, [], [7]⟩, ⟨36, [6, 7], []⟩, ⟨37, [8], []⟩, ⟨38, [5, 9], []⟩] [SP.eq v24, SP.an (Ty.slice (Ty.int .u64)) [] w z28, SP.eq (.int .i64 y49), SP.eq (.int .i64 y49), SP.an (Ty.slice (Ty.int .u64)) [] w y51, SP.is (Ty.slice (Ty.int .u64)) O30 y53, SP.an (Ty.slice (Ty.int .u64)) [] w z28, SP.eq (.int .i64 y49), SP.an (Ty.slice (Ty.int .u64)) [] w y55, SP.is (Ty.slice (Ty.int .u64)) O30 y57, SP.is (Ty.slice (Ty.slice (Ty.int .u64))) O30 (([y53, y57] : List (List Int)))] rfl rfl rfl rfl ⟨?_, ?_, ?_, ?_, ?_, ?_, ?_, ?_, ?_, ?_, ?_, trivial⟩ ?_
  · intro a w2 hfr hN hds hb hd
    have hF := hF.trans hfr
    exact op_plain Θ_ok ⟨hN, hds, rows_get (E := [(4, v24)]) ⟨hb 4 rfl _ rfl, trivial⟩⟩ rfl rfl rfl rfl rfl
  · intro a w2 hfr hN hds hb hd
    have hF := hF.trans hfr
    exact (op_plain Θ_ok ⟨hN, hds, rows_get (E := [(6, v39)]) ⟨hb 6 rfl _ rfl, trivial⟩⟩ rfl rfl rfl rfl rfl).weaken (fun u w3 ⟨hu, hf⟩ => by subst hu; exact ⟨h40, hf⟩)
  · intro a w2 hfr hN hds hb hd
    have hF := hF.trans hfr
    exact op_plain Θ_ok ⟨hN, hds, rows_get (E := [(7, (.int .i64 y49))]) ⟨hb 7 rfl _ rfl, trivial⟩⟩ rfl rfl rfl rfl rfl
  · intro a w2 hfr hN hds hb hd
    have hF := hF.trans hfr
    exact op_plain Θ_ok ⟨hN, hds, rows_get (E := [(7, (.int .i64 y49))]) ⟨hb 7 rfl _ rfl, trivial⟩⟩ rfl rfl rfl rfl rfl
  · intro a w2 hfr hN hds hb hd
    have hF := hF.trans hfr
    have d61 : (Ty.slice (Ty.int .u64)).is [] w (a.tmps.getD 29 undef) z28 := hd 1 rfl _ _ rfl rfl
    obtain ⟨u59, e60⟩ : ∃ v, a.tmps.getD 29 undef = v := ⟨_, rfl⟩
    rw [e60] at d61
    exact op_cutA (l' := none) (h' := some (.i64, y49)) (m' := some (.i64, y49)) Θ_ok ⟨hN, hds, rows_get (E := [(29, u59), (30, (.int .i64 y49)), (31, (.int .i64 y49))]) ⟨e60, (hd 2 rfl _ _ rfl rfl), (hd 3 rfl _ _ rfl rfl), trivial⟩⟩ rfl rfl rfl rfl rfl rfl rfl rfl rfl rfl rfl rfl d61 hz52
  · intro a w2 hfr hN hds hb hd
    have hF := hF.trans hfr
    have d64 : (Ty.slice (Ty.int .u64)).is [] w (a.tmps.getD 32 undef) y51 := hd 4 rfl _ _ rfl rfl
    obtain ⟨u62, e63⟩ : ∃ v, a.tmps.getD 32 undef = v := ⟨_, rfl⟩
    rw [e63] at d64
    exact (op_call ⟨hN, hds, rows_get (E := [(32, u62)]) ⟨e63, trivial⟩⟩ rfl rfl rfl rfl ent45 rfl (b_copied_n (hfr.ob hO) (d64.tr hF.tr0) hy54)).weaken (fun u w3 ⟨hu, hf⟩ => ⟨hu, hf⟩)
  · intro a w2 hfr hN hds hb hd
    have hF := hF.trans hfr
    exact (op_plain Θ_ok ⟨hN, hds, rows_get (E := [(6, v39)]) ⟨hb 6 rfl _ rfl, trivial⟩⟩ rfl rfl rfl rfl rfl).weaken (fun u w3 ⟨hu, hf⟩ => by subst hu; exact ⟨h40, hf⟩)
  · intro a w2 hfr hN hds hb hd
    have hF := hF.trans hfr
    exact op_plain Θ_ok ⟨hN, hds, rows_get (E := [(7, (.int .i64 y49))]) ⟨hb 7 rfl _ rfl, trivial⟩⟩ rfl rfl rfl rfl rfl
  · intro a w2 hfr hN hds hb hd
    have hF := hF.trans hfr
    have d67 : (Ty.slice (Ty.int .u64)).is [] w (a.tmps.getD 34 undef) z28 := hd 6 rfl _ _ rfl rfl
    obtain ⟨u65, e66⟩ : ∃ v, a.tmps.getD 34 undef = v := ⟨_, rfl⟩
    rw [e66] at d67
    exact op_cutA (l' := some (.i64, y49)) (h' := none) (m' := none) Θ_ok ⟨hN, hds, rows_get (E := [(34, u65), (35, (.int .i64 y49))]) ⟨e66, (hd 7 rfl _ _ rfl rfl), trivial⟩⟩ rfl rfl rfl rfl rfl rfl rfl rfl rfl rfl rfl rfl d67 hz56
  · intro a w2 hfr hN hds hb hd
    have hF := hF.trans hfr
    have d70 : (Ty.slice (Ty.int .u64)).is [] w (a.tmps.getD 36 undef) y55 := hd 8 rfl _ _ rfl rfl
    obtain ⟨u68, e69⟩ : ∃ v, a.tmps.getD 36 undef = v := ⟨_, rfl⟩
    rw [e69] at d70
    exact (op_call ⟨hN, hds, rows_get (E := [(36, u68)]) ⟨e69, trivial⟩⟩ rfl rfl rfl rfl ent45 rfl (b_copied_n (hfr.ob hO) (d70.tr hF.tr0) hy58)).weaken (fun u w3 ⟨hu, hf⟩ => ⟨hu, hf⟩)
  · intro a w2 hfr hN hds hb hd
    have hF := hF.trans hfr
    have d73 : (Ty.slice (Ty.int .u64)).is O30 w2 (a.tmps.getD 33 undef) y53 := hd 5 rfl _ _ rfl rfl
    obtain ⟨u71, e72⟩ : ∃ v, a.tmps.getD 33 undef = v := ⟨_, rfl⟩
    rw [e72] at d73
    have d76 : (Ty.slice (Ty.int .u64)).is O30 w2 (a.tmps.getD 37 undef) y57 := hd 9 rfl _ _ rfl rfl
    obtain ⟨u74, e75⟩ : ∃ v, a.tmps.getD 37 undef = v := ⟨_, rfl⟩
    rw [e75] at d76
    exact op_lit Θ_ok ⟨hN, hds, rows_get (E := [(33, u71), (37, u74)]) ⟨e72, e75, trivial⟩⟩ rfl rfl rfl rfl rfl rfl rfl rfl rfl (T := (Ty.slice (Ty.int .u64))) (xs := [y53, y57]) (vs := [u71, u74]) rfl ⟨d73, d76, trivial⟩ rfl rfl rfl (hfr.ob hO)
  intro a w78 f77 hN hds hb hr
  have T12 := T12.trans f77.tr0
  have T22 := T22.trans f77.tr0
  have hO := f77.ob hO
  have hF := hF.trans f77
  have h25 := h25.fr0 f77
  have h81 : (Ty.slice (Ty.slice (Ty.int .u64))).is O30 w78 (a.tmps.getD 38 undef) (([y53, y57] : List (List Int))) := hr 10 _ _ rfl rfl
  obtain ⟨v79, e80⟩ : ∃ v, a.tmps.getD 38 undef = v := ⟨_, rfl⟩
  rw [e80] at h81
  refine wo_go (E := [(0, (.slice A9 x0.length c10)), (16, (.slice A9 x0.length c10)), (17, (.int .i64 (x0.length : Int))), (18, (.int .i64 (i26 : Int))), (28, v24), (38, v79)]) (l := [11, 12]) hN hds ⟨hb 0 _ rfl rfl, hb 16 _ rfl rfl, hb 17 _ rfl rfl, hb 18 _ rfl rfl, (hr 0 _ _ rfl rfl), e80, trivial⟩ rfl ?_
  obtain ⟨z82, hz83, h⟩ := bind_some h
  refine wo_app Θ_ok rfl rfl rfl rfl rfl rfl rfl rfl rfl rfl rfl rfl rfl rfl hF hO h25 h81 hz83 (fun v84 w85 O86 ap87 => ?_)
  have T12 := T12.trans ap87.tr
  have T22 := T22.trans ap87.tr
  have hF := ap87.fr0 h25 hF
  have hS := Sub.trans hS ap87.sub
  have hO := ap87.ob
  have h88 := ap87.own
  refine wo_seg Θ_ok [12] [(0, (.slice A9 x0.length c10)), (4, v84), (16, (.slice A9 x0.length c10)), (17, (.int .i64 (x0.length : Int))), (18, (.int .i64 (i26 : Int)))] rfl ⟨rfl, rfl, rfl, rfl, rfl, trivial⟩ ?_
  refine wo_nil ?_
  refine wq_block (wq_seq ?_)
  refine wc_region (l := [0, 1]) rfl ?_
  refine wo_seg Θ_ok [0, 1] [(0, (.slice A9 x0.length c10)), (4, v84), (16, (.slice A9 x0.length c10)), (17, (.int .i64 (x0.length : Int))), (18, (.int .i64 (IntKind.i64.wrap ((i26 : Int) + (1 : Int)))))] rfl ⟨rfl, rfl, rfl, rfl, rfl, trivial⟩ ?_
  refine wo_nil ?_
  exact wq_next rest27.length [(0, (.slice A9 x0.length c10)), (4, v84), (16, (.slice A9 x0.length c10)), (17, (.int .i64 (x0.length : Int))), (18, (.int .i64 ((i26 + 1 : Nat) : Int)))] (Nat.lt_succ_self _) ⟨rfl, rfl, rfl, rfl, congrArg (fun z => some (Value.int .i64 z)) (wrap_succ hl36 (Nat.le_trans hlc10 hmc10)), trivial⟩ ⟨rest27, i26 + 1, O86, z82, v84, rfl, hd29, rfl, T22, hO, hS, hF, h88, h⟩
theorem b_Expand_c {O : List Nat} {w : World} (hO : OB O w) {v0 : Value} {x0 : List (List Int)} (h0 : (Ty.slice (Ty.slice (Ty.int .u64))).is O w v0 x0) {r : (List (List Int)) × Int} (h : b_Expand x0 = some r) : Calls Try.prog 32 #[v0] w (Gives (rt2 (Ty.slice (Ty.slice (Ty.int .u64))) (Ty.int .i64)) O w r) := b_Expand_n hO (h0.tr (Tr.less (sub_nil _))) h
set_option maxRecDepth 100000 in
set_option maxHeartbeats 4000000 in
theorem b_Shrink_n {O : List Nat} {w : World} (hO : OB O w) {fuel : Nat} {v0 : Value} {x0 : List (List Int)} (h0 : (Ty.slice (Ty.slice (Ty.int .u64))).is [] w v0 x0) {r : (List (List Int)) × Int} (h : b_Shrink fuel x0 = some r) : Calls Try.prog 33 #[v0] w (Gives (rt2 (Ty.slice (Ty.slice (Ty.int .u64))) (Ty.int .i64)) O w r) := by
  have hF := Fr.refl [] w
  have hO0 := hO
  have hS := Sub.refl O
  refine calls_of (args := [v0]) (N := 35) Try.func33 rfl rfl rfl ?_
  unfold b_Shrink at h
  refine wc_seq ?_
  refine wc_region (l := [0, 1]) rfl ?_
  refine wo_seg Θ_ok [0, 1] [(0, v0)] rfl ⟨rfl, trivial⟩ ?_
  refine wo_nil ?_
  refine wq_seq ?_
  refine wc_seq ?_
  refine wc_block ?_
  refine wc_seq ?_
  refine wc_region (l := [0, 1, 2, 3]) rfl ?_
  refine wo_seg Θ_ok [0] [(0, v0), (7, v0)] rfl ⟨rfl, rfl, trivial⟩ ?_
  obtain ⟨y6, hy7, h⟩ := bind_some h
  refine wo_gives rfl rfl rfl rfl rfl ent28 rfl (b_Check_c (ob_nil _) (h0.tr hF.tr0) hy7) (fun v2 w3 h4 f5 => ?_)
  have hO := f5.ob hO
  have hF := hF.trans f5
  obtain rfl := int_is.1 h4
  refine wo_seg Θ_ok [2, 3] [(0, v0), (6, (.bool (y6 != (0 : Int))))] rfl ⟨rfl, rfl, trivial⟩ ?_
  refine wo_nil ?_
  refine wq_seq ?_
  rcases bif_some h with ⟨hc8, h⟩ | ⟨hc8, h⟩
  · refine wc_known_true rfl hc8 ?_
    refine wc_seq ?_
    refine wc_region (l := [0, 1]) rfl ?_
    refine wo_seg Θ_ok [0, 1] [(2, (.slice none 0 0)), (3, (.int .i64 280))] rfl ⟨rfl, rfl, trivial⟩ ?_
    refine wo_nil ?_
    refine wq_seq ?_
    refine wc_ret ?_
    cases h
    exact wq_block_ret (wq_then_ret (wq_ret rfl ⟨_, rfl, ⟨_, _, rfl, (slice_nil _ _ _), (int_is.2 rfl)⟩, hF⟩))
  refine wc_known_false rfl hc8 ?_
  refine wc_seq ?_
  refine wc_region (l := [0, 1, 2, 3]) rfl ?_
  refine wo_seg Θ_ok [0] [(0, v0), (11, v0)] rfl ⟨rfl, rfl, trivial⟩ ?_
  obtain ⟨A9, c10, rfl, hlc10, hmc10⟩ := slice_form h0
  refine wo_seg Θ_ok [1] [(0, (.slice A9 x0.length c10)), (12, (.int .i64 (x0.length : Int)))] rfl ⟨rfl, rfl, trivial⟩ ?_
  refine wo_seg Θ_ok [2, 3] [(0, (.slice A9 x0.length c10)), (10, (.bool ((x0.length : Int) == (4 : Int))))] rfl ⟨rfl, rfl, trivial⟩ ?_
  refine wo_nil ?_
  refine wq_seq ?_
  rcases bif_some h with ⟨hc11, h⟩ | ⟨hc11, h⟩
  · refine wc_known_true rfl hc11 ?_
    refine wc_seq ?_
    refine wc_region (l := [0, 1]) rfl ?_
    refine wo_seg Θ_ok [0, 1] [(2, (.slice none 0 0)), (3, (.int .i64 2))] rfl ⟨rfl, rfl, trivial⟩ ?_
    refine wo_nil ?_
    refine wq_seq ?_
    refine wc_ret ?_
    cases h
    exact wq_block_ret (wq_then_ret (wq_ret rfl ⟨_, rfl, ⟨_, _, rfl, (slice_nil _ _ _), (int_is.2 rfl)⟩, hF⟩))
  refine wc_known_false rfl hc11 ?_
  refine wc_skip ?_
  refine wq_block (wq_seq ?_)
  refine wc_seq ?_
  refine wc_region (l := [0]) rfl ?_
  refine wo_seg Θ_ok [0] [(0, (.slice A9 x0.length c10)), (4, (.slice none 0 0))] rfl ⟨rfl, rfl, trivial⟩ ?_
  refine wo_nil ?_
  refine wq_seq ?_
  obtain ⟨k13, hk14, h⟩ := letk_some h
  refine wc_join (fun E W => ∃ (O20 : List Nat) (p17 : List (List Int)) (v18 : Value), E = [(4, v18)] ∧ Tr O w3 O20 W ∧ OB O20 W ∧ Sub O O20 ∧ Fr [] w W ∧ Go.Dc.Own (Ty.slice (Ty.int .u64)) 35 w.heap.size O20 W v18 p17 ∧ k13 p17 = some r) ?_ (fun K15 hK16 => ?_)
  · rintro E w21 ⟨O20, p17, v18, rfl, T12, hO, hS, hF, h19, h⟩
    subst hk14
    (try dsimp only at h)
    refine wc_seq ?_
    refine wc_region (l := [0, 1, 2]) rfl ?_
    refine wo_seg Θ_ok [0, 1, 2] [(2, v18), (3, (.int .i64 0))] rfl ⟨rfl, rfl, trivial⟩ ?_
    refine wo_nil ?_
    refine wq_seq ?_
    refine wc_ret ?_
    cases h
    exact wq_ret rfl ⟨_, rfl, ⟨_, _, rfl, (h19.share0 hS hO0), (int_is.2 rfl)⟩, hF⟩
  clear hk14
  have T12 := Tr.refl O w3
  refine wc_seq ?_
  refine wc_region (l := [0]) rfl ?_
  refine wo_seg Θ_ok [0] [(0, (.slice A9 x0.length c10)), (4, (.slice none 0 0)), (5, (.int .i64 0))] rfl ⟨rfl, rfl, rfl, trivial⟩ ?_
  refine wo_nil ?_
  refine wq_seq ?_
  refine wc_block ?_
  refine wc_loop (fun m E W => ∃ (fl27 : Nat) (O28 : List Nat) (p23 : List (List Int)) (p26 : Int) (v24 : Value), fl27 = m ∧ E = [(0, (.slice A9 x0.length c10)), (4, v24), (5, (.int .i64 p26))] ∧ Tr O w3 O28 W ∧ OB O28 W ∧ Sub O O28 ∧ Fr [] w W ∧ Go.Dc.Own (Ty.slice (Ty.int .u64)) 35 w.heap.size O28 W v24 p23 ∧ b_Shrink_l1 x0 k13 fl27 p23 p26 = some r) _ [(0, (.slice A9 x0.length c10)), (4, (.slice none 0 0)), (5, (.int .i64 0))] ⟨rfl, rfl, rfl, trivial⟩ ⟨fuel, O, ([] : List (List Int)), (0 : Int), (.slice none 0 0), rfl, rfl, Tr.refl _ _, hO, hS, hF, (Go.Dc.Own.nil_ : Go.Dc.Own (Ty.slice (Ty.int .u64)) 35 w.heap.size _ _ _ _), h⟩ ?_
  rintro m E w29 ⟨fl27, O28, p23, p26, v24, rfl, rfl, T22, hO, hS, hF, h25, h⟩
  have T12 := T12.trans T22
  rcases fl27 with _ | fl27
  · rw [b_Shrink_l1] at h
    cases h
  rw [b_Shrink_l1] at h
  refine wc_seq ?_
  refine wc_seq ?_
  refine wc_region (l := [0, 1, 2, 3]) rfl ?_
  refine wo_seg Θ_ok [0, 1, 2, 3] [(0, (.slice A9 x0.length c10)), (4, v24), (5, (.int .i64 p26)), (17, (.bool (decide (p26 < (x0.length : Int)))))] rfl ⟨rfl, rfl, rfl, rfl, trivial⟩ ?_
  refine wo_nil ?_
  refine wq_seq ?_
  rcases bif_some h with ⟨hc30, h⟩ | ⟨hc30, h⟩
  rotate_left
  · refine wc_known_false rfl hc30 ?_
    refine wc_exit ?_
    exact wq_then_exit (wq_then_exit (wq_block_exit (wq_join hK16 [(4, v24)] ⟨rfl, trivial⟩ ⟨O28, p23, v24, rfl, T12, hO, hS, hF, h25, h⟩)))
  refine wc_known_true rfl hc30 ?_
  refine wc_skip ?_
  refine wq_seq ?_
  refine wc_seq ?_
  refine wc_block ?_
  obtain ⟨y31, hz32, h⟩ := bind_some h
  obtain ⟨y33, hz34, h⟩ := bind_some h
  obtain ⟨y35, hy36, h⟩ := bind_some h
  refine wc_drawT mixed [⟨20, [], [4]⟩, ⟨21, [], [0]⟩, ⟨22, [], [5]⟩, ⟨23, [1, 2], []⟩, ⟨24, [3], []⟩, ⟨25, [], [0]⟩, ⟨26, [], [5]⟩, ⟨27, [6], []⟩, ⟨28, [5, 7], []⟩, ⟨29, [8], []⟩, ⟨30, [4, 9], []⟩, ⟨31, [10], []⟩, ⟨32, [11], []⟩] [SP.eq v24, SP.eq (.slice A9 x0.length c10), SP.eq (.int .i64 p26), SP.an (Ty.ptr (Ty.slice (Ty.int .u64))) [] w y31, SP.an (Ty.slice (Ty.int .u64)) [] w y31, SP.eq (.slice A9 x0.length c10), SP.eq (.int .i64 p26), SP.eq (.int .i64 (IntKind.i64.wrap (p26 + (1 : Int)))), SP.an (Ty.ptr (Ty.slice (Ty.int .u64))) [] w y33, SP.an (Ty.slice (Ty.int .u64)) [] w y33, SP.is (Ty.slice (Ty.slice (Ty.int .u64))) [] (([y31, y33] : List (List Int))), SP.is (Ty.slice (Ty.int .u64)) O28 y35, SP.is (Ty.slice (Ty.slice (Ty.int .u64))) O28 (([y35] : List (List Int)))] rfl rfl rfl rfl ⟨?_, ?_, ?_, ?_, ?_, ?_, ?_, ?_, ?_, ?_, ?_, ?_, ?_, trivial⟩ ?_
  · intro a w2 hfr hN hds hb hd
    have hF := hF.trans hfr
    exact op_plain Θ_ok ⟨hN, hds, rows_get (E := [(4, v24)]) ⟨hb 4 rfl _ rfl, trivial⟩⟩ rfl rfl rfl rfl rfl
  · intro a w2 hfr hN hds hb hd
    have hF := hF.trans hfr
    exact op_plain Θ_ok ⟨hN, hds, rows_get (E := [(0, (.slice A9 x0.length c10))]) ⟨hb 0 rfl _ rfl, trivial⟩⟩ rfl rfl rfl rfl rfl
  · intro a w2 hfr hN hds hb hd
    have hF := hF.trans hfr
    exact op_plain Θ_ok ⟨hN, hds, rows_get (E := [(5, (.int .i64 p26))]) ⟨hb 5 rfl _ rfl, trivial⟩⟩ rfl rfl rfl rfl rfl
  · intro a w2 hfr hN hds hb hd
    have hF := hF.trans hfr
    exact op_indexA (j := p26) Θ_ok ⟨hN, hds, rows_get (E := [(21, (.slice A9 x0.length c10)), (22, (.int .i64 p26))]) ⟨(hd 1 rfl _ _ rfl rfl), (hd 2 rfl _ _ rfl rfl), trivial⟩⟩ rfl rfl rfl rfl rfl rfl rfl rfl rfl h0 rfl (idx_some hz32).1 (idx_some hz32).2
  · intro a w2 hfr hN hds hb hd
    have hF := hF.trans hfr
    have d39 : (Ty.ptr (Ty.slice (Ty.int .u64))).is [] w (a.tmps.getD 23 undef) y31 := hd 3 rfl _ _ rfl rfl
    obtain ⟨u37, e38⟩ : ∃ v, a.tmps.getD 23 undef = v := ⟨_, rfl⟩
    rw [e38] at d39
    exact op_loadpA Θ_ok ⟨hN, hds, rows_get (E := [(23, u37)]) ⟨e38, trivial⟩⟩ rfl rfl rfl rfl rfl rfl d39 hF rfl rfl
  · intro a w2 hfr hN hds hb hd
    have hF := hF.trans hfr
    exact op_plain Θ_ok ⟨hN, hds, rows_get (E := [(0, (.slice A9 x0.length c10))]) ⟨hb 0 rfl _ rfl, trivial⟩⟩ rfl rfl rfl rfl rfl
  · intro a w2 hfr hN hds hb hd
    have hF := hF.trans hfr
    exact op_plain Θ_ok ⟨hN, hds, rows_get (E := [(5, (.int .i64 p26))]) ⟨hb 5 rfl _ rfl, trivial⟩⟩ rfl rfl rfl rfl rfl
  · intro a w2 hfr hN hds hb hd
    have hF := hF.trans hfr
    exact op_plain Θ_ok ⟨hN, hds, rows_get (E := [(26, (.int .i64 p26))]) ⟨(hd 6 rfl _ _ rfl rfl), trivial⟩⟩ rfl rfl rfl rfl rfl
  · intro a w2 hfr hN hds hb hd
    have hF := hF.trans hfr
    exact op_indexA (j := (IntKind.i64.wrap (p26 + (1 : Int)))) Θ_ok ⟨hN, hds, rows_get (E := [(25, (.slice A9 x0.length c10)), (27, (.int .i64 (IntKind.i64.wrap (p26 + (1 : Int)))))]) ⟨(hd 5 rfl _ _ rfl rfl), (hd 7 rfl _ _ rfl rfl), trivial⟩⟩ rfl rfl rfl rfl rfl rfl rfl rfl rfl h0 rfl (idx_some hz34).1 (idx_some hz34).2
  · intro a w2 hfr hN hds hb hd
    have hF := hF.trans hfr
    have d42 : (Ty.ptr (Ty.slice (Ty.int .u64))).is [] w (a.tmps.getD 28 undef) y33 := hd 8 rfl _ _ rfl rfl
    obtain ⟨u40, e41⟩ : ∃ v, a.tmps.getD 28 undef = v := ⟨_, rfl⟩
    rw [e41] at d42
    exact op_loadpA Θ_ok ⟨hN, hds, rows_get (E := [(28, u40)]) ⟨e41, trivial⟩⟩ rfl rfl rfl rfl rfl rfl d42 hF rfl rfl
  · intro a w2 hfr hN hds hb hd
    have hF := hF.trans hfr
    have d45 : (Ty.slice (Ty.int .u64)).is [] w (a.tmps.getD 24 undef) y31 := hd 4 rfl _ _ rfl rfl
    obtain ⟨u43, e44⟩ : ∃ v, a.tmps.getD 24 undef = v := ⟨_, rfl⟩
    rw [e44] at d45
    have d48 : (Ty.slice (Ty.int .u64)).is [] w (a.tmps.getD 29 undef) y33 := hd 9 rfl _ _ rfl rfl
    obtain ⟨u46, e47⟩ : ∃ v, a.tmps.getD 29 undef = v := ⟨_, rfl⟩
    rw [e47] at d48
    exact op_lit Θ_ok ⟨hN, hds, rows_get (E := [(24, u43), (29, u46)]) ⟨e44, e47, trivial⟩⟩ rfl rfl rfl rfl rfl rfl rfl rfl rfl (T := (Ty.slice (Ty.int .u64))) (xs := [y31, y33]) (vs := [u43, u46]) rfl ⟨(d45.tr hF.tr0), (d48.tr hF.tr0), trivial⟩ rfl rfl rfl (ob_nil _)
  · intro a w2 hfr hN hds hb hd
    have hF := hF.trans hfr
    have d51 : (Ty.slice (Ty.slice (Ty.int .u64))).is [] w2 (a.tmps.getD 30 undef) (([y31, y33] : List (List Int))) := hd 10 rfl _ _ rfl rfl
    obtain ⟨u49, e50⟩ : ∃ v, a.tmps.getD 30 undef = v := ⟨_, rfl⟩
    rw [e50] at d51
    exact (op_call ⟨hN, hds, rows_get (E := [(30, u49)]) ⟨e50, trivial⟩⟩ rfl rfl rfl rfl ent35 rfl (s_Concat_n (hfr.ob hO) d51 hy36)).weaken (fun u w3 ⟨hu, hf⟩ => ⟨hu, hf⟩)
  · intro a w2 hfr hN hds hb hd
    have hF := hF.trans hfr
    have d54 : (Ty.slice (Ty.int .u64)).is O28 w2 (a.tmps.getD 31 undef) y35 := hd 11 rfl _ _ rfl rfl
    obtain ⟨u52, e53⟩ : ∃ v, a.tmps.getD 31 undef = v := ⟨_, rfl⟩
    rw [e53] at d54
    exact op_lit Θ_ok ⟨hN, hds, rows_get (E := [(31, u52)]) ⟨e53, trivial⟩⟩ rfl rfl rfl rfl rfl rfl rfl rfl rfl (T := (Ty.slice (Ty.int .u64))) (xs := [y35]) (vs := [u52]) rfl ⟨d54, trivial⟩ rfl rfl rfl (hfr.ob hO)
  intro a w56 f55 hN hds hb hr
  have T12 := T12.trans f55.tr0
  have T22 := T22.trans f55.tr0
  have hO := f55.ob hO
  have hF := hF.trans f55
  have h25 := h25.fr0 f55
  have h59 : (Ty.slice (Ty.slice (Ty.int .u64))).is O28 w56 (a.tmps.getD 32 undef) (([y35] : List (List Int))) := hr 12 _ _ rfl rfl
  obtain ⟨v57, e58⟩ : ∃ v, a.tmps.getD 32 undef = v := ⟨_, rfl⟩
  rw [e58] at h59
  refine wo_go (E := [(0, (.slice A9 x0.length c10)), (5, (.int .i64 p26)), (20, v24), (32, v57)]) (l := [13, 14]) hN hds ⟨hb 0 _ rfl rfl, hb 5 _ rfl rfl, (hr 0 _ _ rfl rfl), e58, trivial⟩ rfl ?_
  obtain ⟨z60, hz61, h⟩ := bind_some h
  refine wo_app Θ_ok rfl rfl rfl rfl rfl rfl rfl rfl rfl rfl rfl rfl rfl rfl hF hO h25 h59 hz61 (fun v62 w63 O64 ap65 => ?_)
  have T12 := T12.trans ap65.tr
  have T22 := T22.trans ap65.tr
  have hF := ap65.fr0 h25 hF
  have hS := Sub.trans hS ap65.sub
  have hO := ap65.ob
  have h66 := ap65.own
  refine wo_seg Θ_ok [14] [(0, (.slice A9 x0.length c10)), (4, v62), (5, (.int .i64 p26))] rfl ⟨rfl, rfl, rfl, trivial⟩ ?_
  refine wo_nil ?_
  refine wq_block (wq_seq ?_)
  refine wc_region (l := [0, 1, 2]) rfl ?_
  refine wo_seg Θ_ok [0, 1, 2] [(0, (.slice A9 x0.length c10)), (4, v62), (5, (.int .i64 (IntKind.i64.wrap (p26 + (2 : Int)))))] rfl ⟨rfl, rfl, rfl, trivial⟩ ?_
  refine wo_nil ?_
  exact wq_next fl27 [(0, (.slice A9 x0.length c10)), (4, v62), (5, (.int .i64 (IntKind.i64.wrap (p26 + (2 : Int)))))] (Nat.lt_succ_self _) ⟨rfl, rfl, rfl, trivial⟩ ⟨fl27, O64, z60, (IntKind.i64.wrap (p26 + (2 : Int))), v62, rfl, rfl, T22, hO, hS, hF, h66, h⟩
theorem b_Shrink_c {O : List Nat} {w : World} (hO : OB O w) {fuel : Nat} {v0 : Value} {x0 : List (List Int)} (h0 : (Ty.slice (Ty.slice (Ty.int .u64))).is O w v0 x0) {r : (List (List Int)) × Int} (h : b_Shrink fuel x0 = some r) : Calls Try.prog 33 #[v0] w (Gives (rt2 (Ty.slice (Ty.slice (Ty.int .u64))) (Ty.int .i64)) O w r) := b_Shrink_n hO (h0.tr (Tr.less (sub_nil _))) h
end Go.Proofs.Ytdemjanelbajlaa
