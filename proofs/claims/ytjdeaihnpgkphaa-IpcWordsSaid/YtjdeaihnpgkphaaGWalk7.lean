/-
  The program's functions compute the plain ones (printed by a tool of the prover's).
-/
import Derived.Test.YtjdeaihnpgkphaaGWalk6
namespace Go.Proofs.Ytjdeaihnpgkphaa
open Go.RowKit Go.Dc Go.Shelf
set_option maxRecDepth 100000 in
theorem _root_.Go.Dc.Chg.old {lo hi b : Nat} {w W W' : World} (h : Chg lo hi w W) (f : Fr [b] W W') (hb : w.heap.size ≤ b) : Chg lo hi w W' := by
  have hk : ∀ k, k < w.heap.size → W'.heap[k]? = W.heap[k]? := fun k hk => f.block k (Nat.lt_of_lt_of_le hk h.size) (by simp; omega)
  have hlt : ∀ p v, w.cell? p = some v → p.block < w.heap.size := fun p v hp => by
    rcases Nat.lt_or_ge p.block w.heap.size with hlt | hge
    · exact hlt
    · unfold World.cell? at hp
      rw [Array.getElem?_eq_none hge] at hp
      cases hp
  refine ⟨f.os.trans h.os, f.tape.trans h.tape, f.output.trans h.output, Nat.le_trans h.size f.size, fun k hk1 ho => (hk k hk1).trans (h.block k hk1 ho), fun p v hp => ?_, fun p hp => (World.frozen?_of_block (w := W) (hk _ hp)).trans (h.froz p hp), fun b cs t z hb => by
    obtain ⟨c1, h1, e1⟩ := h.rows b cs t z hb
    exact ⟨c1, (hk b (Array.getElem?_eq_some_iff.1 hb).1).trans h1, e1⟩⟩
  obtain ⟨v', h1, h2⟩ := h.cell p v hp
  exact ⟨v', (cell_keep (hk _ (hlt p v hp))).trans h1, h2⟩
theorem _root_.Go.Dc.Chg.fr1 {lo hi : Nat} {w W W' : World} (h : Chg lo hi w W) (f : Fr [] W W') : Chg lo hi w W' := h.old (b := w.heap.size) (f.more (by simp)) (Nat.le_refl _)
theorem blk_chg {lo hi b t : Nat} {cs : List Value} {W W' : World} (h : Blk W b t cs) (hc : Chg lo hi W W') (hb : hi ≤ b) : Blk W' b t cs := (hc.block b h.lt (.inr hb)).trans h
/-- names that may be written over -/
def ShN (lo hi : Nat) (w : World) (A : Option Addr) (n : Nat) : Prop :=
  ∀ j, j < n → ∃ ad, A = some ad ∧ lo ≤ ad.block ∧ ad.block < hi ∧ ad.block < w.heap.size ∧ (∃ i, w.cell? (ad.add (j * 2 + 1)) = some (.int .u64 i)) ∧ w.frozen? (ad.add (j * 2 + 1)) = false
theorem ShN.chg {lo hi n : Nat} {w w' : World} {A : Option Addr} (h : ShN lo hi w A n) (hc : Chg lo hi w w') : ShN lo hi w' A n := fun j hj => by
  obtain ⟨ad, hA, h1, h2, h3, ⟨i, h4⟩, h5⟩ := h j hj
  exact ⟨ad, hA, h1, h2, Nat.lt_of_lt_of_le h3 hc.size, hc.int h4, (hc.froz _ (by rw [add_block]; exact h3)).trans h5⟩
theorem ShN.of {lo : Nat} {O : List Nat} {w0 w : World} {A : Option Addr} {n c : Nat} {xs : List GName} (h : (Ty.slice tGName).is (List.range lo) w0 (.slice A n c) xs) (hF : TL lo w0 O w) : ShN lo w0.heap.size w A n := fun j hj => by
  obtain ⟨cs, ⟨A', c', hc, hl, hx⟩, hv⟩ := h
  subst hc
  have hv : Value.slice A n c = .slice A' xs.length c' := hv
  injection hv with e1 e2 e3
  subst e1; subst e2; subst e3
  obtain ⟨ad, es, hA, hb, ho, hr, he⟩ := hx j xs[j] (List.getElem?_eq_getElem hj)
  have hes := tGName_rep hr
  subst hes
  have e1 : tGName.n = 2 := rfl
  rw [e1] at he
  have hk : w.heap[(ad.add (j * 2 + 1)).block]? = w0.heap[(ad.add (j * 2 + 1)).block]? := by rw [add_block]; exact (hF.keep _ (by simpa using ho) hb).2
  have h0 := he.1 1 _ rfl
  have h1 := he.2 1 (by simp)
  rw [add_add] at h0 h1
  exact ⟨ad, hA, by simpa using ho, hb, Nat.lt_of_lt_of_le hb hF.size, ⟨_, (cell_keep hk).trans h0⟩, (World.frozen?_of_block (w := w0) hk).trans h1⟩
/-- boxes whose words may be written over -/
def ShB (lo hi : Nat) (w : World) (A : Option Addr) (n : Nat) : Prop :=
  ∀ j, j < n → ∃ ad A' n' c', A = some ad ∧ (∃ p, w.cell? (ad.add (j * 2)) = some (.int .u64 p)) ∧ w.cell? (ad.add (j * 2 + 1)) = some (.slice A' n' c') ∧ ShI .u64 lo hi w A' n' ∧ n' ≤ maxLen
theorem ShB.chg {lo hi n : Nat} {w w' : World} {A : Option Addr} (h : ShB lo hi w A n) (hc : Chg lo hi w w') : ShB lo hi w' A n := fun j hj => by
  obtain ⟨ad, A', n', c', hA, ⟨p, h0⟩, h1, h2, h3⟩ := h j hj
  exact ⟨ad, A', n', c', hA, hc.int h0, hc.keep h1 (by simp), h2.chg hc, h3⟩
theorem ShB.of {lo : Nat} {O : List Nat} {w0 w : World} {A : Option Addr} {n c : Nat} {xs : List GBox} (h : (Ty.slice tGBox).is (List.range lo) w0 (.slice A n c) xs) (hF : TL lo w0 O w) : ShB lo w0.heap.size w A n := fun j hj => by
  obtain ⟨cs, ⟨A', c', hc, hl, hx⟩, hv⟩ := h
  subst hc
  have hv : Value.slice A n c = .slice A' xs.length c' := hv
  injection hv with e1 e2 e3
  subst e1; subst e2; subst e3
  obtain ⟨ad, es, hA, hb, ho, hr, he⟩ := hx j xs[j] (List.getElem?_eq_getElem hj)
  obtain ⟨s, hes, his⟩ := tGBox_rep hr
  subst hes
  obtain ⟨A2, c2, rfl, hlc, hcm⟩ := slice_form his
  have e1 : tGBox.n = 2 := rfl
  rw [e1] at he
  have hk : ∀ q, w.heap[(ad.add q).block]? = w0.heap[(ad.add q).block]? := fun q => by rw [add_block]; exact (hF.keep _ (by simpa using ho) hb).2
  have h0 := he.1 0 _ rfl
  have h1 := he.1 1 _ rfl
  rw [Addr.add_zero'] at h0
  rw [add_add] at h1
  exact ⟨ad, A2, _, c2, hA, ⟨_, (cell_keep (hk _)).trans h0⟩, (cell_keep (hk _)).trans h1, ShI.ofT his hF.size fun k h1 h2 => (hF.keep k h1 h2).2, by omega⟩
/-- a load of two cells -/
theorem wo_load2 {P : Program} {r : Option Nat} {N : Nat} {Θ : Tys} {ops : Array Oper} {Q : Exit → Act → World → Prop} {l : List Nat} {E : Env} {ds : List Deferred} {w : World} {i d : Nat} {o : Oper} (hΘ : Θ.ok P) (ho : ops[i]? = some o) (hw : want N ops E o.guard = some true) (hd : o.dst = some d) (hN : Nat.blt d N = true) {t : Nat} {x : Operand} {ti : TI} (hop : o.op = .load t x) (ht : Θ.get t = some ti) (h2 : ti.size = 2) (ha : ti.isAgg = true)
    {ad : Addr} (hx : ev E x = some (.pointer (some ad))) {u v : Value} (hc : w.cell? ad = some u) (hc2 : w.cell? (ad.add 1) = some v) (h : WO P r N ops Q l ((d, .agg #[u, v]) :: E) ds w) : WO P r N ops Q (i :: l) E ds w := by
  refine wo_value ho hw hd hN (by rw [hop]; simp) (fun a hha => ?_) h
  have hcc : CellsAt w ad [u, v] := fun j q hu => by
    match j with
    | 0 => simp at hu; subst hu; rw [Addr.add_zero']; exact hc
    | 1 => simp at hu; subst hu; exact hc2
    | j + 2 => simp at hu
  have := run_loadAt (P := P) (hΘ.fits ht) (cs := [u, v]) (by rw [h2]; rfl) hcc (fun e => by rw [ha] at e; cases e)
  simp only [execOp, hop, Sem.run_bind, hha.eval hx, this, ha]
  rfl
set_option maxRecDepth 100000 in
set_option maxHeartbeats 4000000 in
theorem spoil_s {O : List Nat} {w0 w : World} {lo : Nat} {v1 v2 : Value} {ns : List GName} {bs : List GBox} (h1 : (Ty.slice tGName).is (List.range lo) w0 v1 ns) (h2 : (Ty.slice tGBox).is (List.range lo) w0 v2 bs) (hF0 : TL lo w0 O w) :
    Calls Try.prog 15 #[.agg #[v1, v2]] w (fun e w' => e = .returned (.tuple #[]) ∧ Chg lo w0.heap.size w w') := by
  obtain ⟨A1, c1, rfl, hlc1, hmc1⟩ := slice_form h1
  obtain ⟨A2, c2, rfl, hlc2, hmc2⟩ := slice_form h2
  have hN := ShN.of h1 hF0
  have hB := ShB.of h2 hF0
  have hsz := hF0.size
  generalize ns.length = n1 at *
  generalize bs.length = n2 at *
  refine calls_of (args := [.agg #[.slice A1 n1 c1, .slice A2 n2 c2]]) (N := 44) Try.func15 rfl rfl rfl ?_
  refine wc_seq ?_
  refine wc_region (l := [0]) rfl ?_
  refine wo_box rfl rfl rfl rfl rfl rfl [.slice A1 n1 c1, .slice A2 n2 c2] rfl (ob_nil _) (fun b1 w1 q1 => ?_)
  have hb1 := q1.blk
  have hge := q1.ge
  have hC1 : Chg lo w0.heap.size w w1 := (Chg.refl _ _ _).fr1 q1.fr
  refine wo_seg Θ_ok [] [(1, (.pointer (some ⟨b1, 0, none⟩)))] rfl ⟨rfl, trivial⟩ ?_
  refine wo_nil ?_
  refine wq_seq ?_
  refine wc_seq ?_
  refine wc_seq ?_
  refine wc_region (l := [0, 1, 2, 3]) rfl ?_
  refine wo_seg Θ_ok [0] [(1, (.pointer (some ⟨b1, 0, none⟩))), (6, (.pointer (some ⟨b1, 0, none⟩)))] rfl ⟨rfl, rfl, trivial⟩ ?_
  refine wo_load Θ_ok rfl rfl rfl rfl rfl rfl rfl hb1 [.slice A1 n1 c1] rfl rfl (.inr rfl) (.slice A1 n1 c1) rfl ?_
  refine wo_seg Θ_ok [2, 3] [(1, (.pointer (some ⟨b1, 0, none⟩))), (8, .int .i64 (n1 : Int)), (9, .int .i64 ((0 : Nat) : Int))] rfl ⟨rfl, rfl, rfl, trivial⟩ ?_
  refine wo_nil ?_
  refine wq_seq ?_
  refine wc_block ?_
  refine wc_loop (fun m E W => ∃ j : Nat, n1 - j = m ∧ j ≤ n1 ∧ E = [(1, (.pointer (some ⟨b1, 0, none⟩))), (8, .int .i64 (n1 : Int)), (9, .int .i64 (j : Int))] ∧ Chg lo w0.heap.size w W ∧ Blk W b1 25 [.slice A1 n1 c1, .slice A2 n2 c2]) _
    [(1, (.pointer (some ⟨b1, 0, none⟩))), (8, .int .i64 (n1 : Int)), (9, .int .i64 ((0 : Nat) : Int))] ⟨rfl, rfl, rfl, trivial⟩ ⟨0, rfl, Nat.zero_le _, rfl, hC1, hb1⟩ ?_
  rintro m E W ⟨j, hm, hj, rfl, hC, hb1⟩
  refine wc_seq ?_
  refine wc_region (l := [0]) rfl ?_
  refine wo_seg Θ_ok [0] [(1, (.pointer (some ⟨b1, 0, none⟩))), (8, .int .i64 (n1 : Int)), (9, .int .i64 (j : Int)), (10, .bool (decide ((j : Int) < (n1 : Int))))] rfl ⟨rfl, rfl, rfl, rfl, trivial⟩ ?_
  refine wo_nil ?_
  refine wq_seq ?_
  refine wc_seq ?_
  by_cases hjn : j < n1
  case pos =>
    refine wc_known_true rfl (decide_eq_true (by omega)) ?_
    refine wc_skip ?_
    refine wq_seq ?_
    obtain ⟨ad, rfl, e1, e2, e3, ⟨y, hy⟩, hz⟩ := (hN.chg hC) j hjn
    have es : (j : Int).toNat * ({ tag := 8, k := 0, e := 0, fs := [(29, 0), (29, 1)], size := 2, bytes := 16, zero := .agg #[.int .u64 0, .int .u64 0] } : TI).size = j * 2 := by rw [Int.toNat_natCast]
    refine wc_seq ?_
    refine wc_block ?_
    refine wc_seq ?_
    refine wc_region (l := [0, 1]) rfl ?_
    refine wo_seg Θ_ok [0, 1] [(1, (.pointer (some ⟨b1, 0, none⟩))), (2, .int .i64 (j : Int)), (8, .int .i64 (n1 : Int)), (9, .int .i64 (j : Int))] rfl ⟨rfl, rfl, rfl, rfl, trivial⟩ ?_
    refine wo_nil ?_
    refine wq_seq ?_
    refine wc_region (l := [0, 1, 2, 3, 4, 5, 6, 7, 8, 9]) rfl ?_
    refine wo_seg Θ_ok [0] [(1, (.pointer (some ⟨b1, 0, none⟩))), (2, .int .i64 (j : Int)), (8, .int .i64 (n1 : Int)), (9, .int .i64 (j : Int)), (12, (.pointer (some ⟨b1, 0, none⟩)))] rfl ⟨rfl, rfl, rfl, rfl, rfl, trivial⟩ ?_
    refine wo_load Θ_ok rfl rfl rfl rfl rfl rfl rfl hb1 [.slice (some ad) n1 c1] rfl rfl (.inr rfl) (.slice (some ad) n1 c1) rfl ?_
    refine wo_seg Θ_ok [2] [(1, (.pointer (some ⟨b1, 0, none⟩))), (8, .int .i64 (n1 : Int)), (9, .int .i64 (j : Int)), (13, .slice (some ad) n1 c1), (14, .int .i64 (j : Int))] rfl ⟨rfl, rfl, rfl, rfl, rfl, trivial⟩ ?_
    refine wo_indexV Θ_ok rfl rfl rfl rfl rfl rfl rfl rfl rfl rfl (Int.natCast_nonneg _) (by rw [Int.toNat_natCast]; exact hjn) ?_
    rw [es]
    obtain ⟨p1, hp1⟩ : ∃ p, p = ad.add (j * 2) := ⟨_, rfl⟩
    rw [← hp1]
    have hpa : (ad.add (j * 2)).add 1 = ad.add (j * 2 + 1) := add_add _ _ _
    refine wo_seg Θ_ok [4] [(1, (.pointer (some ⟨b1, 0, none⟩))), (8, .int .i64 (n1 : Int)), (9, .int .i64 (j : Int)), (13, .slice (some ad) n1 c1), (14, .int .i64 (j : Int)), (16, (.pointer (some (p1.add 1))))] rfl ⟨rfl, rfl, rfl, rfl, rfl, rfl, trivial⟩ ?_
    rw [hp1, hpa]
    refine wo_loadC (v := .int .u64 y) Θ_ok rfl rfl rfl rfl rfl rfl rfl rfl rfl hy ?_
    refine wo_seg Θ_ok [6] [(1, (.pointer (some ⟨b1, 0, none⟩))), (8, .int .i64 (n1 : Int)), (9, .int .i64 (j : Int)), (13, .slice (some ad) n1 c1), (14, .int .i64 (j : Int)), (18, .int .u64 (IntKind.u64.wrap (y + (1 : Int))))] rfl ⟨rfl, rfl, rfl, rfl, rfl, rfl, trivial⟩ ?_
    refine wo_indexV Θ_ok rfl rfl rfl rfl rfl rfl rfl rfl rfl rfl (Int.natCast_nonneg _) (by rw [Int.toNat_natCast]; exact hjn) ?_
    rw [es]
    rw [← hp1]
    refine wo_seg Θ_ok [8] [(1, (.pointer (some ⟨b1, 0, none⟩))), (8, .int .i64 (n1 : Int)), (9, .int .i64 (j : Int)), (18, .int .u64 (IntKind.u64.wrap (y + (1 : Int)))), (20, (.pointer (some (p1.add 1))))] rfl ⟨rfl, rfl, rfl, rfl, rfl, trivial⟩ ?_
    rw [hp1, hpa]
    refine wo_storeC (u := .int .u64 y) Θ_ok rfl rfl rfl rfl rfl rfl rfl rfl hy hz ?_
    have hC2 : Chg lo w0.heap.size W (W.setCell (ad.add (j * 2 + 1)) (.int .u64 (IntKind.u64.wrap (y + 1)))) := Chg.set hy (by rw [add_block]; exact e1) (by rw [add_block]; exact e2)
    have hb2 := blk_chg hb1 hC2 (by omega)
    refine wo_nil ?_
    refine wq_block (wq_seq ?_)
    refine wc_region (l := [0, 1]) rfl ?_
    refine wo_seg Θ_ok [0, 1] [(1, (.pointer (some ⟨b1, 0, none⟩))), (8, .int .i64 (n1 : Int)), (9, .int .i64 (IntKind.i64.wrap ((j : Int) + (1 : Int))))] rfl ⟨rfl, rfl, rfl, trivial⟩ ?_
    refine wo_nil ?_
    exact wq_next (n1 - (j + 1)) [(1, (.pointer (some ⟨b1, 0, none⟩))), (8, .int .i64 (n1 : Int)), (9, .int .i64 ((j + 1 : Nat) : Int))] (by omega) ⟨rfl, rfl, congrArg (fun z => some (Value.int .i64 z)) (wrap_succ hjn (Nat.le_trans hlc1 hmc1)), trivial⟩ ⟨j + 1, rfl, by omega, rfl, hC.trans hC2, hb2⟩
  refine wc_known_false rfl (decide_eq_false (by omega)) ?_
  refine wc_exit ?_
  refine wq_then_exit (wq_then_exit (wq_block_exit (wq_seq ?_)))
  clear hN hjn hj hm hC1
  refine wc_seq ?_
  refine wc_region (l := [0, 1, 2, 3]) rfl ?_
  refine wo_seg Θ_ok [0] [(22, (.pointer (some ⟨b1, 1, none⟩)))] rfl ⟨rfl, trivial⟩ ?_
  refine wo_load Θ_ok rfl rfl rfl rfl rfl rfl rfl hb1 [.slice A2 n2 c2] rfl rfl (.inr rfl) (.slice A2 n2 c2) rfl ?_
  refine wo_seg Θ_ok [2, 3] [(23, .slice A2 n2 c2), (24, .int .i64 (n2 : Int)), (25, .int .i64 ((0 : Nat) : Int))] rfl ⟨rfl, rfl, rfl, trivial⟩ ?_
  refine wo_nil ?_
  refine wq_seq ?_
  refine wc_block ?_
  refine wc_loop (fun m E W => ∃ j : Nat, n2 - j = m ∧ j ≤ n2 ∧ E = [(23, .slice A2 n2 c2), (24, .int .i64 (n2 : Int)), (25, .int .i64 (j : Int))] ∧ Chg lo w0.heap.size w W) _
    [(23, .slice A2 n2 c2), (24, .int .i64 (n2 : Int)), (25, .int .i64 ((0 : Nat) : Int))] ⟨rfl, rfl, rfl, trivial⟩ ⟨0, rfl, Nat.zero_le _, rfl, hC⟩ ?_
  clear hC hb1
  rintro m E W ⟨j, hm, hj, rfl, hC⟩
  refine wc_seq ?_
  refine wc_region (l := [0]) rfl ?_
  refine wo_seg Θ_ok [0] [(23, .slice A2 n2 c2), (24, .int .i64 (n2 : Int)), (25, .int .i64 (j : Int)), (26, .bool (decide ((j : Int) < (n2 : Int))))] rfl ⟨rfl, rfl, rfl, rfl, trivial⟩ ?_
  refine wo_nil ?_
  refine wq_seq ?_
  refine wc_seq ?_
  by_cases hjn : j < n2
  case neg =>
    refine wc_known_false rfl (decide_eq_false (by omega)) ?_
    refine wc_exit ?_
    exact wq_then_exit (wq_then_exit (wq_block_exit (wq_end rfl ⟨rfl, hC⟩)))
  refine wc_known_true rfl (decide_eq_true (by omega)) ?_
  refine wc_skip ?_
  refine wq_seq ?_
  obtain ⟨ad, A', n', c', rfl, ⟨p, hcell0⟩, hcell, hI, hn'⟩ := (hB.chg hC) j hjn
  have es : (j : Int).toNat * ({ tag := 8, k := 0, e := 0, fs := [(29, 0), (40, 1)], size := 2, bytes := 32, zero := .agg #[.int .u64 0, .slice none 0 0] } : TI).size = j * 2 := by rw [Int.toNat_natCast]
  refine wc_seq ?_
  refine wc_block ?_
  refine wc_seq ?_
  refine wc_region (l := [0, 1, 2, 3]) rfl ?_
  refine wo_indexV Θ_ok rfl rfl rfl rfl rfl rfl rfl rfl rfl rfl (Int.natCast_nonneg _) (by rw [Int.toNat_natCast]; exact hjn) ?_
  rw [es]
  refine wo_load2 Θ_ok rfl rfl rfl rfl rfl rfl rfl rfl rfl hcell0 (by rw [add_add]; exact hcell) ?_
  refine wo_alloc Θ_ok rfl rfl rfl rfl rfl rfl [(.int .u64 0), (.slice none 0 0)] rfl (ob_nil _) (fun b4 w4 q4 => ?_)
  have hge4 := q4.ge
  have hsz4 := hC.size
  refine wo_store Θ_ok rfl rfl rfl rfl rfl rfl rfl q4.blk [.int .u64 p, .slice A' n' c'] rfl rfl (by simp [Value.oneCell']) rfl [.int .u64 p, .slice A' n' c'] rfl (fun w5 hb4 f5 => ?_)
  have hC5 : Chg lo w0.heap.size w w5 := (hC.fr1 q4.fr).old f5 (by omega)
  have hC5' : Chg lo w0.heap.size W w5 := ((Chg.refl lo w0.heap.size W).fr1 q4.fr).old f5 (by omega)
  refine wo_nil ?_
  refine wq_seq ?_
  refine wc_seq ?_
  refine wc_region (l := [0, 1, 2, 3]) rfl ?_
  refine wo_seg Θ_ok [0] [(4, (.pointer (some ⟨b4, 0, none⟩))), (23, .slice (some ad) n2 c2), (24, .int .i64 (n2 : Int)), (25, .int .i64 (j : Int)), (29, (.pointer (some ⟨b4, 1, none⟩)))] rfl ⟨rfl, rfl, rfl, rfl, rfl, trivial⟩ ?_
  refine wo_load Θ_ok rfl rfl rfl rfl rfl rfl rfl hb4 [.slice A' n' c'] rfl rfl (.inr rfl) (.slice A' n' c') rfl ?_
  refine wo_seg Θ_ok [2, 3] [(4, (.pointer (some ⟨b4, 0, none⟩))), (23, .slice (some ad) n2 c2), (24, .int .i64 (n2 : Int)), (25, .int .i64 (j : Int)), (31, .int .i64 (n' : Int)), (32, .int .i64 ((0 : Nat) : Int))] rfl ⟨rfl, rfl, rfl, rfl, rfl, rfl, trivial⟩ ?_
  refine wo_nil ?_
  refine wq_seq ?_
  refine wc_block ?_
  refine wc_loop (fun m E W' => ∃ i : Nat, n' - i = m ∧ i ≤ n' ∧ E = [(4, (.pointer (some ⟨b4, 0, none⟩))), (23, .slice (some ad) n2 c2), (24, .int .i64 (n2 : Int)), (25, .int .i64 (j : Int)), (31, .int .i64 (n' : Int)), (32, .int .i64 (i : Int))] ∧ Chg lo w0.heap.size w W' ∧ ShI .u64 lo w0.heap.size W' A' n' ∧ Blk W' b4 61 [.int .u64 p, .slice A' n' c']) _
    [(4, (.pointer (some ⟨b4, 0, none⟩))), (23, .slice (some ad) n2 c2), (24, .int .i64 (n2 : Int)), (25, .int .i64 (j : Int)), (31, .int .i64 (n' : Int)), (32, .int .i64 ((0 : Nat) : Int))] ⟨rfl, rfl, rfl, rfl, rfl, rfl, trivial⟩ ⟨0, rfl, Nat.zero_le _, rfl, hC5, hI.chg hC5', hb4⟩ ?_
  rintro m2 E W' ⟨i, hm2, hi, rfl, hC, hI, hb4⟩
  refine wc_seq ?_
  refine wc_region (l := [0]) rfl ?_
  refine wo_seg Θ_ok [0] [(4, (.pointer (some ⟨b4, 0, none⟩))), (23, .slice (some ad) n2 c2), (24, .int .i64 (n2 : Int)), (25, .int .i64 (j : Int)), (31, .int .i64 (n' : Int)), (32, .int .i64 (i : Int)), (33, .bool (decide ((i : Int) < (n' : Int))))] rfl ⟨rfl, rfl, rfl, rfl, rfl, rfl, rfl, trivial⟩ ?_
  refine wo_nil ?_
  refine wq_seq ?_
  refine wc_seq ?_
  by_cases hin : i < n'
  case neg =>
    refine wc_known_false rfl (decide_eq_false (by omega)) ?_
    refine wc_exit ?_
    refine wq_then_exit (wq_then_exit (wq_block_exit (wq_block (wq_seq ?_))))
    refine wc_region (l := [0, 1]) rfl ?_
    refine wo_seg Θ_ok [0, 1] [(23, .slice (some ad) n2 c2), (24, .int .i64 (n2 : Int)), (25, .int .i64 (IntKind.i64.wrap ((j : Int) + (1 : Int))))] rfl ⟨rfl, rfl, rfl, trivial⟩ ?_
    refine wo_nil ?_
    exact wq_next (n2 - (j + 1)) [(23, .slice (some ad) n2 c2), (24, .int .i64 (n2 : Int)), (25, .int .i64 ((j + 1 : Nat) : Int))] (by omega) ⟨rfl, rfl, congrArg (fun z => some (Value.int .i64 z)) (wrap_succ hjn (Nat.le_trans hlc2 hmc2)), trivial⟩ ⟨j + 1, rfl, by omega, rfl, hC⟩
  refine wc_known_true rfl (decide_eq_true (by omega)) ?_
  refine wc_skip ?_
  refine wq_seq ?_
  obtain ⟨ad', rfl, h1, h2, h3, ⟨y, hy⟩, hz⟩ := hI i hin
  refine wc_seq ?_
  refine wc_block ?_
  refine wc_seq ?_
  refine wc_region (l := [0, 1]) rfl ?_
  refine wo_seg Θ_ok [0, 1] [(4, (.pointer (some ⟨b4, 0, none⟩))), (5, .int .i64 (i : Int)), (23, .slice (some ad) n2 c2), (24, .int .i64 (n2 : Int)), (25, .int .i64 (j : Int)), (31, .int .i64 (n' : Int)), (32, .int .i64 (i : Int))] rfl ⟨rfl, rfl, rfl, rfl, rfl, rfl, rfl, trivial⟩ ?_
  refine wo_nil ?_
  refine wq_seq ?_
  refine wc_region (l := [0, 1, 2, 3, 4, 5, 6, 7]) rfl ?_
  refine wo_seg Θ_ok [0] [(4, (.pointer (some ⟨b4, 0, none⟩))), (5, .int .i64 (i : Int)), (23, .slice (some ad) n2 c2), (24, .int .i64 (n2 : Int)), (25, .int .i64 (j : Int)), (31, .int .i64 (n' : Int)), (32, .int .i64 (i : Int)), (35, (.pointer (some ⟨b4, 1, none⟩)))] rfl ⟨rfl, rfl, rfl, rfl, rfl, rfl, rfl, rfl, trivial⟩ ?_
  refine wo_load Θ_ok rfl rfl rfl rfl rfl rfl rfl hb4 [.slice (some ad') n' c'] rfl rfl (.inr rfl) (.slice (some ad') n' c') rfl ?_
  refine wo_seg Θ_ok [2] [(4, (.pointer (some ⟨b4, 0, none⟩))), (23, .slice (some ad) n2 c2), (24, .int .i64 (n2 : Int)), (25, .int .i64 (j : Int)), (31, .int .i64 (n' : Int)), (32, .int .i64 (i : Int)), (36, .slice (some ad') n' c'), (37, .int .i64 (i : Int))] rfl ⟨rfl, rfl, rfl, rfl, rfl, rfl, rfl, rfl, trivial⟩ ?_
  refine wo_indexV Θ_ok rfl rfl rfl rfl rfl rfl rfl rfl rfl rfl (Int.natCast_nonneg _) (by rw [Int.toNat_natCast]; exact hin) ?_
  refine wo_loadC (v := .int .u64 y) Θ_ok rfl rfl rfl rfl rfl rfl rfl rfl rfl (by rw [Int.toNat_natCast]; exact (congrArg (fun q => W'.cell? (ad'.add q)) (Nat.mul_one i)).trans hy) ?_
  refine wo_seg Θ_ok [5] [(4, (.pointer (some ⟨b4, 0, none⟩))), (23, .slice (some ad) n2 c2), (24, .int .i64 (n2 : Int)), (25, .int .i64 (j : Int)), (31, .int .i64 (n' : Int)), (32, .int .i64 (i : Int)), (36, .slice (some ad') n' c'), (37, .int .i64 (i : Int)), (40, .int .u64 (IntKind.u64.wrap (y + (1 : Int))))] rfl ⟨rfl, rfl, rfl, rfl, rfl, rfl, rfl, rfl, rfl, trivial⟩ ?_
  refine wo_indexV Θ_ok rfl rfl rfl rfl rfl rfl rfl rfl rfl rfl (Int.natCast_nonneg _) (by rw [Int.toNat_natCast]; exact hin) ?_
  have e1 : (i : Int).toNat * ({ tag := 2, k := 7, e := 0, fs := [], size := 1, bytes := 8, zero := .int .u64 0 } : TI).size = i := by rw [Int.toNat_natCast]; exact Nat.mul_one i
  rw [e1]
  refine wo_storeC (u := .int .u64 y) Θ_ok rfl rfl rfl rfl rfl rfl rfl rfl hy hz ?_
  have hC2 : Chg lo w0.heap.size W' (W'.setCell (ad'.add i) (.int .u64 (IntKind.u64.wrap (y + 1)))) := Chg.set hy (by rw [add_block]; exact h1) (by rw [add_block]; exact h2)
  have hb5 := blk_chg hb4 hC2 (by omega)
  refine wo_nil ?_
  refine wq_block (wq_seq ?_)
  refine wc_region (l := [0, 1]) rfl ?_
  refine wo_seg Θ_ok [0, 1] [(4, (.pointer (some ⟨b4, 0, none⟩))), (23, .slice (some ad) n2 c2), (24, .int .i64 (n2 : Int)), (25, .int .i64 (j : Int)), (31, .int .i64 (n' : Int)), (32, .int .i64 (IntKind.i64.wrap ((i : Int) + (1 : Int))))] rfl ⟨rfl, rfl, rfl, rfl, rfl, rfl, trivial⟩ ?_
  refine wo_nil ?_
  exact wq_next (n' - (i + 1)) [(4, (.pointer (some ⟨b4, 0, none⟩))), (23, .slice (some ad) n2 c2), (24, .int .i64 (n2 : Int)), (25, .int .i64 (j : Int)), (31, .int .i64 (n' : Int)), (32, .int .i64 ((i + 1 : Nat) : Int))] (by omega) ⟨rfl, rfl, rfl, rfl, rfl, congrArg (fun z => some (Value.int .i64 z)) (wrap_succ hin hn'), trivial⟩ ⟨i + 1, rfl, by omega, rfl, hC.trans hC2, hI.chg hC2, hb5⟩

set_option maxRecDepth 100000 in
set_option maxHeartbeats 4000000 in
theorem wakes_c {O : List Nat} {w : World} (hO : OB O w) {fuel : Nat} {r : Bool} (h : wakes fuel = some r) : Calls Try.prog 7 #[] w (Gives (rt1 Ty.bool) O w r) := by
  have hF := Fr.refl [] w
  have hO0 := hO
  have hS := Sub.refl O
  refine calls_of (args := []) (N := 134) Try.func7 rfl rfl rfl ?_
  unfold wakes at h
  refine wc_seq ?_
  refine wc_region (l := [0]) rfl ?_
  refine wo_seg Θ_ok [0] [] rfl trivial ?_
  refine wo_nil ?_
  refine wq_seq ?_
  refine wc_seq ?_
  refine wc_region (l := [0, 1, 2, 3, 4, 5, 6, 7]) rfl ?_
  refine wo_seg Θ_ok [0] [(21, (.agg #[(.slice none 0 0), (.slice none 0 0)]))] rfl ⟨rfl, trivial⟩ ?_
  obtain ⟨y5, hy6, h⟩ := bind_some h
  refine wo_gives rfl rfl rfl rfl rfl ent10 rfl (i_Register_c hO ((tGIpc_is (x := (GIpc.mk ([] : List GName) ([] : List GBox)))).2 ⟨_, _, rfl, (slice_nil _ _ _), (slice_nil _ _ _)⟩) (int_is.2 rfl) (int_is.2 rfl) hy6) (fun v1 w2 h3 f4 => ?_)
  have hO := f4.ob hO
  have hF := hF.trans f4
  obtain ⟨u7, u9, rfl, h8, h10⟩ := h3
  obtain ⟨v11, v13, rfl, h12, h14⟩ := tGIpc_is.1 h8
  obtain rfl := int_is.1 h10
  refine wo_seg Θ_ok [2, 3, 4] [(23, (.agg #[v11, v13])), (24, (.int .i64 y5.2))] rfl ⟨rfl, rfl, trivial⟩ ?_
  refine wo_alloc Θ_ok rfl rfl rfl rfl rfl rfl [(.slice none 0 0), (.slice none 0 0)] rfl hO (fun b15 w16 n17 => ?_)
  have h12 := h12.tr n17.tr
  have h14 := h14.tr n17.tr
  have hb15 := n17.blk
  have gb15 := n17.ge0 hF
  have ib15 : b15 ∈ b15 :: O := List.mem_cons_self
  have hO := n17.ob
  have hF := hF.trans n17.fr
  have hS := Sub.cons hS b15
  obtain ⟨A18, c19, rfl, hlc19, hmc19⟩ := slice_form h12
  obtain ⟨A20, c21, rfl, hlc21, hmc21⟩ := slice_form h14
  refine wo_store Θ_ok rfl rfl rfl rfl rfl rfl rfl hb15 [(.slice A18 y5.1.fNames.length c19), (.slice A20 y5.1.fBoxes.length c21)] rfl rfl (by simp [Value.oneCell']) rfl [(.slice A18 y5.1.fNames.length c19), (.slice A20 y5.1.fBoxes.length c21)] rfl (fun w22 hb15 f23 => ?_)
  have h12 := h12.tr (f23.tr (one_in ib15))
  have h14 := h14.tr (f23.tr (one_in ib15))
  have hO := f23.ob hO
  have hF := hF.own f23 gb15
  refine wo_seg Θ_ok [7] [(1, (bp b15)), (2, (.int .i64 y5.2))] rfl ⟨rfl, rfl, trivial⟩ ?_
  refine wo_nil ?_
  refine wq_seq ?_
  refine wc_seq ?_
  refine wc_region (l := [0, 1, 2, 3, 4, 5, 6, 7]) rfl ?_
  refine wo_load Θ_ok rfl rfl rfl rfl rfl rfl rfl hb15 [(.slice A18 y5.1.fNames.length c19), (.slice A20 y5.1.fBoxes.length c21)] rfl rfl (.inl rfl) (.agg #[(.slice A18 y5.1.fNames.length c19), (.slice A20 y5.1.fBoxes.length c21)]) rfl ?_
  obtain ⟨y28, hy29, h⟩ := bind_some h
  refine wo_gives rfl rfl rfl rfl rfl ent10 rfl (i_Register_c hO ((tGIpc_is (x := y5.1)).2 ⟨_, _, rfl, h12, h14⟩) (int_is.2 rfl) (int_is.2 rfl) hy29) (fun v24 w25 h26 f27 => ?_)
  have h12 := h12.tr f27.tr0
  have h14 := h14.tr f27.tr0
  have hb15 := hb15.fr0 f27
  have hO := f27.ob hO
  have hF := hF.trans f27
  obtain ⟨u30, u32, rfl, h31, h33⟩ := h26
  obtain ⟨v34, v36, rfl, h35, h37⟩ := tGIpc_is.1 h31
  obtain rfl := int_is.1 h33
  refine wo_seg Θ_ok [2, 3, 4] [(1, (bp b15)), (2, (.int .i64 y5.2)), (28, (.agg #[v34, v36])), (29, (.int .i64 y28.2))] rfl ⟨rfl, rfl, rfl, rfl, trivial⟩ ?_
  refine wo_alloc Θ_ok rfl rfl rfl rfl rfl rfl [(.slice none 0 0), (.slice none 0 0)] rfl hO (fun b38 w39 n40 => ?_)
  have h35 := h35.tr n40.tr
  have h37 := h37.tr n40.tr
  have h12 := h12.tr n40.tr
  have h14 := h14.tr n40.tr
  have nb38b15 : b38 ≠ b15 := by have := hb15.lt; have := n40.ge; omega
  have hb15 := hb15.fr0 n40.fr
  have ib15 := List.mem_cons_of_mem b38 ib15
  have hb38 := n40.blk
  have gb38 := n40.ge0 hF
  have ib38 : b38 ∈ b38 :: (b15 :: O) := List.mem_cons_self
  have hO := n40.ob
  have hF := hF.trans n40.fr
  have hS := Sub.cons hS b38
  obtain ⟨A41, c42, rfl, hlc42, hmc42⟩ := slice_form h35
  obtain ⟨A43, c44, rfl, hlc44, hmc44⟩ := slice_form h37
  refine wo_store Θ_ok rfl rfl rfl rfl rfl rfl rfl hb38 [(.slice A41 y28.1.fNames.length c42), (.slice A43 y28.1.fBoxes.length c44)] rfl rfl (by simp [Value.oneCell']) rfl [(.slice A41 y28.1.fNames.length c42), (.slice A43 y28.1.fBoxes.length c44)] rfl (fun w45 hb38 f46 => ?_)
  have h12 := h12.tr (f46.tr (one_in ib38))
  have h14 := h14.tr (f46.tr (one_in ib38))
  have hb15 := hb15.fr f46 (nin nb38b15.symm)
  have hO := f46.ob hO
  have hF := hF.own f46 gb38
  refine wo_seg Θ_ok [7] [(1, (bp b15)), (2, (.int .i64 y5.2)), (4, (.int .i64 y28.2))] rfl ⟨rfl, rfl, rfl, trivial⟩ ?_
  refine wo_nil ?_
  refine wq_seq ?_
  refine wc_seq ?_
  refine wc_region (l := [0, 1, 2, 3, 4, 5, 6]) rfl ?_
  refine wo_load Θ_ok rfl rfl rfl rfl rfl rfl rfl hb15 [(.slice A18 y5.1.fNames.length c19), (.slice A20 y5.1.fBoxes.length c21)] rfl rfl (.inl rfl) (.agg #[(.slice A18 y5.1.fNames.length c19), (.slice A20 y5.1.fBoxes.length c21)]) rfl ?_
  obtain ⟨y51, hy52, h⟩ := bind_some h
  refine wo_gives rfl rfl rfl rfl rfl ent10 rfl (i_Register_c hO ((tGIpc_is (x := y5.1)).2 ⟨_, _, rfl, h12, h14⟩) (int_is.2 rfl) (int_is.2 rfl) hy52) (fun v47 w48 h49 f50 => ?_)
  have h12 := h12.tr f50.tr0
  have h14 := h14.tr f50.tr0
  have hb15 := hb15.fr0 f50
  have hO := f50.ob hO
  have hF := hF.trans f50
  obtain ⟨u53, u55, rfl, h54, h56⟩ := h49
  obtain ⟨v57, v59, rfl, h58, h60⟩ := tGIpc_is.1 h54
  obtain rfl := int_is.1 h56
  refine wo_seg Θ_ok [2, 3, 4] [(1, (bp b15)), (2, (.int .i64 y5.2)), (4, (.int .i64 y28.2)), (33, (.agg #[v57, v59])), (34, (.int .i64 y51.2))] rfl ⟨rfl, rfl, rfl, rfl, rfl, trivial⟩ ?_
  obtain ⟨A61, c62, rfl, hlc62, hmc62⟩ := slice_form h58
  obtain ⟨A63, c64, rfl, hlc64, hmc64⟩ := slice_form h60
  refine wo_store Θ_ok rfl rfl rfl rfl rfl rfl rfl hb15 [(.slice A61 y51.1.fNames.length c62), (.slice A63 y51.1.fBoxes.length c64)] rfl rfl (by simp [Value.oneCell']) rfl [(.slice A61 y51.1.fNames.length c62), (.slice A63 y51.1.fBoxes.length c64)] rfl (fun w65 hb15 f66 => ?_)
  have h58 := h58.tr (f66.tr (one_in ib15))
  have h60 := h60.tr (f66.tr (one_in ib15))
  have hO := f66.ob hO
  have hF := hF.own f66 gb15
  refine wo_seg Θ_ok [6] [(1, (bp b15)), (2, (.int .i64 y5.2)), (4, (.int .i64 y28.2)), (5, (.int .i64 y51.2))] rfl ⟨rfl, rfl, rfl, rfl, trivial⟩ ?_
  refine wo_nil ?_
  refine wq_seq ?_
  refine wc_seq ?_
  refine wc_region (l := [0, 1, 2, 3, 4, 5, 6]) rfl ?_
  refine wo_load Θ_ok rfl rfl rfl rfl rfl rfl rfl hb15 [(.slice A61 y51.1.fNames.length c62), (.slice A63 y51.1.fBoxes.length c64)] rfl rfl (.inl rfl) (.agg #[(.slice A61 y51.1.fNames.length c62), (.slice A63 y51.1.fBoxes.length c64)]) rfl ?_
  obtain ⟨y71, hy72, h⟩ := bind_some h
  refine wo_gives rfl rfl rfl rfl rfl ent22 rfl (i_Lookup_c hO ((tGIpc_is (x := y51.1)).2 ⟨_, _, rfl, h58, h60⟩) (int_is.2 rfl) hy72) (fun v67 w68 h69 f70 => ?_)
  have h58 := h58.tr f70.tr0
  have h60 := h60.tr f70.tr0
  have hb15 := hb15.fr0 f70
  have hO := f70.ob hO
  have hF := hF.trans f70
  obtain ⟨u73, u75, rfl, h74, h76⟩ := h69
  obtain rfl := int_is.1 h74
  obtain rfl := int_is.1 h76
  refine wo_seg Θ_ok [2, 3, 4, 5, 6] [(1, (bp b15)), (2, (.int .i64 y5.2)), (4, (.int .i64 y28.2)), (5, (.int .i64 y51.2)), (6, (.int .u64 y71.1)), (7, (.int .i64 y71.2))] rfl ⟨rfl, rfl, rfl, rfl, rfl, rfl, trivial⟩ ?_
  refine wo_nil ?_
  refine wq_seq ?_
  refine wc_seq ?_
  refine wc_region (l := [0, 1, 2, 3, 4, 5, 6, 7]) rfl ?_
  refine wo_load Θ_ok rfl rfl rfl rfl rfl rfl rfl hb15 [(.slice A61 y51.1.fNames.length c62), (.slice A63 y51.1.fBoxes.length c64)] rfl rfl (.inl rfl) (.agg #[(.slice A61 y51.1.fNames.length c62), (.slice A63 y51.1.fBoxes.length c64)]) rfl ?_
  obtain ⟨y81, hy82, h⟩ := bind_some h
  refine wo_gives rfl rfl rfl rfl rfl ent11 rfl (i_Unregister_c hO ((tGIpc_is (x := y51.1)).2 ⟨_, _, rfl, h58, h60⟩) (int_is.2 rfl) hy82) (fun v77 w78 h79 f80 => ?_)
  have h58 := h58.tr f80.tr0
  have h60 := h60.tr f80.tr0
  have hb15 := hb15.fr0 f80
  have hO := f80.ob hO
  have hF := hF.trans f80
  obtain ⟨u83, u85, rfl, h84, h86⟩ := h79
  obtain ⟨v87, v89, rfl, h88, h90⟩ := tGIpc_is.1 h84
  obtain rfl := int_is.1 h86
  refine wo_seg Θ_ok [2, 3, 4] [(1, (bp b15)), (2, (.int .i64 y5.2)), (4, (.int .i64 y28.2)), (5, (.int .i64 y51.2)), (6, (.int .u64 y71.1)), (7, (.int .i64 y71.2)), (43, (.agg #[v87, v89])), (44, (.int .i64 y81.2))] rfl ⟨rfl, rfl, rfl, rfl, rfl, rfl, rfl, rfl, trivial⟩ ?_
  refine wo_alloc Θ_ok rfl rfl rfl rfl rfl rfl [(.slice none 0 0), (.slice none 0 0)] rfl hO (fun b91 w92 n93 => ?_)
  have h88 := h88.tr n93.tr
  have h90 := h90.tr n93.tr
  have h58 := h58.tr n93.tr
  have h60 := h60.tr n93.tr
  have nb91b15 : b91 ≠ b15 := by have := hb15.lt; have := n93.ge; omega
  have hb15 := hb15.fr0 n93.fr
  have ib15 := List.mem_cons_of_mem b91 ib15
  have hb91 := n93.blk
  have gb91 := n93.ge0 hF
  have ib91 : b91 ∈ b91 :: (b38 :: b15 :: O) := List.mem_cons_self
  have hO := n93.ob
  have hF := hF.trans n93.fr
  have hS := Sub.cons hS b91
  obtain ⟨A94, c95, rfl, hlc95, hmc95⟩ := slice_form h88
  obtain ⟨A96, c97, rfl, hlc97, hmc97⟩ := slice_form h90
  refine wo_store Θ_ok rfl rfl rfl rfl rfl rfl rfl hb91 [(.slice A94 y81.1.fNames.length c95), (.slice A96 y81.1.fBoxes.length c97)] rfl rfl (by simp [Value.oneCell']) rfl [(.slice A94 y81.1.fNames.length c95), (.slice A96 y81.1.fBoxes.length c97)] rfl (fun w98 hb91 f99 => ?_)
  have h58 := h58.tr (f99.tr (one_in ib91))
  have h60 := h60.tr (f99.tr (one_in ib91))
  have h88 := h88.tr (f99.tr (one_in ib91))
  have h90 := h90.tr (f99.tr (one_in ib91))
  have hb15 := hb15.fr f99 (nin nb91b15.symm)
  have hO := f99.ob hO
  have hF := hF.own f99 gb91
  refine wo_seg Θ_ok [7] [(1, (bp b15)), (2, (.int .i64 y5.2)), (4, (.int .i64 y28.2)), (5, (.int .i64 y51.2)), (6, (.int .u64 y71.1)), (7, (.int .i64 y71.2)), (8, (bp b91)), (9, (.int .i64 y81.2))] rfl ⟨rfl, rfl, rfl, rfl, rfl, rfl, rfl, rfl, trivial⟩ ?_
  refine wo_nil ?_
  refine wq_seq ?_
  refine wc_seq ?_
  refine wc_region (l := [0, 1, 2, 3, 4, 5, 6]) rfl ?_
  refine wo_load Θ_ok rfl rfl rfl rfl rfl rfl rfl hb91 [(.slice A94 y81.1.fNames.length c95), (.slice A96 y81.1.fBoxes.length c97)] rfl rfl (.inl rfl) (.agg #[(.slice A94 y81.1.fNames.length c95), (.slice A96 y81.1.fBoxes.length c97)]) rfl ?_
  obtain ⟨y104, hy105, h⟩ := bind_some h
  refine wo_gives rfl rfl rfl rfl rfl ent22 rfl (i_Lookup_c hO ((tGIpc_is (x := y81.1)).2 ⟨_, _, rfl, h88, h90⟩) (int_is.2 rfl) hy105) (fun v100 w101 h102 f103 => ?_)
  have h58 := h58.tr f103.tr0
  have h60 := h60.tr f103.tr0
  have h88 := h88.tr f103.tr0
  have h90 := h90.tr f103.tr0
  have hb15 := hb15.fr0 f103
  have hb91 := hb91.fr0 f103
  have hO := f103.ob hO
  have hF := hF.trans f103
  obtain ⟨u106, u108, rfl, h107, h109⟩ := h102
  obtain rfl := int_is.1 h107
  obtain rfl := int_is.1 h109
  refine wo_seg Θ_ok [2, 3, 4, 5, 6] [(1, (bp b15)), (2, (.int .i64 y5.2)), (4, (.int .i64 y28.2)), (5, (.int .i64 y51.2)), (6, (.int .u64 y71.1)), (7, (.int .i64 y71.2)), (8, (bp b91)), (9, (.int .i64 y81.2)), (11, (.int .i64 y104.2))] rfl ⟨rfl, rfl, rfl, rfl, rfl, rfl, rfl, rfl, rfl, trivial⟩ ?_
  refine wo_nil ?_
  refine wq_seq ?_
  refine wc_seq ?_
  refine wc_region (l := [0, 1, 2, 3, 4, 5, 6, 7]) rfl ?_
  refine wo_load Θ_ok rfl rfl rfl rfl rfl rfl rfl hb91 [(.slice A94 y81.1.fNames.length c95), (.slice A96 y81.1.fBoxes.length c97)] rfl rfl (.inl rfl) (.agg #[(.slice A94 y81.1.fNames.length c95), (.slice A96 y81.1.fBoxes.length c97)]) rfl ?_
  refine wo_litd Θ_ok rfl rfl rfl rfl rfl rfl rfl rfl rfl rfl (T := (Ty.int .u64)) (xs := [(7 : Int), (8 : Int), (9 : Int)]) (vs := [(.int .u64 7), (.int .u64 8), (.int .u64 9)]) rfl ⟨(int_is.2 rfl), (int_is.2 rfl), (int_is.2 rfl), trivial⟩ rfl rfl rfl hO (fun v110 w111 h112 f113 => ?_)
  have h88 := h88.tr f113.tr0
  have h90 := h90.tr f113.tr0
  have h58 := h58.tr f113.tr0
  have h60 := h60.tr f113.tr0
  have hb15 := hb15.fr0 f113
  have hb91 := hb91.fr0 f113
  have hO := f113.ob hO
  have hF := hF.trans f113
  obtain ⟨y118, hy119, h⟩ := bind_some h
  refine wo_gives rfl rfl rfl rfl rfl ent20 rfl (i_Send_c hO ((tGIpc_is (x := y81.1)).2 ⟨_, _, rfl, h88, h90⟩) (int_is.2 rfl) h112 hy119) (fun v114 w115 h116 f117 => ?_)
  have h58 := h58.tr f117.tr0
  have h60 := h60.tr f117.tr0
  have h88 := h88.tr f117.tr0
  have h90 := h90.tr f117.tr0
  have hb15 := hb15.fr0 f117
  have hb91 := hb91.fr0 f117
  have hO := f117.ob hO
  have hF := hF.trans f117
  obtain ⟨u120, u122, rfl, h121, h123⟩ := h116
  obtain ⟨v124, v126, rfl, h125, h127⟩ := tGIpc_is.1 h121
  obtain rfl := int_is.1 h123
  refine wo_seg Θ_ok [3, 4, 5] [(1, (bp b15)), (2, (.int .i64 y5.2)), (4, (.int .i64 y28.2)), (5, (.int .i64 y51.2)), (6, (.int .u64 y71.1)), (7, (.int .i64 y71.2)), (8, (bp b91)), (9, (.int .i64 y81.2)), (11, (.int .i64 y104.2)), (54, (.agg #[v124, v126])), (55, (.int .i64 y118.2))] rfl ⟨rfl, rfl, rfl, rfl, rfl, rfl, rfl, rfl, rfl, rfl, rfl, trivial⟩ ?_
  obtain ⟨A128, c129, rfl, hlc129, hmc129⟩ := slice_form h125
  obtain ⟨A130, c131, rfl, hlc131, hmc131⟩ := slice_form h127
  refine wo_store Θ_ok rfl rfl rfl rfl rfl rfl rfl hb91 [(.slice A128 y118.1.fNames.length c129), (.slice A130 y118.1.fBoxes.length c131)] rfl rfl (by simp [Value.oneCell']) rfl [(.slice A128 y118.1.fNames.length c129), (.slice A130 y118.1.fBoxes.length c131)] rfl (fun w132 hb91 f133 => ?_)
  have h58 := h58.tr (f133.tr (one_in ib91))
  have h60 := h60.tr (f133.tr (one_in ib91))
  have h125 := h125.tr (f133.tr (one_in ib91))
  have h127 := h127.tr (f133.tr (one_in ib91))
  have hb15 := hb15.fr f133 (nin nb91b15.symm)
  have hO := f133.ob hO
  have hF := hF.own f133 gb91
  refine wo_seg Θ_ok [7] [(1, (bp b15)), (2, (.int .i64 y5.2)), (4, (.int .i64 y28.2)), (5, (.int .i64 y51.2)), (6, (.int .u64 y71.1)), (7, (.int .i64 y71.2)), (8, (bp b91)), (9, (.int .i64 y81.2)), (11, (.int .i64 y104.2)), (12, (.int .i64 y118.2))] rfl ⟨rfl, rfl, rfl, rfl, rfl, rfl, rfl, rfl, rfl, rfl, trivial⟩ ?_
  refine wo_nil ?_
  refine wq_seq ?_
  refine wc_seq ?_
  refine wc_region (l := [0, 1, 2, 3, 4, 5, 6, 7, 8]) rfl ?_
  refine wo_load Θ_ok rfl rfl rfl rfl rfl rfl rfl hb91 [(.slice A128 y118.1.fNames.length c129), (.slice A130 y118.1.fBoxes.length c131)] rfl rfl (.inl rfl) (.agg #[(.slice A128 y118.1.fNames.length c129), (.slice A130 y118.1.fBoxes.length c131)]) rfl ?_
  refine wo_litd Θ_ok rfl rfl rfl rfl rfl rfl rfl rfl rfl rfl (T := (Ty.int .u64)) (xs := [(1 : Int), (2 : Int)]) (vs := [(.int .u64 1), (.int .u64 2)]) rfl ⟨(int_is.2 rfl), (int_is.2 rfl), trivial⟩ rfl rfl rfl hO (fun v134 w135 h136 f137 => ?_)
  have h125 := h125.tr f137.tr0
  have h127 := h127.tr f137.tr0
  have h58 := h58.tr f137.tr0
  have h60 := h60.tr f137.tr0
  have hb15 := hb15.fr0 f137
  have hb91 := hb91.fr0 f137
  have hO := f137.ob hO
  have hF := hF.trans f137
  obtain ⟨y142, hy143, h⟩ := bind_some h
  refine wo_gives rfl rfl rfl rfl rfl ent20 rfl (i_Send_c hO ((tGIpc_is (x := y118.1)).2 ⟨_, _, rfl, h125, h127⟩) (int_is.2 rfl) h136 hy143) (fun v138 w139 h140 f141 => ?_)
  have h58 := h58.tr f141.tr0
  have h60 := h60.tr f141.tr0
  have h125 := h125.tr f141.tr0
  have h127 := h127.tr f141.tr0
  have hb15 := hb15.fr0 f141
  have hb91 := hb91.fr0 f141
  have hO := f141.ob hO
  have hF := hF.trans f141
  obtain ⟨u144, u146, rfl, h145, h147⟩ := h140
  obtain ⟨v148, v150, rfl, h149, h151⟩ := tGIpc_is.1 h145
  obtain rfl := int_is.1 h147
  refine wo_seg Θ_ok [3, 4, 5] [(1, (bp b15)), (2, (.int .i64 y5.2)), (4, (.int .i64 y28.2)), (5, (.int .i64 y51.2)), (6, (.int .u64 y71.1)), (7, (.int .i64 y71.2)), (8, (bp b91)), (9, (.int .i64 y81.2)), (11, (.int .i64 y104.2)), (12, (.int .i64 y118.2)), (60, (.agg #[v148, v150])), (61, (.int .i64 y142.2))] rfl ⟨rfl, rfl, rfl, rfl, rfl, rfl, rfl, rfl, rfl, rfl, rfl, rfl, trivial⟩ ?_
  refine wo_alloc Θ_ok rfl rfl rfl rfl rfl rfl [(.slice none 0 0), (.slice none 0 0)] rfl hO (fun b152 w153 n154 => ?_)
  have h149 := h149.tr n154.tr
  have h151 := h151.tr n154.tr
  have h58 := h58.tr n154.tr
  have h60 := h60.tr n154.tr
  have h125 := h125.tr n154.tr
  have h127 := h127.tr n154.tr
  have nb152b15 : b152 ≠ b15 := by have := hb15.lt; have := n154.ge; omega
  have hb15 := hb15.fr0 n154.fr
  have ib15 := List.mem_cons_of_mem b152 ib15
  have nb152b91 : b152 ≠ b91 := by have := hb91.lt; have := n154.ge; omega
  have hb91 := hb91.fr0 n154.fr
  have ib91 := List.mem_cons_of_mem b152 ib91
  have hb152 := n154.blk
  have gb152 := n154.ge0 hF
  have ib152 : b152 ∈ b152 :: (b91 :: b38 :: b15 :: O) := List.mem_cons_self
  have hO := n154.ob
  have hF := hF.trans n154.fr
  have hS := Sub.cons hS b152
  obtain ⟨A155, c156, rfl, hlc156, hmc156⟩ := slice_form h149
  obtain ⟨A157, c158, rfl, hlc158, hmc158⟩ := slice_form h151
  refine wo_store Θ_ok rfl rfl rfl rfl rfl rfl rfl hb152 [(.slice A155 y142.1.fNames.length c156), (.slice A157 y142.1.fBoxes.length c158)] rfl rfl (by simp [Value.oneCell']) rfl [(.slice A155 y142.1.fNames.length c156), (.slice A157 y142.1.fBoxes.length c158)] rfl (fun w159 hb152 f160 => ?_)
  have h58 := h58.tr (f160.tr (one_in ib152))
  have h60 := h60.tr (f160.tr (one_in ib152))
  have h125 := h125.tr (f160.tr (one_in ib152))
  have h127 := h127.tr (f160.tr (one_in ib152))
  have hb15 := hb15.fr f160 (nin nb152b15.symm)
  have hb91 := hb91.fr f160 (nin nb152b91.symm)
  have hO := f160.ob hO
  have hF := hF.own f160 gb152
  refine wo_seg Θ_ok [8] [(1, (bp b15)), (2, (.int .i64 y5.2)), (4, (.int .i64 y28.2)), (5, (.int .i64 y51.2)), (6, (.int .u64 y71.1)), (7, (.int .i64 y71.2)), (8, (bp b91)), (9, (.int .i64 y81.2)), (11, (.int .i64 y104.2)), (12, (.int .i64 y118.2)), (14, (.int .i64 y142.2))] rfl ⟨rfl, rfl, rfl, rfl, rfl, rfl, rfl, rfl, rfl, rfl, rfl, trivial⟩ ?_
  refine wo_nil ?_
  refine wq_seq ?_
  refine wc_seq ?_
  refine wc_region (l := [0, 1, 2, 3, 4, 5, 6, 7, 8]) rfl ?_
  refine wo_load Θ_ok rfl rfl rfl rfl rfl rfl rfl hb91 [(.slice A128 y118.1.fNames.length c129), (.slice A130 y118.1.fBoxes.length c131)] rfl rfl (.inl rfl) (.agg #[(.slice A128 y118.1.fNames.length c129), (.slice A130 y118.1.fBoxes.length c131)]) rfl ?_
  obtain ⟨y165, hy166, h⟩ := bind_some h
  refine wo_gives rfl rfl rfl rfl rfl ent19 rfl (i_Receive_c hO ((tGIpc_is (x := y118.1)).2 ⟨_, _, rfl, h125, h127⟩) (int_is.2 rfl) hy166) (fun v161 w162 h163 f164 => ?_)
  have h58 := h58.tr f164.tr0
  have h60 := h60.tr f164.tr0
  have h125 := h125.tr f164.tr0
  have h127 := h127.tr f164.tr0
  have hb15 := hb15.fr0 f164
  have hb91 := hb91.fr0 f164
  have hO := f164.ob hO
  have hF := hF.trans f164
  obtain ⟨u167, u169, u171, rfl, h168, h170, h172⟩ := h163
  obtain ⟨v173, v175, rfl, h174, h176⟩ := tGIpc_is.1 h168
  obtain rfl := int_is.1 h170
  obtain rfl := int_is.1 h172
  refine wo_seg Θ_ok [2, 3, 4, 5] [(1, (bp b15)), (2, (.int .i64 y5.2)), (4, (.int .i64 y28.2)), (5, (.int .i64 y51.2)), (6, (.int .u64 y71.1)), (7, (.int .i64 y71.2)), (8, (bp b91)), (9, (.int .i64 y81.2)), (11, (.int .i64 y104.2)), (12, (.int .i64 y118.2)), (14, (.int .i64 y142.2)), (65, (.agg #[v173, v175])), (66, (.int .u64 y165.2.1)), (67, (.int .i64 y165.2.2))] rfl ⟨rfl, rfl, rfl, rfl, rfl, rfl, rfl, rfl, rfl, rfl, rfl, rfl, rfl, rfl, trivial⟩ ?_
  obtain ⟨A177, c178, rfl, hlc178, hmc178⟩ := slice_form h174
  obtain ⟨A179, c180, rfl, hlc180, hmc180⟩ := slice_form h176
  refine wo_store Θ_ok rfl rfl rfl rfl rfl rfl rfl hb91 [(.slice A177 y165.1.fNames.length c178), (.slice A179 y165.1.fBoxes.length c180)] rfl rfl (by simp [Value.oneCell']) rfl [(.slice A177 y165.1.fNames.length c178), (.slice A179 y165.1.fBoxes.length c180)] rfl (fun w181 hb91 f182 => ?_)
  have h58 := h58.tr (f182.tr (one_in ib91))
  have h60 := h60.tr (f182.tr (one_in ib91))
  have h174 := h174.tr (f182.tr (one_in ib91))
  have h176 := h176.tr (f182.tr (one_in ib91))
  have hb15 := hb15.fr f182 (nin nb91b15.symm)
  have hO := f182.ob hO
  have hF := hF.own f182 gb91
  refine wo_seg Θ_ok [7, 8] [(1, (bp b15)), (2, (.int .i64 y5.2)), (4, (.int .i64 y28.2)), (5, (.int .i64 y51.2)), (6, (.int .u64 y71.1)), (7, (.int .i64 y71.2)), (8, (bp b91)), (9, (.int .i64 y81.2)), (11, (.int .i64 y104.2)), (12, (.int .i64 y118.2)), (14, (.int .i64 y142.2)), (15, (.int .u64 y165.2.1)), (16, (.int .i64 y165.2.2))] rfl ⟨rfl, rfl, rfl, rfl, rfl, rfl, rfl, rfl, rfl, rfl, rfl, rfl, rfl, trivial⟩ ?_
  refine wo_nil ?_
  refine wq_seq ?_
  refine wc_seq ?_
  refine wc_region (l := [0, 1, 2, 3, 4, 5, 6, 7, 8, 9]) rfl ?_
  refine wo_load Θ_ok rfl rfl rfl rfl rfl rfl rfl hb91 [(.slice A177 y165.1.fNames.length c178), (.slice A179 y165.1.fBoxes.length c180)] rfl rfl (.inl rfl) (.agg #[(.slice A177 y165.1.fNames.length c178), (.slice A179 y165.1.fBoxes.length c180)]) rfl ?_
  obtain ⟨y187, hy188, h⟩ := bind_some h
  refine wo_gives rfl rfl rfl rfl rfl ent17 rfl (i_Clear_c hO ((tGIpc_is (x := y165.1)).2 ⟨_, _, rfl, h174, h176⟩) (int_is.2 rfl) hy188) (fun v183 w184 h185 f186 => ?_)
  have h58 := h58.tr f186.tr0
  have h60 := h60.tr f186.tr0
  have hb15 := hb15.fr0 f186
  have hO := f186.ob hO
  have hF := hF.trans f186
  obtain ⟨u189, u191, u193, rfl, h190, h192, h194⟩ := h185
  obtain ⟨v195, v197, rfl, h196, h198⟩ := tGIpc_is.1 h190
  obtain rfl := int_is.1 h192
  obtain rfl := int_is.1 h194
  refine wo_seg Θ_ok [2, 3, 4, 5] [(1, (bp b15)), (2, (.int .i64 y5.2)), (4, (.int .i64 y28.2)), (5, (.int .i64 y51.2)), (6, (.int .u64 y71.1)), (7, (.int .i64 y71.2)), (9, (.int .i64 y81.2)), (11, (.int .i64 y104.2)), (12, (.int .i64 y118.2)), (14, (.int .i64 y142.2)), (15, (.int .u64 y165.2.1)), (16, (.int .i64 y165.2.2)), (71, (.agg #[v195, v197])), (72, (.int .i64 y187.2.1)), (73, (.int .i64 y187.2.2))] rfl ⟨rfl, rfl, rfl, rfl, rfl, rfl, rfl, rfl, rfl, rfl, rfl, rfl, rfl, rfl, rfl, trivial⟩ ?_
  refine wo_alloc Θ_ok rfl rfl rfl rfl rfl rfl [(.slice none 0 0), (.slice none 0 0)] rfl hO (fun b199 w200 n201 => ?_)
  have h196 := h196.tr n201.tr
  have h198 := h198.tr n201.tr
  have h58 := h58.tr n201.tr
  have h60 := h60.tr n201.tr
  have nb199b15 : b199 ≠ b15 := by have := hb15.lt; have := n201.ge; omega
  have hb15 := hb15.fr0 n201.fr
  have ib15 := List.mem_cons_of_mem b199 ib15
  have hb199 := n201.blk
  have gb199 := n201.ge0 hF
  have ib199 : b199 ∈ b199 :: (b152 :: b91 :: b38 :: b15 :: O) := List.mem_cons_self
  have hO := n201.ob
  have hF := hF.trans n201.fr
  have hS := Sub.cons hS b199
  obtain ⟨A202, c203, rfl, hlc203, hmc203⟩ := slice_form h196
  obtain ⟨A204, c205, rfl, hlc205, hmc205⟩ := slice_form h198
  refine wo_store Θ_ok rfl rfl rfl rfl rfl rfl rfl hb199 [(.slice A202 y187.1.fNames.length c203), (.slice A204 y187.1.fBoxes.length c205)] rfl rfl (by simp [Value.oneCell']) rfl [(.slice A202 y187.1.fNames.length c203), (.slice A204 y187.1.fBoxes.length c205)] rfl (fun w206 hb199 f207 => ?_)
  have h58 := h58.tr (f207.tr (one_in ib199))
  have h60 := h60.tr (f207.tr (one_in ib199))
  have hb15 := hb15.fr f207 (nin nb199b15.symm)
  have hO := f207.ob hO
  have hF := hF.own f207 gb199
  refine wo_seg Θ_ok [8, 9] [(1, (bp b15)), (2, (.int .i64 y5.2)), (4, (.int .i64 y28.2)), (5, (.int .i64 y51.2)), (6, (.int .u64 y71.1)), (7, (.int .i64 y71.2)), (9, (.int .i64 y81.2)), (11, (.int .i64 y104.2)), (12, (.int .i64 y118.2)), (14, (.int .i64 y142.2)), (15, (.int .u64 y165.2.1)), (16, (.int .i64 y165.2.2)), (18, (.int .i64 y187.2.1)), (19, (.int .i64 y187.2.2))] rfl ⟨rfl, rfl, rfl, rfl, rfl, rfl, rfl, rfl, rfl, rfl, rfl, rfl, rfl, rfl, trivial⟩ ?_
  refine wo_nil ?_
  refine wq_seq ?_
  refine wc_seq ?_
  refine wc_region (l := [0, 1, 2, 3, 4, 5, 6, 7, 8, 9, 10, 11, 12, 13, 14, 15, 16, 17, 18, 19, 20, 21, 22, 23, 24, 25, 26, 27, 28, 29, 30, 31, 32, 33, 34, 35, 36, 37, 38, 39, 40, 41, 42, 43, 44, 45, 46, 47, 48, 49, 50, 51, 52, 53, 54, 55, 56, 57, 58, 59, 60]) rfl ?_
  refine wo_seg Θ_ok [0, 1, 2] [(1, (bp b15)), (4, (.int .i64 y28.2)), (5, (.int .i64 y51.2)), (6, (.int .u64 y71.1)), (7, (.int .i64 y71.2)), (9, (.int .i64 y81.2)), (11, (.int .i64 y104.2)), (12, (.int .i64 y118.2)), (14, (.int .i64 y142.2)), (15, (.int .u64 y165.2.1)), (16, (.int .i64 y165.2.2)), (18, (.int .i64 y187.2.1)), (19, (.int .i64 y187.2.2)), (76, (.bool (y5.2 == (0 : Int))))] rfl ⟨rfl, rfl, rfl, rfl, rfl, rfl, rfl, rfl, rfl, rfl, rfl, rfl, rfl, rfl, trivial⟩ ?_
  rcases bif_some h with ⟨hc208, h⟩ | ⟨hc208, h⟩
  rotate_left
  · refine wo_know 76 false rfl hc208 ?_
    refine wo_seg Θ_ok [3, 4, 5, 6, 7, 8, 9, 10, 11, 12, 13, 14, 15, 16, 17, 18, 19, 20, 21, 22, 23, 24, 25, 26, 27, 28, 29, 30, 31, 32, 33, 34, 35, 36, 37, 38, 39, 40, 41, 42, 43, 44, 45, 46, 47, 48, 49, 50, 51, 52, 53, 54, 55, 56, 57, 58, 59, 60] [(0, (.bool false))] rfl ⟨rfl, trivial⟩ ?_
    refine wo_nil ?_
    refine wq_seq ?_
    refine wc_ret ?_
    cases h
    exact wq_ret rfl ⟨_, rfl, (bool_is.2 rfl), hF⟩
  refine wo_know 76 true rfl hc208 ?_
  refine wo_seg Θ_ok [3, 4, 5, 6] [(1, (bp b15)), (4, (.int .i64 y28.2)), (6, (.int .u64 y71.1)), (7, (.int .i64 y71.2)), (9, (.int .i64 y81.2)), (11, (.int .i64 y104.2)), (12, (.int .i64 y118.2)), (14, (.int .i64 y142.2)), (15, (.int .u64 y165.2.1)), (16, (.int .i64 y165.2.2)), (18, (.int .i64 y187.2.1)), (19, (.int .i64 y187.2.2)), (80, (.bool (y51.2 == (0 : Int))))] rfl ⟨rfl, rfl, rfl, rfl, rfl, rfl, rfl, rfl, rfl, rfl, rfl, rfl, rfl, trivial⟩ ?_
  rcases bif_some h with ⟨hc209, h⟩ | ⟨hc209, h⟩
  rotate_left
  · refine wo_know 80 false rfl hc209 ?_
    refine wo_seg Θ_ok [7, 8, 9, 10, 11, 12, 13, 14, 15, 16, 17, 18, 19, 20, 21, 22, 23, 24, 25, 26, 27, 28, 29, 30, 31, 32, 33, 34, 35, 36, 37, 38, 39, 40, 41, 42, 43, 44, 45, 46, 47, 48, 49, 50, 51, 52, 53, 54, 55, 56, 57, 58, 59, 60] [(0, (.bool false))] rfl ⟨rfl, trivial⟩ ?_
    refine wo_nil ?_
    refine wq_seq ?_
    refine wc_ret ?_
    cases h
    exact wq_ret rfl ⟨_, rfl, (bool_is.2 rfl), hF⟩
  refine wo_know 80 true rfl hc209 ?_
  refine wo_seg Θ_ok [7, 8, 9, 10] [(1, (bp b15)), (4, (.int .i64 y28.2)), (6, (.int .u64 y71.1)), (9, (.int .i64 y81.2)), (11, (.int .i64 y104.2)), (12, (.int .i64 y118.2)), (14, (.int .i64 y142.2)), (15, (.int .u64 y165.2.1)), (16, (.int .i64 y165.2.2)), (18, (.int .i64 y187.2.1)), (19, (.int .i64 y187.2.2)), (84, (.bool (y71.2 == (0 : Int))))] rfl ⟨rfl, rfl, rfl, rfl, rfl, rfl, rfl, rfl, rfl, rfl, rfl, rfl, trivial⟩ ?_
  rcases bif_some h with ⟨hc210, h⟩ | ⟨hc210, h⟩
  rotate_left
  · refine wo_know 84 false rfl hc210 ?_
    refine wo_seg Θ_ok [11, 12, 13, 14, 15, 16, 17, 18, 19, 20, 21, 22, 23, 24, 25, 26, 27, 28, 29, 30, 31, 32, 33, 34, 35, 36, 37, 38, 39, 40, 41, 42, 43, 44, 45, 46, 47, 48, 49, 50, 51, 52, 53, 54, 55, 56, 57, 58, 59, 60] [(0, (.bool false))] rfl ⟨rfl, trivial⟩ ?_
    refine wo_nil ?_
    refine wq_seq ?_
    refine wc_ret ?_
    cases h
    exact wq_ret rfl ⟨_, rfl, (bool_is.2 rfl), hF⟩
  refine wo_know 84 true rfl hc210 ?_
  refine wo_seg Θ_ok [11, 12, 13, 14] [(1, (bp b15)), (4, (.int .i64 y28.2)), (6, (.int .u64 y71.1)), (11, (.int .i64 y104.2)), (12, (.int .i64 y118.2)), (14, (.int .i64 y142.2)), (15, (.int .u64 y165.2.1)), (16, (.int .i64 y165.2.2)), (18, (.int .i64 y187.2.1)), (19, (.int .i64 y187.2.2)), (88, (.bool (y81.2 == (0 : Int))))] rfl ⟨rfl, rfl, rfl, rfl, rfl, rfl, rfl, rfl, rfl, rfl, rfl, trivial⟩ ?_
  rcases bif_some h with ⟨hc211, h⟩ | ⟨hc211, h⟩
  rotate_left
  · refine wo_know 88 false rfl hc211 ?_
    refine wo_seg Θ_ok [15, 16, 17, 18, 19, 20, 21, 22, 23, 24, 25, 26, 27, 28, 29, 30, 31, 32, 33, 34, 35, 36, 37, 38, 39, 40, 41, 42, 43, 44, 45, 46, 47, 48, 49, 50, 51, 52, 53, 54, 55, 56, 57, 58, 59, 60] [(0, (.bool false))] rfl ⟨rfl, trivial⟩ ?_
    refine wo_nil ?_
    refine wq_seq ?_
    refine wc_ret ?_
    cases h
    exact wq_ret rfl ⟨_, rfl, (bool_is.2 rfl), hF⟩
  refine wo_know 88 true rfl hc211 ?_
  refine wo_seg Θ_ok [15, 16, 17, 18] [(1, (bp b15)), (4, (.int .i64 y28.2)), (6, (.int .u64 y71.1)), (11, (.int .i64 y104.2)), (14, (.int .i64 y142.2)), (15, (.int .u64 y165.2.1)), (16, (.int .i64 y165.2.2)), (18, (.int .i64 y187.2.1)), (19, (.int .i64 y187.2.2)), (92, (.bool (y118.2 == (0 : Int))))] rfl ⟨rfl, rfl, rfl, rfl, rfl, rfl, rfl, rfl, rfl, rfl, trivial⟩ ?_
  rcases bif_some h with ⟨hc212, h⟩ | ⟨hc212, h⟩
  rotate_left
  · refine wo_know 92 false rfl hc212 ?_
    refine wo_seg Θ_ok [19, 20, 21, 22, 23, 24, 25, 26, 27, 28, 29, 30, 31, 32, 33, 34, 35, 36, 37, 38, 39, 40, 41, 42, 43, 44, 45, 46, 47, 48, 49, 50, 51, 52, 53, 54, 55, 56, 57, 58, 59, 60] [(0, (.bool false))] rfl ⟨rfl, trivial⟩ ?_
    refine wo_nil ?_
    refine wq_seq ?_
    refine wc_ret ?_
    cases h
    exact wq_ret rfl ⟨_, rfl, (bool_is.2 rfl), hF⟩
  refine wo_know 92 true rfl hc212 ?_
  refine wo_seg Θ_ok [19, 20, 21, 22] [(1, (bp b15)), (4, (.int .i64 y28.2)), (6, (.int .u64 y71.1)), (11, (.int .i64 y104.2)), (14, (.int .i64 y142.2)), (15, (.int .u64 y165.2.1)), (18, (.int .i64 y187.2.1)), (19, (.int .i64 y187.2.2)), (96, (.bool (y165.2.2 == (0 : Int))))] rfl ⟨rfl, rfl, rfl, rfl, rfl, rfl, rfl, rfl, rfl, trivial⟩ ?_
  rcases bif_some h with ⟨hc213, h⟩ | ⟨hc213, h⟩
  rotate_left
  · refine wo_know 96 false rfl hc213 ?_
    refine wo_seg Θ_ok [23, 24, 25, 26, 27, 28, 29, 30, 31, 32, 33, 34, 35, 36, 37, 38, 39, 40, 41, 42, 43, 44, 45, 46, 47, 48, 49, 50, 51, 52, 53, 54, 55, 56, 57, 58, 59, 60] [(0, (.bool false))] rfl ⟨rfl, trivial⟩ ?_
    refine wo_nil ?_
    refine wq_seq ?_
    refine wc_ret ?_
    cases h
    exact wq_ret rfl ⟨_, rfl, (bool_is.2 rfl), hF⟩
  refine wo_know 96 true rfl hc213 ?_
  refine wo_seg Θ_ok [23, 24, 25, 26] [(1, (bp b15)), (4, (.int .i64 y28.2)), (6, (.int .u64 y71.1)), (11, (.int .i64 y104.2)), (14, (.int .i64 y142.2)), (15, (.int .u64 y165.2.1)), (18, (.int .i64 y187.2.1)), (100, (.bool (y187.2.2 == (0 : Int))))] rfl ⟨rfl, rfl, rfl, rfl, rfl, rfl, rfl, rfl, trivial⟩ ?_
  rcases bif_some h with ⟨hc214, h⟩ | ⟨hc214, h⟩
  rotate_left
  · refine wo_know 100 false rfl hc214 ?_
    refine wo_seg Θ_ok [27, 28, 29, 30, 31, 32, 33, 34, 35, 36, 37, 38, 39, 40, 41, 42, 43, 44, 45, 46, 47, 48, 49, 50, 51, 52, 53, 54, 55, 56, 57, 58, 59, 60] [(0, (.bool false))] rfl ⟨rfl, trivial⟩ ?_
    refine wo_nil ?_
    refine wq_seq ?_
    refine wc_ret ?_
    cases h
    exact wq_ret rfl ⟨_, rfl, (bool_is.2 rfl), hF⟩
  refine wo_know 100 true rfl hc214 ?_
  refine wo_seg Θ_ok [27, 28, 29, 30] [(1, (bp b15)), (6, (.int .u64 y71.1)), (11, (.int .i64 y104.2)), (14, (.int .i64 y142.2)), (15, (.int .u64 y165.2.1)), (18, (.int .i64 y187.2.1)), (104, (.bool (y28.2 == (5 : Int))))] rfl ⟨rfl, rfl, rfl, rfl, rfl, rfl, rfl, trivial⟩ ?_
  rcases bif_some h with ⟨hc215, h⟩ | ⟨hc215, h⟩
  rotate_left
  · refine wo_know 104 false rfl hc215 ?_
    refine wo_seg Θ_ok [31, 32, 33, 34, 35, 36, 37, 38, 39, 40, 41, 42, 43, 44, 45, 46, 47, 48, 49, 50, 51, 52, 53, 54, 55, 56, 57, 58, 59, 60] [(0, (.bool false))] rfl ⟨rfl, trivial⟩ ?_
    refine wo_nil ?_
    refine wq_seq ?_
    refine wc_ret ?_
    cases h
    exact wq_ret rfl ⟨_, rfl, (bool_is.2 rfl), hF⟩
  refine wo_know 104 true rfl hc215 ?_
  refine wo_seg Θ_ok [31, 32, 33, 34] [(1, (bp b15)), (6, (.int .u64 y71.1)), (14, (.int .i64 y142.2)), (15, (.int .u64 y165.2.1)), (18, (.int .i64 y187.2.1)), (108, (.bool (y104.2 == (4 : Int))))] rfl ⟨rfl, rfl, rfl, rfl, rfl, rfl, trivial⟩ ?_
  rcases bif_some h with ⟨hc216, h⟩ | ⟨hc216, h⟩
  rotate_left
  · refine wo_know 108 false rfl hc216 ?_
    refine wo_seg Θ_ok [35, 36, 37, 38, 39, 40, 41, 42, 43, 44, 45, 46, 47, 48, 49, 50, 51, 52, 53, 54, 55, 56, 57, 58, 59, 60] [(0, (.bool false))] rfl ⟨rfl, trivial⟩ ?_
    refine wo_nil ?_
    refine wq_seq ?_
    refine wc_ret ?_
    cases h
    exact wq_ret rfl ⟨_, rfl, (bool_is.2 rfl), hF⟩
  refine wo_know 108 true rfl hc216 ?_
  refine wo_seg Θ_ok [35, 36, 37, 38] [(1, (bp b15)), (6, (.int .u64 y71.1)), (15, (.int .u64 y165.2.1)), (18, (.int .i64 y187.2.1)), (112, (.bool (y142.2 == (6 : Int))))] rfl ⟨rfl, rfl, rfl, rfl, rfl, trivial⟩ ?_
  rcases bif_some h with ⟨hc217, h⟩ | ⟨hc217, h⟩
  rotate_left
  · refine wo_know 112 false rfl hc217 ?_
    refine wo_seg Θ_ok [39, 40, 41, 42, 43, 44, 45, 46, 47, 48, 49, 50, 51, 52, 53, 54, 55, 56, 57, 58, 59, 60] [(0, (.bool false))] rfl ⟨rfl, trivial⟩ ?_
    refine wo_nil ?_
    refine wq_seq ?_
    refine wc_ret ?_
    cases h
    exact wq_ret rfl ⟨_, rfl, (bool_is.2 rfl), hF⟩
  refine wo_know 112 true rfl hc217 ?_
  refine wo_seg Θ_ok [39, 40, 41, 42] [(1, (bp b15)), (15, (.int .u64 y165.2.1)), (18, (.int .i64 y187.2.1)), (116, (.bool (y71.1 == (5 : Int))))] rfl ⟨rfl, rfl, rfl, rfl, trivial⟩ ?_
  rcases bif_some h with ⟨hc218, h⟩ | ⟨hc218, h⟩
  rotate_left
  · refine wo_know 116 false rfl hc218 ?_
    refine wo_seg Θ_ok [43, 44, 45, 46, 47, 48, 49, 50, 51, 52, 53, 54, 55, 56, 57, 58, 59, 60] [(0, (.bool false))] rfl ⟨rfl, trivial⟩ ?_
    refine wo_nil ?_
    refine wq_seq ?_
    refine wc_ret ?_
    cases h
    exact wq_ret rfl ⟨_, rfl, (bool_is.2 rfl), hF⟩
  refine wo_know 116 true rfl hc218 ?_
  refine wo_seg Θ_ok [43, 44, 45, 46] [(1, (bp b15)), (18, (.int .i64 y187.2.1)), (120, (.bool (y165.2.1 == (7 : Int))))] rfl ⟨rfl, rfl, rfl, trivial⟩ ?_
  rcases bif_some h with ⟨hc219, h⟩ | ⟨hc219, h⟩
  rotate_left
  · refine wo_know 120 false rfl hc219 ?_
    refine wo_seg Θ_ok [47, 48, 49, 50, 51, 52, 53, 54, 55, 56, 57, 58, 59, 60] [(0, (.bool false))] rfl ⟨rfl, trivial⟩ ?_
    refine wo_nil ?_
    refine wq_seq ?_
    refine wc_ret ?_
    cases h
    exact wq_ret rfl ⟨_, rfl, (bool_is.2 rfl), hF⟩
  refine wo_know 120 true rfl hc219 ?_
  refine wo_seg Θ_ok [47, 48, 49, 50] [(1, (bp b15)), (124, (.bool (y187.2.1 == (2 : Int))))] rfl ⟨rfl, rfl, trivial⟩ ?_
  rcases bif_some h with ⟨hc220, h⟩ | ⟨hc220, h⟩
  rotate_left
  · refine wo_know 124 false rfl hc220 ?_
    refine wo_seg Θ_ok [51, 52, 53, 54, 55, 56, 57, 58, 59, 60] [(0, (.bool false))] rfl ⟨rfl, trivial⟩ ?_
    refine wo_nil ?_
    refine wq_seq ?_
    refine wc_ret ?_
    cases h
    exact wq_ret rfl ⟨_, rfl, (bool_is.2 rfl), hF⟩
  refine wo_know 124 true rfl hc220 ?_
  refine wo_load Θ_ok rfl rfl rfl rfl rfl rfl rfl hb15 [(.slice A61 y51.1.fNames.length c62), (.slice A63 y51.1.fBoxes.length c64)] rfl rfl (.inl rfl) (.agg #[(.slice A61 y51.1.fNames.length c62), (.slice A63 y51.1.fBoxes.length c64)]) rfl ?_
  obtain ⟨y225, hy226, h⟩ := bind_some h
  refine wo_gives rfl rfl rfl rfl rfl ent18 rfl (i_Held_c hO ((tGIpc_is (x := y51.1)).2 ⟨_, _, rfl, h58, h60⟩) (int_is.2 rfl) hy226) (fun v221 w222 h223 f224 => ?_)
  have hO := f224.ob hO
  have hF := hF.trans f224
  refine wo_litd Θ_ok rfl rfl rfl rfl rfl rfl rfl rfl rfl rfl (T := (Ty.int .u64)) (xs := [(97 : Int), (98 : Int)]) (vs := [(.int .u64 97), (.int .u64 98)]) rfl ⟨(int_is.2 rfl), (int_is.2 rfl), trivial⟩ rfl rfl rfl hO (fun v227 w228 h229 f230 => ?_)
  have h223 := h223.tr f230.tr0
  have hO := f230.ob hO
  have hF := hF.trans f230
  obtain ⟨y235, hy236, h⟩ := bind_some h
  refine wo_gives rfl rfl rfl rfl rfl ent21 rfl (s_Equal_c hO h223 h229 hy236) (fun v231 w232 h233 f234 => ?_)
  have hO := f234.ob hO
  have hF := hF.trans f234
  obtain rfl := bool_is.1 h233
  refine wo_seg Θ_ok [55, 56] [(130, (.bool y235))] rfl ⟨rfl, trivial⟩ ?_
  rcases bif_some h with ⟨hc237, h⟩ | ⟨hc237, h⟩
  rotate_left
  · refine wo_know 130 false rfl hc237 ?_
    refine wo_seg Θ_ok [57, 58, 59, 60] [(0, (.bool false))] rfl ⟨rfl, trivial⟩ ?_
    refine wo_nil ?_
    refine wq_seq ?_
    refine wc_ret ?_
    cases h
    exact wq_ret rfl ⟨_, rfl, (bool_is.2 rfl), hF⟩
  refine wo_know 130 true rfl hc237 ?_
  obtain ⟨y242, hy243, h⟩ := bind_some h
  refine wo_gives rfl rfl rfl rfl rfl ent30 rfl (i_Is_c hO (int_is.2 rfl) hy243) (fun v238 w239 h240 f241 => ?_)
  have hO := f241.ob hO
  have hF := hF.trans f241
  obtain rfl := bool_is.1 h240
  refine wo_seg Θ_ok [58, 59, 60] [(0, (.bool (!y242)))] rfl ⟨rfl, trivial⟩ ?_
  refine wo_nil ?_
  refine wq_seq ?_
  refine wc_ret ?_
  cases h
  exact wq_ret rfl ⟨_, rfl, (bool_is.2 rfl), hF⟩
end Go.Proofs.Ytjdeaihnpgkphaa
