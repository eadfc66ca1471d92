/-
  Plain laws of package ipc: search in rows that are in order, names more and less. Conditions: words of 64 bits, short rows.
-/
import Derived.Test.YtjdeaihnpgkphaaILawB
namespace Go.Proofs.Ytjdeaihnpgkphaa
open Go.Dc

theorem wakes_true : wakes 100 = some true := by decide +kernel
/-! ### Rows in order -/
section
variable {α : Type} (f : α → Int) (n : Int)
def lowK (l : List α) : List α := l.filter fun z => decide (f z < n)
def geK (l : List α) : List α := l.filter fun z => decide (n ≤ f z)
def highK (l : List α) : List α := l.filter fun z => decide (f z > n)
def thereK (l : List α) : Bool := l.any fun z => f z == n
theorem geK_all {l : List α} (h : ∀ z ∈ l, n ≤ f z) : geK f n l = l := List.filter_eq_self.2 fun z hz => decide_eq_true (h z hz)
theorem lowK_none {l : List α} (h : ∀ z ∈ l, n ≤ f z) : lowK f n l = [] := List.filter_eq_nil_iff.2 fun z hz => by have := h z hz; simp; omega
theorem splitK : ∀ {l : List α}, l.Pairwise (fun a b => f a < f b) → l = lowK f n l ++ geK f n l
  | [], _ => rfl
  | a :: r, h => by
    obtain ⟨h1, h2⟩ := List.pairwise_cons.1 h
    by_cases ha : f a < n
    · have e1 : lowK f n (a :: r) = a :: lowK f n r := by simp [lowK, ha]
      have e2 : geK f n (a :: r) = geK f n r := by unfold geK; rw [List.filter_cons, if_neg (by simp; omega)]
      rw [e1, e2, List.cons_append, ← splitK h2]
    · have hall : ∀ z ∈ a :: r, n ≤ f z := by
        intro z hz
        rcases List.mem_cons.1 hz with rfl | hz
        · omega
        · have := h1 z hz; omega
      rw [lowK_none f n hall, geK_all f n hall]
      rfl
theorem take_low {l : List α} (h : l.Pairwise (fun a b => f a < f b)) : l.take (lowK f n l).length = lowK f n l :=
  (congrArg (List.take _) (splitK f n h)).trans (List.take_left' rfl)
theorem drop_low {l : List α} (h : l.Pairwise (fun a b => f a < f b)) : l.drop (lowK f n l).length = geK f n l := by
  have := List.take_append_drop (lowK f n l).length l
  rw [take_low f n h] at this
  exact List.append_cancel_left (this.trans (splitK f n h))
theorem low_len (l : List α) : (lowK f n l).length ≤ l.length := List.length_filter_le ..
theorem pos_lt {l : List α} (h : l.Pairwise (fun a b => f a < f b)) {m : Nat} {z : α} (hm : m < (lowK f n l).length) (hz : l[m]? = some z) : f z < n := by
  have : (l.take (lowK f n l).length)[m]? = some z := by rw [List.getElem?_take, if_pos hm]; exact hz
  rw [take_low f n h] at this
  have := (List.mem_filter.1 (List.mem_of_getElem? this)).2
  simpa using this
theorem pos_ge {l : List α} (h : l.Pairwise (fun a b => f a < f b)) {m : Nat} {z : α} (hm : (lowK f n l).length ≤ m) (hz : l[m]? = some z) : n ≤ f z := by
  have : (l.drop (lowK f n l).length)[m - (lowK f n l).length]? = some z := by rw [List.getElem?_drop, show (lowK f n l).length + (m - (lowK f n l).length) = m by omega]; exact hz
  rw [drop_low f n h] at this
  have := (List.mem_filter.1 (List.mem_of_getElem? this)).2
  simpa using this
theorem there_iff {l : List α} : thereK f n l = true ↔ ∃ z ∈ l, f z = n := by simp [thereK]
/-- where it would stand, it stands, if it does -/
theorem there_at {l : List α} (h : l.Pairwise (fun a b => f a < f b)) : thereK f n l = ((l[(lowK f n l).length]?).map fun z => f z == n).getD false := by
  have hd := drop_low f n h
  have e0 : l[(lowK f n l).length]? = (geK f n l)[0]? := by rw [← hd, List.getElem?_drop, Nat.add_zero]
  rw [e0]
  have hp : (geK f n l).Pairwise (fun a b => f a < f b) := List.Pairwise.filter _ h
  have hm : ∀ z, z ∈ geK f n l ↔ z ∈ l ∧ n ≤ f z := fun z => by simp [geK]
  cases hg : geK f n l with
  | nil =>
    simp only [List.getElem?_nil, Option.map_none, Option.getD_none]
    cases ht : thereK f n l with
    | false => rfl
    | true =>
      obtain ⟨z, hz, e⟩ := (there_iff f n).1 ht
      have := (hm z).2 ⟨hz, by omega⟩
      rw [hg] at this; cases this
  | cons a r =>
    simp only [List.getElem?_cons_zero, Option.map_some, Option.getD_some]
    rw [hg] at hp
    have ha := (hm a).1 (by rw [hg]; exact List.mem_cons_self)
    rw [Bool.eq_iff_iff, there_iff, beq_iff_eq]
    constructor
    · rintro ⟨z, hz, e⟩
      have hzg := (hm z).2 ⟨hz, by omega⟩
      rw [hg] at hzg
      rcases List.mem_cons.1 hzg with rfl | hzg
      · exact e
      · have := (List.pairwise_cons.1 hp).1 z hzg
        omega
    · exact fun e => ⟨a, ha.1, e⟩
theorem ge_high {l : List α} (h : thereK f n l = false) : geK f n l = highK f n l := by
  unfold geK highK
  refine List.filter_congr fun z hz => ?_
  have : f z ≠ n := fun e => by have := (there_iff f n).2 ⟨z, hz, e⟩; rw [h] at this; cases this
  congr 1
  apply propext
  omega
/-- it, and what is behind it -/
theorem ge_cons {l : List α} (h : l.Pairwise (fun a b => f a < f b)) (ht : thereK f n l = true) : ∃ z, f z = n ∧ geK f n l = z :: highK f n l ∧ l[(lowK f n l).length]? = some z := by
  have h1 := there_at f n h
  rw [ht] at h1
  have hd := drop_low f n h
  have e0 : l[(lowK f n l).length]? = (geK f n l)[0]? := by rw [← hd, List.getElem?_drop, Nat.add_zero]
  have hp : (geK f n l).Pairwise (fun a b => f a < f b) := List.Pairwise.filter _ h
  cases hg : geK f n l with
  | nil => rw [e0, hg] at h1; simp at h1
  | cons a r =>
    rw [e0, hg] at h1
    simp at h1
    refine ⟨a, h1, ?_, by rw [e0, hg]; rfl⟩
    have e2 : highK f n l = highK f n (geK f n l) := by
      unfold highK geK
      rw [List.filter_filter]
      refine List.filter_congr fun z _ => ?_
      by_cases hz : f z > n
      · rw [decide_eq_true hz, decide_eq_true (show n ≤ f z by omega)]; rfl
      · rw [decide_eq_false hz]; rfl
    rw [e2, hg]
    rw [hg] at hp
    unfold highK
    rw [List.filter_cons, if_neg (by simp; omega)]
    rw [List.filter_eq_self.2 fun z hz => by have := (List.pairwise_cons.1 hp).1 z hz; simp; omega]
theorem ne_filter {l : List α} (h : l.Pairwise (fun a b => f a < f b)) : l.filter (fun z => f z != n) = lowK f n l ++ highK f n l := by
  conv => lhs; rw [splitK f n h]
  rw [List.filter_append]
  congr 1
  · exact List.filter_eq_self.2 fun z hz => by have := (List.mem_filter.1 hz).2; simp at this ⊢; omega
  · unfold geK highK
    rw [List.filter_filter]
    refine List.filter_congr fun z _ => ?_
    by_cases h1 : f z > n
    · have e1 : decide (f z > n) = true := decide_eq_true h1
      have e2 : decide (n ≤ f z) = true := decide_eq_true (by omega)
      have e3 : (f z != n) = true := by simp; omega
      rw [e1, e2, e3]; rfl
    · have e1 : decide (f z > n) = false := decide_eq_false h1
      by_cases h2 : f z = n
      · have e3 : (f z != n) = false := by simp [h2]
        rw [e1, e3]; rfl
      · have e2 : decide (n ≤ f z) = false := decide_eq_false (by omega)
        rw [e1, e2, Bool.and_false]
end
/-! ### Search -/
theorem cmp_eq (a b : Int) : cmp_u a b = if a < b then -1 else if a > b then 1 else 0 := by
  unfold cmp_u isNaN_u
  simp only [bne_self_eq_false, cond_false]
  by_cases h1 : a < b
  · simp [h1]
  · by_cases h2 : a > b <;> simp [h1, h2]
theorem mid_eq {i j : Nat} (h : i + j ≤ 10000) : IntKind.i64.wrap ((IntKind.u64.wrap (IntKind.i64.wrap ((i : Int) + (j : Int)))).fdiv (2 ^ 1)) = (((i + j) / 2 : Nat) : Int) := by
  have h1 : IntKind.i64.wrap ((i : Int) + (j : Int)) = ((i + j : Nat) : Int) := by rw [IntWalk.i64_in] <;> omega
  have h2 : IntKind.u64.wrap ((i + j : Nat) : Int) = ((i + j : Nat) : Int) := by rw [IntKind.wrap_u64]; omega
  have h3 : ((i + j : Nat) : Int).fdiv (2 ^ 1) = (((i + j) / 2 : Nat) : Int) := by rw [Int.fdiv_eq_ediv_of_nonneg _ (by omega)]; omega
  rw [h1, h2, h3, IntWalk.i64_in] <;> omega
theorem succ_eq {i : Nat} (h : i ≤ 10000) : IntKind.i64.wrap ((i : Int) + 1) = ((i + 1 : Nat) : Int) := by rw [IntWalk.i64_in] <;> omega
theorem find1_eq (z : GName) (n : Int) : i_find1 z n (fun (z0 : GName) => some (i_nameOf z0)) = some (cmp_u z.fName n) := rfl
theorem find2_eq (z : GBox) (n : Int) : i_find2 z n (fun (z0 : GBox) => some (i_pidOf z0)) = some (cmp_u z.fPid n) := rfl
theorem binN_go {l : List GName} (n : Int) (hs : SN l) (hl : l.length ≤ 1000) (k7 : Int → Option (Int × Bool)) : ∀ (d i j f : Nat), j - i ≤ d → i ≤ (lowK GName.fName n l).length → (lowK GName.fName n l).length ≤ j → j ≤ l.length →
    s_BinN_l1 l n (fun (z0 : GName) (z1 : Int) => i_find1 z0 z1 (fun (z0 : GName) => some (i_nameOf z0))) k7 (d + 1 + f) (i : Int) (j : Int) = k7 ((lowK GName.fName n l).length : Int)
  | d, i, j, f, hd, h1, h2, h3 => by
    rw [show d + 1 + f = (d + f) + 1 by omega]
    simp only [s_BinN_l1]
    by_cases hij : i < j
    · have e : decide ((i : Int) < (j : Int)) = true := by simp; omega
      rw [e, mid_eq (by omega), idx_nat]
      have hm : (i + j) / 2 < l.length := by omega
      have hz := List.getElem?_eq_getElem hm
      rw [hz]
      simp only [cond_true, Option.bind_some]
      rw [find1_eq l[(i + j) / 2] n, cmp_eq, succ_eq (by omega)]
      simp only [Option.bind_some]
      obtain ⟨d', rfl⟩ : ∃ d', d = d' + 1 := ⟨d - 1, by omega⟩
      by_cases hlt : l[(i + j) / 2].fName < n
      · have hk : (i + j) / 2 < (lowK GName.fName n l).length := by
          rcases Nat.lt_or_ge ((i + j) / 2) (lowK GName.fName n l).length with h | h
          · exact h
          · have := pos_ge GName.fName n hs h hz; omega
        rw [if_pos hlt]
        have := binN_go n hs hl k7 d' ((i + j) / 2 + 1) j f (by omega) (by omega) h2 h3
        rw [show d' + 1 + f = d' + 1 + f from rfl] at this
        simpa using this
      · have hk : (lowK GName.fName n l).length ≤ (i + j) / 2 := by
          rcases Nat.lt_or_ge ((i + j) / 2) (lowK GName.fName n l).length with h | h
          · have := pos_lt GName.fName n hs h hz; omega
          · exact h
        rw [if_neg hlt]
        have e2 : decide ((if l[(i + j) / 2].fName > n then (1 : Int) else 0) < 0) = false := by split <;> rfl
        rw [e2]
        have := binN_go n hs hl k7 d' i ((i + j) / 2) f (by omega) h1 hk (by omega)
        simpa using this
    · have e : decide ((i : Int) < (j : Int)) = false := by simp; omega
      rw [e]
      simp only [cond_false]
      congr 1
      omega
theorem binB_go {l : List GBox} (n : Int) (hs : SB l) (hl : l.length ≤ 1000) (k7 : Int → Option (Int × Bool)) : ∀ (d i j f : Nat), j - i ≤ d → i ≤ (lowK GBox.fPid n l).length → (lowK GBox.fPid n l).length ≤ j → j ≤ l.length →
    s_BinB_l1 l n (fun (z0 : GBox) (z1 : Int) => i_find2 z0 z1 (fun (z0 : GBox) => some (i_pidOf z0))) k7 (d + 1 + f) (i : Int) (j : Int) = k7 ((lowK GBox.fPid n l).length : Int)
  | d, i, j, f, hd, h1, h2, h3 => by
    rw [show d + 1 + f = (d + f) + 1 by omega]
    simp only [s_BinB_l1]
    by_cases hij : i < j
    · have e : decide ((i : Int) < (j : Int)) = true := by simp; omega
      rw [e, mid_eq (by omega), idx_nat]
      have hm : (i + j) / 2 < l.length := by omega
      have hz := List.getElem?_eq_getElem hm
      rw [hz]
      simp only [cond_true, Option.bind_some]
      rw [find2_eq l[(i + j) / 2] n, cmp_eq, succ_eq (by omega)]
      simp only [Option.bind_some]
      obtain ⟨d', rfl⟩ : ∃ d', d = d' + 1 := ⟨d - 1, by omega⟩
      by_cases hlt : l[(i + j) / 2].fPid < n
      · have hk : (i + j) / 2 < (lowK GBox.fPid n l).length := by
          rcases Nat.lt_or_ge ((i + j) / 2) (lowK GBox.fPid n l).length with h | h
          · exact h
          · have := pos_ge GBox.fPid n hs h hz; omega
        rw [if_pos hlt]
        have := binB_go n hs hl k7 d' ((i + j) / 2 + 1) j f (by omega) (by omega) h2 h3
        simpa using this
      · have hk : (lowK GBox.fPid n l).length ≤ (i + j) / 2 := by
          rcases Nat.lt_or_ge ((i + j) / 2) (lowK GBox.fPid n l).length with h | h
          · have := pos_lt GBox.fPid n hs h hz; omega
          · exact h
        rw [if_neg hlt]
        have e2 : decide ((if l[(i + j) / 2].fPid > n then (1 : Int) else 0) < 0) = false := by split <;> rfl
        rw [e2]
        have := binB_go n hs hl k7 d' i ((i + j) / 2) f (by omega) h1 hk (by omega)
        simpa using this
    · have e : decide ((i : Int) < (j : Int)) = false := by simp; omega
      rw [e]
      simp only [cond_false]
      congr 1
      omega
theorem cmp_zero (a n : Int) : (cmp_u a n == 0) = (a == n) := by
  rw [cmp_eq, Bool.eq_iff_iff]
  by_cases h1 : a < n
  · simp [h1]; omega
  · by_cases h2 : a > n
    · simp [h1, h2]; omega
    · simp [h1, h2]; omega
theorem findN_eq {l : List GName} (n : Int) (hs : SN l) (hl : l.length ≤ 90) : i_findN 100 l n (fun (z0 : GName) => some (i_nameOf z0)) = some (((lowK GName.fName n l).length : Int), thereK GName.fName n l) := by
  unfold i_findN s_BinN letk
  dsimp only
  have := binN_go n hs (by omega) (fun (p11 : Int) => (bif (decide (p11 < (l.length : Int))) then ((idx l p11).bind fun y17 => (i_find1 y17 n (fun (z0 : GName) => some (i_nameOf z0))).bind fun y21 => some ((p11, (y21 == (0 : Int))))) else some ((p11, false)))) l.length 0 l.length (99 - l.length) (by omega) (by omega) (low_len ..) (Nat.le_refl _)
  rw [show l.length + 1 + (99 - l.length) = 100 by omega] at this
  rw [show ((0 : Nat) : Int) = 0 from rfl] at this
  rw [this, there_at GName.fName n hs, idx_nat]
  cases hz : l[(lowK GName.fName n l).length]? with
  | none =>
    have h1 := List.getElem?_eq_none_iff.1 hz
    have e : decide (((lowK GName.fName n l).length : Int) < (l.length : Int)) = false := by simp; omega
    rw [e]
    simp
  | some z =>
    have h1 := (List.getElem?_eq_some_iff.1 hz).1
    have e : decide (((lowK GName.fName n l).length : Int) < (l.length : Int)) = true := by simp; omega
    rw [e]
    simp only [cond_true, Option.bind_some]
    rw [find1_eq z n]
    simp [cmp_zero]
theorem findB_eq {l : List GBox} (n : Int) (hs : SB l) (hl : l.length ≤ 90) : i_findB 100 l n (fun (z0 : GBox) => some (i_pidOf z0)) = some (((lowK GBox.fPid n l).length : Int), thereK GBox.fPid n l) := by
  unfold i_findB s_BinB letk
  dsimp only
  have := binB_go n hs (by omega) (fun (p11 : Int) => (bif (decide (p11 < (l.length : Int))) then ((idx l p11).bind fun y17 => (i_find2 y17 n (fun (z0 : GBox) => some (i_pidOf z0))).bind fun y21 => some ((p11, (y21 == (0 : Int))))) else some ((p11, false)))) l.length 0 l.length (99 - l.length) (by omega) (by omega) (low_len ..) (Nat.le_refl _)
  rw [show l.length + 1 + (99 - l.length) = 100 by omega] at this
  rw [show ((0 : Nat) : Int) = 0 from rfl] at this
  rw [this, there_at GBox.fPid n hs, idx_nat]
  cases hz : l[(lowK GBox.fPid n l).length]? with
  | none =>
    have h1 := List.getElem?_eq_none_iff.1 hz
    have e : decide (((lowK GBox.fPid n l).length : Int) < (l.length : Int)) = false := by simp; omega
    rw [e]
    simp
  | some z =>
    have h1 := (List.getElem?_eq_some_iff.1 hz).1
    have e : decide (((lowK GBox.fPid n l).length : Int) < (l.length : Int)) = true := by simp; omega
    rw [e]
    simp only [cond_true, Option.bind_some]
    rw [find2_eq z n]
    simp [cmp_zero]
/-! ### A state of the hand's own -/
theorem ownL_eq : ∀ (bs acc : List GBox), (∀ z ∈ bs, z.fWords.length ≤ 1000000) → bs.length + acc.length ≤ 10000 → i_ownL bs acc = some (acc ++ bs)
  | [], acc, _, _ => by simp [i_ownL]
  | z :: r, acc, h, hl => by
    simp only [i_ownL]
    rw [clone_eq (h z List.mem_cons_self)]
    simp only [Option.bind_some]
    rw [app_ok (by simp at hl ⊢; omega)]
    simp only [Option.bind_some]
    rw [ownL_eq r _ (fun y hy => h y (List.mem_cons_of_mem _ hy)) (by simp at hl ⊢; omega)]
    simp
abbrev E0 : GIpc := GIpc.mk [] []
theorem iOwn_eq {s : GIpc} (hs : Goo s) : i_own 100 s = some (bif okB s then (s, 0) else (E0, 350)) := by
  unfold i_own
  rw [iCheck_eq hs]
  have h1 := hs.ln
  have h2 := hs.lb
  cases ho : okB s with
  | false => rfl
  | true =>
    have hk := (ok_iff s).1 ho
    simp only [Option.bind_some, cond_true]
    rw [cloneN_eq (by omega), ownL_eq _ _ (fun z hz => by have := hk.b z hz; simp [gB] at this; omega) (by simp; omega)]
    rfl
end Go.Proofs.Ytjdeaihnpgkphaa
