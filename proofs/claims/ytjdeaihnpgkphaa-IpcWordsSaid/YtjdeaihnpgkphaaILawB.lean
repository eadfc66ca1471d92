/-
  Plain laws of package ipc: which states may be, states of their own, equality, search. Conditions: words of 64 bits, short rows.
-/
import Derived.Test.YtjdeaihnpgkphaaILawA
namespace Go.Proofs.Ytjdeaihnpgkphaa
open Go.Dc

/-! ### Which states may be -/
def pidOk (p : Int) : Bool := decide (1 ≤ p ∧ p < 4294967296)
theorem rPid_eq (p : Int) : r_Pid p = pidOk p := by
  unfold r_Pid pidOk
  by_cases h : p > 0
  · rw [decide_eq_true h]; simp only [cond_true]; congr 1; apply propext; omega
  · rw [decide_eq_false h]; simp only [cond_false]; symm; rw [decide_eq_false_iff_not]; omega
theorem iPid_eq (p : Int) : i_isPid p = pidOk p := by
  unfold i_isPid pidOk
  by_cases h : p ≥ 1
  · rw [decide_eq_true h]; simp only [cond_true]; congr 1; apply propext; omega
  · rw [decide_eq_false h]; simp only [cond_false]; symm; rw [decide_eq_false_iff_not]; omega
def gN (z : GName) : Bool := isN z.fName && pidOk z.fPid
def gB (z : GBox) : Bool := pidOk z.fPid && decide (1 ≤ z.fWords.length ∧ z.fWords.length ≤ 4)
def aft (pr : Option Int) (n : Int) : Bool := match pr with | none => true | some q => decide (q < n)
def nOk : Option Int → List GName → Bool
  | _, [] => true
  | pr, z :: r => gN z && (aft pr z.fName && nOk (some z.fName) r)
def bOk : Option Int → List GBox → Bool
  | _, [] => true
  | pr, z :: r => gB z && (aft pr z.fPid && bOk (some z.fPid) r)
def SN (l : List GName) : Prop := l.Pairwise fun a b => a.fName < b.fName
def SB (l : List GBox) : Prop := l.Pairwise fun a b => a.fPid < b.fPid
theorem nOk_iff : ∀ (l : List GName) (pr : Option Int), nOk pr l = true ↔ (∀ z ∈ l, gN z = true ∧ aft pr z.fName = true) ∧ SN l
  | [], pr => by simp [nOk, SN]
  | z :: r, pr => by
    simp only [nOk, Bool.and_eq_true, nOk_iff r, SN, List.pairwise_cons, List.forall_mem_cons]
    constructor
    · rintro ⟨h1, h2, h3, h4⟩
      refine ⟨⟨⟨h1, h2⟩, fun a ha => ⟨(h3 a ha).1, ?_⟩⟩, fun a ha => ?_, h4⟩
      · have := (h3 a ha).2
        unfold aft at this h2 ⊢
        cases pr with
        | none => rfl
        | some q => simp only [decide_eq_true_eq] at this h2 ⊢; omega
      · have := (h3 a ha).2
        simpa [aft] using this
    · rintro ⟨⟨⟨h1, h2⟩, h3⟩, h4, h5⟩
      exact ⟨h1, h2, fun a ha => ⟨(h3 a ha).1, by simpa [aft] using h4 a ha⟩, h5⟩
theorem bOk_iff : ∀ (l : List GBox) (pr : Option Int), bOk pr l = true ↔ (∀ z ∈ l, gB z = true ∧ aft pr z.fPid = true) ∧ SB l
  | [], pr => by simp [bOk, SB]
  | z :: r, pr => by
    simp only [bOk, Bool.and_eq_true, bOk_iff r, SB, List.pairwise_cons, List.forall_mem_cons]
    constructor
    · rintro ⟨h1, h2, h3, h4⟩
      refine ⟨⟨⟨h1, h2⟩, fun a ha => ⟨(h3 a ha).1, ?_⟩⟩, fun a ha => ?_, h4⟩
      · have := (h3 a ha).2
        unfold aft at this h2 ⊢
        cases pr with
        | none => rfl
        | some q => simp only [decide_eq_true_eq] at this h2 ⊢; omega
      · have := (h3 a ha).2
        simpa [aft] using this
    · rintro ⟨⟨⟨h1, h2⟩, h3⟩, h4, h5⟩
      exact ⟨h1, h2, fun a ha => ⟨(h3 a ha).1, by simpa [aft] using h4 a ha⟩, h5⟩
/-- a state that may be -/
def okB (s : GIpc) : Bool := decide (s.fNames.length ≤ 16) && (nOk none s.fNames && bOk none s.fBoxes)
/-- words of 64 bits, rows that are short -/
structure Goo (s : GIpc) : Prop where
  n : ∀ z ∈ s.fNames, U z.fName
  b : ∀ z ∈ s.fBoxes, U z.fPid
  ln : s.fNames.length ≤ 1000
  lb : s.fBoxes.length ≤ 1000
/-- what stands ahead -/
def prevN (l : List GName) (i : Nat) : Option Int := if i = 0 then none else (l[i - 1]?).map (·.fName)
def prevB (l : List GBox) (i : Nat) : Option Int := if i = 0 then none else (l[i - 1]?).map (·.fPid)
theorem drop_cons {α : Type} {l r : List α} {z : α} {i : Nat} (h : l.drop i = z :: r) : i < l.length ∧ l[i]? = some z ∧ l.drop (i + 1) = r := by
  have hl : i < l.length := by
    rcases Nat.lt_or_ge i l.length with h1 | h1
    · exact h1
    · rw [List.drop_eq_nil_of_le h1] at h; cases h
  rw [List.drop_eq_getElem_cons hl] at h
  injection h with h1 h2
  exact ⟨hl, by rw [List.getElem?_eq_getElem hl, h1], h2⟩
theorem wrap_pred {i : Nat} (h : 0 < i) (hi : i ≤ 1000000) : IntKind.i64.wrap ((i : Int) - 1) = ((i - 1 : Nat) : Int) := by
  rw [IntWalk.i64_in] <;> omega
theorem idx_nat {α : Type} (l : List α) (i : Nat) : idx l (i : Int) = l[i]? := by
  unfold idx
  rw [if_pos (by omega), Int.toNat_natCast]
theorem rRight_n {s : GIpc} (hs : Goo s) (k : Option Bool) : ∀ (rest : List GName) (i : Nat), s.fNames.drop i = rest → r_Right_l2 s k 100 rest i = bif nOk (prevN s.fNames i) rest then k else some false
  | [], i, _ => by simp [r_Right_l2, nOk]
  | z :: r, i, h => by
    obtain ⟨hl, hz, hd⟩ := drop_cons h
    have hU := hs.n z (List.mem_of_getElem? hz)
    have ih := rRight_n hs k r (i + 1) hd
    have hp : prevN s.fNames (i + 1) = some z.fName := by simp [prevN, hz]
    rw [hp] at ih
    simp only [r_Right_l2, nOk, rIs_eq hU, Option.bind_some, rPid_eq, gN, ih]
    cases isN z.fName with
    | false => simp
    | true =>
      cases pidOk z.fPid with
      | false => simp
      | true =>
        simp only [Bool.not_true, cond_false, Bool.true_and]
        by_cases h0 : i = 0
        · subst h0
          simp [prevN, aft]
        · have hi : decide ((i : Int) > 0) = true := by simp; omega
          have hln := hs.ln
          rw [hi, wrap_pred (by omega) (by omega), idx_nat]
          have hq := List.getElem?_eq_getElem (show i - 1 < s.fNames.length by omega)
          simp only [cond_true, hq, Option.bind_some, prevN, if_neg h0, Option.map_some, aft]
          by_cases hlt : s.fNames[i - 1].fName < z.fName
          · have e : decide (s.fNames[i - 1].fName ≥ z.fName) = false := by simp; omega
            rw [e, decide_eq_true hlt]; simp
          · have e : decide (s.fNames[i - 1].fName ≥ z.fName) = true := by simp; omega
            rw [e, decide_eq_false hlt]; simp
theorem iCheck_n {s : GIpc} (hs : Goo s) (k : Option Int) : ∀ (rest : List GName) (i : Nat), s.fNames.drop i = rest → i_Check_l2 s k 100 rest i = bif nOk (prevN s.fNames i) rest then k else some 350
  | [], i, _ => by simp [i_Check_l2, nOk]
  | z :: r, i, h => by
    obtain ⟨hl, hz, hd⟩ := drop_cons h
    have hU := hs.n z (List.mem_of_getElem? hz)
    have ih := iCheck_n hs k r (i + 1) hd
    have hp : prevN s.fNames (i + 1) = some z.fName := by simp [prevN, hz]
    rw [hp] at ih
    simp only [i_Check_l2, nOk, iIs_eq hU, Option.bind_some, iPid_eq, gN, ih]
    cases isN z.fName with
    | false => simp
    | true =>
      cases pidOk z.fPid with
      | false => simp
      | true =>
        simp only [Bool.not_true, cond_false, Bool.true_and]
        by_cases h0 : i = 0
        · subst h0
          simp [prevN, aft]
        · have hi : decide ((i : Int) > 0) = true := by simp; omega
          have hln := hs.ln
          rw [hi, wrap_pred (by omega) (by omega), idx_nat]
          have hq := List.getElem?_eq_getElem (show i - 1 < s.fNames.length by omega)
          simp only [cond_true, hq, Option.bind_some, prevN, if_neg h0, Option.map_some, aft]
          by_cases hlt : s.fNames[i - 1].fName < z.fName
          · have e : decide (s.fNames[i - 1].fName ≥ z.fName) = false := by simp; omega
            rw [e, decide_eq_true hlt]; simp
          · have e : decide (s.fNames[i - 1].fName ≥ z.fName) = true := by simp; omega
            rw [e, decide_eq_false hlt]; simp
theorem rRight_b {s : GIpc} (hs : Goo s) (k : Option Bool) : ∀ (rest : List GBox) (i : Nat), s.fBoxes.drop i = rest → r_Right_l1 s k rest i = bif bOk (prevB s.fBoxes i) rest then k else some false
  | [], i, _ => by simp [r_Right_l1, bOk]
  | z :: r, i, h => by
    obtain ⟨hl, hz, hd⟩ := drop_cons h
    have ih := rRight_b hs k r (i + 1) hd
    have hp : prevB s.fBoxes (i + 1) = some z.fPid := by simp [prevB, hz]
    rw [hp] at ih
    simp only [r_Right_l1, bOk, rPid_eq, gB, ih]
    cases pidOk z.fPid with
    | false => simp
    | true =>
      simp only [Bool.not_true, cond_false, Bool.true_and]
      by_cases hw : 1 ≤ z.fWords.length ∧ z.fWords.length ≤ 4
      · have e1 : ((z.fWords.length : Int) == 0) = false := by simp; intro e; rw [e] at hw; simp at hw
        have e2 : decide ((z.fWords.length : Int) > 4) = false := by simp; omega
        rw [e1, e2, decide_eq_true hw]
        simp only [cond_false, Bool.true_and]
        by_cases h0 : i = 0
        · subst h0
          simp [prevB, aft]
        · have hi : decide ((i : Int) > 0) = true := by simp; omega
          have hln := hs.lb
          rw [hi, wrap_pred (by omega) (by omega), idx_nat]
          have hq := List.getElem?_eq_getElem (show i - 1 < s.fBoxes.length by omega)
          simp only [cond_true, hq, Option.bind_some, prevB, if_neg h0, Option.map_some, aft]
          by_cases hlt : s.fBoxes[i - 1].fPid < z.fPid
          · have e : decide (s.fBoxes[i - 1].fPid ≥ z.fPid) = false := by simp; omega
            rw [e, decide_eq_true hlt]; simp
          · have e : decide (s.fBoxes[i - 1].fPid ≥ z.fPid) = true := by simp; omega
            rw [e, decide_eq_false hlt]; simp
      · rw [decide_eq_false hw]
        simp only [Bool.false_and]
        by_cases e0 : z.fWords.length = 0
        · have e1 : ((z.fWords.length : Int) == 0) = true := by rw [e0]; rfl
          rw [e1]; simp
        · have e1 : ((z.fWords.length : Int) == 0) = false := by rw [beq_eq_false_iff_ne]; omega
          have e2 : decide ((z.fWords.length : Int) > 4) = true := by simp; omega
          rw [e1, e2]; simp
theorem iCheck_b {s : GIpc} (hs : Goo s) (k : Option Int) : ∀ (rest : List GBox) (i : Nat), s.fBoxes.drop i = rest → i_Check_l1 s k rest i = bif bOk (prevB s.fBoxes i) rest then k else some 350
  | [], i, _ => by simp [i_Check_l1, bOk]
  | z :: r, i, h => by
    obtain ⟨hl, hz, hd⟩ := drop_cons h
    have ih := iCheck_b hs k r (i + 1) hd
    have hp : prevB s.fBoxes (i + 1) = some z.fPid := by simp [prevB, hz]
    rw [hp] at ih
    simp only [i_Check_l1, bOk, iPid_eq, gB, ih]
    cases pidOk z.fPid with
    | false => simp
    | true =>
      simp only [Bool.not_true, cond_false, Bool.true_and]
      by_cases hw : 1 ≤ z.fWords.length ∧ z.fWords.length ≤ 4
      · have e1 : decide ((z.fWords.length : Int) < 1) = false := by simp; omega
        have e2 : decide ((z.fWords.length : Int) > 4) = false := by simp; omega
        rw [e1, e2, decide_eq_true hw]
        simp only [cond_false, Bool.true_and]
        by_cases h0 : i = 0
        · subst h0
          simp [prevB, aft]
        · have hi : decide ((i : Int) > 0) = true := by simp; omega
          have hln := hs.lb
          rw [hi, wrap_pred (by omega) (by omega), idx_nat]
          have hq := List.getElem?_eq_getElem (show i - 1 < s.fBoxes.length by omega)
          simp only [cond_true, hq, Option.bind_some, prevB, if_neg h0, Option.map_some, aft]
          by_cases hlt : s.fBoxes[i - 1].fPid < z.fPid
          · have e : decide (s.fBoxes[i - 1].fPid ≥ z.fPid) = false := by simp; omega
            rw [e, decide_eq_true hlt]; simp
          · have e : decide (s.fBoxes[i - 1].fPid ≥ z.fPid) = true := by simp; omega
            rw [e, decide_eq_false hlt]; simp
      · rw [decide_eq_false hw]
        simp only [Bool.false_and]
        by_cases e0 : z.fWords.length = 0
        · have e1 : decide ((z.fWords.length : Int) < 1) = true := by rw [e0]; rfl
          rw [e1]; simp
        · have e1 : decide ((z.fWords.length : Int) < 1) = false := by rw [decide_eq_false_iff_not]; omega
          have e2 : decide ((z.fWords.length : Int) > 4) = true := by simp; omega
          rw [e1, e2]; simp
theorem rRight_eq {s : GIpc} (hs : Goo s) : r_Right 100 s = some (okB s) := by
  unfold r_Right letk
  dsimp only
  rw [rRight_n hs _ s.fNames 0 List.drop_zero, rRight_b hs _ s.fBoxes 0 List.drop_zero]
  simp only [prevN, prevB, if_true, okB]
  cases nOk none s.fNames <;> cases bOk none s.fBoxes <;> simp
  omega
theorem iCheck_eq {s : GIpc} (hs : Goo s) : i_Check 100 s = some (bif okB s then 0 else 350) := by
  unfold i_Check letk
  dsimp only
  rw [iCheck_n hs _ s.fNames 0 List.drop_zero, iCheck_b hs _ s.fBoxes 0 List.drop_zero]
  simp only [prevN, prevB, if_true, okB]
  by_cases h : s.fNames.length ≤ 16
  · have e : decide ((s.fNames.length : Int) > 16) = false := by simp; omega
    rw [e, decide_eq_true h]
    cases nOk none s.fNames <;> cases bOk none s.fBoxes <;> simp
  · have e : decide ((s.fNames.length : Int) > 16) = true := by simp; omega
    rw [e, decide_eq_false h]
    simp
/-- what it is to be such -/
structure Ok (s : GIpc) : Prop where
  l : s.fNames.length ≤ 16
  n : ∀ z ∈ s.fNames, gN z = true
  sn : SN s.fNames
  b : ∀ z ∈ s.fBoxes, gB z = true
  sb : SB s.fBoxes
theorem ok_iff (s : GIpc) : okB s = true ↔ Ok s := by
  unfold okB
  rw [Bool.and_eq_true, Bool.and_eq_true, nOk_iff, bOk_iff, decide_eq_true_eq]
  simp only [aft, and_true]
  exact ⟨fun ⟨h1, ⟨h2, h3⟩, h4, h5⟩ => ⟨h1, h2, h3, h4, h5⟩, fun h => ⟨h.l, ⟨h.n, h.sn⟩, h.b, h.sb⟩⟩
/-! ### States of their own -/
theorem cutx_to {α : Type} (l : List α) (m : Nat) : cutx l none (some (if (m : Int) < (l.length : Int) then (m : Int) else (l.length : Int))) none = some (l.take m) := by
  unfold cutx
  simp only [Option.getD_none, Option.getD_some]
  by_cases h : (m : Int) < (l.length : Int)
  · rw [if_pos h, if_pos (by simp; omega)]
    simp
  · rw [if_neg h, if_pos (by simp)]
    simp only [Int.toNat_natCast, Int.toNat_zero, List.drop_zero, List.take_length]
    rw [List.take_of_length_le (by omega)]
def cutB (z : GBox) : GBox := GBox.mk z.fPid (z.fWords.take 8)
def own' (s : GIpc) : GIpc := GIpc.mk (s.fNames.take 20) ((s.fBoxes.take 20).map cutB)
theorem clone_eq {l : List Int} (h : l.length ≤ 1000000) : s_Clone l = some l := by
  unfold s_Clone
  rw [app_ok (by simp; omega)]
  rfl
theorem cloneN_eq {l : List GName} (h : l.length ≤ 1000000) : s_CloneN l = some l := by
  unfold s_CloneN
  rw [app_ok (by simp; omega)]
  rfl
theorem own_go (k : GIpc → Option GIpc) : ∀ (rest : List GBox) (i : Nat) (acc : GIpc), acc.fBoxes.length + (20 - i) ≤ 20 → own_l1 k rest i acc = k (GIpc.mk acc.fNames (acc.fBoxes ++ (rest.take (20 - i)).map cutB))
  | [], i, acc, _ => by simp [own_l1]
  | z :: r, i, acc, h => by
    simp only [own_l1]
    by_cases hi : i < 20
    · have e : decide ((i : Int) < 20) = true := by simp; omega
      have hc := cutx_to z.fWords 8
      rw [e]
      simp only [cond_true]
      rw [show (8 : Int) = ((8 : Nat) : Int) from rfl, hc]
      simp only [Option.bind_some]
      rw [clone_eq (by simp; omega)]
      simp only [Option.bind_some]
      rw [app_ok (by simp; omega)]
      simp only [Option.bind_some]
      rw [own_go k r (i + 1) _ (by simp; omega), show 20 - i = (20 - (i + 1)) + 1 by omega, List.take_succ_cons]
      simp [cutB]
    · have e : decide ((i : Int) < 20) = false := by simp; omega
      rw [e]
      simp only [cond_false]
      rw [own_go k r (i + 1) acc (by omega), show 20 - i = 0 by omega, show 20 - (i + 1) = 0 by omega]
      simp
theorem own_eq (s : GIpc) : own s = some (own' s) := by
  unfold own letk
  have hc := cutx_to s.fNames 20
  rw [show (20 : Int) = ((20 : Nat) : Int) from rfl, hc]
  simp only [Option.bind_some]
  rw [cloneN_eq (by simp; omega)]
  simp only [Option.bind_some]
  rw [own_go _ _ 0 _ (by simp)]
  simp [own']
theorem own_goo {s : GIpc} (h1 : ∀ z ∈ s.fNames, U z.fName) (h2 : ∀ z ∈ s.fBoxes, U z.fPid) : Goo (own' s) := by
  refine ⟨fun z hz => h1 z (List.mem_of_mem_take hz), fun z hz => ?_, ?_, ?_⟩
  · obtain ⟨y, hy, rfl⟩ := List.mem_map.1 hz
    exact h2 y (List.mem_of_mem_take hy)
  · simp [own']; omega
  · simp [own']; omega
/-! ### Equality -/
theorem words_go (x1 : List Int) (k : Option Bool) : ∀ (rest : List Int) (i : Nat), rest.length = (x1.drop i).length → r_words_l1 x1 k rest i = if rest = x1.drop i then k else some false
  | [], i, h => by
    have : x1.drop i = [] := List.eq_nil_of_length_eq_zero h.symm
    rw [this]; simp [r_words_l1]
  | z :: r, i, h => by
    obtain ⟨y, t, ht⟩ : ∃ y t, x1.drop i = y :: t := by
      cases hd : x1.drop i with
      | nil => rw [hd] at h; simp at h
      | cons y t => exact ⟨y, t, rfl⟩
    obtain ⟨_, hy, hd⟩ := drop_cons ht
    have ih := words_go x1 k r (i + 1) (by rw [hd]; rw [ht] at h; simpa using h)
    simp only [r_words_l1, idx_nat, hy, Option.bind_some, ih, ht, hd, List.cons.injEq]
    by_cases e : z = y
    · subst e; simp
    · have : (z != y) = true := by simpa using e
      rw [this]; simp [e]
theorem words_eq (a b : List Int) : r_words a b = some (decide (a = b)) := by
  unfold r_words letk
  by_cases h : a.length = b.length
  · have e : ((a.length : Int) != (b.length : Int)) = false := by simp; omega
    rw [e]
    simp only [cond_false]
    rw [words_go b _ a 0 (by simpa using h)]
    rw [List.drop_zero]
    by_cases e2 : a = b <;> simp [e2]
  · have e : ((a.length : Int) != (b.length : Int)) = true := by simp; omega
    rw [e]
    have : a ≠ b := fun e => h (by rw [e])
    simp [this]
theorem equal_go (x1 : List Int) (k : Option Bool) : ∀ (rest : List Int) (i : Nat), rest.length = (x1.drop i).length → s_Equal_l1 x1 k rest i = if rest = x1.drop i then k else some false
  | [], i, h => by
    have : x1.drop i = [] := List.eq_nil_of_length_eq_zero h.symm
    rw [this]; simp [s_Equal_l1]
  | z :: r, i, h => by
    obtain ⟨y, t, ht⟩ : ∃ y t, x1.drop i = y :: t := by
      cases hd : x1.drop i with
      | nil => rw [hd] at h; simp at h
      | cons y t => exact ⟨y, t, rfl⟩
    obtain ⟨_, hy, hd⟩ := drop_cons ht
    have ih := equal_go x1 k r (i + 1) (by rw [hd]; rw [ht] at h; simpa using h)
    simp only [s_Equal_l1, idx_nat, hy, Option.bind_some, ih, ht, hd, List.cons.injEq]
    by_cases e : z = y
    · subst e; simp
    · have : (z != y) = true := by simpa using e
      rw [this]; simp [e]
theorem equal_eq (a b : List Int) : s_Equal a b = some (decide (a = b)) := by
  unfold s_Equal letk
  by_cases h : a.length = b.length
  · have e : ((a.length : Int) != (b.length : Int)) = false := by simp; omega
    rw [e]
    simp only [cond_false]
    rw [equal_go b _ a 0 (by simpa using h)]
    rw [List.drop_zero]
    by_cases e2 : a = b <;> simp [e2]
  · have e : ((a.length : Int) != (b.length : Int)) = true := by simp; omega
    rw [e]
    have : a ≠ b := fun e => h (by rw [e])
    simp [this]
theorem eqN (x y : GName) : eqGName x y = decide (x = y) := by
  cases x; cases y
  rw [Bool.eq_iff_iff]
  simp [eqGName]
theorem equalN_go (x1 : List GName) (k : Option Bool) : ∀ (rest : List GName) (i : Nat), rest.length = (x1.drop i).length → s_EqualN_l1 x1 k rest i = if rest = x1.drop i then k else some false
  | [], i, h => by
    have : x1.drop i = [] := List.eq_nil_of_length_eq_zero h.symm
    rw [this]; simp [s_EqualN_l1]
  | z :: r, i, h => by
    obtain ⟨y, t, ht⟩ : ∃ y t, x1.drop i = y :: t := by
      cases hd : x1.drop i with
      | nil => rw [hd] at h; simp at h
      | cons y t => exact ⟨y, t, rfl⟩
    obtain ⟨_, hy, hd⟩ := drop_cons ht
    have ih := equalN_go x1 k r (i + 1) (by rw [hd]; rw [ht] at h; simpa using h)
    simp only [s_EqualN_l1, idx_nat, hy, Option.bind_some, ih, ht, hd, List.cons.injEq, eqN]
    by_cases e : z = y <;> simp [e]
theorem sameN_go (x1 : GIpc) (k : Option Bool) : ∀ (rest : List GName) (i : Nat), rest.length = (x1.fNames.drop i).length → r_Same_l2 x1 k rest i = if rest = x1.fNames.drop i then k else some false
  | [], i, h => by
    have : x1.fNames.drop i = [] := List.eq_nil_of_length_eq_zero h.symm
    rw [this]; simp [r_Same_l2]
  | z :: r, i, h => by
    obtain ⟨y, t, ht⟩ : ∃ y t, x1.fNames.drop i = y :: t := by
      cases hd : x1.fNames.drop i with
      | nil => rw [hd] at h; simp at h
      | cons y t => exact ⟨y, t, rfl⟩
    obtain ⟨_, hy, hd⟩ := drop_cons ht
    have ih := sameN_go x1 k r (i + 1) (by rw [hd]; rw [ht] at h; simpa using h)
    simp only [r_Same_l2, idx_nat, hy, Option.bind_some, ih, ht, hd, List.cons.injEq, eqN]
    by_cases e : z = y <;> simp [e]
theorem box_ext (x y : GBox) : x = y ↔ x.fPid = y.fPid ∧ x.fWords = y.fWords := by cases x; cases y; simp
theorem sameB_go (x1 : GIpc) (k : Option Bool) : ∀ (rest : List GBox) (i : Nat), rest.length = (x1.fBoxes.drop i).length → r_Same_l1 x1 k rest i = if rest = x1.fBoxes.drop i then k else some false
  | [], i, h => by
    have : x1.fBoxes.drop i = [] := List.eq_nil_of_length_eq_zero h.symm
    rw [this]; simp [r_Same_l1]
  | z :: r, i, h => by
    obtain ⟨y, t, ht⟩ : ∃ y t, x1.fBoxes.drop i = y :: t := by
      cases hd : x1.fBoxes.drop i with
      | nil => rw [hd] at h; simp at h
      | cons y t => exact ⟨y, t, rfl⟩
    obtain ⟨_, hy, hd⟩ := drop_cons ht
    have ih := sameB_go x1 k r (i + 1) (by rw [hd]; rw [ht] at h; simpa using h)
    simp only [r_Same_l1, idx_nat, hy, Option.bind_some, ih, ht, hd, List.cons.injEq, words_eq, box_ext]
    by_cases e : z.fPid = y.fPid
    · have : (z.fPid != y.fPid) = false := by simpa using e
      rw [this]
      by_cases e2 : z.fWords = y.fWords <;> simp [e, e2]
    · have : (z.fPid != y.fPid) = true := by simpa using e
      rw [this]; simp [e]
theorem same1_eq (x y : GBox) : i_Same1 x y = some (decide (x = y)) := by
  unfold i_Same1
  rw [equal_eq]
  simp only [Option.bind_some, box_ext]
  by_cases e : x.fPid = y.fPid
  · have : (x.fPid == y.fPid) = true := by simpa using e
    rw [this]
    simp [e]
  · have : (x.fPid == y.fPid) = false := by simpa using e
    rw [this]; simp [e]
theorem equalB_go (x1 : List GBox) (k : Option Bool) : ∀ (rest : List GBox) (i : Nat), rest.length = (x1.drop i).length → s_EqualFunc_l1 x1 (fun (z0 : GBox) (z1 : GBox) => i_Same1 z0 z1) k rest i = if rest = x1.drop i then k else some false
  | [], i, h => by
    have : x1.drop i = [] := List.eq_nil_of_length_eq_zero h.symm
    rw [this]; simp [s_EqualFunc_l1]
  | z :: r, i, h => by
    obtain ⟨y, t, ht⟩ : ∃ y t, x1.drop i = y :: t := by
      cases hd : x1.drop i with
      | nil => rw [hd] at h; simp at h
      | cons y t => exact ⟨y, t, rfl⟩
    obtain ⟨_, hy, hd⟩ := drop_cons ht
    have ih := equalB_go x1 k r (i + 1) (by rw [hd]; rw [ht] at h; simpa using h)
    simp only [s_EqualFunc_l1, idx_nat, hy, Option.bind_some]
    rw [same1_eq z y, ih, ht, hd]
    simp only [List.cons.injEq]
    by_cases e : z = y <;> simp [e]
theorem ipc_ext (x y : GIpc) : x = y ↔ x.fNames = y.fNames ∧ x.fBoxes = y.fBoxes := by cases x; cases y; simp
theorem rSame_eq (x y : GIpc) : r_Same x y = some (decide (x = y)) := by
  unfold r_Same letk
  by_cases h1 : x.fNames.length = y.fNames.length
  · have e1 : ((x.fNames.length : Int) != (y.fNames.length : Int)) = false := by simp; omega
    rw [e1]
    by_cases h2 : x.fBoxes.length = y.fBoxes.length
    · have e2 : ((x.fBoxes.length : Int) != (y.fBoxes.length : Int)) = false := by simp; omega
      rw [e2]
      simp only [cond_false]
      rw [sameN_go y _ _ 0 (by simpa using h1), sameB_go y _ _ 0 (by simpa using h2)]
      simp only [List.drop_zero, ipc_ext]
      by_cases e3 : x.fNames = y.fNames <;> by_cases e4 : x.fBoxes = y.fBoxes <;> simp [e3, e4]
    · have e2 : ((x.fBoxes.length : Int) != (y.fBoxes.length : Int)) = true := by simp; omega
      rw [e2]
      have : x ≠ y := fun e => h2 (by rw [e])
      simp [this]
  · have e1 : ((x.fNames.length : Int) != (y.fNames.length : Int)) = true := by simp; omega
    rw [e1]
    have : x ≠ y := fun e => h1 (by rw [e])
    simp [this]
theorem iSame_eq (x y : GIpc) : i_Same x y = some (decide (x = y)) := by
  have hN : s_EqualN x.fNames y.fNames = some (decide (x.fNames = y.fNames)) := by
    unfold s_EqualN letk
    by_cases h : x.fNames.length = y.fNames.length
    · have e : ((x.fNames.length : Int) != (y.fNames.length : Int)) = false := by simp; omega
      rw [e]
      simp only [cond_false]
      rw [equalN_go _ _ _ 0 (by simpa using h), List.drop_zero]
      by_cases e2 : x.fNames = y.fNames <;> simp [e2]
    · have e : ((x.fNames.length : Int) != (y.fNames.length : Int)) = true := by simp; omega
      rw [e]
      have : x.fNames ≠ y.fNames := fun e => h (by rw [e])
      simp [this]
  have hB : s_EqualFunc x.fBoxes y.fBoxes (fun (z0 : GBox) (z1 : GBox) => i_Same1 z0 z1) = some (decide (x.fBoxes = y.fBoxes)) := by
    unfold s_EqualFunc letk
    by_cases h : x.fBoxes.length = y.fBoxes.length
    · have e : ((x.fBoxes.length : Int) != (y.fBoxes.length : Int)) = false := by simp; omega
      rw [e]
      simp only [cond_false]
      rw [equalB_go _ _ _ 0 (by simpa using h), List.drop_zero]
      by_cases e2 : x.fBoxes = y.fBoxes <;> simp [e2]
    · have e : ((x.fBoxes.length : Int) != (y.fBoxes.length : Int)) = true := by simp; omega
      rw [e]
      have : x.fBoxes ≠ y.fBoxes := fun e => h (by rw [e])
      simp [this]
  unfold i_Same
  rw [hN, hB]
  simp only [Option.bind_some, ipc_ext]
  by_cases e3 : x.fNames = y.fNames <;> by_cases e4 : x.fBoxes = y.fBoxes <;> simp [e3, e4]
end Go.Proofs.Ytjdeaihnpgkphaa
