/-
  The plain laws: what the program's functions, as plain Lean functions, answer.
-/
import Derived.Test.YtbaffpifmfddeaaDoorGPlain
namespace Go.Proofs.YtbaffpifmfddeaaDoor
open Go.Dc

theorem wakes_10 : wakes 10 = some true := by decide +kernel
theorem cmp_u_eq (a b : Int) : cmp_u a b = if a < b then -1 else if b < a then 1 else 0 := by
  simp only [cmp_u, isNaN_u]
  by_cases h1 : a < b <;> by_cases h2 : b < a <;> simp [h1, h2]
theorem cmp_i_eq (a b : Int) : cmp_i a b = if a < b then -1 else if b < a then 1 else 0 := by
  simp only [cmp_i, isNaN_i]
  by_cases h1 : a < b <;> by_cases h2 : b < a <;> simp [h1, h2]
theorem d_compare_eq (a b : GDesc) : d_compare a b = if a.fPid < b.fPid then -1 else if b.fPid < a.fPid then 1 else if a.fFd < b.fFd then -1 else if b.fFd < a.fFd then 1 else 0 := by
  simp only [d_compare, cmp_or, letk, cmp_or_l1, cmp_u_eq, cmp_i_eq]
  by_cases h1 : a.fPid < b.fPid <;> by_cases h2 : b.fPid < a.fPid <;> by_cases h3 : a.fFd < b.fFd <;> by_cases h4 : b.fFd < a.fFd <;> simp [h1, h2, h3, h4]
theorem ahead_iff (a b : GDesc) : r_ahead a b = true ↔ (a.fPid < b.fPid ∨ a.fPid = b.fPid ∧ a.fFd < b.fFd) := by
  simp only [r_ahead]
  by_cases h1 : a.fPid < b.fPid <;> by_cases h2 : a.fPid = b.fPid <;> simp [h1, h2]
theorem compare_neg (a b : GDesc) : decide (d_compare a b ≥ 0) = !r_ahead a b := by
  rw [d_compare_eq]
  cases h : r_ahead a b with
  | true =>
    rcases (ahead_iff a b).1 h with h1 | ⟨h1, h2⟩
    · simp [h1]
    · have : ¬ a.fPid < b.fPid := by omega
      have : ¬ b.fPid < a.fPid := by omega
      simp [*]
  | false =>
    have h' : ¬ (a.fPid < b.fPid ∨ a.fPid = b.fPid ∧ a.fFd < b.fFd) := fun hh => by rw [(ahead_iff a b).2 hh] at h; cases h
    have h1 : ¬ a.fPid < b.fPid := fun h => h' (.inl h)
    by_cases h2 : b.fPid < a.fPid
    · simp [h1, h2]
    · have h3 : ¬ a.fFd < b.fFd := fun h => h' (.inr ⟨by omega, h⟩)
      by_cases h4 : b.fFd < a.fFd <;> simp [h1, h2, h3, h4]
theorem is_eq (d : GDesc) : d_is d = r_Is d := by
  simp only [d_is, r_Is]
  by_cases h1 : d.fPid < 4294967296 <;> by_cases h2 : d.fFd ≥ 0 <;> simp [h1, h2]
  omega

/-- may they be, one behind another? -/
def okFrom : Option GDesc → List GDesc → Bool
  | _, [] => true
  | p, z :: r => r_Is z && (match p with | none => true | some a => r_ahead a z) && okFrom (some z) r
def ok (l : List GDesc) : Bool := decide (l.length ≤ 64) && okFrom none l
theorem wrap_pred {i : Nat} (h : 0 < i) (hi : i ≤ maxLen) : IntKind.i64.wrap ((i : Int) - 1) = ((i - 1 : Nat) : Int) := by
  unfold maxLen at hi
  rw [IntWalk.i64_in]
  · omega
  · omega
theorem Check_l1 (x : List GDesc) (hx : x.length ≤ maxLen) (k : Option Int) : ∀ (l : List GDesc) (i : Nat), x.drop i = l → d_Check_l1 x k l i = if okFrom (if i = 0 then none else x[i - 1]?) l then k else some 330
  | [], i, _ => by simp [d_Check_l1, okFrom]
  | z :: r, i, h => by
    obtain ⟨h1, h2, h3⟩ := drop_cons h
    have ih := Check_l1 x hx k r (i + 1) h3
    simp only [d_Check_l1, is_eq]
    rw [ih]
    cases hz : r_Is z with
    | false => simp [okFrom, hz]
    | true =>
      by_cases hi : i = 0
      · subst hi
        simp [okFrom, hz, h2]
      · have hw := wrap_pred (i := i) (by omega) (by omega)
        obtain ⟨a, ha⟩ : ∃ a, x[i - 1]? = some a := ⟨_, List.getElem?_eq_getElem (by omega)⟩
        have hidx : idx x (IntKind.i64.wrap ((i : Int) - 1)) = some a := by rw [hw]; simp [idx, ha]
        have hpos : decide ((i : Int) > 0) = true := decide_eq_true (by omega)
        rw [hidx]
        simp only [hpos, Option.bind_some, compare_neg]
        cases har : r_ahead a z <;> simp [okFrom, hz, hi, ha, har, h2]
theorem Check_eq (x : List GDesc) : d_Check x = some (if ok x then 0 else 330) := by
  unfold d_Check ok
  by_cases h : x.length ≤ 64
  · have h' : decide ((x.length : Int) > 64) = false := decide_eq_false (by omega)
    simp only [h', cond_false, letk]
    rw [Check_l1 x (by unfold maxLen; omega) _ x 0 rfl]
    simp only [if_true, h, decide_true, Bool.true_and]
    split <;> rfl
  · have h' : decide ((x.length : Int) > 64) = true := decide_eq_true (by omega)
    simp [h', h]
theorem Right_l1 (x : List GDesc) (hx : x.length ≤ maxLen) (k : Option Bool) : ∀ (l : List GDesc) (i : Nat), x.drop i = l → r_Right_l1 x k l i = if okFrom (if i = 0 then none else x[i - 1]?) l then k else some false
  | [], i, _ => by simp [r_Right_l1, okFrom]
  | z :: r, i, h => by
    obtain ⟨h1, h2, h3⟩ := drop_cons h
    have ih := Right_l1 x hx k r (i + 1) h3
    simp only [r_Right_l1]
    rw [ih]
    cases hz : r_Is z with
    | false => simp [okFrom, hz]
    | true =>
      by_cases hi : i = 0
      · subst hi
        simp [okFrom, hz, h2]
      · have hw := wrap_pred (i := i) (by omega) (by omega)
        obtain ⟨a, ha⟩ : ∃ a, x[i - 1]? = some a := ⟨_, List.getElem?_eq_getElem (by omega)⟩
        have hidx : idx x (IntKind.i64.wrap ((i : Int) - 1)) = some a := by rw [hw]; simp [idx, ha]
        have hpos : decide ((i : Int) > 0) = true := decide_eq_true (by omega)
        rw [hidx]
        simp only [hpos, Option.bind_some]
        cases har : r_ahead a z <;> simp [okFrom, hz, hi, ha, har, h2]
theorem Right_eq (x : List GDesc) (hx : x.length ≤ maxLen) : r_Right x = some (ok x) := by
  unfold r_Right ok
  simp only [letk]
  rw [Right_l1 x hx _ x 0 rfl]
  simp only [if_true]
  cases okFrom none x <;> simp <;> omega
/-- memory is enough -/
theorem app_ok {α : Type} {b : Nat} {xs ys : List α} (h : (xs.length + ys.length) * b ≤ 140737488355328) : app b xs ys = some (xs ++ ys) := by
  unfold app; rw [if_pos h]
theorem Clone_eq (x : List GDesc) (h : x.length * 24 ≤ 140737488355328) : s_Clone x = some x := by
  unfold s_Clone
  rw [app_ok (by simpa using h)]
  rfl
theorem own_eq (x : List GDesc) : own x = some (x.take 70) := by
  unfold own
  have hm : (if (70 : Int) < (x.length : Int) then (70 : Int) else (x.length : Int)) = ((min 70 x.length : Nat) : Int) := by split <;> omega
  rw [hm]
  have hc : cutx x none (some ((min 70 x.length : Nat) : Int)) none = some (x.take 70) := by
    unfold cutx
    rw [if_pos (by simp; omega)]
    simp [List.take_eq_take_iff]
  rw [hc]
  simp only [Option.bind_some]
  rw [Clone_eq _ (by simp; omega)]
  rfl
theorem kept_l1 (p : GDesc → Bool) (k : List GDesc → Option (List GDesc)) : ∀ (l : List GDesc) (i : Nat) (a : List GDesc), (a.length + l.length) * 24 ≤ 140737488355328 → d_kept_l1 (fun z => some (p z)) k l i a = k (a ++ l.filter p)
  | [], i, a, _ => by simp [d_kept_l1]
  | z :: r, i, a, h => by
    simp only [d_kept_l1, Option.bind_some]
    cases hz : p z with
    | true =>
      simp only [cond_true]
      rw [app_ok (by simp at h ⊢; omega)]
      simp only [Option.bind_some]
      rw [kept_l1 p k r (i + 1) _ (by simp at h ⊢; omega)]
      simp [hz]
    | false =>
      simp only [cond_false]
      rw [kept_l1 p k r (i + 1) a (by simp at h ⊢; omega)]
      simp [hz]
theorem kept_eq (p : GDesc → Bool) (l : List GDesc) (h : l.length * 24 ≤ 140737488355328) : d_kept l (fun z => some (p z)) = some (l.filter p) := by
  unfold d_kept
  simp only [letk]
  rw [kept_l1 p _ l 0 [] (by simpa using h)]
  simp
theorem ok_len {x : List GDesc} (h : ok x = true) : x.length ≤ 64 := by
  unfold ok at h
  simp at h
  exact h.1
theorem of1_l1 (pid : Int) : ∀ (l : List GDesc) (i : Nat), d_of1_l1 pid l i = l.filter (fun d => d.fPid == pid)
  | [], _ => rfl
  | z :: r, i => by
    simp only [d_of1_l1]
    rw [of1_l1 pid r (i + 1)]
    cases h : z.fPid == pid <;> simp [h]
theorem of_eq (l : List GDesc) (pid : Int) : d_of l pid = l.filter (fun d => d.fPid == pid) := of1_l1 pid l 0
/-- what a process has open by a number -/
def find (l : List GDesc) (pid fd : Int) : Option GDesc := l.find? fun d => d.fPid == pid && d.fFd == fd
theorem Has_l1 (fd : Int) (k : Int → Bool → Option (Int × Bool)) (hk : ∀ a b, k a b = some (a, b)) : ∀ (l : List GDesc) (a : Int) (b : Bool), d_Has_l1 fd k l a b = some (match l.find? (fun d => d.fFd == fd) with | some d => (d.fWhat, true) | none => (0, false))
  | [], a, b => by simp [d_Has_l1]
  | z :: r, a, b => by
    simp only [d_Has_l1]
    rw [Has_l1 fd k hk r a b]
    cases h : z.fFd == fd <;> simp [h, hk]
theorem Has_eq (l : List GDesc) (pid fd : Int) : d_Has l pid fd = some (if ok l then (match find l pid fd with | some d => (d.fWhat, true) | none => (0, false)) else (0, false)) := by
  unfold d_Has
  rw [Check_eq]
  simp only [Option.bind_some]
  cases h : ok l with
  | false => simp
  | true =>
    simp only [if_true, bne_self_eq_false, cond_false, letk]
    rw [Has_l1 fd _ (fun _ _ => rfl), of_eq, List.find?_filter]
    have e : (fun a : GDesc => decide ((a.fPid == pid) = true ∧ (a.fFd == fd) = true)) = fun d => d.fPid == pid && d.fFd == fd := by
      funext a
      cases a.fPid == pid <;> cases a.fFd == fd <;> rfl
    rw [e]
    rfl
theorem Count_eq (l : List GDesc) (what : Int) : d_Count l what = some (if ok l then ((l.filter fun d => d.fWhat == what).length : Int) else 0) := by
  unfold d_Count
  rw [Check_eq]
  simp only [Option.bind_some]
  cases h : ok l with
  | false => simp
  | true =>
    have := ok_len h
    simp only [if_true, bne_self_eq_false, cond_false, Count1]
    rw [kept_eq _ _ (by omega)]
    rfl
theorem Drop_eq (l : List GDesc) (pid : Int) : d_Drop l pid = some (if ok l then (l.filter (fun d => d.fPid != pid), ((l.filter fun d => d.fPid == pid).length : Int)) else ([], 0)) := by
  unfold d_Drop
  rw [Check_eq]
  simp only [Option.bind_some]
  cases h : ok l with
  | false => simp
  | true =>
    have := ok_len h
    simp only [if_true, bne_self_eq_false, cond_false, Drop1]
    rw [kept_eq _ _ (by omega)]
    simp only [Option.bind_some, Option.some.injEq, Prod.mk.injEq, true_and]
    have hp : ∀ l : List GDesc, l.length = (l.filter fun d => d.fPid != pid).length + (l.filter fun d => d.fPid == pid).length := by
      intro l
      induction l with
      | nil => rfl
      | cons z r ih =>
        cases hz : z.fPid == pid <;> simp [List.filter_cons, hz, bne] at ih ⊢ <;> omega
    have := hp l
    rw [IntWalk.i64_in] <;> omega

/-! ### What may be, in order -/
theorem ahead_trans {a b c : GDesc} (h : r_ahead a b = true) (k : r_ahead b c = true) : r_ahead a c = true := by
  rw [ahead_iff] at *
  omega
theorem ahead_irrefl (a : GDesc) : r_ahead a a = false := by
  cases h : r_ahead a a with
  | false => rfl
  | true => rw [ahead_iff] at h; omega
theorem okFrom_iff : ∀ (l : List GDesc) (p : Option GDesc), okFrom p l = true ↔ ((∀ d ∈ l, r_Is d = true) ∧ l.Pairwise (fun a b => r_ahead a b = true) ∧ ∀ a, p = some a → ∀ d ∈ l, r_ahead a d = true)
  | [], p => by simp [okFrom]
  | z :: r, p => by
    have ih := okFrom_iff r (some z)
    simp only [okFrom, Bool.and_eq_true, ih, List.pairwise_cons, List.mem_cons]
    constructor
    · rintro ⟨⟨h1, h2⟩, h3, h4, h5⟩
      refine ⟨?_, ⟨fun d hd => h5 z rfl d hd, h4⟩, ?_⟩
      · rintro d (rfl | hd)
        · exact h1
        · exact h3 d hd
      · rintro a rfl d (rfl | hd)
        · exact h2
        · exact ahead_trans h2 (h5 z rfl d hd)
    · rintro ⟨h1, ⟨h2, h3⟩, h4⟩
      refine ⟨⟨h1 z (.inl rfl), ?_⟩, fun d hd => h1 d (.inr hd), h3, ?_⟩
      · cases p with
        | none => rfl
        | some a => exact h4 a rfl z (.inl rfl)
      · rintro a ha d hd
        cases ha
        exact h2 d hd
theorem ok_iff (l : List GDesc) : ok l = true ↔ l.length ≤ 64 ∧ (∀ d ∈ l, r_Is d = true) ∧ l.Pairwise (fun a b => r_ahead a b = true) := by
  unfold ok
  rw [Bool.and_eq_true, okFrom_iff]
  simp
theorem ok_filter {l : List GDesc} (h : ok l = true) (p : GDesc → Bool) : ok (l.filter p) = true := by
  rw [ok_iff] at *
  obtain ⟨h1, h2, h3⟩ := h
  exact ⟨Nat.le_trans (List.length_filter_le _ _) h1, fun d hd => h2 d (List.mem_filter.1 hd).1, h3.filter _⟩

/-! ### The search -/
theorem half {a b : Int} (h0 : 0 ≤ a) (h1 : a < b) (h2 : b ≤ 1000) : IntKind.i64.wrap ((IntKind.u64.wrap (IntKind.i64.wrap (a + b))).fdiv (2 ^ 1)) = (a + b) / 2 := by
  have e1 : IntKind.i64.wrap (a + b) = a + b := by rw [IntWalk.i64_in] <;> omega
  rw [e1]
  have e2 : IntKind.u64.wrap (a + b) = a + b := by
    rw [IntKind.wrap_u64]
    omega
  rw [e2]
  have e3 : (a + b).fdiv (2 ^ 1) = (a + b) / 2 := by
    rw [show ((2 : Int) ^ 1) = 2 from rfl, Int.fdiv_eq_ediv_of_nonneg _ (by omega)]
  rw [e3, IntWalk.i64_in] <;> omega
theorem search_l1 (x : List GDesc) (n : GDesc) (hx : x.length ≤ 64) (hs : x.Pairwise (fun a b => r_ahead a b = true)) (k : Int → Option (Int × Bool)) : ∀ (fl : Nat) (a b : Nat), a ≤ b → b ≤ x.length → b - a < 2 ^ fl →
    (∀ j d, j < a → x[j]? = some d → r_ahead d n = true) → (∀ j d, b ≤ j → x[j]? = some d → r_ahead d n = false) →
    ∃ i : Nat, i ≤ x.length ∧ (∀ j d, j < i → x[j]? = some d → r_ahead d n = true) ∧ (∀ j d, i ≤ j → x[j]? = some d → r_ahead d n = false) ∧ s_BinarySearchFunc_l1 x n (fun z0 z1 => some (d_compare z0 z1)) k (fl + 1) a b = k i
  | fl, a, b, hab, hb, hfl, h1, h2 => by
    simp only [s_BinarySearchFunc_l1]
    by_cases hlt : a < b
    · have hc : decide ((a : Int) < (b : Int)) = true := decide_eq_true (by omega)
      rw [hc]
      simp only [cond_true]
      have hh := half (a := a) (b := b) (by omega) (by omega) (by omega)
      rw [hh]
      have hm : ((a : Int) + b) / 2 = (((a + b) / 2 : Nat) : Int) := by omega
      rw [hm]
      obtain ⟨m, hmm⟩ : ∃ m, m = (a + b) / 2 := ⟨_, rfl⟩
      rw [← hmm]
      have hm1 : a ≤ m := by omega
      have hm2 : m < b := by omega
      obtain ⟨d, hd⟩ : ∃ d, x[m]? = some d := ⟨_, List.getElem?_eq_getElem (by omega)⟩
      have hidx : idx x (m : Int) = some d := by simp [idx, hd]
      rw [hidx]
      simp only [Option.bind_some]
      have hcmp : decide (d_compare d n < 0) = r_ahead d n := by
        have := compare_neg d n
        cases har : r_ahead d n <;> rw [har] at this <;> simp at this ⊢ <;> omega
      rw [hcmp]
      cases fl with
      | zero => simp at hfl; omega
      | succ fl =>
        have hp : 2 ^ (fl + 1) = 2 * 2 ^ fl := by rw [Nat.pow_succ]; omega
        cases har : r_ahead d n with
        | true =>
          simp only [cond_true]
          have hw : IntKind.i64.wrap ((m : Int) + 1) = ((m + 1 : Nat) : Int) := wrap_succ (n := 1000) (by omega) (by unfold maxLen; omega)
          rw [hw]
          refine search_l1 x n hx hs k fl (m + 1) b (by omega) hb (by omega) ?_ h2
          intro j e hj he
          by_cases hjm : j = m
          · subst hjm; rw [hd] at he; cases he; exact har
          · rcases Nat.lt_or_ge j a with h | h
            · exact h1 j e h he
            · -- between: it stands ahead of the middle one
              have hjl : j < x.length := by omega
              have hml : m < x.length := by omega
              have := List.pairwise_iff_getElem.1 hs j m hjl hml (by omega)
              rw [List.getElem?_eq_getElem hjl] at he
              rw [List.getElem?_eq_getElem hml] at hd
              cases he; cases hd
              exact ahead_trans this har
        | false =>
          simp only [cond_false]
          refine search_l1 x n hx hs k fl a m (by omega) (by omega) (by omega) h1 ?_
          intro j e hj he
          by_cases hjm : j = m
          · subst hjm; rw [hd] at he; cases he; exact har
          · have hjl : j < x.length := (List.getElem?_eq_some_iff.1 he).1
            have hml : m < x.length := by omega
            have h3 := List.pairwise_iff_getElem.1 hs m j hml hjl (by omega)
            rw [List.getElem?_eq_getElem hjl] at he
            rw [List.getElem?_eq_getElem hml] at hd
            cases he; cases hd
            cases hq : r_ahead x[j] n with
            | false => rfl
            | true => rw [ahead_trans h3 hq] at har; cases har
    · have hc : decide ((a : Int) < (b : Int)) = false := decide_eq_false (by omega)
      rw [hc]
      have : a = b := by omega
      subst this
      exact ⟨a, hb, h1, h2, rfl⟩
theorem search_eq (x : List GDesc) (n : GDesc) (h : ok x = true) : ∃ (i : Nat) (f : Bool), i ≤ x.length ∧ (∀ j d, j < i → x[j]? = some d → r_ahead d n = true) ∧ (∀ j d, i ≤ j → x[j]? = some d → r_ahead d n = false) ∧
    s_BinarySearchFunc 10 x n (fun z0 z1 => some (d_compare z0 z1)) = some ((i : Int), f) := by
  obtain ⟨h1, h2, h3⟩ := (ok_iff x).1 h
  unfold s_BinarySearchFunc
  simp only [letk]
  obtain ⟨i, hi, ha, hb, he⟩ := search_l1 x n h1 h3 (fun p11 => (bif (decide (p11 < (x.length : Int))) then ((idx x p11).bind fun y15 => ((some (d_compare y15 n)).bind fun y17 => some ((p11, (y17 == (0 : Int)))))) else some ((p11, false)))) 9 0 x.length (Nat.zero_le _) (Nat.le_refl _) (by omega) (fun j d hj => by omega) (fun j d hj hd => by
    have := (List.getElem?_eq_some_iff.1 hd).1; omega)
  by_cases hlt : i < x.length
  · obtain ⟨d, hd⟩ : ∃ d, x[i]? = some d := ⟨_, List.getElem?_eq_getElem hlt⟩
    refine ⟨i, d_compare d n == 0, hi, ha, hb, he.trans ?_⟩
    have hc : decide ((i : Int) < (x.length : Int)) = true := decide_eq_true (by omega)
    have hidx : idx x (i : Int) = some d := by simp [idx, hd]
    simp only [hc, hidx, cond_true, Option.bind_some]
  · refine ⟨i, false, hi, ha, hb, he.trans ?_⟩
    have hc : decide ((i : Int) < (x.length : Int)) = false := decide_eq_false (by omega)
    simp only [hc, cond_false]

/-! ### What is taken -/
theorem Index_l1 (k : Int) : ∀ (l : List Bool) (i : Nat), s_Index_l1 false k l i = match l.findIdx? (fun b => !b) with | some j => ((i + j : Nat) : Int) | none => k
  | [], i => rfl
  | z :: r, i => by
    simp only [s_Index_l1]
    rw [Index_l1 k r (i + 1), List.findIdx?_cons]
    cases z with
    | true =>
      simp
      cases r.findIdx? (fun b => !b) with
      | none => rfl
      | some j => exact congrArg (fun n : Nat => (n : Int)) (by omega : i + 1 + j = i + (j + 1))
    | false => simp
/-- the loop that marks what a process has open -/
def marks : List GDesc → List Bool → List Bool
  | [], t => t
  | z :: r, t => marks r (t.set z.fFd.toNat true)
theorem marks_len : ∀ (l : List GDesc) (t : List Bool), (marks l t).length = t.length
  | [], _ => rfl
  | z :: r, t => by simp [marks, marks_len r]
theorem marks_get : ∀ (l : List GDesc) (t : List Bool) (j : Nat), (∀ d ∈ l, 0 ≤ d.fFd) → (marks l t)[j]? = some false → t[j]? = some false ∧ ∀ d ∈ l, d.fFd ≠ j
  | [], t, j, _, h => ⟨h, fun d hd => by cases hd⟩
  | z :: r, t, j, h0, h => by
    obtain ⟨h1, h2⟩ := marks_get r _ j (fun d hd => h0 d (List.mem_cons_of_mem _ hd)) h
    rw [List.getElem?_set] at h1
    by_cases hj : z.fFd.toNat = j
    · rw [if_pos hj] at h1
      split at h1 <;> cases h1
    · rw [if_neg hj] at h1
      refine ⟨h1, fun d hd => ?_⟩
      rcases List.mem_cons.1 hd with rfl | hd
      · have := h0 d (List.mem_cons_self)
        omega
      · exact h2 d hd
theorem Open_l1 (l : List GDesc) (pid what : Int) (fuel : Nat) : ∀ (ds : List GDesc) (t : List Bool), t.length = 8 → (∀ d ∈ ds, r_Is d = true) → d_Open_l1 l pid what fuel ds t = d_Open_l1 l pid what fuel [] (marks ds t)
  | [], t, _, _ => rfl
  | z :: r, t, ht, h => by
    have hz := h z (List.mem_cons_self)
    have hb : 0 ≤ z.fFd ∧ z.fFd ≤ 7 := by
      simp only [r_Is] at hz
      by_cases h1 : z.fPid < 4294967296 <;> by_cases h2 : z.fFd ≥ 0 <;> simp [h1, h2] at hz
      exact ⟨h2, hz⟩
    have hidx : idx t z.fFd = some (t[z.fFd.toNat]'(by omega)) := by
      unfold idx
      rw [if_pos hb.1, List.getElem?_eq_getElem]
    rw [show d_Open_l1 l pid what fuel (z :: r) t = (idx t z.fFd).bind fun _ => d_Open_l1 l pid what fuel r (t.set z.fFd.toNat true) from rfl, hidx]
    simp only [Option.bind_some]
    rw [Open_l1 l pid what fuel r _ (by simpa using ht) (fun d hd => h d (List.mem_cons_of_mem _ hd))]
    rfl
/-- one with another put in where it belongs -/
structure Put (l : List GDesc) (n : GDesc) (m : List GDesc) : Prop where
  ex : ∃ i, i ≤ l.length ∧ m = l.take i ++ [n] ++ l.drop i
  ok : ok m = true
theorem is_bounds {d : GDesc} (h : r_Is d = true) : d.fPid < 4294967296 ∧ 0 ≤ d.fFd ∧ d.fFd ≤ 7 := by
  simp only [r_Is] at h
  by_cases h1 : d.fPid < 4294967296 <;> by_cases h2 : d.fFd ≥ 0 <;> simp [h1, h2] at h
  exact ⟨h1, h2, h⟩
theorem is_of {d : GDesc} (h1 : d.fPid < 4294967296) (h2 : 0 ≤ d.fFd) (h3 : d.fFd ≤ 7) : r_Is d = true := by
  simp [r_Is, h1, h2, h3]
theorem Open_eq (l : List GDesc) (pid what : Int) (h : ok l = true) (hp : pid < 4294967296) :
    d_Open 10 l pid what = some ([], 0, 6) ∨ ∃ fd m, d_Open 10 l pid what = some (m, fd, 0) ∧ (0 ≤ fd ∧ fd ≤ 7) ∧ (∀ d ∈ l, ¬ (d.fPid = pid ∧ d.fFd = fd)) ∧ Put l ⟨pid, fd, what⟩ m := by
  obtain ⟨hl, hi, hs⟩ := (ok_iff l).1 h
  unfold d_Open
  rw [Check_eq, h]
  have hpd : decide (pid ≥ 4294967296) = false := decide_eq_false (by omega)
  simp only [if_true, Option.bind_some, bne_self_eq_false, cond_false, hpd]
  rw [of_eq, Open_l1 _ _ _ _ _ _ (by simp) (fun d hd => hi d (List.mem_filter.1 hd).1)]
  obtain ⟨t, ht⟩ : ∃ t, t = marks (l.filter fun d => d.fPid == pid) (List.replicate 8 false) := ⟨_, rfl⟩
  rw [← ht]
  have htl : t.length = 8 := by rw [ht, marks_len]; simp
  simp only [d_Open_l1, s_Index, letk, Index_l1]
  cases hf : t.findIdx? (fun b => !b) with
  | none => left; simp
  | some j =>
    obtain ⟨hjl, hjv, _⟩ := List.findIdx?_eq_some_iff_getElem.1 hf
    have hjf : t[j]? = some false := by rw [List.getElem?_eq_getElem hjl]; simpa using hjv
    have hfree := (marks_get (l.filter fun d => d.fPid == pid) (List.replicate 8 false) j (fun d hd => (is_bounds (hi d (List.mem_filter.1 hd).1)).2.1) (by rw [← ht]; exact hjf)).2
    have hneg : decide ((((0 + j : Nat) : Int)) < 0) = false := decide_eq_false (by omega)
    simp only [hneg, cond_false]
    by_cases h64 : l.length = 64
    · left; simp [h64]
    · right
      have h64' : ((l.length : Int) == 64) = false := by simp; omega
      simp only [h64', cond_false]
      have hmk : mkL 24 (l.length : Int) (l.length : Int) (GDesc.mk 0 0 0) = some (List.replicate l.length (GDesc.mk 0 0 0)) := by
        unfold mkL
        rw [if_pos (by omega)]
        simp
      have hcp : cpy (List.replicate l.length (GDesc.mk 0 0 0)) l = l := by simp [cpy]
      obtain ⟨i, f, hil, ha, hb, he⟩ := search_eq l ⟨pid, ((0 + j : Nat) : Int), what⟩ h
      rw [hmk]
      simp only [Option.bind_some, hcp]
      rw [he]
      simp only [Option.bind_some, insDesc]
      have hins : insL 24 l (i : Int) [⟨pid, ((0 + j : Nat) : Int), what⟩] = some (l.take i ++ [⟨pid, ((0 + j : Nat) : Int), what⟩] ++ l.drop i) := by
        unfold insL
        rw [if_pos ⟨by omega, by omega, by simp; omega⟩]
        simp
      rw [hins]
      have hnone : ∀ d ∈ l, ¬ (d.fPid = pid ∧ d.fFd = ((0 + j : Nat) : Int)) := fun d hd ⟨e1, e2⟩ => by
        refine hfree d (List.mem_filter.2 ⟨hd, by simpa using e1⟩) (by omega)
      refine ⟨_, _, rfl, ⟨by omega, by omega⟩, hnone, ⟨⟨i, hil, rfl⟩, ?_⟩⟩
      rw [ok_iff]
      have hahead : ∀ d ∈ l.drop i, r_ahead ⟨pid, ((0 + j : Nat) : Int), what⟩ d = true := fun d hd => by
        obtain ⟨q, hq⟩ := List.mem_iff_getElem?.1 hd
        rw [List.getElem?_drop] at hq
        have h1 := hb (i + q) d (by omega) hq
        have h2 : ¬ (d.fPid < pid ∨ d.fPid = pid ∧ d.fFd < ((0 + j : Nat) : Int)) := fun hh => by
          rw [(ahead_iff d ⟨pid, ((0 + j : Nat) : Int), what⟩).2 hh] at h1; cases h1
        have h3 := hnone d (List.mem_of_mem_drop hd)
        rw [ahead_iff]
        simp only
        omega
      have hbefore : ∀ d ∈ l.take i, r_ahead d ⟨pid, ((0 + j : Nat) : Int), what⟩ = true := fun d hd => by
        obtain ⟨q, hq⟩ := List.mem_iff_getElem?.1 hd
        rw [List.getElem?_take] at hq
        split at hq
        · exact ha q d (by omega) hq
        · cases hq
      refine ⟨by simp; omega, ?_, ?_⟩
      · intro d hd
        simp only [List.mem_append, List.mem_singleton] at hd
        rcases hd with (hd | rfl) | hd
        · exact hi d (List.mem_of_mem_take hd)
        · exact is_of hp (by simp only; omega) (by simp only; omega)
        · exact hi d (List.mem_of_mem_drop hd)
      · rw [List.append_assoc, List.pairwise_append]
        refine ⟨hs.sublist (List.take_sublist _ _), ?_, ?_⟩
        · rw [List.singleton_append, List.pairwise_cons]
          exact ⟨hahead, hs.sublist (List.drop_sublist _ _)⟩
        · intro a ha' b hb'
          rcases List.mem_append.1 hb' with hb' | hb'
          · rw [List.mem_singleton] at hb'
            subst hb'
            exact hbefore a ha'
          · exact ahead_trans (hbefore a ha') (hahead b hb')

theorem eq_iff (a b : GDesc) : eqGDesc a b = true ↔ a = b := by
  cases a; cases b
  simp [eqGDesc, and_assoc]
theorem eq_eq (a b : GDesc) : eqGDesc a b = decide (a = b) := by
  cases h : eqGDesc a b with
  | true => simp [(eq_iff a b).1 h]
  | false =>
    symm
    rw [decide_eq_false_iff_not]
    intro e
    rw [(eq_iff a b).2 e] at h
    cases h
theorem Close_eq (l : List GDesc) (pid fd : Int) (h : ok l = true) : d_Close l pid [fd] = some (match find l pid fd with | some d => (l.filter (fun z => !eqGDesc z d), 0) | none => ([], 4)) := by
  have hl := ok_len h
  unfold d_Close
  rw [Check_eq, h, Clone_eq _ (by omega)]
  simp only [if_true, Option.bind_some, bne_self_eq_false, cond_false, letk, d_Close_l1]
  rw [Has_eq, h]
  simp only [if_true, Option.bind_some]
  cases hf : find l pid fd with
  | none => rfl
  | some d =>
    have hd := List.find?_some hf
    simp only [Bool.and_eq_true, beq_iff_eq] at hd
    have e : GDesc.mk pid fd d.fWhat = d := by cases d; simp_all
    simp only [Bool.not_true, cond_false, e]
    rw [show (fun z0 : GDesc => some (Close1 z0 d)) = fun z0 => some (!eqGDesc z0 d) from rfl, kept_eq _ _ (by omega)]
    rfl
theorem Dup_eq (l : List GDesc) (pid fd : Int) (h : ok l = true) :
    (∃ e : Int, e ≠ 0 ∧ d_Dup 10 l pid fd = some ([], 0, e)) ∨ ∃ fd' what m, d_Dup 10 l pid fd = some (m, fd', 0) ∧ (0 ≤ fd' ∧ fd' ≤ 7) ∧ (∀ d ∈ l, ¬ (d.fPid = pid ∧ d.fFd = fd')) ∧ Put l ⟨pid, fd', what⟩ m := by
  unfold d_Dup
  rw [Check_eq, h]
  simp only [if_true, Option.bind_some, bne_self_eq_false, cond_false]
  by_cases hp : pid < 4294967296
  · have hpd : decide (pid ≥ 4294967296) = false := decide_eq_false (by omega)
    simp only [hpd, cond_false]
    rw [Has_eq, h]
    simp only [if_true, Option.bind_some]
    cases hf : find l pid fd with
    | none => exact .inl ⟨4, by decide, rfl⟩
    | some d =>
      simp only [Bool.not_true, cond_false]
      rcases Open_eq l pid d.fWhat h hp with ho | ⟨fd', m, ho, h1, h2, h3⟩
      · rw [ho]; exact .inl ⟨6, by decide, rfl⟩
      · rw [ho]; exact .inr ⟨fd', d.fWhat, m, rfl, h1, h2, h3⟩
  · have hpd : decide (pid ≥ 4294967296) = true := decide_eq_true (by omega)
    simp only [hpd, cond_true]
    exact .inl ⟨2, by decide, rfl⟩
theorem Open_eq' (l : List GDesc) (pid what : Int) (h : ok l = true) :
    (∃ e : Int, e ≠ 0 ∧ d_Open 10 l pid what = some ([], 0, e)) ∨ ∃ fd' what' m, d_Open 10 l pid what = some (m, fd', 0) ∧ (0 ≤ fd' ∧ fd' ≤ 7) ∧ (∀ d ∈ l, ¬ (d.fPid = pid ∧ d.fFd = fd')) ∧ Put l ⟨pid, fd', what'⟩ m := by
  by_cases hp : pid < 4294967296
  · rcases Open_eq l pid what h hp with ho | ⟨fd', m, ho, h1, h2, h3⟩
    · exact .inl ⟨6, by decide, ho⟩
    · exact .inr ⟨fd', what, m, ho, h1, h2, h3⟩
  · refine .inl ⟨2, by decide, ?_⟩
    unfold d_Open
    rw [Check_eq, h]
    have hpd : decide (pid ≥ 4294967296) = true := decide_eq_true (by omega)
    simp only [if_true, Option.bind_some, bne_self_eq_false, cond_false, hpd, cond_true]
theorem Equal_l1 (k : Option Bool) (y : List GDesc) : ∀ (l : List GDesc) (i : Nat), y.drop i = l → s_Equal_l1 y k l i = k
  | [], i, _ => by simp [s_Equal_l1]
  | z :: r, i, h => by
    obtain ⟨h1, h2, h3⟩ := drop_cons h
    have hidx : idx y (i : Int) = some z := by simp [idx, h2]
    simp only [s_Equal_l1, hidx, Option.bind_some, (eq_iff z z).2 rfl, Bool.not_true, cond_false]
    exact Equal_l1 k y r (i + 1) h3
theorem Equal_self (l : List GDesc) : s_Equal l l = some true := by
  unfold s_Equal
  simp only [bne_self_eq_false, cond_false, letk]
  exact Equal_l1 _ l l 0 rfl
theorem put_others {l m : List GDesc} {n : GDesc} (h : Put l n m) (p : GDesc → Bool) (hn : p n = false) : m.filter p = l.filter p := by
  obtain ⟨i, hi, rfl⟩ := h.ex
  rw [List.filter_append, List.filter_append]
  simp only [List.filter_cons, hn, List.filter_nil]
  simp only [Bool.false_eq_true, if_false, List.append_nil]
  rw [← List.filter_append, List.take_append_drop]
theorem put_mine {l m : List GDesc} {n : GDesc} (h : Put l n m) (p : GDesc → Bool) (hn : p n = true) : (m.filter p).length = (l.filter p).length + 1 := by
  obtain ⟨i, hi, rfl⟩ := h.ex
  have : (l.filter p).length = ((l.take i).filter p).length + ((l.drop i).filter p).length := by
    rw [← List.length_append, ← List.filter_append, List.take_append_drop]
  rw [List.filter_append, List.filter_append]
  simp only [List.filter_cons, hn, List.filter_nil, if_true, List.length_append, List.length_cons, List.length_nil]
  omega
theorem filter_one {l : List GDesc} (hs : l.Pairwise (fun a b => r_ahead a b = true)) {d : GDesc} (hd : d ∈ l) (p : GDesc → Bool) : ((l.filter (fun z => !eqGDesc z d)).filter p).length + (if p d then 1 else 0) = (l.filter p).length := by
  induction l with
  | nil => cases hd
  | cons z r ih =>
    rw [List.pairwise_cons] at hs
    rcases List.mem_cons.1 hd with rfl | hd'
    · have hr : r.filter (fun z => !eqGDesc z d) = r := by
        rw [List.filter_eq_self]
        intro a ha
        rw [eq_eq]
        have := hs.1 a ha
        simp
        rintro rfl
        rw [ahead_irrefl] at this
        cases this
      simp only [List.filter_cons, (eq_iff d d).2 rfl, Bool.not_true, Bool.false_eq_true, if_false, hr]
      cases p d <;> simp
    · have hne : eqGDesc z d = false := by
        rw [eq_eq]
        simp
        rintro rfl
        have := hs.1 _ hd'
        rw [ahead_irrefl] at this
        cases this
      have := ih hs.2 hd'
      simp only [List.filter_cons, hne, Bool.not_false, if_true]
      cases hp : p z with
      | true => simp only [if_true, List.length_cons]; omega
      | false => simp only [Bool.false_eq_true, if_false]; exact this
theorem len_le (l : List GDesc) (p : GDesc → Bool) : (l.filter p).length ≤ l.length := List.length_filter_le _ _
theorem Apart_step (k : Option Bool) (z : GDesc) (rest : List GDesc) (i : Nat) (l : List GDesc) (h : ok l = true) (ih : ∀ m, ok m = true → l_Apart_l1 k 10 rest (i + 1) m = some true) (hk : k = some true) : l_Apart_l1 k 10 (z :: rest) i l = some true := by
  have hl := ok_len h
  obtain ⟨_, _, hs⟩ := (ok_iff l).1 h
  simp only [l_Apart_l1]
  by_cases h20 : ((i : Int) == 20) = true
  · rw [h20]; simpa using hk
  · simp only [Bool.not_eq_true] at h20
    rw [h20]
    simp only [cond_false]
    rw [Drop_eq, h]
    simp only [if_true, Option.bind_some, letk]
    -- what follows a change
    have fin : ∀ (m : List GDesc) (more : Int), ok m = true → m.filter (fun d => d.fPid != z.fPid) = l.filter (fun d => d.fPid != z.fPid) → ((m.filter fun d => d.fPid == z.fPid).length : Int) = ((l.filter fun d => d.fPid == z.fPid).length : Int) + more →
        (((d_Drop m z.fPid).bind fun y85 => ((s_Equal y85.1 (l.filter (fun d => d.fPid != z.fPid))).bind fun y95 => (bif (!y95) then some (false) else (bif (y85.2 != (IntKind.i64.wrap (((l.filter fun d => d.fPid == z.fPid).length : Int) + more))) then some (false) else ((d_Check m).bind fun y103 => (bif (y103 != (0 : Int)) then some (false) else (l_Apart_l1 k 10 rest (i + 1) m))))))) : Option Bool) = some true := by
      intro m more hm h1 h2
      have hml := ok_len hm
      have hml2 := len_le m fun d => d.fPid == z.fPid
      rw [Drop_eq, hm]
      simp only [if_true, Option.bind_some]
      rw [h1, Equal_self]
      simp only [Option.bind_some, Bool.not_true, cond_false]
      have hw : IntKind.i64.wrap ((m.filter fun d => d.fPid == z.fPid).length : Int) = ((m.filter fun d => d.fPid == z.fPid).length : Int) := by rw [IntWalk.i64_in] <;> omega
      rw [← h2, hw]
      simp only [bne_self_eq_false, cond_false]
      rw [Check_eq, hm]
      simp only [if_true, Option.bind_some, bne_self_eq_false, cond_false]
      exact ih m hm
    have bad : ∀ e : Int, e ≠ 0 → (e != 0) = true := fun e he => by simpa using he
    by_cases c0 : (z.fWhat.tmod 3 == 0) = true
    · rw [c0]
      simp only [cond_true]
      rcases Open_eq' l z.fPid z.fWhat h with ⟨e, he, ho⟩ | ⟨fd, what, m, ho, _, _, hput⟩
      · rw [ho]
        simp only [Option.bind_some, bad e he, cond_true]
        simpa using ih l h
      · rw [ho]
        simp only [Option.bind_some, bne_self_eq_false, cond_false]
        exact fin m 1 hput.ok (put_others hput _ (by simp)) (by have := put_mine hput (fun d => d.fPid == z.fPid) (by simp); omega)
    · simp only [Bool.not_eq_true] at c0
      rw [c0]
      simp only [cond_false]
      by_cases c1 : (z.fWhat.tmod 3 == 1) = true
      · rw [c1]
        simp only [cond_true]
        rcases Dup_eq l z.fPid z.fFd h with ⟨e, he, ho⟩ | ⟨fd, what, m, ho, _, _, hput⟩
        · rw [ho]
          simp only [Option.bind_some, bad e he, cond_true]
          simpa using ih l h
        · rw [ho]
          simp only [Option.bind_some, bne_self_eq_false, cond_false]
          exact fin m 1 hput.ok (put_others hput _ (by simp)) (by have := put_mine hput (fun d => d.fPid == z.fPid) (by simp); omega)
      · simp only [Bool.not_eq_true] at c1
        rw [c1]
        simp only [cond_false]
        rw [Close_eq l _ _ h]
        cases hf : find l z.fPid z.fFd with
        | none =>
          simp only [Option.bind_some, bad 4 (by decide), cond_true]
          simpa using ih l h
        | some d =>
          have hd := List.find?_some hf
          have hdm := List.mem_of_find?_eq_some hf
          simp only [Bool.and_eq_true, beq_iff_eq] at hd
          simp only [Option.bind_some, bne_self_eq_false, cond_false]
          refine fin _ (-1) (ok_filter h _) ?_ ?_
          · rw [List.filter_filter]
            apply List.filter_congr
            intro a _
            cases hq : eqGDesc a d with
            | false => simp
            | true => rw [(eq_iff a d).1 hq]; simp [hd.1]
          · have := filter_one hs hdm fun d => d.fPid == z.fPid
            simp only [hd.1, beq_self_eq_true, if_true] at this
            omega
theorem Apart_l1 (k : Option Bool) (hk : k = some true) : ∀ (steps : List GDesc) (i : Nat) (l : List GDesc), ok l = true → l_Apart_l1 k 10 steps i l = some true
  | [], i, l, _ => by simp [l_Apart_l1, hk]
  | z :: r, i, l, h => Apart_step k z r i l h (fun m hm => Apart_l1 k hk r (i + 1) m hm) hk
theorem Apart_true (x steps : List GDesc) : l_Apart 10 x steps = some true := by
  unfold l_Apart
  rw [wakes_10, own_eq]
  simp only [Option.bind_some, Bool.not_true, cond_false]
  rw [Check_eq]
  simp only [Option.bind_some]
  cases h : ok (x.take 70) with
  | false => rfl
  | true =>
    simp only [if_true, bne_self_eq_false, cond_false, letk]
    exact Apart_l1 _ rfl steps 0 _ h
end Go.Proofs.YtbaffpifmfddeaaDoor
