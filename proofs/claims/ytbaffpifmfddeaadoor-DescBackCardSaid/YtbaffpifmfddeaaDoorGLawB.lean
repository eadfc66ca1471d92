/-
  The plain laws of keys, and of the statements DescTells and DescBack.
-/
import Derived.Test.YtbaffpifmfddeaaDoorGLaw
import Derived.Laws.Bits64b
namespace Go.Proofs.YtbaffpifmfddeaaDoor
open Go.Dc

theorem mask1 : mask (GBitsField.mk ⟨3, 32⟩) = some 34359738360 := by decide +kernel
theorem mask2 : mask (GBitsField.mk ⟨0, 3⟩) = some 7 := by decide +kernel
theorem ones1 : ones 32 = some 4294967295 := by decide +kernel
theorem ones2 : ones 3 = some 7 := by decide +kernel
theorem check1 : b_Check [⟨3, 32⟩] = some 0 := by decide +kernel
theorem check2 : b_Check [⟨0, 3⟩] = some 0 := by decide +kernel
theorem checkp : b_Check g_parts = some 0 := by decide +kernel
theorem ofInt_nat (a : Nat) (ha : a < 18446744073709551616) : (BitVec.ofInt 64 (a : Int)).toNat = a := by
  rw [BitVec.ofInt_natCast, BitVec.toNat_ofNat]; exact Nat.mod_eq_of_lt (by omega)
theorem andNot_zero (m : Int) : bits .andNot .u64 0 m = 0 := by
  show IntKind.u64.wrap ((BitVec.ofInt 64 (0 : Int) &&& ~~~BitVec.ofInt 64 m).toNat : Int) = 0
  have : BitVec.ofInt 64 (0 : Int) = 0#64 := rfl
  rw [this, BitVec.zero_and]
  rfl
theorem andNot_seven (p : Nat) (hp : p < 4294967296) : bits .andNot .u64 ((8 * p : Nat) : Int) 7 = ((8 * p : Nat) : Int) := by
  show IntKind.u64.wrap ((BitVec.ofInt 64 ((8 * p : Nat) : Int) &&& ~~~BitVec.ofInt 64 7).toNat : Int) = _
  have e : BitVec.ofInt 64 ((8 * p : Nat) : Int) &&& ~~~BitVec.ofInt 64 7 = BitVec.ofInt 64 ((8 * p : Nat) : Int) := by
    apply BitVec.eq_of_getLsbD_eq
    intro i hi
    have h7 : BitVec.ofInt 64 7 = 7#64 := rfl
    simp only [BitVec.getLsbD_and, BitVec.getLsbD_not, h7, BitVec.ofInt_natCast, BitVec.getLsbD_ofNat, hi, decide_true, Bool.true_and]
    by_cases h3 : i < 3
    · have : (8 * p).testBit i = false := by
        rw [show 8 * p = 2 ^ 3 * p by omega, Nat.testBit_two_pow_mul]
        simp; omega
      simp [this]
    · have : (7 : Nat).testBit i = false := Nat.testBit_lt_two_pow (Nat.lt_of_lt_of_le (by omega : 7 < 2 ^ 3) (Nat.pow_le_pow_right (by omega) (by omega)))
      simp [this]
  rw [e, ofInt_nat _ (by omega), IntKind.wrap_u64]
  omega
theorem or_low (p f : Nat) (hp : p < 4294967296) (hf : f < 8) : bits .or .u64 ((8 * p : Nat) : Int) (f : Int) = ((8 * p + f : Nat) : Int) := by
  rw [bits_or_u64_nat _ _ (by omega) (by omega)]
  have := Nat.two_pow_add_eq_or_of_lt (i := 3) (b := f) (by omega) p
  rw [show 2 ^ 3 * p = 8 * p by omega] at this
  rw [this]
theorem zero_or (x : Nat) (h : x < 18446744073709551616) : bits .or .u64 0 (x : Int) = (x : Int) := by
  have := bits_or_u64_nat 0 x (by omega) h
  simpa using this
theorem shl_at (x k : Nat) (hk : k ≤ 3) (hx : x < 4294967296) : shlO .u64 (x : Int) (k : Int) = some ((x * 2 ^ k : Nat) : Int) := by
  unfold shlO
  rw [if_neg (by omega)]
  have h64 : IntKind.u64.bits = 64 := rfl
  have hm : min (k : Int).toNat IntKind.u64.bits = k := by rw [h64, Int.toNat_natCast]; omega
  have hp : 2 ^ k ≤ 2 ^ 3 := Nat.pow_le_pow_right (by omega) hk
  have hxx : x * 2 ^ k ≤ x * 8 := Nat.mul_le_mul_left _ hp
  have hc : (x : Int) * 2 ^ k = ((x * 2 ^ k : Nat) : Int) := by simp
  rw [hm, IntKind.wrap_u64, hc]
  generalize x * 2 ^ k = y at *
  simp only [Option.some.injEq]
  omega
theorem Set1 (p : Nat) (hp : p < 4294967296) : b_Set 0 ⟨3, 32⟩ (p : Int) = some (((8 * p : Nat) : Int), 0) := by
  unfold b_Set
  have hd : decide ((p : Int) > 4294967295) = false := decide_eq_false (by omega)
  have hs := shl_at p 3 (by omega) hp
  simp only [check1, ones1, mask1, Option.bind_some, bne_self_eq_false, cond_false, hd]
  rw [show ((3 : Nat) : Int) = 3 from rfl] at hs
  rw [hs]
  simp only [Option.bind_some, andNot_zero]
  rw [zero_or _ (by omega), show p * 2 ^ 3 = 8 * p by omega]
theorem Set2 (p f : Nat) (hp : p < 4294967296) (hf : f < 8) : b_Set ((8 * p : Nat) : Int) ⟨0, 3⟩ (f : Int) = some (((8 * p + f : Nat) : Int), 0) := by
  unfold b_Set
  have hd : decide ((f : Int) > 7) = false := decide_eq_false (by omega)
  have hs := shl_at f 0 (by omega) (by omega)
  simp only [check2, ones2, mask2, Option.bind_some, bne_self_eq_false, cond_false, hd]
  rw [show ((0 : Nat) : Int) = 0 from rfl] at hs
  rw [hs]
  simp only [Option.bind_some]
  rw [andNot_seven _ hp, show f * 2 ^ 0 = f by omega, or_low _ _ hp hf]
theorem Key_eq (d : GDesc) (h0 : 0 ≤ d.fPid) : d_Key d = some (if r_Is d then (8 * d.fPid + d.fFd, 0) else (0, 2)) := by
  unfold d_Key
  rw [is_eq]
  cases h : r_Is d with
  | false => simp
  | true =>
    obtain ⟨h1, h2, h3⟩ := is_bounds h
    obtain ⟨p, hp⟩ : ∃ p : Nat, d.fPid = p := ⟨d.fPid.toNat, by omega⟩
    obtain ⟨f, hf⟩ : ∃ f : Nat, d.fFd = f := ⟨d.fFd.toNat, by omega⟩
    have hw : IntKind.u64.wrap (f : Int) = f := by rw [IntKind.wrap_u64]; omega
    rw [hp] at h1
    rw [hf] at h2 h3
    simp only [Bool.not_true, cond_false, hp, hf, hw, if_true]
    unfold b_Pack
    simp only [checkp, Option.bind_some, bne_self_eq_false, cond_false, letk, g_parts, List.length_cons, List.length_nil, b_Pack_l1]
    have hi0 : idx ([(p : Int), (f : Int)]) ((0 : Nat) : Int) = some (p : Int) := rfl
    have hi1 : idx ([(p : Int), (f : Int)]) ((0 + 1 : Nat) : Int) = some (f : Int) := rfl
    simp only [hi0, hi1, Option.bind_some]
    rw [Set1 p (by omega)]
    simp only [Option.bind_some, bne_self_eq_false, cond_false]
    rw [Set2 p f (by omega) (by omega)]
    simp only [Option.bind_some, bne_self_eq_false, cond_false]
    congr 2
theorem rKey_eq (d : GDesc) (h0 : 0 ≤ d.fPid) (h : r_Is d = true) : r_Key d = 8 * d.fPid + d.fFd := by
  obtain ⟨h1, h2, h3⟩ := is_bounds h
  unfold r_Key
  rw [IntKind.wrap_u64, IntKind.wrap_u64, IntKind.wrap_u64]
  omega
theorem get1 (w : Nat) (hw : w < 18446744073709551616) : f_get (GBitsField.mk ⟨3, 32⟩) (w : Int) = some ((w / 8 % 4294967296 : Nat) : Int) := by
  unfold f_get
  rw [mask1]
  simp only [Option.bind_some]
  have hb := bits_and_u64_nat w 34359738360 hw (by omega)
  have hb' : bits .and .u64 (w : Int) 34359738360 = ((w &&& 34359738360 : Nat) : Int) := hb
  rw [hb']
  unfold shrO
  rw [if_neg (by omega)]
  have hm : min (3 : Int).toNat IntKind.u64.bits = 3 := rfl
  rw [hm]
  simp only [Option.bind_some, Option.some.injEq]
  rw [show ((2 : Int) ^ 3) = ((8 : Nat) : Int) from rfl]
  rw [Int.fdiv_eq_ediv_of_nonneg _ (by omega), ← Int.natCast_ediv]
  have e : (w &&& 34359738360) / 8 = w / 8 % 4294967296 := by
    have := Nat.shiftRight_and_distrib (a := w) (b := 34359738360) (i := 3)
    simp only [Nat.shiftRight_eq_div_pow] at this
    rw [show (34359738360 : Nat) / 2 ^ 3 = 2 ^ 32 - 1 from rfl, Nat.and_two_pow_sub_one_eq_mod] at this
    exact this
  rw [e]
theorem get2 (w : Nat) (hw : w < 18446744073709551616) : f_get (GBitsField.mk ⟨0, 3⟩) (w : Int) = some ((w % 8 : Nat) : Int) := by
  unfold f_get
  rw [mask2]
  simp only [Option.bind_some]
  have hb := bits_and_u64_nat w 7 hw (by omega)
  have hb' : bits .and .u64 (w : Int) 7 = ((w &&& 7 : Nat) : Int) := hb
  rw [hb']
  unfold shrO
  rw [if_neg (by omega)]
  have hm : min (0 : Int).toNat IntKind.u64.bits = 0 := rfl
  rw [hm]
  simp only [Option.bind_some, Option.some.injEq]
  rw [show ((2 : Int) ^ 0) = 1 from rfl, Int.fdiv_one]
  have := Nat.and_two_pow_sub_one_eq_mod w 3
  rw [show (7 : Nat) = 2 ^ 3 - 1 from rfl, this]
theorem Split_eq (w : Nat) (hw : w < 18446744073709551616) : b_Split (w : Int) g_parts = some ([((w / 8 % 4294967296 : Nat) : Int), ((w % 8 : Nat) : Int)], 0) := by
  unfold b_Split
  rw [checkp]
  simp only [Option.bind_some, bne_self_eq_false, cond_false, letk, g_parts, b_Split_l1]
  rw [get1 w hw, get2 w hw]
  simp only [Option.bind_some]
  rw [app_ok (by simp)]
  simp only [Option.bind_some]
  rw [app_ok (by simp)]
  simp
theorem idx0 {α : Type} (a : α) (l : List α) : idx (a :: l) (0 : Int) = some a := by simp [idx]
theorem idx1 {α : Type} (a b : α) (l : List α) : idx (a :: b :: l) (1 : Int) = some b := by simp [idx]
theorem Back_q (w q r : Nat) (what : Int) (hq : q < 4294967296) (hr : r < 8) (hs : b_Split (w : Int) g_parts = some ([(q : Int), (r : Int)], 0)) :
    d_Back (w : Int) what = bif (8 * (q : Int) + (r : Int)) != (w : Int) then some (⟨0, 0, 0⟩, 2) else some (⟨q, r, what⟩, 0) := by
  unfold d_Back
  have hw8 : IntKind.i64.wrap (r : Int) = (r : Int) := by rw [IntWalk.i64_in]; omega
  have his : r_Is ⟨(q : Int), (r : Int), what⟩ = true := is_of (by simp; omega) (by simp) (by simp; omega)
  have hk : d_Key ⟨(q : Int), (r : Int), what⟩ = some (8 * (q : Int) + (r : Int), 0) := by
    rw [Key_eq _ (by simp), his]
    rfl
  rw [hs, Option.bind_some, idx0, Option.bind_some, idx1, Option.bind_some, hw8, hk, Option.bind_some, bne_self_eq_false, cond_false]
theorem Back_lo (w : Nat) (h : w < 34359738368) (what : Int) : d_Back (w : Int) what = some (⟨((w / 8 : Nat) : Int), ((w % 8 : Nat) : Int), what⟩, 0) := by
  have hq : w / 8 % 4294967296 = w / 8 := Nat.mod_eq_of_lt (by omega)
  have hs := Split_eq w (by omega)
  rw [hq] at hs
  rw [Back_q w (w / 8) (w % 8) what (by omega) (by omega) hs]
  have e1 : (8 * ((w / 8 : Nat) : Int) + ((w % 8 : Nat) : Int)) = (w : Int) := by omega
  rw [e1, bne_self_eq_false, cond_false]
theorem Back_hi (w : Nat) (hw : w < 18446744073709551616) (h : ¬ w < 34359738368) (what : Int) : d_Back (w : Int) what = some (⟨0, 0, 0⟩, 2) := by
  have hq : w / 8 % 4294967296 < 4294967296 := Nat.mod_lt _ (by omega)
  have hs := Split_eq w hw
  have hr : w % 8 < 8 := Nat.mod_lt _ (by omega)
  rw [Back_q w _ _ what hq hr hs]
  generalize w / 8 % 4294967296 = q at *
  generalize w % 8 = r at *
  have e1 : (8 * (q : Int) + (r : Int)) ≠ (w : Int) := by omega
  rw [bne_iff_ne.2 e1, cond_true]
theorem Same_l1 (k : Option Bool) (y : List GDesc) : ∀ (l : List GDesc) (i : Nat), y.drop i = l → r_Same_l1 y k l i = k
  | [], i, _ => rfl
  | z :: r, i, h => by
    obtain ⟨h1, h2, h3⟩ := drop_cons h
    have hi : idx y (i : Int) = some z := by simp [idx, h2]
    simp only [r_Same_l1, hi, Option.bind_some]
    rw [(eq_iff z z).2 rfl]
    simp only [Bool.not_true, cond_false]
    exact Same_l1 k y r (i + 1) h3
theorem Same_self (l : List GDesc) : r_Same l l = some true := by
  unfold r_Same
  simp only [bne_self_eq_false, cond_false, letk]
  exact Same_l1 _ l l 0 rfl
theorem Find_l1 (pid fd k : Int) : ∀ (l : List GDesc) (i : Nat), r_Find_l1 pid fd k l i = match l.findIdx? (fun d => d.fPid == pid && d.fFd == fd) with | some j => ((i + j : Nat) : Int) | none => k
  | [], i => rfl
  | z :: r, i => by
    have ih := Find_l1 pid fd k r (i + 1)
    rw [List.findIdx?_cons]
    simp only [r_Find_l1, ih]
    generalize List.findIdx? (fun d => d.fPid == pid && d.fFd == fd) r = o
    cases h1 : z.fPid == pid <;> cases h2 : z.fFd == fd <;> cases o <;> first | rfl | (show ((i + 1 + _ : Nat) : Int) = ((i + (_ + 1) : Nat) : Int); omega)
theorem Find_eq (l : List GDesc) (pid fd : Int) : r_Find l pid fd = match l.findIdx? (fun d => d.fPid == pid && d.fFd == fd) with | some j => (j : Int) | none => -1 := by
  unfold r_Find
  show r_Find_l1 pid fd (-1) l 0 = _
  rw [Find_l1]
  cases l.findIdx? (fun d => d.fPid == pid && d.fFd == fd) <;> simp
theorem find_at (l : List GDesc) (p : GDesc → Bool) : match l.findIdx? p with | some j => ∃ d, l[j]? = some d ∧ l.find? p = some d | none => l.find? p = none := by
  induction l with
  | nil => rfl
  | cons z r ih =>
    rw [List.findIdx?_cons, List.find?_cons]
    cases h : p z with
    | true => exact ⟨z, rfl, rfl⟩
    | false =>
      cases h2 : r.findIdx? p with
      | none => rw [h2] at ih; simpa using ih
      | some j => rw [h2] at ih; obtain ⟨d, h3, h4⟩ := ih; exact ⟨d, by simpa using h3, by simpa using h4⟩
theorem rCount_l1 (what : Int) : ∀ (l : List GDesc) (i : Nat) (a : Nat), a + l.length ≤ 1000 → r_Count_l1 what (fun p => p) l i (a : Int) = ((a + (l.filter fun d => d.fWhat == what).length : Nat) : Int)
  | [], i, a, _ => by simp [r_Count_l1]
  | z :: r, i, a, h => by
    simp only [List.length_cons] at h
    simp only [r_Count_l1]
    cases hz : z.fWhat == what with
    | true =>
      have hw : IntKind.i64.wrap ((a : Int) + 1) = ((a + 1 : Nat) : Int) := by rw [IntWalk.i64_in] <;> omega
      simp only [cond_true, hw, List.filter_cons, hz, if_true, List.length_cons]
      rw [rCount_l1 what r (i + 1) (a + 1) (by omega)]
      omega
    | false =>
      simp only [cond_false, List.filter_cons, hz]
      rw [rCount_l1 what r (i + 1) a (by omega)]
      simp
theorem rCount_eq (l : List GDesc) (what : Int) (h : l.length ≤ 1000) : r_Count l what = ((l.filter fun d => d.fWhat == what).length : Int) := by
  unfold r_Count
  show r_Count_l1 what (fun p => p) l 0 0 = _
  have := rCount_l1 what l 0 0 (by omega)
  simpa using this
theorem more4 (l : List GDesc) (hl : l.length ≤ 70) (hok : ok l = true) (k : Option Bool) : ∀ (ms : List GDesc) (i : Nat), (∀ d ∈ ms, 0 ≤ d.fPid) → l_Tells_l4 l true k ms i = k
  | [], i, _ => rfl
  | z :: r, i, hm => by
    have ih := more4 l hl hok k r (i + 1) (fun d hd => hm d (List.mem_cons_of_mem _ hd))
    have hz := hm z List.mem_cons_self
    simp only [l_Tells_l4, ih]
    cases (i : Int) == 8 with
    | true => rfl
    | false =>
      have hkey := Key_eq z hz
      have hrk := rKey_eq z hz
      have hfa := find_at l (fun d => d.fPid == z.fPid && d.fFd == z.fFd)
      have hfe := Find_eq l z.fPid z.fFd
      have hce := rCount_eq l z.fWhat (by omega)
      have hhas := Has_eq l z.fPid z.fFd
      have hcn := Count_eq l z.fWhat
      rw [hok] at hhas hcn
      unfold find at hhas
      cases hfi : l.findIdx? (fun d => d.fPid == z.fPid && d.fFd == z.fFd) with
      | none =>
        rw [hfi] at hfa hfe
        simp only at hfa hfe
        rw [hfa] at hhas
        cases his : r_Is z with
        | true => rw [his] at hkey; simp [letk, hhas, hcn, hkey, hrk his, hfe, hce]
        | false => rw [his] at hkey; simp [letk, hhas, hcn, hkey, hfe, hce]
      | some j =>
        rw [hfi] at hfa hfe
        simp only at hfa hfe
        obtain ⟨d, hd, hfd⟩ := hfa
        rw [hfd] at hhas
        have hix : idx l (j : Int) = some d := by simp [idx, hd]
        have hj : ¬ ((j : Int) < 0) := by omega
        cases his : r_Is z with
        | true => rw [his] at hkey; simp [letk, hhas, hcn, hkey, hrk his, hfe, hce, hix, hj]
        | false => rw [his] at hkey; simp [letk, hhas, hcn, hkey, hfe, hce, hix, hj]
theorem words3 (k : Option Bool) : ∀ (ws : List Int) (i : Nat), (∀ w ∈ ws, 0 ≤ w ∧ w < 18446744073709551616) → l_Tells_l3 k ws i = k
  | [], i, _ => rfl
  | z :: r, i, hm => by
    have ih := words3 k r (i + 1) (fun d hd => hm d (List.mem_cons_of_mem _ hd))
    obtain ⟨h0, h1⟩ := hm z List.mem_cons_self
    simp only [l_Tells_l3, ih]
    cases (i : Int) == 8 with
    | true => rfl
    | false =>
      obtain ⟨w, rfl⟩ : ∃ w : Nat, z = w := ⟨z.toNat, by omega⟩
      by_cases h : w < 34359738368
      · have e1 : IntKind.u64.wrap ((w : Int).tdiv 8) = ((w / 8 : Nat) : Int) := by
          rw [Int.tdiv_eq_ediv_of_nonneg (by omega), IntKind.wrap_u64]; omega
        have e2 : IntKind.i64.wrap ((w : Int).tmod 8) = ((w % 8 : Nat) : Int) := by
          rw [Int.tmod_eq_emod_of_nonneg (by omega), IntWalk.i64_in] <;> omega
        rw [Back_lo w h 7, e1, e2, decide_eq_true (by omega : (w : Int) < 34359738368)]
        simp only [cond_false, cond_true, Option.bind_some, letk]
        rw [(eq_iff _ _).2 rfl]
        rfl
      · rw [Back_hi w (by omega) h 7, decide_eq_false (by omega : ¬ (w : Int) < 34359738368)]
        simp only [cond_false, Option.bind_some, letk]
        rw [(eq_iff _ _).2 rfl]
        rfl
theorem more2 (l : List GDesc) (hl : l.length ≤ 70) (hok : ok l = false) (k : Option Bool) : ∀ (ms : List GDesc) (i : Nat), (∀ d ∈ ms, 0 ≤ d.fPid) → l_Tells_l2 l false k ms i = k
  | [], i, _ => rfl
  | z :: r, i, hm => by
    have ih := more2 l hl hok k r (i + 1) (fun d hd => hm d (List.mem_cons_of_mem _ hd))
    have hz := hm z List.mem_cons_self
    simp only [l_Tells_l2, ih]
    cases (i : Int) == 8 with
    | true => rfl
    | false =>
      have hkey := Key_eq z hz
      have hrk := rKey_eq z hz
      have hfa := find_at l (fun d => d.fPid == z.fPid && d.fFd == z.fFd)
      have hfe := Find_eq l z.fPid z.fFd
      have hce := rCount_eq l z.fWhat (by omega)
      have hhas := Has_eq l z.fPid z.fFd
      have hcn := Count_eq l z.fWhat
      rw [hok] at hhas hcn
      unfold find at hhas
      cases hfi : l.findIdx? (fun d => d.fPid == z.fPid && d.fFd == z.fFd) with
      | none =>
        rw [hfi] at hfa hfe
        simp only at hfa hfe
        rw [hfa] at hhas
        cases his : r_Is z with
        | true => rw [his] at hkey; simp [letk, hhas, hcn, hkey, hrk his, hfe, hce]
        | false => rw [his] at hkey; simp [letk, hhas, hcn, hkey, hfe, hce]
      | some j =>
        rw [hfi] at hfa hfe
        simp only at hfa hfe
        obtain ⟨d, hd, hfd⟩ := hfa
        rw [hfd] at hhas
        have hix : idx l (j : Int) = some d := by simp [idx, hd]
        have hj : ¬ ((j : Int) < 0) := by omega
        cases his : r_Is z with
        | true => rw [his] at hkey; simp [letk, hhas, hcn, hkey, hrk his, hfe, hce, hix, hj]
        | false => rw [his] at hkey; simp [letk, hhas, hcn, hkey, hfe, hce, hix, hj]
theorem words1 (k : Option Bool) : ∀ (ws : List Int) (i : Nat), (∀ w ∈ ws, 0 ≤ w ∧ w < 18446744073709551616) → l_Tells_l1 k ws i = k
  | [], i, _ => rfl
  | z :: r, i, hm => by
    have ih := words1 k r (i + 1) (fun d hd => hm d (List.mem_cons_of_mem _ hd))
    obtain ⟨h0, h1⟩ := hm z List.mem_cons_self
    simp only [l_Tells_l1, ih]
    cases (i : Int) == 8 with
    | true => rfl
    | false =>
      obtain ⟨w, rfl⟩ : ∃ w : Nat, z = w := ⟨z.toNat, by omega⟩
      by_cases h : w < 34359738368
      · have e1 : IntKind.u64.wrap ((w : Int).tdiv 8) = ((w / 8 : Nat) : Int) := by
          rw [Int.tdiv_eq_ediv_of_nonneg (by omega), IntKind.wrap_u64]; omega
        have e2 : IntKind.i64.wrap ((w : Int).tmod 8) = ((w % 8 : Nat) : Int) := by
          rw [Int.tmod_eq_emod_of_nonneg (by omega), IntWalk.i64_in] <;> omega
        rw [Back_lo w h 7, e1, e2, decide_eq_true (by omega : (w : Int) < 34359738368)]
        simp only [cond_false, cond_true, Option.bind_some, letk]
        rw [(eq_iff _ _).2 rfl]
        rfl
      · rw [Back_hi w (by omega) h 7, decide_eq_false (by omega : ¬ (w : Int) < 34359738368)]
        simp only [cond_false, Option.bind_some, letk]
        rw [(eq_iff _ _).2 rfl]
        rfl
theorem Tells_true (x more : List GDesc) (words : List Int) (hm : ∀ d ∈ more, 0 ≤ d.fPid) (hw : ∀ w ∈ words, 0 ≤ w ∧ w < 18446744073709551616) : l_Tells 10 x more words = some true := by
  unfold l_Tells
  have hl : (x.take 70).length ≤ 70 := by simp; omega
  rw [wakes_10, own_eq]
  simp only [Option.bind_some, Bool.not_true, cond_false]
  rw [Right_eq _ (by unfold maxLen; omega), Check_eq]
  simp only [Option.bind_some]
  cases h : ok (x.take 70) with
  | true =>
    simp only [if_true, beq_self_eq_true, Bool.not_true, cond_false, bne_self_eq_false, letk]
    rw [more4 _ hl h _ more 0 hm, words3 _ words 0 hw, Same_self]
    rfl
  | false =>
    simp only [Bool.false_eq_true, if_false]
    rw [show ((330 : Int) == 0) = false from rfl, show ((330 : Int) != 0) = true from rfl, bne_self_eq_false]
    simp only [beq_self_eq_true, Bool.not_true, cond_false, cond_true, letk]
    rw [more2 _ hl h _ more 0 hm, words1 _ words 0 hw, Same_self]
    rfl
theorem pair_two {l : List GDesc} (hs : l.Pairwise (fun a b => r_ahead a b = true)) : ∀ {a b : GDesc}, a ∈ l → b ∈ l → a.fPid = b.fPid → a.fFd = b.fFd → a = b := by
  induction l with
  | nil => intro a b h; cases h
  | cons z r ih =>
    intro a b ha hb h1 h2
    rw [List.pairwise_cons] at hs
    rcases List.mem_cons.1 ha with ea | ha'
    · rcases List.mem_cons.1 hb with eb | hb'
      · rw [ea, eb]
      · have := hs.1 b hb'
        rw [ahead_iff, ← ea] at this
        omega
    · rcases List.mem_cons.1 hb with eb | hb'
      · have := hs.1 a ha'
        rw [ahead_iff, ← eb] at this
        omega
      · exact ih hs.2 ha' hb' h1 h2
theorem find_in {l : List GDesc} (h : ok l = true) {n : GDesc} (hn : n ∈ l) : find l n.fPid n.fFd = some n := by
  unfold find
  cases hf : l.find? (fun d => d.fPid == n.fPid && d.fFd == n.fFd) with
  | none =>
    have := List.find?_eq_none.1 hf n hn
    simp at this
  | some d =>
    have hd := List.find?_some hf
    have hdm := List.mem_of_find?_eq_some hf
    simp only [Bool.and_eq_true, beq_iff_eq] at hd
    rw [pair_two ((ok_iff l).1 h).2.2 hdm hn hd.1 hd.2]
theorem Back_l1' (k : Option Bool) : ∀ (ms : List GDesc) (i : Nat), (∀ d ∈ ms, r_Is d = true ∧ 0 ≤ d.fPid) → l_Back_l1 k ms i = k
  | [], i, _ => rfl
  | z :: r, i, hm => by
    have ih := Back_l1' k r (i + 1) (fun d hd => hm d (List.mem_cons_of_mem _ hd))
    obtain ⟨his, h0⟩ := hm z List.mem_cons_self
    obtain ⟨h1, h2, h3⟩ := is_bounds his
    obtain ⟨pid, fd, what⟩ := z
    simp only at h0 h1 h2 h3
    obtain ⟨p, rfl⟩ : ∃ p : Nat, pid = p := ⟨pid.toNat, by omega⟩
    obtain ⟨f, rfl⟩ : ∃ f : Nat, fd = f := ⟨fd.toNat, by omega⟩
    have hk := Key_eq ⟨(p : Int), (f : Int), what⟩ h0
    rw [his] at hk
    have hb := Back_lo (8 * p + f) (by omega) what
    rw [show (8 * p + f) / 8 = p by omega, show (8 * p + f) % 8 = f by omega] at hb
    have e : (8 * (p : Int) + (f : Int)) = ((8 * p + f : Nat) : Int) := by omega
    simp only [l_Back_l1, ih]
    rw [hk]
    simp only [if_true, Option.bind_some, e]
    rw [hb]
    simp only [Option.bind_some, bne_self_eq_false, cond_false]
    rw [(eq_iff _ _).2 rfl]
    rfl
theorem Back_true (x : List GDesc) (pid what : Int) (hx : ∀ d ∈ x, 0 ≤ d.fPid) (hpid : 0 ≤ pid) : l_Back 10 x pid what = some true := by
  unfold l_Back
  rw [wakes_10, own_eq]
  simp only [Option.bind_some, Bool.not_true, cond_false]
  have hxl : ∀ d ∈ x.take 70, 0 ≤ d.fPid := fun d hd => hx d (List.mem_of_mem_take hd)
  generalize x.take 70 = l at *
  cases h : ok l with
  | false =>
    have : d_Open 10 l pid what = some ([], 0, 330) := by
      unfold d_Open
      rw [Check_eq, h]
      rfl
    rw [this]
    rfl
  | true =>
    by_cases hp : pid < 4294967296
    · rcases Open_eq l pid what h hp with ho | ⟨fd, m, ho, hfd, hno, hput⟩
      · rw [ho]; rfl
      · rw [ho]
        obtain ⟨hml, hmi, hms⟩ := (ok_iff m).1 hput.ok
        have hmem : ∀ d, d ∈ m → d = ⟨pid, fd, what⟩ ∨ d ∈ l := by
          intro d hd
          obtain ⟨i, _, rfl⟩ := hput.ex
          simp only [List.append_assoc, List.mem_append, List.mem_cons, List.not_mem_nil, or_false] at hd
          rcases hd with hd | hd | hd
          · exact .inr (List.mem_of_mem_take hd)
          · exact .inl hd
          · exact .inr (List.mem_of_mem_drop hd)
        have hnm : (⟨pid, fd, what⟩ : GDesc) ∈ m := by
          obtain ⟨i, _, rfl⟩ := hput.ex
          simp
        have hf := find_in hput.ok hnm
        have hfl : find l pid fd = none := by
          unfold find
          rw [List.find?_eq_none]
          intro d hd hh
          simp only [Bool.and_eq_true, beq_iff_eq] at hh
          exact hno d hd hh
        have hback : m.filter (fun z => !eqGDesc z ⟨pid, fd, what⟩) = l := by
          have hnot : ∀ d ∈ l, (!eqGDesc d ⟨pid, fd, what⟩) = true := by
            intro d hd
            cases hq : eqGDesc d ⟨pid, fd, what⟩ with
            | false => rfl
            | true => have := (eq_iff _ _).1 hq; subst this; exact absurd ⟨rfl, rfl⟩ (hno _ hd)
          have hself : (!eqGDesc ⟨pid, fd, what⟩ ⟨pid, fd, what⟩) = false := by rw [(eq_iff _ _).2 rfl]; rfl
          rw [put_others hput _ hself]
          exact List.filter_eq_self.2 hnot
        have hhas := Has_eq m pid fd
        rw [hput.ok] at hhas
        simp only at hf
        rw [hf] at hhas
        have hhasl := Has_eq l pid fd
        rw [h, hfl] at hhasl
        have hclose := Close_eq m pid fd hput.ok
        rw [hf] at hclose
        simp only [hback] at hclose
        have hcm := Count_eq m what
        have hcl := Count_eq l what
        rw [hput.ok] at hcm
        rw [h] at hcl
        have hmine := put_mine hput (fun d => d.fWhat == what) (by simp)
        have hlen := len_le m (fun d => d.fWhat == what)
        have hw : IntKind.i64.wrap (((l.filter fun d => d.fWhat == what).length : Int) + 1) = ((m.filter fun d => d.fWhat == what).length : Int) := by rw [IntWalk.i64_in] <;> omega
        simp only [Option.bind_some, bne_self_eq_false, cond_false, hhas, hhasl, hclose, if_true, Bool.not_true, Equal_self, letk]
        rw [Back_l1' _ m 0 (fun d hd => ⟨hmi d hd, by rcases hmem d hd with rfl | hd; exact hpid; exact hxl d hd⟩)]
        rw [Check_eq, hput.ok, hcm, hcl]
        simp only [if_true, Option.bind_some, beq_self_eq_true, cond_true, hw]
    · have : d_Open 10 l pid what = some ([], 0, 2) := by
        unfold d_Open
        rw [Check_eq, h]
        have hpd : decide (pid ≥ 4294967296) = true := decide_eq_true (by omega)
        simp only [if_true, Option.bind_some, bne_self_eq_false, cond_false, hpd, cond_true]
      rw [this]
      rfl
end Go.Proofs.YtbaffpifmfddeaaDoor
