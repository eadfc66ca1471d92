/-
  Plain laws of package ipc: names more and less, and what is looked up. Conditions: words of 64 bits, short rows.
-/
import Derived.Test.YtjdeaihnpgkphaaILawC
namespace Go.Proofs.Ytjdeaihnpgkphaa
open Go.Dc

/-! ### A name more -/
def regS (s : GIpc) (n p : Int) : GIpc × Int := bif !isN n then (E0, 351) else bif !pidOk p then (E0, 2) else bif thereK GName.fName n s.fNames then (E0, 5) else bif decide (s.fNames.length = 16) then (E0, 6) else
  (GIpc.mk (lowK GName.fName n s.fNames ++ GName.mk n p :: highK GName.fName n s.fNames) s.fBoxes, 0)
def unregS (s : GIpc) (n : Int) : GIpc × Int := bif !isN n then (E0, 351) else bif !thereK GName.fName n s.fNames then (E0, 4) else (GIpc.mk (lowK GName.fName n s.fNames ++ highK GName.fName n s.fNames) s.fBoxes, 0)
theorem lookup_go (n : Int) (k : Int × Bool) : ∀ (rest : List GName) (i : Nat), r_Lookup_l1 n k rest i = ((rest.find? fun z => z.fName == n).map fun z => (z.fPid, true)).getD k
  | [], i => by simp [r_Lookup_l1]
  | z :: r, i => by
    simp only [r_Lookup_l1, lookup_go n k r, List.find?_cons]
    cases z.fName == n <;> simp
theorem rLookup_eq (s : GIpc) (n : Int) : r_Lookup s n = ((s.fNames.find? fun z => z.fName == n).map fun z => (z.fPid, true)).getD (0, false) := by
  unfold r_Lookup letk
  exact lookup_go n _ _ 0
theorem rLookup_there (s : GIpc) (n : Int) : (r_Lookup s n).2 = thereK GName.fName n s.fNames := by
  rw [rLookup_eq]
  cases h : s.fNames.find? fun z => z.fName == n with
  | none =>
    have := List.find?_eq_none.1 h
    symm
    simp only [Option.map_none, Option.getD_none]
    cases ht : thereK GName.fName n s.fNames with
    | false => rfl
    | true =>
      obtain ⟨z, hz, e⟩ := (there_iff GName.fName n).1 ht
      exact absurd (by simpa using e) (this z hz)
  | some z =>
    simp only [Option.map_some, Option.getD_some]
    symm
    rw [there_iff]
    exact ⟨z, List.mem_of_find?_eq_some h, by simpa using List.find?_some h⟩
theorem reg1_go (n : Int) (k : GIpc → Option (GIpc × Int)) : ∀ (rest : List GName) (i : Nat) (acc : GIpc), acc.fNames.length + rest.length ≤ 10000 → r_Register_l1 n k rest i acc = k (GIpc.mk (acc.fNames ++ highK GName.fName n rest) acc.fBoxes)
  | [], i, acc, _ => by simp [r_Register_l1, highK]
  | z :: r, i, acc, h => by
    simp only [r_Register_l1]
    by_cases hz : z.fName > n
    · rw [decide_eq_true hz]
      simp only [cond_true]
      rw [app_ok (by simp at h ⊢; omega)]
      simp only [Option.bind_some]
      rw [reg1_go n k r (i + 1) _ (by simp at h ⊢; omega)]
      simp [highK, hz]
    · rw [decide_eq_false hz]
      simp only [cond_false]
      rw [reg1_go n k r (i + 1) _ (by simp at h ⊢; omega)]
      simp [highK, hz]
theorem reg2_go (n : Int) (k : GIpc → Option (GIpc × Int)) : ∀ (rest : List GName) (i : Nat) (acc : GIpc), acc.fNames.length + rest.length ≤ 10000 → r_Register_l2 n k rest i acc = k (GIpc.mk (acc.fNames ++ lowK GName.fName n rest) acc.fBoxes)
  | [], i, acc, _ => by simp [r_Register_l2, lowK]
  | z :: r, i, acc, h => by
    simp only [r_Register_l2]
    by_cases hz : z.fName < n
    · rw [decide_eq_true hz]
      simp only [cond_true]
      rw [app_ok (by simp at h ⊢; omega)]
      simp only [Option.bind_some]
      rw [reg2_go n k r (i + 1) _ (by simp at h ⊢; omega)]
      simp [lowK, hz]
    · rw [decide_eq_false hz]
      simp only [cond_false]
      rw [reg2_go n k r (i + 1) _ (by simp at h ⊢; omega)]
      simp [lowK, hz]
theorem unreg_go (n : Int) (k : GIpc → Option (GIpc × Int)) : ∀ (rest : List GName) (i : Nat) (acc : GIpc), acc.fNames.length + rest.length ≤ 10000 → r_Unregister_l1 n k rest i acc = k (GIpc.mk (acc.fNames ++ rest.filter fun z => z.fName != n) acc.fBoxes)
  | [], i, acc, _ => by simp [r_Unregister_l1]
  | z :: r, i, acc, h => by
    simp only [r_Unregister_l1]
    cases hz : z.fName != n with
    | true =>
      simp only [cond_true]
      rw [app_ok (by simp at h ⊢; omega)]
      simp only [Option.bind_some]
      rw [unreg_go n k r (i + 1) _ (by simp at h ⊢; omega)]
      simp [hz]
    | false =>
      simp only [cond_false]
      rw [unreg_go n k r (i + 1) _ (by simp at h ⊢; omega)]
      simp [hz]
theorem rRegister_eq {s : GIpc} (hs : Goo s) {n p : Int} (hn : U n) : r_Register 100 s n p = some (regS s n p) := by
  unfold r_Register regS letk
  have h1 := hs.ln
  rw [rIs_eq hn, rPid_eq, rLookup_there]
  simp only [Option.bind_some]
  cases isN n with
  | false => rfl
  | true =>
    cases pidOk p with
    | false => rfl
    | true =>
      cases thereK GName.fName n s.fNames with
      | true => rfl
      | false =>
        by_cases hl : s.fNames.length = 16
        · have e : ((s.fNames.length : Int) == 16) = true := by simp; omega
          rw [e, decide_eq_true hl]; rfl
        · have e : ((s.fNames.length : Int) == 16) = false := by rw [beq_eq_false_iff_ne]; omega
          rw [e, decide_eq_false hl]
          simp only [Bool.not_true, cond_false]
          have hlow := low_len GName.fName n s.fNames
          rw [reg2_go n _ _ 0 _ (by simp; omega)]
          dsimp only
          rw [app_ok (by simp; omega)]
          simp only [Option.bind_some]
          rw [reg1_go n _ _ 0 _ (by simp; omega)]
          simp
theorem rUnregister_eq {s : GIpc} (hs : Goo s) (hk : Ok s) {n : Int} (hn : U n) : r_Unregister 100 s n = some (unregS s n) := by
  unfold r_Unregister unregS letk
  have h1 := hs.ln
  rw [rIs_eq hn, rLookup_there]
  simp only [Option.bind_some]
  cases isN n with
  | false => rfl
  | true =>
    cases thereK GName.fName n s.fNames with
    | false => rfl
    | true =>
      simp only [Bool.not_true, cond_false]
      rw [unreg_go n _ _ 0 _ (by simp; omega)]
      simp only [List.nil_append]
      rw [ne_filter GName.fName n hk.sn]
theorem iRegister_eq {s : GIpc} (hs : Goo s) {n p : Int} (hn : U n) : i_Register 100 s n p = some (bif okB s then regS s n p else (E0, 350)) := by
  unfold i_Register regS
  rw [iOwn_eq hs]
  cases ho : okB s with
  | false => rfl
  | true =>
    have hk := (ok_iff s).1 ho
    have hl := hk.l
    simp only [Option.bind_some, cond_true]
    have e0 : (!((0 : Int) == 0)) = false := rfl
    rw [e0, iIs_eq hn, iPid_eq]
    simp only [Option.bind_some, cond_false]
    cases isN n with
    | false => rfl
    | true =>
      cases pidOk p with
      | false => rfl
      | true =>
        simp only [Bool.not_true, cond_false]
        rw [findN_eq n hk.sn (by omega)]
        simp only [Option.bind_some]
        cases ht : thereK GName.fName n s.fNames with
        | true => rfl
        | false =>
          simp only [cond_false]
          by_cases hl : s.fNames.length = 16
          · have e : ((s.fNames.length : Int) == 16) = true := by simp; omega
            rw [e, decide_eq_true hl]; rfl
          · have e : ((s.fNames.length : Int) == 16) = false := by rw [beq_eq_false_iff_ne]; omega
            rw [e, decide_eq_false hl]
            simp only [cond_false]
            have hlow := low_len GName.fName n s.fNames
            unfold s_InsertN insL
            rw [if_pos ⟨by omega, by omega, by simp; omega⟩]
            simp only [Option.bind_some, Int.toNat_natCast]
            rw [take_low GName.fName n hk.sn, drop_low GName.fName n hk.sn, ge_high GName.fName n ht]
            simp
theorem iUnregister_eq {s : GIpc} (hs : Goo s) {n : Int} (hn : U n) : i_Unregister 100 s n = some (bif okB s then unregS s n else (E0, 350)) := by
  unfold i_Unregister unregS
  rw [iOwn_eq hs]
  cases ho : okB s with
  | false => rfl
  | true =>
    have hk := (ok_iff s).1 ho
    have hl := hk.l
    simp only [Option.bind_some, cond_true]
    have e0 : (!((0 : Int) == 0)) = false := rfl
    rw [e0, iIs_eq hn]
    simp only [Option.bind_some, cond_false]
    cases isN n with
    | false => rfl
    | true =>
      simp only [Bool.not_true, cond_false]
      rw [findN_eq n hk.sn (by omega)]
      simp only [Option.bind_some]
      cases ht : thereK GName.fName n s.fNames with
      | false => rfl
      | true =>
        simp only [Bool.not_true, cond_false]
        obtain ⟨z, hz, hg, hi⟩ := ge_cons GName.fName n hk.sn ht
        have hlt := (List.getElem?_eq_some_iff.1 hi).1
        rw [succ_eq (by omega)]
        unfold s_DeleteN
        rw [if_pos ⟨by omega, by omega, by omega⟩]
        simp only [Option.bind_some, Int.toNat_natCast]
        rw [take_low GName.fName n hk.sn, ← List.drop_drop, drop_low GName.fName n hk.sn, hg]
        simp
/-! ### Names: the law -/
theorem own_words (s : GIpc) : ∀ z ∈ (own' s).fBoxes, z.fWords.length ≤ 8 := by
  intro z hz
  obtain ⟨y, _, rfl⟩ := List.mem_map.1 hz
  simp [cutB]
  omega
theorem names_go {s : GIpc} (hs : Goo s) (k : Option Bool) : ∀ (rest : List GName) (i : Nat), (∀ z ∈ rest, U z.fName) → l_Names_l1 s (okB s) k 100 rest i = k ∨ l_Names_l1 s (okB s) k 100 rest i = k
  | [], i, _ => by simp [l_Names_l1]
  | z :: r, i, h => by
    have hn := h z List.mem_cons_self
    have ih := names_go hs k r (i + 1) fun y hy => h y (List.mem_cons_of_mem _ hy)
    rw [or_self] at ih ⊢
    simp only [l_Names_l1]
    cases (i : Int) == 8 with
    | true => rfl
    | false =>
      simp only [cond_false]
      rw [iRegister_eq hs hn, iUnregister_eq hs hn]
      simp only [Option.bind_some, letk]
      cases ho : okB s with
      | false =>
        rw [ho] at ih
        simp only [cond_false, bne_self_eq_false, rSame_eq, Option.bind_some, decide_true, Bool.not_true]
        exact ih
      | true =>
        rw [ho] at ih
        rw [rRegister_eq hs hn, rUnregister_eq hs ((ok_iff s).1 ho) hn]
        simp only [cond_true, cond_false, bne_self_eq_false, rSame_eq, Option.bind_some, decide_true, Bool.not_true]
        exact ih
theorem Names_true {x : GIpc} {names : List GName} (h1 : ∀ z ∈ x.fNames, U z.fName) (h2 : ∀ z ∈ x.fBoxes, U z.fPid) (h3 : ∀ z ∈ names, U z.fName) : l_Names 100 x names = some true := by
  unfold l_Names letk
  rw [wakes_true]
  simp only [Option.bind_some, Bool.not_true, cond_false]
  rw [own_eq]
  have hs := own_goo h1 h2
  simp only [Option.bind_some]
  rw [rRight_eq hs]
  simp only [Option.bind_some, rSame_eq, decide_true]
  have := names_go hs (some true) names 0 h3
  rwa [or_self] at this
end Go.Proofs.Ytjdeaihnpgkphaa
