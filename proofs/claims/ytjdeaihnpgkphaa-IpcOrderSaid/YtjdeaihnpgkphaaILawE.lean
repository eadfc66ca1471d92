/-
  What is registered is looked up; unregistered, all is as it was. Conditions: words of 64 bits.
-/
import Derived.Test.YtjdeaihnpgkphaaILawD
namespace Go.Proofs.Ytjdeaihnpgkphaa
open Go.Dc

/-! ### What is looked up -/
def lookS (s : GIpc) (n : Int) : Int × Int := bif !isN n then (0, 351) else ((s.fNames.find? fun z => z.fName == n).map fun z => (z.fPid, (0 : Int))).getD (0, 4)
theorem find_low {l : List GName} (n : Int) (h : SN l) : l.find? (fun z => z.fName == n) = bif thereK GName.fName n l then l[(lowK GName.fName n l).length]? else none := by
  cases ht : thereK GName.fName n l with
  | false =>
    rw [cond_false, List.find?_eq_none]
    intro z hz e
    have := (there_iff GName.fName n).2 ⟨z, hz, by simpa using e⟩
    rw [ht] at this; cases this
  | true =>
    obtain ⟨z, hz, hg, hi⟩ := ge_cons GName.fName n h ht
    rw [cond_true, hi]
    have e := splitK GName.fName n h
    rw [hg] at e
    rw [e, List.find?_append, List.find?_eq_none.2 (fun y hy => by have := (List.mem_filter.1 hy).2; simp at this ⊢; omega)]
    simp [hz]
theorem iLookup_eq {s : GIpc} (hs : Goo s) {n : Int} (hn : U n) : i_Lookup 100 s n = some (bif okB s then lookS s n else (0, 350)) := by
  unfold i_Lookup lookS
  rw [iCheck_eq hs]
  cases ho : okB s with
  | false => rfl
  | true =>
    have hk := (ok_iff s).1 ho
    have hl := hk.l
    simp only [Option.bind_some, cond_true]
    have e0 : ((0 : Int) != 0) = false := rfl
    rw [e0, iIs_eq hn]
    simp only [Option.bind_some, cond_false]
    cases isN n with
    | false => rfl
    | true =>
      simp only [Bool.not_true, cond_false]
      rw [findN_eq n hk.sn (by omega)]
      simp only [Option.bind_some]
      rw [find_low n hk.sn]
      cases ht : thereK GName.fName n s.fNames with
      | false => rfl
      | true =>
        obtain ⟨z, hz, hg, hi⟩ := ge_cons GName.fName n hk.sn ht
        simp only [Bool.not_true, cond_false, cond_true, idx_nat, hi, Option.bind_some, Option.map_some, Option.getD_some]
/-! ### What is held -/
theorem held_go (p : Int) : ∀ (l : List GName) (i : Nat), i_held1_l1 p l i = (l.filter fun z => z.fPid == p).map (·.fName)
  | [], i => by simp [i_held1_l1]
  | z :: r, i => by
    simp only [i_held1_l1, held_go p r]
    cases hz : z.fPid == p <;> simp [hz]
theorem heldL_go : ∀ (l acc : List Int), acc.length + l.length ≤ 10000 → i_Held_l1 l acc = some (acc ++ l)
  | [], acc, _ => by simp [i_Held_l1]
  | z :: r, acc, h => by
    simp only [i_Held_l1]
    rw [app_ok (by simp at h ⊢; omega)]
    simp only [Option.bind_some]
    rw [heldL_go r _ (by simp at h ⊢; omega)]
    simp
def heldS (s : GIpc) (p : Int) : List Int := (s.fNames.filter fun z => z.fPid == p).map (·.fName)
theorem iHeld_eq {s : GIpc} (hs : Goo s) (p : Int) : i_Held 100 s p = some (bif okB s then heldS s p else []) := by
  unfold i_Held i_held i_held1
  rw [iCheck_eq hs, held_go]
  cases ho : okB s with
  | false => rfl
  | true =>
    have hl := hs.ln
    have : (s.fNames.filter fun z => z.fPid == p).length ≤ s.fNames.length := List.length_filter_le ..
    simp only [Option.bind_some, cond_true]
    have e0 : ((0 : Int) != 0) = false := rfl
    rw [e0, cond_false, heldL_go _ _ (by simp; omega)]
    rfl
theorem index_go (n : Int) (k : Int) (hk : k < 0) : ∀ (l : List Int) (i : Nat), decide (s_Index_l1 n k l i ≥ 0) = l.any (n == ·)
  | [], i => by simp [s_Index_l1]; omega
  | z :: r, i => by
    simp only [s_Index_l1, List.any_cons]
    by_cases hz : n = z
    · simp [hz]
    · have e : (n == z) = false := by simpa using hz
      simp only [e, cond_false, Bool.false_or]
      exact index_go n k hk r (i + 1)
theorem contains_eq (l : List Int) (n : Int) : s_Contains l n = l.any (n == ·) := by
  unfold s_Contains s_Index letk
  exact index_go n (-1) (by omega) l 0
/-! ### A name more -/
theorem reg_ok {s : GIpc} (hk : Ok s) {n p : Int} {a : GIpc} (h : regS s n p = (a, 0)) :
    isN n = true ∧ pidOk p = true ∧ thereK GName.fName n s.fNames = false ∧ s.fNames.length < 16 ∧ a = GIpc.mk (lowK GName.fName n s.fNames ++ GName.mk n p :: highK GName.fName n s.fNames) s.fBoxes := by
  unfold regS at h
  cases h1 : isN n with
  | false => rw [h1] at h; simp at h
  | true =>
    cases h2 : pidOk p with
    | false => rw [h1, h2] at h; simp at h
    | true =>
      cases h3 : thereK GName.fName n s.fNames with
      | true => rw [h1, h2, h3] at h; simp at h
      | false =>
        cases h4 : decide (s.fNames.length = 16) with
        | true => rw [h1, h2, h3, h4] at h; simp at h
        | false =>
          rw [h1, h2, h3, h4] at h
          simp at h h4
          have := hk.l
          exact ⟨rfl, rfl, rfl, by omega, h.symm⟩
theorem len_split {l : List GName} (n : Int) (h : SN l) (ht : thereK GName.fName n l = false) : l = lowK GName.fName n l ++ highK GName.fName n l := by
  rw [← ge_high GName.fName n ht]
  exact splitK GName.fName n h
theorem reg_facts {s : GIpc} (hk : Ok s) (hs : Goo s) {n p : Int} (hn : U n) {a : GIpc} (h : regS s n p = (a, 0)) : Ok a ∧ Goo a := by
  obtain ⟨h1, h2, h3, h4, rfl⟩ := reg_ok hk h
  have e := len_split n hk.sn h3
  have hll : (lowK GName.fName n s.fNames).length + (highK GName.fName n s.fNames).length = s.fNames.length := by
    conv => rhs; rw [e]
    simp
  have hlm : ∀ z ∈ lowK GName.fName n s.fNames, z ∈ s.fNames ∧ z.fName < n := fun z hz => by simpa [lowK] using hz
  have hhm : ∀ z ∈ highK GName.fName n s.fNames, z ∈ s.fNames ∧ z.fName > n := fun z hz => by simpa [highK] using hz
  have hm : ∀ z ∈ lowK GName.fName n s.fNames ++ GName.mk n p :: highK GName.fName n s.fNames, z ∈ s.fNames ∨ z = GName.mk n p := fun z hz => by
    rcases List.mem_append.1 hz with hz | hz
    · exact .inl (hlm z hz).1
    · rcases List.mem_cons.1 hz with rfl | hz
      · exact .inr rfl
      · exact .inl (hhm z hz).1
  refine ⟨⟨by simp; omega, fun z hz => ?_, ?_, hk.b, hk.sb⟩, ⟨fun z hz => ?_, hs.b, by simp; omega, hs.lb⟩⟩
  · rcases hm z hz with hz | rfl
    · exact hk.n z hz
    · simp [gN, h1, h2]
  · refine List.pairwise_append.2 ⟨List.Pairwise.filter _ hk.sn, List.pairwise_cons.2 ⟨fun z hz => (hhm z hz).2, List.Pairwise.filter _ hk.sn⟩, fun x hx y hy => ?_⟩
    have h5 := (hlm x hx).2
    rcases List.mem_cons.1 hy with rfl | hy
    · exact h5
    · have := (hhm y hy).2; omega
  · rcases hm z hz with hz | rfl
    · exact hs.n z hz
    · exact hn
theorem low_of {s : GIpc} (n p : Int) : lowK GName.fName n (lowK GName.fName n s.fNames ++ GName.mk n p :: highK GName.fName n s.fNames) = lowK GName.fName n s.fNames := by
  unfold lowK highK
  rw [List.filter_append, List.filter_filter, List.filter_cons, if_neg (by simp), List.filter_filter]
  simp only [Bool.and_self]
  rw [show List.filter (fun a => decide (a.fName < n) && decide (a.fName > n)) s.fNames = [] from List.filter_eq_nil_iff.2 fun z _ => by simp; omega, List.append_nil]
theorem high_of {s : GIpc} (n p : Int) : highK GName.fName n (lowK GName.fName n s.fNames ++ GName.mk n p :: highK GName.fName n s.fNames) = highK GName.fName n s.fNames := by
  unfold lowK highK
  rw [List.filter_append, List.filter_filter, List.filter_cons, if_neg (by simp), List.filter_filter]
  simp only [Bool.and_self]
  rw [show List.filter (fun a => decide (a.fName > n) && decide (a.fName < n)) s.fNames = [] from List.filter_eq_nil_iff.2 fun z _ => by simp; omega, List.nil_append]
theorem find_other {s : GIpc} {n p m : Int} (h3 : thereK GName.fName n s.fNames = false) (hk : Ok s) (hm : m ≠ n) : (lowK GName.fName n s.fNames ++ GName.mk n p :: highK GName.fName n s.fNames).find? (fun z => z.fName == m) = s.fNames.find? (fun z => z.fName == m) := by
  have e := len_split n hk.sn h3
  conv => rhs; rw [e]
  rw [List.find?_append, List.find?_append, List.find?_cons]
  have : ((GName.mk n p).fName == m) = false := by simp; omega
  rw [this]
theorem E0_ok : okB E0 = true := by decide +kernel
/-! ### The law -/
theorem Back_true {x : GIpc} {n : GName} {other : Int} (h1 : ∀ z ∈ x.fNames, U z.fName) (h2 : ∀ z ∈ x.fBoxes, U z.fPid) (h3 : U n.fName) (h4 : U other) : l_Back 100 x n other = some true := by
  unfold l_Back
  rw [wakes_true]
  simp only [Option.bind_some, Bool.not_true, cond_false]
  rw [own_eq]
  have hs := own_goo h1 h2
  obtain ⟨s, hse⟩ : ∃ s, s = own' x := ⟨_, rfl⟩
  rw [← hse] at hs ⊢
  simp only [Option.bind_some]
  rw [iRegister_eq hs h3]
  simp only [Option.bind_some]
  cases ho : okB s with
  | false => rfl
  | true =>
    have hk := (ok_iff s).1 ho
    simp only [cond_true]
    obtain ⟨a, e, hr⟩ : ∃ a e, regS s n.fName n.fPid = (a, e) := ⟨_, _, rfl⟩
    rw [hr]
    by_cases he : e = 0
    · subst he
      obtain ⟨hka, hsa⟩ := reg_facts hk hs h3 hr
      obtain ⟨g1, g2, g3, g4, ha⟩ := reg_ok hk hr
      have hoa := (ok_iff a).2 hka
      have hta : thereK GName.fName n.fName a.fNames = true := (there_iff GName.fName n.fName).2 ⟨GName.mk n.fName n.fPid, by rw [ha]; simp, rfl⟩
      have e0 : ((0 : Int) != 0) = false := rfl
      rw [e0]
      simp only [cond_false]
      rw [iLookup_eq hsa h3, iUnregister_eq hsa h3, iLookup_eq hs h3, iLookup_eq hs h4, iLookup_eq hsa h4, iHeld_eq hsa, hoa, ho]
      simp only [cond_true, Option.bind_some]
      have l1 : lookS a n.fName = (n.fPid, 0) := by
        unfold lookS
        rw [g1, find_low _ hka.sn, hta]
        have hl : lowK GName.fName n.fName a.fNames = lowK GName.fName n.fName s.fNames := by rw [ha]; exact low_of _ _
        have hi : a.fNames[(lowK GName.fName n.fName a.fNames).length]? = some (GName.mk n.fName n.fPid) := by
          rw [hl, ha]
          simp
        simp only [Bool.not_true, cond_false, cond_true, hi, Option.map_some, Option.getD_some]
      have l2 : unregS a n.fName = (s, 0) := by
        unfold unregS
        rw [g1, hta]
        simp only [Bool.not_true, cond_false]
        have e1 : lowK GName.fName n.fName a.fNames = lowK GName.fName n.fName s.fNames := by rw [ha]; exact low_of _ _
        have e2 : highK GName.fName n.fName a.fNames = highK GName.fName n.fName s.fNames := by rw [ha]; exact high_of _ _
        have e3 : a.fBoxes = s.fBoxes := by rw [ha]
        rw [e1, e2, e3, ← len_split _ hk.sn g3]
      have l3 : lookS s n.fName = (0, 4) := by
        unfold lookS
        rw [g1, find_low _ hk.sn, g3]
        rfl
      have l4 : (heldS a n.fPid).any (n.fName == ·) = true := by
        rw [List.any_eq_true]
        refine ⟨n.fName, ?_, by simp⟩
        unfold heldS
        refine List.mem_map.2 ⟨GName.mk n.fName n.fPid, List.mem_filter.2 ⟨by rw [ha]; simp, by simp⟩, rfl⟩
      rw [l1, l2, l3, contains_eq, l4]
      simp only [bne_self_eq_false, cond_false, Bool.not_true, iSame_eq, decide_true, Option.bind_some]
      by_cases hm : other = n.fName
      · rw [hm]; simp
      · have e1 : (other == n.fName) = false := by simpa using hm
        have l5 : lookS a other = lookS s other := by
          unfold lookS
          rw [ha]
          dsimp only
          rw [find_other g3 hk hm]
        rw [e1, l5]
        simp
    · have e1 : (e != 0) = true := by simpa using he
      rw [e1]
      simp only [cond_true]
      have : a = E0 := by
        unfold regS at hr
        cases q1 : isN n.fName <;> cases q2 : pidOk n.fPid <;> cases q3 : thereK GName.fName n.fName s.fNames <;> cases q4 : decide (s.fNames.length = 16) <;> rw [q1, q2, q3, q4] at hr <;> simp at hr <;> first | exact hr.1.symm | exact absurd hr.2.symm he
      rw [this]
      rfl
end Go.Proofs.Ytjdeaihnpgkphaa
