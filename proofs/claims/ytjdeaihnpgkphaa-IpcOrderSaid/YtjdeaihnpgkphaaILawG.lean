/-
  What is sent is received, in order; what is done to another one's box changes nothing. Conditions: words of 64 bits.
-/
import Derived.Test.YtjdeaihnpgkphaaILawE
import Derived.Test.YtjdeaihnpgkphaaILawF
namespace Go.Proofs.Ytjdeaihnpgkphaa
open Go.Dc

/-! ### Boxes that change -/
theorem putB_len (p : Int) (l : List Int) : (putB p l).length ≤ 1 := by unfold putB; split <;> simp
theorem with_len (s : GIpc) (p : Int) (l : List Int) : (withS s p l).fBoxes.length ≤ s.fBoxes.length + 1 := by
  have h1 : ((lowK GBox.fPid p s.fBoxes).length + (highK GBox.fPid p s.fBoxes).length) ≤ s.fBoxes.length := by
    unfold lowK highK
    generalize s.fBoxes = m
    induction m with
    | nil => simp
    | cons a r ih =>
      simp only [List.filter_cons]
      by_cases h1 : a.fPid < p
      · rw [if_pos (by simpa using h1), if_neg (by simp; omega)]
        simp only [List.length_cons]; omega
      · rw [if_neg (by simpa using h1)]
        split
        · simp only [List.length_cons]; omega
        · simp only [List.length_cons]; omega
  have h2 := putB_len p l
  unfold withS
  simp
  omega
theorem putB_mem {p : Int} {l : List Int} {z : GBox} (h : z ∈ putB p l) : l ≠ [] ∧ z = GBox.mk p l := by
  unfold putB at h
  split at h
  · cases h
  · rename_i hl; exact ⟨hl, by simpa using h⟩
theorem with_mem {s : GIpc} {p : Int} {l : List Int} {z : GBox} (h : z ∈ (withS s p l).fBoxes) : z ∈ s.fBoxes ∧ z.fPid ≠ p ∨ l ≠ [] ∧ z = GBox.mk p l := by
  unfold withS at h
  rcases List.mem_append.1 h with h | h
  · rcases List.mem_append.1 h with h | h
    · have := List.mem_filter.1 h
      refine .inl ⟨this.1, ?_⟩
      have := this.2; simp at this; omega
    · exact .inr (putB_mem h)
  · have := List.mem_filter.1 h
    refine .inl ⟨this.1, ?_⟩
    have := this.2; simp at this; omega
theorem with_ok {s : GIpc} (hk : Ok s) {p : Int} (hp : pidOk p = true) {l : List Int} (hl : l.length ≤ 4) : Ok (withS s p l) := by
  refine ⟨hk.l, hk.n, hk.sn, fun z hz => ?_, ?_⟩
  · rcases with_mem hz with ⟨hz, _⟩ | ⟨h0, rfl⟩
    · exact hk.b z hz
    · have := List.length_pos_iff.2 h0
      simp [gB, hp]
      omega
  · unfold withS SB
    have hlow : ∀ z ∈ lowK GBox.fPid p s.fBoxes, z.fPid < p := fun z hz => by have := (List.mem_filter.1 hz).2; simpa using this
    have hhigh : ∀ z ∈ highK GBox.fPid p s.fBoxes, z.fPid > p := fun z hz => by have := (List.mem_filter.1 hz).2; simpa using this
    refine List.pairwise_append.2 ⟨List.pairwise_append.2 ⟨List.Pairwise.filter _ hk.sb, ?_, fun x hx y hy => ?_⟩, List.Pairwise.filter _ hk.sb, fun x hx y hy => ?_⟩
    · unfold putB; split <;> simp
    · obtain ⟨_, rfl⟩ := putB_mem hy
      exact hlow x hx
    · have h2 := hhigh y hy
      rcases List.mem_append.1 hx with hx | hx
      · have := hlow x hx; omega
      · obtain ⟨_, rfl⟩ := putB_mem hx
        exact h2
theorem with_goo {s : GIpc} (hs : Goo s) {p : Int} (hp : pidOk p = true) {l : List Int} (hlb : s.fBoxes.length ≤ 999) : Goo (withS s p l) := by
  refine ⟨hs.n, fun z hz => ?_, hs.ln, by have := with_len s p l; omega⟩
  rcases with_mem hz with ⟨hz, _⟩ | ⟨h0, rfl⟩
  · exact hs.b z hz
  · simp [pidOk] at hp
    unfold U
    dsimp only
    omega
theorem find_mid {lo hi m : List GBox} {p : Int} (h1 : ∀ z ∈ lo, z.fPid < p) : (lo ++ m ++ hi).find? (fun z => z.fPid == p) = (m ++ hi).find? fun z => z.fPid == p := by
  rw [List.append_assoc, List.find?_append, List.find?_eq_none.2 (fun y hy => by have := h1 y hy; simp; omega)]
  rfl
theorem waits_with (s : GIpc) (p : Int) (l : List Int) : waitsS (withS s p l) p = l := by
  have hlow : ∀ z ∈ lowK GBox.fPid p s.fBoxes, z.fPid < p := fun z hz => by have := (List.mem_filter.1 hz).2; simpa using this
  have hhigh : ∀ z ∈ highK GBox.fPid p s.fBoxes, z.fPid > p := fun z hz => by have := (List.mem_filter.1 hz).2; simpa using this
  unfold waitsS withS
  dsimp only
  rw [find_mid hlow]
  unfold putB
  split
  · rename_i h0
    rw [List.nil_append, List.find?_eq_none.2 (fun y hy => by have := hhigh y hy; simp; omega)]
    simp [h0]
  · simp
theorem find_filter {p q : Int} (h : q ≠ p) : ∀ l : List GBox, (l.filter fun z => z.fPid != p).find? (fun z => z.fPid == q) = l.find? fun z => z.fPid == q
  | [] => rfl
  | a :: r => by
    rw [List.filter_cons, List.find?_cons]
    by_cases ha : a.fPid = p
    · rw [if_neg (by simpa using ha), find_filter h r]
      have : (a.fPid == q) = false := by simp; omega
      rw [this]
    · rw [if_pos (by simpa using ha), List.find?_cons, find_filter h r]
theorem waits_other {s : GIpc} (hk : Ok s) {p q : Int} (h : q ≠ p) (l : List Int) : waitsS (withS s p l) q = waitsS s q := by
  have e : (withS s p l).fBoxes.find? (fun z => z.fPid == q) = s.fBoxes.find? fun z => z.fPid == q := by
    rw [← find_filter h s.fBoxes, ne_filter GBox.fPid p hk.sb]
    unfold withS putB
    dsimp only
    rw [List.find?_append, List.find?_append, List.find?_append]
    split
    · simp
    · have : ((GBox.mk p l).fPid == q) = false := by simp; omega
      rw [List.find?_cons, this]
      simp
  unfold waitsS
  rw [e]
/-- what stays true from round to round -/
structure J (ns : List GName) (p : Int) (m : Nat) (s : GIpc) (sent : List Int) : Prop where
  ok : Ok s
  goo : Goo s
  len : s.fBoxes.length ≤ m
  w : waitsS s p = sent
  n : s.fNames = ns
theorem order_go {ns : List GName} {x1 : GTwo} (hne : x1.f0 ≠ x1.f1) (hp : pidOk x1.f0 = true) (k : List Int → GIpc → Option Bool) (hK : ∀ s sent, J ns x1.f0 60 s sent → k sent s = some true) :
    ∀ (rest : List Int) (i : Nat) (sent : List Int) (s : GIpc), i ≤ 20 → J ns x1.f0 (20 + 2 * i) s sent → l_Order_l1 x1 k 100 rest i sent s = some true
  | [], i, sent, s, hi, h => by
    simp only [l_Order_l1]
    exact hK s sent ⟨h.ok, h.goo, by have := h.len; omega, h.w, h.n⟩
  | z :: r, i, sent, s, hi, h => by
    simp only [l_Order_l1, letk]
    by_cases h20 : i = 20
    · have e : ((i : Int) == 20) = true := by simp; omega
      rw [e]
      exact hK s sent ⟨h.ok, h.goo, by have := h.len; omega, h.w, h.n⟩
    · have e : ((i : Int) == 20) = false := by simp; omega
      rw [e]
      simp only [cond_false]
      have hlen := h.len
      have ho := (ok_iff s).2 h.ok
      have h4 := waits_len h.ok x1.f0
      rw [h.w] at h4
      have e0 : ((0 : Int) != 0) = false := rfl
      have hA : (i_Receive 100 s x1.f0).bind (fun y194 => (bif (y194.2.2 != (0 : Int)) then some (false) else ((idx sent (0 : Int)).bind fun y218 => (bif (y194.2.1 != y218) then some (false) else ((cutx sent (some (1 : Int)) none none).bind fun y223 => (l_Order_l1 x1 k 100 r (i + 1) y223 y194.1)))))) = some true ∨ sent = [] := by
        cases hq : sent with
        | nil => exact .inr rfl
        | cons w t =>
          left
          rw [hq] at h h4
          rw [iReceive_eq h.goo (by omega), ho, hp, h.w]
          simp only [cond_true, Option.bind_some, e0, cond_false, show idx (w :: t) (0 : Int) = some w from rfl, bne_self_eq_false, cut1_eq]
          refine order_go hne hp k hK r (i + 1) t _ (by omega) ⟨with_ok h.ok hp (by simp at h4; omega), with_goo h.goo hp (by omega), ?_, waits_with _ _ _, h.n⟩
          have := with_len s x1.f0 t; omega
      have hB : ∀ s', J ns x1.f0 (20 + 2 * i + 1) s' sent → ((i_Send 100 s' x1.f0 ([z] : List Int)).bind fun y258 => (bif (!((y258.2 == (0 : Int)) == (decide ((sent.length : Int) < (4 : Int))))) then some (false) else (bif (y258.2 == (0 : Int)) then ((app 8 sent [z]).bind fun z303 => (i_Check 100 y258.1).bind fun y299 => (bif (y299 != (0 : Int)) then some (false) else (l_Order_l1 x1 k 100 r (i + 1) z303 y258.1))) else (i_Check 100 s').bind fun y299 => (bif (y299 != (0 : Int)) then some (false) else (l_Order_l1 x1 k 100 r (i + 1) sent s'))))) = some true := by
        intro s' h'
        have hlen' := h'.len
        have ho' := (ok_iff s').2 h'.ok
        rw [iSend_eq h'.goo (by omega) _ (by simp), ho', hp, h'.w]
        simp only [cond_true, Option.bind_some, List.length_singleton]
        by_cases h5 : sent.length + 1 ≤ 4
        · rw [decide_eq_true h5, decide_eq_true (show (sent.length : Int) < 4 by omega)]
          simp only [cond_true, show (((0 : Int) == 0) == true) = true from rfl, Bool.not_true, cond_false, show ((0 : Int) == 0) = true from rfl]
          rw [app_ok (by simp; omega)]
          have hk2 := with_ok h'.ok hp (l := sent ++ [z]) (by simp; omega)
          have hg2 := with_goo h'.goo hp (l := sent ++ [z]) (by omega)
          simp only [Option.bind_some]
          rw [iCheck_eq hg2, (ok_iff _).2 hk2]
          simp only [cond_true, Option.bind_some, e0, cond_false]
          refine order_go hne hp k hK r (i + 1) _ _ (by omega) ⟨hk2, hg2, ?_, waits_with _ _ _, h'.n⟩
          have := with_len s' x1.f0 (sent ++ [z]); omega
        · rw [decide_eq_false h5, decide_eq_false (show ¬ (sent.length : Int) < 4 by omega)]
          simp only [cond_false, show (((6 : Int) == 0) == false) = true from rfl, Bool.not_true, show ((6 : Int) == 0) = false from rfl]
          rw [iCheck_eq h'.goo, ho']
          simp only [cond_true, Option.bind_some, e0, cond_false]
          exact order_go hne hp k hK r (i + 1) _ _ (by omega) ⟨h'.ok, h'.goo, by omega, h'.w, h'.n⟩
      have hC : ((i_Send 100 s x1.f1 ([z] : List Int)).bind fun y324 => bif (y324.2 == (0 : Int)) then ((i_Send 100 y324.1 x1.f0 ([z] : List Int)).bind fun y258 => (bif (!((y258.2 == (0 : Int)) == (decide ((sent.length : Int) < (4 : Int))))) then some (false) else (bif (y258.2 == (0 : Int)) then ((app 8 sent [z]).bind fun z303 => (i_Check 100 y258.1).bind fun y299 => (bif (y299 != (0 : Int)) then some (false) else (l_Order_l1 x1 k 100 r (i + 1) z303 y258.1))) else (i_Check 100 y324.1).bind fun y299 => (bif (y299 != (0 : Int)) then some (false) else (l_Order_l1 x1 k 100 r (i + 1) sent y324.1))))) else ((i_Send 100 s x1.f0 ([z] : List Int)).bind fun y258 => (bif (!((y258.2 == (0 : Int)) == (decide ((sent.length : Int) < (4 : Int))))) then some (false) else (bif (y258.2 == (0 : Int)) then ((app 8 sent [z]).bind fun z303 => (i_Check 100 y258.1).bind fun y299 => (bif (y299 != (0 : Int)) then some (false) else (l_Order_l1 x1 k 100 r (i + 1) z303 y258.1))) else (i_Check 100 s).bind fun y299 => (bif (y299 != (0 : Int)) then some (false) else (l_Order_l1 x1 k 100 r (i + 1) sent s)))))) = some true := by
        have hs := hB s ⟨h.ok, h.goo, by omega, h.w, h.n⟩
        rw [iSend_eq h.goo (by omega) x1.f1 (by simp), ho]
        simp only [cond_true, Option.bind_some]
        cases hp1 : pidOk x1.f1 with
        | false => exact hs
        | true =>
          simp only [cond_true]
          by_cases h5 : (waitsS s x1.f1).length + [z].length ≤ 4
          · rw [decide_eq_true h5]
            simp only [cond_true, show ((0 : Int) == 0) = true from rfl]
            refine hB _ ⟨with_ok h.ok hp1 (by simpa using h5), with_goo h.goo hp1 (by omega), ?_, (waits_other h.ok hne _).trans h.w, h.n⟩
            have := with_len s x1.f1 (waitsS s x1.f1 ++ [z]); omega
          · rw [decide_eq_false h5]
            exact hs
      cases hb : (z.tmod 3 == 0) && decide ((sent.length : Int) > 0) with
      | true =>
        rw [Bool.and_eq_true] at hb
        rw [hb.1, cond_true, hb.2, cond_true]
        rcases hA with hA | hA
        · exact hA
        · rw [hA] at hb; simp at hb
      | false =>
        rw [Bool.and_eq_false_iff] at hb
        rcases hb with hb | hb
        · rw [hb]
          simp only [cond_false]
          exact hC
        · rw [hb]
          cases z.tmod 3 == 0
          · simp only [cond_false]; exact hC
          · simp only [cond_true, cond_false]; exact hC
theorem Order_true {x : GIpc} {pids : GTwo} {words : List Int} (h1 : ∀ z ∈ x.fNames, U z.fName) (h2 : ∀ z ∈ x.fBoxes, U z.fPid) : l_Order 100 x pids words = some true := by
  unfold l_Order letk
  rw [wakes_true]
  simp only [Option.bind_some, Bool.not_true, cond_false]
  rw [own_eq]
  have hs := own_goo h1 h2
  have hlen : (own' x).fBoxes.length ≤ 20 := by simp [own']; omega
  simp only [Option.bind_some]
  rw [iCheck_eq hs]
  simp only [Option.bind_some]
  cases ho : okB (own' x) with
  | false => rfl
  | true =>
    have hk := (ok_iff _).1 ho
    have e0 : ((0 : Int) != 0) = false := rfl
    simp only [cond_true, e0, cond_false]
    by_cases hpp : pids.f0 = pids.f1
    · have : (pids.f0 == pids.f1) = true := by simpa using hpp
      rw [this]; rfl
    · have : (pids.f0 == pids.f1) = false := by simpa using hpp
      rw [this]
      simp only [cond_false]
      rw [iClear_eq hs (by omega), ho]
      simp only [cond_true]
      cases hp : pidOk pids.f0 with
      | false => rfl
      | true =>
        have hk2 := with_ok hk hp (l := []) (by simp)
        have hg2 := with_goo hs hp (l := []) (by omega)
        simp only [cond_true, Option.bind_some, e0, cond_false]
        rw [iHeld_eq hg2, iHeld_eq hg2, (ok_iff _).2 hk2]
        simp only [cond_true, Option.bind_some]
        refine order_go (ns := (own' x).fNames) hpp hp _ (fun s sent h => ?_) words 0 [] _ (by omega) ⟨hk2, hg2, ?_, waits_with _ _ _, rfl⟩
        · have hl := h.len
          have ho2 := (ok_iff s).2 h.ok
          have hh : ∀ q, heldS s q = heldS (withS (own' x) pids.f0 []) q := fun q => by unfold heldS; rw [h.n]; rfl
          rw [iClear_eq h.goo (by omega), iHeld_eq h.goo, iHeld_eq h.goo, ho2, hp, h.w]
          simp only [cond_true, Option.bind_some, show ((0 : Int) == 0) = true from rfl, beq_self_eq_true, hh, equal_eq, decide_true]
        · have := with_len (own' x) pids.f0 []
          have h3 : (withS (own' x) pids.f0 []).fBoxes.length ≤ (own' x).fBoxes.length := by
            unfold withS putB
            simp only [if_true, List.append_nil]
            rw [← ne_filter GBox.fPid pids.f0 hk.sb]
            exact List.length_filter_le ..
          omega
end Go.Proofs.Ytjdeaihnpgkphaa
