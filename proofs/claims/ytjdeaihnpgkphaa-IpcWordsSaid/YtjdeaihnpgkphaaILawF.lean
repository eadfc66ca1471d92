/-
  Words that wait, more and fewer. Conditions: words of 64 bits.
-/
import Derived.Test.YtjdeaihnpgkphaaILawC
namespace Go.Proofs.Ytjdeaihnpgkphaa
open Go.Dc

/-! ### Words that wait -/
def waitsS (s : GIpc) (p : Int) : List Int := ((s.fBoxes.find? fun z => z.fPid == p).map (·.fWords)).getD []
def putB (p : Int) (l : List Int) : List GBox := if l = [] then [] else [GBox.mk p l]
def withS (s : GIpc) (p : Int) (l : List Int) : GIpc := GIpc.mk s.fNames (lowK GBox.fPid p s.fBoxes ++ putB p l ++ highK GBox.fPid p s.fBoxes)
theorem waits_go (p : Int) (k : List Int) : ∀ (rest : List GBox) (i : Nat), r_Waits_l1 p k rest i = ((rest.find? fun z => z.fPid == p).map (·.fWords)).getD k
  | [], i => by simp [r_Waits_l1]
  | z :: r, i => by
    simp only [r_Waits_l1, waits_go p k r, List.find?_cons]
    cases z.fPid == p <;> simp
theorem rWaits_eq (s : GIpc) (p : Int) : r_Waits s p = waitsS s p := by
  unfold r_Waits letk
  exact waits_go p _ _ 0
theorem with1_go (p : Int) (k : GIpc → Option GIpc) : ∀ (rest : List GBox) (i : Nat) (acc : GIpc), acc.fBoxes.length + rest.length ≤ 10000 → r_With_l1 p k rest i acc = k (GIpc.mk acc.fNames (acc.fBoxes ++ highK GBox.fPid p rest))
  | [], i, acc, _ => by simp [r_With_l1, highK]
  | z :: r, i, acc, h => by
    simp only [r_With_l1]
    by_cases hz : z.fPid > p
    · rw [decide_eq_true hz]
      simp only [cond_true]
      rw [app_ok (by simp at h ⊢; omega)]
      simp only [Option.bind_some]
      rw [with1_go p k r (i + 1) _ (by simp at h ⊢; omega)]
      simp [highK, hz]
    · rw [decide_eq_false hz]
      simp only [cond_false]
      rw [with1_go p k r (i + 1) _ (by simp at h ⊢; omega)]
      simp [highK, hz]
theorem with2_go (p : Int) (k : GIpc → Option GIpc) : ∀ (rest : List GBox) (i : Nat) (acc : GIpc), acc.fBoxes.length + rest.length ≤ 10000 → r_With_l2 p k rest i acc = k (GIpc.mk acc.fNames (acc.fBoxes ++ lowK GBox.fPid p rest))
  | [], i, acc, _ => by simp [r_With_l2, lowK]
  | z :: r, i, acc, h => by
    simp only [r_With_l2]
    by_cases hz : z.fPid < p
    · rw [decide_eq_true hz]
      simp only [cond_true]
      rw [app_ok (by simp at h ⊢; omega)]
      simp only [Option.bind_some]
      rw [with2_go p k r (i + 1) _ (by simp at h ⊢; omega)]
      simp [lowK, hz]
    · rw [decide_eq_false hz]
      simp only [cond_false]
      rw [with2_go p k r (i + 1) _ (by simp at h ⊢; omega)]
      simp [lowK, hz]
theorem rWith_eq {s : GIpc} (hs : Goo s) (p : Int) (l : List Int) : r_With s p l = some (withS s p l) := by
  unfold r_With letk withS putB
  dsimp only
  have h1 := hs.lb
  have hlow := low_len GBox.fPid p s.fBoxes
  rw [with2_go p _ _ 0 _ (by simp; omega)]
  simp only [List.nil_append]
  by_cases h : l = []
  · subst h
    simp only [List.length_nil, if_true, List.append_nil]
    rw [show decide (((0 : Nat) : Int) > 0) = false from rfl, cond_false, with1_go p _ _ 0 _ (by dsimp only; omega)]
  · have e : decide ((l.length : Int) > 0) = true := by
      have := List.length_pos_iff.2 h
      simp; omega
    rw [e, cond_true, if_neg h, app_ok (by simp; omega)]
    simp only [Option.bind_some]
    rw [with1_go p _ _ 0 _ (by simp; omega)]
/-! ### The hand -/
theorem find_lowB {l : List GBox} (n : Int) (h : SB l) : l.find? (fun z => z.fPid == n) = bif thereK GBox.fPid n l then l[(lowK GBox.fPid n l).length]? else none := by
  cases ht : thereK GBox.fPid n l with
  | false =>
    rw [cond_false, List.find?_eq_none]
    intro z hz e
    have := (there_iff GBox.fPid n).2 ⟨z, hz, by simpa using e⟩
    rw [ht] at this; cases this
  | true =>
    obtain ⟨z, hz, hg, hi⟩ := ge_cons GBox.fPid n h ht
    rw [cond_true, hi]
    have e := splitK GBox.fPid n h
    rw [hg] at e
    rw [e, List.find?_append, List.find?_eq_none.2 (fun y hy => by have := (List.mem_filter.1 hy).2; simp at this ⊢; omega)]
    simp [hz]
theorem iBegin_eq {s : GIpc} (hs : Goo s) (hl : s.fBoxes.length ≤ 80) (p : Int) : i_begin 100 s p = some (bif okB s then (bif pidOk p then (GIpc.mk s.fNames (lowK GBox.fPid p s.fBoxes ++ GBox.mk p (waitsS s p) :: highK GBox.fPid p s.fBoxes), ((lowK GBox.fPid p s.fBoxes).length : Int), 0) else (E0, 0, 2)) else (E0, 0, 350)) := by
  unfold i_begin
  rw [iOwn_eq hs]
  cases ho : okB s with
  | false => rfl
  | true =>
    have hk := (ok_iff s).1 ho
    simp only [Option.bind_some, cond_true]
    have e0 : (!((0 : Int) == 0)) = false := rfl
    rw [e0, iPid_eq]
    simp only [cond_false]
    cases pidOk p with
    | false => rfl
    | true =>
      simp only [Bool.not_true, cond_false, cond_true]
      unfold i_box
      rw [findB_eq p hk.sb (by omega)]
      have hlow := low_len GBox.fPid p s.fBoxes
      have hw : waitsS s p = ((bif thereK GBox.fPid p s.fBoxes then s.fBoxes[(lowK GBox.fPid p s.fBoxes).length]? else none).map (·.fWords)).getD [] := by unfold waitsS; rw [find_lowB p hk.sb]
      simp only [Option.bind_some]
      cases ht : thereK GBox.fPid p s.fBoxes with
      | false =>
        rw [ht] at hw
        simp only [Bool.not_false, cond_true]
        unfold insL
        rw [if_pos ⟨by omega, by omega, by simp; omega⟩]
        simp only [Option.bind_some, Int.toNat_natCast]
        rw [take_low GBox.fPid p hk.sb, drop_low GBox.fPid p hk.sb, ge_high GBox.fPid p ht, hw]
        simp
      | true =>
        rw [ht] at hw
        simp only [Bool.not_true, cond_false, Option.bind_some]
        obtain ⟨z, hz, hg, hi⟩ := ge_cons GBox.fPid p hk.sb ht
        have e := splitK GBox.fPid p hk.sb
        rw [hg] at e
        have hzz : GBox.mk p (waitsS s p) = z := by
          rw [hw, cond_true, hi]
          cases z
          simp at hz ⊢
          exact hz.symm
        rw [hzz, ← e]
theorem set_mid {α : Type} (a : List α) (z y : α) (b : List α) : (a ++ z :: b).set a.length y = a ++ y :: b := by simp
theorem get_mid {α : Type} (a : List α) (z : α) (b : List α) : (a ++ z :: b)[a.length]? = some z := by simp
theorem tidy_eq {s : GIpc} (hk : Ok s) (p : Int) (l : List Int) : tidyX (GIpc.mk s.fNames (lowK GBox.fPid p s.fBoxes ++ GBox.mk p l :: highK GBox.fPid p s.fBoxes)) = withS s p l := by
  have hw : ∀ z ∈ s.fBoxes, (!(z.fWords.length == 0)) = true := fun z hz => by have := hk.b z hz; simp [gB] at this; simp; intro e; rw [e] at this; simp at this
  unfold tidyX withS putB
  simp only [List.filter_append, List.filter_cons]
  have f1 : (lowK GBox.fPid p s.fBoxes).filter (fun z => !(z.fWords.length == 0)) = lowK GBox.fPid p s.fBoxes := List.filter_eq_self.2 fun z hz => hw z (List.mem_filter.1 hz).1
  have f2 : (highK GBox.fPid p s.fBoxes).filter (fun z => !(z.fWords.length == 0)) = highK GBox.fPid p s.fBoxes := List.filter_eq_self.2 fun z hz => hw z (List.mem_filter.1 hz).1
  rw [f1, f2]
  by_cases h : l = []
  · subst h; simp
  · have : (!(l.length == 0)) = true := by simp [h]
    rw [this, if_neg h]
    simp
theorem waits_len {s : GIpc} (hk : Ok s) (p : Int) : (waitsS s p).length ≤ 4 := by
  unfold waitsS
  cases h : s.fBoxes.find? fun z => z.fPid == p with
  | none => simp
  | some z =>
    have := hk.b z (List.mem_of_find?_eq_some h)
    simp [gB] at this ⊢
    omega
theorem iSend_eq {s : GIpc} (hs : Goo s) (hl : s.fBoxes.length ≤ 80) (p : Int) {ws : List Int} (hw : ws.length ≤ 1000) : i_Send 100 s p ws = some (bif okB s then (bif pidOk p then (bif decide ((waitsS s p).length + ws.length ≤ 4) then (withS s p (waitsS s p ++ ws), 0) else (E0, 6)) else (E0, 2)) else (E0, 350)) := by
  unfold i_Send
  rw [iBegin_eq hs hl]
  cases ho : okB s with
  | false => rfl
  | true =>
    cases pidOk p with
    | false => rfl
    | true =>
      have hk := (ok_iff s).1 ho
      have h4 := waits_len hk p
      have e0 : (!((0 : Int) == 0)) = false := rfl
      have hwr : IntKind.i64.wrap (((waitsS s p).length : Int) + (ws.length : Int)) = (((waitsS s p).length + ws.length : Nat) : Int) := by rw [IntWalk.i64_in] <;> omega
      simp only [Option.bind_some, cond_true, e0, cond_false, idx_nat, get_mid, hwr]
      by_cases h : (waitsS s p).length + ws.length ≤ 4
      · rw [decide_eq_true h, show decide ((((waitsS s p).length + ws.length : Nat) : Int) > 4) = false from by simp; omega]
        simp only [cond_false, cond_true]
        rw [app_ok (by omega)]
        simp only [Option.bind_some, Int.toNat_natCast, set_mid, tidy_eq hk]
      · rw [decide_eq_false h, show decide ((((waitsS s p).length + ws.length : Nat) : Int) > 4) = true from by simp; omega]
        rfl
theorem iReceive_eq {s : GIpc} (hs : Goo s) (hl : s.fBoxes.length ≤ 80) (p : Int) : i_Receive 100 s p = some (bif okB s then (bif pidOk p then (match waitsS s p with | [] => (E0, (0 : Int), (4 : Int)) | w :: r => (withS s p r, w, 0)) else (E0, 0, 2)) else (E0, 0, 350)) := by
  unfold i_Receive
  rw [iBegin_eq hs hl]
  cases ho : okB s with
  | false => rfl
  | true =>
    cases pidOk p with
    | false => rfl
    | true =>
      have hk := (ok_iff s).1 ho
      have e0 : (!((0 : Int) == 0)) = false := rfl
      simp only [Option.bind_some, cond_true, e0, cond_false, idx_nat, get_mid]
      cases hw : waitsS s p with
      | nil => rfl
      | cons w r =>
        have e1 : (((w :: r).length : Int) == 0) = false := by simp; omega
        simp only [e1, cond_false, Int.toNat_natCast, set_mid, List.drop_one, List.tail_cons, tidy_eq hk]
        rfl
theorem iClear_eq {s : GIpc} (hs : Goo s) (hl : s.fBoxes.length ≤ 80) (p : Int) : i_Clear 100 s p = some (bif okB s then (bif pidOk p then (withS s p [], ((waitsS s p).length : Int), 0) else (E0, 0, 2)) else (E0, 0, 350)) := by
  unfold i_Clear
  rw [iBegin_eq hs hl]
  cases ho : okB s with
  | false => rfl
  | true =>
    cases pidOk p with
    | false => rfl
    | true =>
      have hk := (ok_iff s).1 ho
      have e0 : (!((0 : Int) == 0)) = false := rfl
      simp only [Option.bind_some, cond_true, e0, cond_false, idx_nat, get_mid, Int.toNat_natCast, set_mid, tidy_eq hk]
/-! ### The law -/
theorem concat_eq {a b : List Int} (h : a.length + b.length ≤ 1000) : s_Concat [a, b] = some (a ++ b) := by
  unfold s_Concat letk
  have w1 : IntKind.i64.wrap (0 + (a.length : Int)) = (a.length : Int) := by rw [IntWalk.i64_in] <;> omega
  have w2 : IntKind.i64.wrap ((a.length : Int) + (b.length : Int)) = ((a.length + b.length : Nat) : Int) := by rw [IntWalk.i64_in] <;> omega
  simp only [s_Concat_l2, w1, w2]
  rw [decide_eq_false (show ¬ (a.length : Int) < 0 by omega), decide_eq_false (show ¬ ((a.length + b.length : Nat) : Int) < 0 by omega)]
  simp only [cond_false, s_Grow]
  rw [if_pos ⟨by omega, by omega⟩]
  simp only [Option.bind_some, s_Concat_l1]
  rw [app_ok (by simp; omega)]
  simp only [Option.bind_some, List.nil_append]
  rw [app_ok (by omega)]
  rfl
theorem cut1_eq {w : Int} {r : List Int} : cutx (w :: r) (some 1) none none = some r := by
  unfold cutx
  simp only [Option.getD_none, Option.getD_some]
  rw [if_pos (by simp; omega)]
  simp
theorem words_run {s : GIpc} (hs : Goo s) (hl : s.fBoxes.length ≤ 80) {ws : List Int} (hw : ws.length ≤ 8) (k : Option Bool) : ∀ (rest : List Int) (i : Nat), l_Words_l1 s (okB s) ws k 100 rest i = k
  | [], i => by simp [l_Words_l1]
  | p :: r, i => by
    have ih := words_run hs hl hw k r (i + 1)
    simp only [l_Words_l1, letk]
    cases (i : Int) == 6 with
    | true => rfl
    | false =>
      simp only [cond_false]
      rw [iSend_eq hs hl p (by omega), iReceive_eq hs hl, iClear_eq hs hl]
      simp only [Option.bind_some, rPid_eq, rWaits_eq]
      cases ho : okB s with
      | false =>
        rw [ho] at ih
        simp only [cond_false, bne_self_eq_false, rSame_eq, Option.bind_some, decide_true, Bool.not_true]
        exact ih
      | true =>
        rw [ho] at ih
        have hk := (ok_iff s).1 ho
        have h4 := waits_len hk p
        cases pidOk p with
        | false =>
          simp only [cond_true, cond_false, bne_self_eq_false, rSame_eq, Option.bind_some, decide_true, Bool.not_true]
          exact ih
        | true =>
          have hwr : IntKind.i64.wrap (((waitsS s p).length : Int) + (ws.length : Int)) = (((waitsS s p).length + ws.length : Nat) : Int) := by rw [IntWalk.i64_in] <;> omega
          simp only [cond_true, hwr, rWith_eq hs]
          by_cases h : (waitsS s p).length + ws.length ≤ 4
          · rw [decide_eq_true h, decide_eq_true (show (((waitsS s p).length + ws.length : Nat) : Int) ≤ 4 by omega), concat_eq (by omega)]
            simp only [cond_true, Option.bind_some]
            cases hq : waitsS s p with
            | nil =>
              rw [show decide ((([] : List Int).length : Int) > 0) = false from rfl]
              simp only [cond_false, Option.bind_some, bne_self_eq_false, rSame_eq, decide_true, Bool.not_true]
              exact ih
            | cons w t =>
              rw [decide_eq_true (show ((w :: t).length : Int) > 0 by simp), cut1_eq]
              simp only [cond_true, cond_false, Option.bind_some, show idx (w :: t) (0 : Int) = some w from rfl, bne_self_eq_false, rSame_eq, decide_true, Bool.not_true]
              exact ih
          · rw [decide_eq_false h, decide_eq_false (show ¬ (((waitsS s p).length + ws.length : Nat) : Int) ≤ 4 by omega)]
            simp only [cond_false]
            cases hq : waitsS s p with
            | nil =>
              rw [show decide ((([] : List Int).length : Int) > 0) = false from rfl]
              simp only [cond_false, Option.bind_some, bne_self_eq_false, rSame_eq, decide_true, Bool.not_true]
              exact ih
            | cons w t =>
              rw [decide_eq_true (show ((w :: t).length : Int) > 0 by simp), cut1_eq]
              simp only [cond_true, cond_false, Option.bind_some, show idx (w :: t) (0 : Int) = some w from rfl, bne_self_eq_false, rSame_eq, decide_true, Bool.not_true]
              exact ih
theorem Words_true {x : GIpc} {pids words : List Int} (h1 : ∀ z ∈ x.fNames, U z.fName) (h2 : ∀ z ∈ x.fBoxes, U z.fPid) : l_Words 100 x pids words = some true := by
  unfold l_Words letk
  rw [wakes_true]
  simp only [Option.bind_some, Bool.not_true, cond_false]
  rw [own_eq]
  have hs := own_goo h1 h2
  have hc := cutx_to words 6
  simp only [Option.bind_some]
  rw [rRight_eq hs, show (6 : Int) = ((6 : Nat) : Int) from rfl, hc]
  simp only [Option.bind_some]
  rw [clone_eq (by simp; omega)]
  simp only [Option.bind_some, rSame_eq, decide_true]
  exact words_run hs (by simp [own']; omega) (by simp; omega) _ pids 0
end Go.Proofs.Ytjdeaihnpgkphaa
