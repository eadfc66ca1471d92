/-
  Plain laws of package ipc: which words are names. Conditions: words of 64 bits.
-/
import Derived.Test.YtjdeaihnpgkphaaGPlain
import Derived.Laws.Bits64b
import Derived.Laws.Strings
namespace Go.Proofs.Ytjdeaihnpgkphaa
open Go.Dc

abbrev U (k : Int) : Prop := 0 ≤ k ∧ k < 18446744073709551616
theorem app_ok {α : Type} {b : Nat} {xs ys : List α} (h : (xs.length + ys.length) * b ≤ 140737488355328) : app b xs ys = some (xs ++ ys) := by
  unfold app
  rw [if_pos h]
/-- a word's bytes, the lowest first, till one that is 0 -/
def dg : Nat → Nat → List Nat
  | 0, _ => []
  | k + 1, n => if n % 256 = 0 then [] else n % 256 :: dg k (n / 256)
/-- what is left of it then -/
def rst : Nat → Nat → Nat
  | 0, n => n
  | k + 1, n => if n % 256 = 0 then n else rst k (n / 256)
def isN (n : Int) : Bool := (rst 8 n.toNat == 0) && !(dg 8 n.toNat).isEmpty && (dg 8 n.toNat).all chrI
/-- bytes as a text -/
def bs (l : List Nat) : ByteArray := ⟨(l.map UInt8.ofNat).toArray⟩
theorem dg_len : ∀ (k n : Nat), (dg k n).length ≤ k
  | 0, _ => by simp [dg]
  | k + 1, n => by
    simp only [dg]
    split
    · simp
    · have := dg_len k (n / 256)
      simp
      omega
theorem dg_mem : ∀ (k n : Nat), ∀ x ∈ dg k n, 0 < x ∧ x < 256
  | 0, _, x, h => by simp [dg] at h
  | k + 1, n, x, h => by
    simp only [dg] at h
    split at h
    · cases h
    · rcases List.mem_cons.1 h with e | h
      · omega
      · exact dg_mem k _ x h
theorem bs_size (l : List Nat) : (bs l).size = l.length := by simp [bs, ByteArray.size]
theorem bs_app (l m : List Nat) : bs l ++ bs m = bs (l ++ m) := by
  apply ByteArray.ext
  simp [bs, ByteArray.data_append]
theorem foldl_push : ∀ (xs : List Int) (r : ByteArray), (xs.foldl (fun r n => r.push (UInt8.ofNat n.toNat)) r).data.toList = r.data.toList ++ xs.map (fun n => UInt8.ofNat n.toNat)
  | [], r => by simp
  | x :: xs, r => by
    rw [List.foldl_cons, foldl_push xs]
    simp [ByteArray.data_push]
theorem strOf_bs (l : List Nat) : strOf (l.map fun (n : Nat) => (n : Int)) = bs l := by
  apply ByteArray.ext
  apply Array.ext'
  unfold strOf
  rw [foldl_push]
  show [] ++ _ = _
  simp [bs]
theorem saddO_bs {l m : List Nat} (h : l.length + m.length ≤ 1000) : saddO (bs l) (bs m) = some (bs (l ++ m)) := by
  unfold saddO
  rw [bs_size, bs_size, if_pos (by omega), bs_app]
/-! ### The document's reading of a word -/
theorem tmod_nat (n : Nat) : ((n : Int).tmod 256) = ((n % 256 : Nat) : Int) := by
  rw [Int.tmod_eq_emod_of_nonneg (by omega)]; omega
theorem tdiv_nat (n : Nat) : ((n : Int).tdiv 256) = ((n / 256 : Nat) : Int) := by
  rw [Int.tdiv_eq_ediv_of_nonneg (by omega)]; omega
theorem rBack_go (k3 : ByteArray → Option (ByteArray × Bool)) : ∀ (k f n : Nat) (l : List Nat), n < 256 ^ k → n < 18446744073709551616 → l.length + k ≤ 100 →
    r_Back_l1 k3 (k + 1 + f) (n : Int) (bs l) = if rst k n = 0 then k3 (bs (l ++ dg k n)) else some (⟨#[]⟩, false)
  | 0, f, n, l, h, _, _ => by
    have : n = 0 := by simpa using h
    subst this
    rw [show 0 + 1 + f = f + 1 by omega]
    simp [r_Back_l1, rst, dg]
  | k + 1, f, n, l, h, hn, hl => by
    rw [show k + 1 + 1 + f = (k + 1 + f) + 1 by omega]
    simp only [r_Back_l1]
    rw [tmod_nat, tdiv_nat]
    by_cases h0 : n = 0
    · subst h0
      simp [rst, dg]
    · have hp : decide ((n : Int) > 0) = true := by simp; omega
      rw [hp]
      simp only [cond_true]
      by_cases hm : n % 256 = 0
      · have e : (((n % 256 : Nat) : Int) == 0) = true := by rw [hm]; rfl
        rw [e]
        simp [rst, hm, h0]
      · have e : (((n % 256 : Nat) : Int) == 0) = false := by simp; omega
        rw [e]
        have hw : IntKind.u8.wrap ((n % 256 : Nat) : Int) = ((n % 256 : Nat) : Int) := by rw [IntKind.wrap_u8]; omega
        have hw2 : IntKind.u64.wrap ((n / 256 : Nat) : Int) = ((n / 256 : Nat) : Int) := by rw [IntKind.wrap_u64]; omega
        have hs : strOf [((n % 256 : Nat) : Int)] = bs [n % 256] := strOf_bs [n % 256]
        simp only [cond_false]
        rw [hw, hw2, hs, saddO_bs (by simp; omega)]
        simp only [Option.bind_some]
        rw [rBack_go k3 k f (n / 256) (l ++ [n % 256]) (by rw [Nat.pow_succ] at h; omega) (by omega) (by simp; omega)]
        simp only [rst, dg, if_neg hm, List.append_assoc, List.singleton_append]
theorem rBack_eq {n : Nat} (h : n < 18446744073709551616) : r_Back 100 (n : Int) = if rst 8 n = 0 then some (bs (dg 8 n), true) else some (⟨#[]⟩, false) := by
  unfold r_Back letk
  have := rBack_go (fun p7 => some (p7, true)) 8 91 n [] (by omega) h (by simp)
  rw [List.nil_append] at this
  exact this
/-! ### The program's -/
theorem and255 {n : Nat} (h : n < 18446744073709551616) : bits .and .u64 (n : Int) 255 = ((n % 256 : Nat) : Int) := by
  have e : bits .and .u64 (n : Int) ((255 : Nat) : Int) = ((n &&& 255 : Nat) : Int) := bits_and_u64_nat n 255 h (by omega)
  have e2 : n &&& 255 = n % 256 := by
    have := Nat.and_two_pow_sub_one_eq_mod n 8
    simpa using this
  rw [e2] at e
  exact e
theorem bBack_go (k3 : List Int → Option (ByteArray × Int)) : ∀ (k f n : Nat) (l : List Nat), n < 256 ^ k → n < 18446744073709551616 → l.length + k ≤ 100 →
    b_Back_l1 k3 (k + 1 + f) (l.map fun (n : Nat) => (n : Int)) (n : Int) = k3 ((l ++ dg k n).map fun (n : Nat) => (n : Int))
  | 0, f, n, l, h, _, _ => by
    have : n = 0 := by simpa using h
    subst this
    rw [show 0 + 1 + f = f + 1 by omega]
    simp only [b_Back_l1]
    rw [and255 (by omega)]
    simp [dg]
  | k + 1, f, n, l, h, hn, hl => by
    rw [show k + 1 + 1 + f = (k + 1 + f) + 1 by omega]
    simp only [b_Back_l1]
    rw [and255 hn]
    by_cases hm : n % 256 = 0
    · have e : (((n % 256 : Nat) : Int) != 0) = false := by rw [hm]; rfl
      rw [e]
      simp [dg, hm]
    · have e : (((n % 256 : Nat) : Int) != 0) = true := by simp; omega
      rw [e]
      simp only [cond_true]
      have hw : IntKind.u8.wrap (n : Int) = ((n % 256 : Nat) : Int) := by rw [IntKind.wrap_u8]; omega
      have hw2 : (n : Int).fdiv (2 ^ 8) = ((n / 256 : Nat) : Int) := by
        rw [Int.fdiv_eq_ediv_of_nonneg _ (by omega)]; omega
      rw [hw, hw2, app_ok (by simp; omega)]
      simp only [Option.bind_some]
      have := bBack_go k3 k f (n / 256) (l ++ [n % 256]) (by rw [Nat.pow_succ] at h; omega) (by omega) (by simp; omega)
      rw [List.map_append] at this
      rw [show [((n % 256 : Nat) : Int)] = [n % 256].map (fun (n : Nat) => (n : Int)) from rfl, this]
      simp only [dg, if_neg hm, List.append_assoc, List.singleton_append]
/-- bytes as a number -/
def pk : List Nat → Nat
  | [] => 0
  | x :: r => x + 256 * pk r
theorem packN_split (c : Nat → Nat) : ∀ k, packN c (k + 1) = c 0 + 256 * packN (fun i => c (i + 1)) k
  | 0 => by simp [packN]
  | k + 1 => by
    rw [packN, packN_split c k]
    simp only [packN, Nat.pow_succ, Nat.mul_add]
    rw [Nat.mul_comm (256 ^ k) 256]
    simp only [Nat.mul_assoc, Nat.add_assoc]
theorem packN_list : ∀ (k : Nat) (l : List Nat), l.length ≤ k → packN (fun i => (l[i]?).getD 0) k = pk l
  | 0, l, h => by
    have : l = [] := List.eq_nil_of_length_eq_zero (by omega)
    subst this; rfl
  | k + 1, [], h => by
    rw [packN_split]
    have := packN_list k [] (by simp)
    simp only [List.getElem?_nil, Option.getD_none] at this ⊢
    rw [this]; rfl
  | k + 1, x :: r, h => by
    rw [packN_split]
    have := packN_list k r (by simpa using h)
    simp only [List.getElem?_cons_succ, List.getElem?_cons_zero, Option.getD_some] at this ⊢
    rw [this]; rfl
theorem pk_dg : ∀ (k n : Nat), pk (dg k n) + 256 ^ (dg k n).length * rst k n = n
  | 0, n => by simp [dg, rst, pk]
  | k + 1, n => by
    simp only [dg, rst]
    split
    · simp [pk]
    · have := pk_dg k (n / 256)
      simp only [pk, List.length_cons, Nat.pow_succ]
      rw [Nat.mul_comm (256 ^ _) 256, Nat.mul_assoc]
      omega
theorem byteAt_bs {l : List Nat} (h : ∀ x ∈ l, x < 256) (j : Nat) : byteAt (bs l) j = (l[j]?).getD 0 := by
  unfold byteAt bs
  simp only [List.getElem?_map]
  cases hj : l[j]? with
  | none => simp
  | some x =>
    have := h x (List.mem_of_getElem? hj)
    simp
    omega
theorem bText_bs {l : List Nat} (h : ∀ x ∈ l, 0 < x ∧ x < 256) (hl : l.length ≤ 8) : b_Text (bs l) = (((pk l : Nat) : Int), 0) := by
  unfold b_Text
  rw [bs_size, if_neg (by omega)]
  have e : (List.range l.length).any (fun j => byteAt (bs l) j == 0) = false := by
    rw [List.any_eq_false]
    intro j hj
    have hj : j < l.length := by simpa using hj
    rw [byteAt_bs (fun x hx => (h x hx).2), List.getElem?_eq_getElem hj]
    have := (h _ (List.getElem_mem hj)).1
    simp
    omega
  rw [e, if_neg (by simp)]
  rw [show byteAt (bs l) = fun i => (l[i]?).getD 0 from funext fun j => byteAt_bs (fun x hx => (h x hx).2) j, packN_list 8 l hl]
theorem bBack_eq {n : Nat} (h : n < 18446744073709551616) : b_Back 100 (n : Int) = if rst 8 n = 0 then some (bs (dg 8 n), 0) else some (⟨#[]⟩, 2) := by
  unfold b_Back letk
  dsimp only
  rw [show ([] : List Int) = ([] : List Nat).map (fun (n : Nat) => (n : Int)) from rfl, bBack_go _ 8 91 n [] (by omega) h (by simp)]
  rw [List.nil_append, strOf_bs, bText_bs (dg_mem 8 n) (dg_len 8 n)]
  have := pk_dg 8 n
  simp only [bne_self_eq_false, cond_false]
  by_cases h0 : rst 8 n = 0
  · rw [h0, Nat.mul_zero, Nat.add_zero] at this
    rw [this, if_pos h0]
    simp
  · have h1 : 0 < 256 ^ (dg 8 n).length * rst 8 n := Nat.mul_pos (Nat.pow_pos (by omega)) (by omega)
    have e : (((pk (dg 8 n) : Nat) : Int) != (n : Int)) = true := by simp; omega
    rw [e, if_neg h0]
    rfl
/-! ### Letters -/
theorem get_bs {l : List Nat} (h : ∀ x ∈ l, x < 256) {i x : Nat} (hx : l[i]? = some x) : ((bs l).get! i).toNat = x := by
  have hl := (List.getElem?_eq_some_iff.1 hx).1
  have hlt := h x (List.mem_of_getElem? hx)
  have e : (bs l).get! i = UInt8.ofNat x := by
    unfold ByteArray.get! bs
    have : ((l.map UInt8.ofNat).toArray)[i]? = some (UInt8.ofNat x) := by simp [hx]
    simp [getElem!_def, this]
  rw [e]
  simp
  omega
theorem decode_low {s : ByteArray} {i : Nat} (h : (s.get! i).toNat < 128) : Go.Utf8.decode s i = ((s.get! i).toNat, 1) := by
  unfold Go.Utf8.decode
  simp only [Nat.add_zero]
  rw [if_pos h]
theorem decode_high {s : ByteArray} {i : Nat} (h : ¬ (s.get! i).toNat < 128) : 128 ≤ (Go.Utf8.decode s i).1 := by
  unfold Go.Utf8.decode
  simp only [Nat.add_zero]
  rw [if_neg h]
  have hr : 128 ≤ Go.Utf8.runeError := by decide
  repeat' split
  all_goals first | exact hr | skip
  · assumption
  · rename_i hc; simp only [Bool.and_eq_true, decide_eq_true_eq] at hc; have := hc.1; show 128 ≤ _; omega
  · rename_i hc; simp only [Bool.and_eq_true, decide_eq_true_eq] at hc; have := hc.1; show 128 ≤ _; omega
theorem chrI_high {c : Nat} (h : 128 ≤ c) : chrI c = false := by
  unfold chrI
  simp
  omega
theorem rok_go {l : List Nat} (h : ∀ x ∈ l, x < 256) : ∀ (k pos f : Nat) (ok : Bool), l.length - pos = k → pos ≤ l.length → rokB (bs l) ok (k + 1 + f) pos = some (ok && (l.drop pos).all chrI)
  | 0, pos, f, ok, hk, hp => by
    have e : pos = l.length := by omega
    subst e
    rw [show 0 + 1 + f = f + 1 by omega]
    simp [rokB, bs_size]
  | k + 1, pos, f, ok, hk, hp => by
    have hlt : pos < l.length := by omega
    have hx := List.getElem?_eq_getElem hlt
    have hg := get_bs h hx
    rw [show k + 1 + 1 + f = (k + 1 + f) + 1 by omega]
    simp only [rokB]
    rw [bs_size, if_pos hlt, List.drop_eq_getElem_cons hlt, List.all_cons]
    by_cases hb : ((bs l).get! pos).toNat < 128
    · rw [decode_low hb, hg]
      cases hc : (ok && chrI l[pos]) with
      | true =>
        rw [if_pos rfl, rok_go h k (pos + 1) f true (by omega) (by omega)]
        rw [← Bool.and_assoc, hc]
      | false =>
        rw [if_neg (by simp), ← Bool.and_assoc, hc]
        rfl
    · have h1 := chrI_high (decode_high hb)
      have h2 := chrI_high (c := l[pos]) (by rw [← hg]; omega)
      rw [h1, h2, Bool.and_false, if_neg (by simp)]
      simp
theorem sidx_bs {l : List Nat} (h : ∀ x ∈ l, x < 256) {i x : Nat} (hx : l[i]? = some x) : sidxO (bs l) (i : Int) = some (x : Int) := by
  have hl := (List.getElem?_eq_some_iff.1 hx).1
  have hlt := h x (List.mem_of_getElem? hx)
  have hs : i < (bs l).size := by rw [bs_size]; exact hl
  unfold sidxO
  rw [if_pos (by omega), Int.toNat_natCast, getElem?_pos (bs l) i hs]
  have hg : (bs l)[i] = UInt8.ofNat x := by
    show (bs l).data[i] = _
    have hx' := (List.getElem?_eq_some_iff.1 hx).2
    simp [bs, hx']
  rw [hg]
  simp
  omega
theorem rIs_go {l : List Nat} (h : ∀ x ∈ l, x < 256) (b : Bool) (k13 : Bool → Option Bool) (hl : l.length ≤ 100) : ∀ (k pos f : Nat) (ok : Bool), l.length - pos = k → pos ≤ l.length → r_Is_l1 (bs l, b) k13 (k + 1 + f) ok (pos : Int) = k13 (ok && (l.drop pos).all chrI)
  | 0, pos, f, ok, hk, hp => by
    have e : pos = l.length := by omega
    subst e
    rw [show 0 + 1 + f = f + 1 by omega]
    simp [r_Is_l1, bs_size]
  | k + 1, pos, f, ok, hk, hp => by
    have hlt : pos < l.length := by omega
    have hx := List.getElem?_eq_getElem hlt
    have hs := sidx_bs h hx
    have hw : IntKind.i64.wrap ((pos : Int) + 1) = ((pos + 1 : Nat) : Int) := wrap_succ hlt (by unfold maxLen; omega)
    rw [show k + 1 + 1 + f = (k + 1 + f) + 1 by omega]
    simp only [r_Is_l1]
    rw [bs_size, hs, hw]
    have hd : decide ((pos : Int) < (l.length : Int)) = true := by simp; omega
    rw [hd, List.drop_eq_getElem_cons hlt, List.all_cons]
    simp only [cond_true, Option.bind_some]
    have ih := fun ok => rIs_go h b k13 hl k (pos + 1) f ok (by omega) (by omega)
    rw [ih, ih, ih]
    cases ok with
    | false => simp
    | true =>
      simp only [cond_true, Bool.true_and, Bool.false_and]
      have hc : chrI l[pos] = (bif decide ((l[pos] : Int) ≥ 97) then (bif decide ((l[pos] : Int) ≤ 122) then true else (bif decide ((l[pos] : Int) ≥ 48) then decide ((l[pos] : Int) ≤ 57) else false)) else (bif decide ((l[pos] : Int) ≥ 48) then decide ((l[pos] : Int) ≤ 57) else false)) := by
        unfold chrI
        by_cases h1 : (l[pos] : Int) ≥ 97 <;> by_cases h2 : (l[pos] : Int) ≤ 122 <;> by_cases h3 : (l[pos] : Int) ≥ 48 <;> by_cases h4 : (l[pos] : Int) ≤ 57 <;> simp [h1, h2, h3, h4] <;> omega
      rw [hc]
      cases decide ((l[pos] : Int) ≥ 97) <;> cases decide ((l[pos] : Int) ≤ 122) <;> cases decide ((l[pos] : Int) ≥ 48) <;> simp
theorem dg_256 (n : Nat) : ∀ x ∈ dg 8 n, x < 256 := fun x hx => (dg_mem 8 n x hx).2
theorem empty_bs (l : List Nat) : ((bs l).toList == (⟨#[]⟩ : ByteArray).toList) = l.isEmpty := by
  have e1 : ∀ x : ByteArray, x.toList = x.data.toList := fun x => ByteArray.toList_eq x
  rw [e1, e1]
  cases l <;> simp [bs]
/-- both agree on names -/
theorem iIs_eq {n : Int} (h : U n) : i_Is 100 n = some (isN n) := by
  obtain ⟨m, rfl⟩ := Int.eq_ofNat_of_zero_le h.1
  have hm : m < 18446744073709551616 := by unfold U at h; omega
  unfold i_Is isN
  rw [bBack_eq hm, Int.toNat_natCast]
  by_cases h0 : rst 8 m = 0
  · rw [if_pos h0, h0]
    simp only [Option.bind_some, empty_bs]
    have := rok_go (dg_256 m) (dg 8 m).length 0 (99 - (dg 8 m).length) (((0 : Int) == 0) && !(dg 8 m).isEmpty) (by omega) (by omega)
    have hl := dg_len 8 m
    rw [show (dg 8 m).length + 1 + (99 - (dg 8 m).length) = 100 by omega, List.drop_zero] at this
    rw [this]
    simp
  · rw [if_neg h0]
    have e : (rst 8 m == 0) = false := by simp [h0]
    rw [e]
    simp only [Option.bind_some]
    have : ((2 : Int) == 0) = false := rfl
    rw [this]
    have hb : rokB (⟨#[]⟩ : ByteArray) (false && !((⟨#[]⟩ : ByteArray).toList == (⟨#[]⟩ : ByteArray).toList)) 100 0 = some (false && !((⟨#[]⟩ : ByteArray).toList == (⟨#[]⟩ : ByteArray).toList)) := by
      show rokB _ _ (99 + 1) 0 = _
      simp [rokB, ByteArray.size]
    rw [hb]
    simp
theorem rIs_eq {n : Int} (h : U n) : r_Is 100 n = some (isN n) := by
  obtain ⟨m, rfl⟩ := Int.eq_ofNat_of_zero_le h.1
  have hm : m < 18446744073709551616 := by unfold U at h; omega
  unfold r_Is isN letk
  rw [rBack_eq hm, Int.toNat_natCast]
  have hl := dg_len 8 m
  by_cases h0 : rst 8 m = 0
  · rw [if_pos h0, h0]
    simp only [Option.bind_some]
    have := rIs_go (dg_256 m) true (fun p17 => bif p17 then some (decide (((bs (dg 8 m)).size : Int) > 0)) else some false) (by omega) (dg 8 m).length 0 (99 - (dg 8 m).length) true (by omega) (by omega)
    rw [show (dg 8 m).length + 1 + (99 - (dg 8 m).length) = 100 by omega, List.drop_zero] at this
    refine this.trans ?_
    rw [bs_size]
    cases hd : dg 8 m with
    | nil => simp
    | cons a r => cases hc : (a :: r).all chrI <;> simp <;> omega
  · rw [if_neg h0]
    have e : (rst 8 m == 0) = false := by simp [h0]
    rw [e]
    simp only [Option.bind_some]
    have := rIs_go (l := []) (fun x hx => by cases hx) false (fun p17 => bif p17 then some (decide (((bs []).size : Int) > 0)) else some false) (by simp) 0 0 99 false rfl (by simp)
    exact this
end Go.Proofs.Ytjdeaihnpgkphaa
