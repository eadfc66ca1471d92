/-
  The program's functions compute the plain ones (printed by a tool of the prover's).
-/
import Derived.Test.YtjdeaihnpgkphaaGWalk5
namespace Go.Proofs.Ytjdeaihnpgkphaa
open Go.RowKit Go.Dc Go.Shelf
set_option maxRecDepth 100000 in
/-- data, whatever is owned but the blocks of S -/
def Safe (S : List Nat) (w : World) (v : Value) (ys : List Int) : Prop := ∀ O2 : List Nat, (∀ g ∈ S, g ∉ O2) → TW.slice.is O2 w v ys
theorem Safe.keep {S : List Nat} {w w' : World} {O O' : List Nat} {v : Value} {ys : List Int} (h : Safe S w v ys) (ht : Tr O w O' w') (hk : ∀ g ∈ S, w'.heap[g]? = w.heap[g]?) : Safe S w' v ys := fun O2 hO2 => by
  refine (h ((List.range w.heap.size).filter fun k => !S.contains k) (fun g hg hm => ?_)).tr ⟨ht.os, ht.tape, ht.output, ht.size, fun k hk1 hk2 => ?_⟩
  · simp [hg] at hm
  · have hS : k ∈ S := by
      rw [List.mem_filter] at hk2
      by_cases hc : k ∈ S
      · exact hc
      · exact absurd ⟨by simpa using hk1, by simpa using hc⟩ hk2
    exact ⟨hO2 k hS, hk k hS⟩
theorem Safe.more {S S' : List Nat} {w : World} {v : Value} {ys : List Int} (h : Safe S w v ys) (hs : ∀ g ∈ S, g ∈ S') : Safe S' w v ys := fun O2 hO2 => h O2 fun g hg => hO2 g (hs g hg)
def WFor (S : List Nat) (w : World) : List (Int × Value) → List GBox → Prop
  | [], [] => True
  | r :: rs, z :: bs => r.1 = z.fPid ∧ Safe S w r.2 z.fWords ∧ WFor S w rs bs
  | _, _ => False
theorem WFor.imp {S S' : List Nat} {w w' : World} (h : ∀ v ys, Safe S w v ys → Safe S' w' v ys) : ∀ {rs : List (Int × Value)} {bs : List GBox}, WFor S w rs bs → WFor S' w' rs bs
  | [], [], _ => trivial
  | _ :: _, _ :: _, ⟨h1, h2, h3⟩ => ⟨h1, h _ _ h2, WFor.imp h h3⟩
  | [], _ :: _, k => k.elim
  | _ :: _, [], k => k.elim
theorem WFor.len {S : List Nat} {w : World} : ∀ {rs : List (Int × Value)} {bs : List GBox}, WFor S w rs bs → rs.length = bs.length
  | [], [], _ => rfl
  | _ :: _, _ :: _, ⟨_, _, h3⟩ => by simp [WFor.len h3]
  | [], _ :: _, k => k.elim
  | _ :: _, [], k => k.elim
theorem WFor.of {B : Nat} {w : World} : ∀ {S : List Nat} {rs : List (Int × Value)} {bs : List GBox} (S0 : List Nat), Forest TW 29 B w S rs (bs.map bx) → (∀ g ∈ S, g ∈ S0) → WFor S0 w rs bs
  | _, [], [], _, _, _ => trivial
  | _, r :: rs, z :: bs, S0, ⟨S2, h1, h2, h3, h4⟩, hs => by
    refine ⟨h1, fun O2 hO2 => h3.data TW_flat fun g hg => hO2 g (hs g (by rw [h2, hg]; simp)), WFor.of S0 h4 fun g hg => hs g (by rw [h2]; exact List.mem_append_right _ hg)⟩
  | _, [], _ :: _, _, h, _ => h.elim
  | _, _ :: _, [], _, h, _ => h.elim
theorem WFor.at_ {S : List Nat} {w : World} : ∀ {rs : List (Int × Value)} {bs : List GBox} {k : Nat} {z : GBox}, WFor S w rs bs → bs[k]? = some z → ∃ v, rs[k]? = some (z.fPid, v) ∧ Safe S w v z.fWords
  | r :: rs, y :: bs, 0, z, ⟨h1, h2, _⟩, hk => by
    simp at hk
    subst hk
    exact ⟨r.2, by simp [← h1], h2⟩
  | r :: rs, y :: bs, k + 1, z, ⟨_, _, h3⟩, hk => by
    obtain ⟨v, a, b⟩ := WFor.at_ h3 (by simpa using hk)
    exact ⟨v, by simpa using a, b⟩
  | [], [], _, _, _, hk => by simp at hk
  | [], _ :: _, _, _, h, _ => h.elim
  | _ :: _, [], _, _, h, _ => h.elim
theorem WFor.set {S : List Nat} {w : World} : ∀ {rs : List (Int × Value)} {bs : List GBox} (k : Nat) {v : Value} {p : Int} {ys : List Int}, WFor S w rs bs → Safe S w v ys → WFor S w (rs.set k (p, v)) (bs.set k (GBox.mk p ys))
  | [], [], _, _, _, _, h, _ => h
  | r :: rs, y :: bs, 0, v, p, ys, ⟨_, _, h3⟩, hv => ⟨rfl, hv, h3⟩
  | r :: rs, y :: bs, k + 1, v, p, ys, ⟨h1, h2, h3⟩, hv => ⟨h1, h2, WFor.set k h3 hv⟩
  | [], _ :: _, _, _, _, _, h, _ => h.elim
  | _ :: _, [], _, _, _, _, h, _ => h.elim
theorem safe_nil {S : List Nat} {w : World} : Safe S w (.slice none 0 0) [] := fun _ _ => slice_nil _ _ _
theorem WFor.filter {S : List Nat} {w : World} : ∀ {rs : List (Int × Value)} {bs : List GBox}, WFor S w rs bs → WFor S w (rs.filter fun r => !emp r) (bs.filter fun z => !(z.fWords.length == 0))
  | [], [], _ => trivial
  | r :: rs, z :: bs, ⟨h1, h2, h3⟩ => by
    obtain ⟨A, c, e, _, _⟩ := slice_form (h2 [] (fun _ _ h => by cases h))
    have he : emp r = (z.fWords.length == 0) := by unfold emp; rw [e]; rfl
    rw [List.filter_cons, List.filter_cons, he]
    cases hz : z.fWords.length == 0 with
    | true => exact WFor.filter h3
    | false => exact ⟨h1, h2, WFor.filter h3⟩
  | [], _ :: _, k => k.elim
  | _ :: _, [], k => k.elim
structure HandW (B : Nat) (O : List Nat) (w : World) (b : Nat) (nv rv : Value) (S : List Nat) (raws : List (Int × Value)) (x : GIpc) : Prop where
  mem : b ∈ O
  ge : B ≤ b
  blk : Blk w b 68 [nv, rv]
  ns : Go.Dc.Own tGName 31 B O w nv x.fNames
  row : Go.Dc.Own TR 61 B O w rv raws
  fo : WFor S w raws x.fBoxes
  lt : ∀ g ∈ S, B ≤ g ∧ g < w.heap.size
  out : ∀ g ∈ S, g ∉ O
  nb : nv.ownBlock ≠ some b
  rb : rv.ownBlock ≠ some b
  dj : Dj nv rv
def HandY (B : Nat) (O : List Nat) (w : World) (b : Nat) (x : GIpc) : Prop := ∃ nv rv S raws, HandW B O w b nv rv S raws x
theorem HandF.weak {B : Nat} {O : List Nat} {w : World} {b : Nat} {nv rv : Value} {S : List Nat} {raws : List (Int × Value)} {x : GIpc} (h : HandF B O w b nv rv S raws x) : HandW B O w b nv rv S raws x :=
  ⟨h.mem, h.ge, h.blk, h.ns, h.row, WFor.of S h.fo (fun _ h => h), h.fo.lt, h.out, h.nb, h.rb, h.dj⟩
section
variable {B : Nat} {O O' : List Nat} {w w' w'' : World} {b : Nat} {nv rv : Value} {S : List Nat} {raws : List (Int × Value)} {x : GIpc}
theorem HandW.fr0 (h : HandW B O w b nv rv S raws x) (hf : Fr [] w w') : HandW B O w' b nv rv S raws x :=
  ⟨h.mem, h.ge, h.blk.fr0 hf, h.ns.fr0 hf, h.row.fr0 hf, h.fo.imp fun _ _ k => k.keep (O := []) (O' := []) hf.tr0 fun g hg => hf.block g (h.lt g hg).2 (by simp), fun g hg => ⟨(h.lt g hg).1, Nat.lt_of_lt_of_le (h.lt g hg).2 hf.size⟩, h.out, h.nb, h.rb, h.dj⟩
/-- a store into a block of the call's own from ahead of B -/
theorem HandW.cell (h : HandW B O w b nv rv S raws x) {b' : Nat} (hb : b' ∈ O) (hlt : b' < B) (hf : Fr [b'] w w') : HandW B O w' b nv rv S raws x :=
  ⟨h.mem, h.ge, h.blk.fr hf (by simp; have := h.ge; omega), h.ns.st hf hb (fun e => by have := (h.ns.lt b' e).1; omega), h.row.st hf hb (fun e => by have := (h.row.lt b' e).1; omega),
   h.fo.imp fun _ _ k => k.keep (hf.tr (one_in hb)) fun g hg => hf.block g (h.lt g hg).2 (by simp; have := (h.lt g hg).1; omega), fun g hg => ⟨(h.lt g hg).1, Nat.lt_of_lt_of_le (h.lt g hg).2 hf.size⟩, h.out, h.nb, h.rb, h.dj⟩
theorem HandW.boxes (h : HandW B O w b nv rv S raws x) {rv' : Value} {raws' : List (Int × Value)} {x' : GIpc} (ap : Appended TR 61 B O w rv raws' O' w' rv') (hb : Blk w'' b 68 [nv, rv']) (hf : Fr [b] w' w'')
    (hfo : WFor S w raws' x'.fBoxes) (hn : x'.fNames = x.fNames) : HandW B O' w'' b nv rv' S raws' x' := by
  have hm := ap.sub _ h.mem
  have hrv' := ap.ne _ h.blk.lt h.rb
  have hns := ap.other h.ns fun g hg => h.dj g hg
  refine ⟨hm, h.ge, hb, by rw [hn]; exact hns.st hf hm h.nb, ap.own.st hf hm hrv', ?_, fun g hg => ⟨(h.lt g hg).1, Nat.lt_of_lt_of_le (h.lt g hg).2 (Nat.le_trans ap.tr.size hf.size)⟩, fun g hg => (ap.tr.keep g (h.lt g hg).2 (h.out g hg)).1, h.nb, hrv', fun g hg => ap.ne _ (h.ns.lt g hg).2 (h.dj g hg)⟩
  refine hfo.imp fun _ _ k => k.keep (ap.tr.trans (hf.tr (one_in hm))) fun g hg => ?_
  rw [hf.block g (Nat.lt_of_lt_of_le (h.lt g hg).2 ap.tr.size) (by simp; rintro rfl; exact h.out _ hg h.mem), (ap.tr.keep g (h.lt g hg).2 (h.out g hg)).2]
theorem HandW.data {O2 : List Nat} (h : HandW B O w b nv rv S raws x) (hO : ∀ g ∈ O2, g < B) : tGIpc.is O2 w (.agg #[nv, rv]) x := by
  refine tGIpc_is.2 ⟨_, _, rfl, h.ns.fown.data tGName_flat (fun g hg ho => by have := (h.ns.lt g hg).1; have := hO g ho; omega), ?_⟩
  have hlen := h.fo.len
  obtain ⟨cs, ⟨A, c, hc, hl, hx⟩, hv⟩ := h.row.fown.data (O := O2) (rawT_flat _) (fun g hg ho => by have := (h.row.lt g hg).1; have := hO g ho; omega)
  refine ⟨cs, ⟨A, c, by rw [← hlen]; exact hc, by rw [← hlen]; exact hl, fun k z hk => ?_⟩, hv⟩
  obtain ⟨v, hr, hs⟩ := h.fo.at_ hk
  obtain ⟨ad, es, hA, hb, ho, hrep, hce⟩ := hx k _ hr
  refine ⟨ad, es, hA, hb, ho, ?_, hce⟩
  refine ⟨[.int .u64 z.fPid], [v], ?_, rfl, rep_of rfl (hs O2 fun g hg ho => by have := (h.lt g hg).1; have := hO g ho; omega)⟩
  rw [hrep.1]
  rfl
end
set_option maxRecDepth 100000 in
set_option maxHeartbeats 4000000 in
theorem i_tidy_w {O : List Nat} {w : World} (hO : OB O w) {B b : Nat} {x : GIpc} (hB : B ≤ w.heap.size) (h : HandY B O w b x) : Calls Try.prog 42 #[.pointer (some ⟨b, 0, none⟩)] w (fun en w' => en = .returned (.tuple #[]) ∧ ∃ O', Stp B O w O' w' ∧ HandY B O' w' b (tidyX x)) := by
  obtain ⟨nv, rv, S, raws, h⟩ := h
  refine calls_of (args := [.pointer (some ⟨b, 0, none⟩)]) (N := 12) Try.func42 rfl rfl rfl ?_
  refine wc_region (l := [0, 1, 2, 3, 4, 5, 6, 7, 8, 9, 10]) rfl ?_
  refine wo_seg Θ_ok [0, 1, 2, 3, 4] [(2, (.pointer (some ⟨b, 0, none⟩))), (6, (.pointer (some ⟨b, 1, none⟩)))] rfl ⟨rfl, rfl, trivial⟩ ?_
  obtain ⟨A1, c1, rfl, _, _⟩ := h.row.form
  refine wo_load Θ_ok rfl rfl rfl rfl rfl rfl rfl h.blk [.slice A1 raws.length c1] rfl rfl (.inr rfl) (.slice A1 raws.length c1) rfl ?_
  refine wo_ownc rfl rfl rfl rfl rfl ent57 rfl (s_DeleteB_r hO h.row) (fun v' w' O' ap => ?_)
  have hS1 := Stp.of_ap hB h.row ap
  have hb1 := ap.blk h.blk h.rb
  obtain ⟨A2, c2, rfl, _, _⟩ := ap.own.form
  have hfo := h.fo.filter
  generalize hL : (raws.filter fun r => !emp r) = L at *
  refine wo_seg Θ_ok [7, 8, 9] [(8, .slice A2 L.length c2), (11, (.pointer (some ⟨b, 1, none⟩)))] rfl ⟨rfl, rfl, trivial⟩ ?_
  refine wo_store Θ_ok rfl rfl rfl rfl rfl rfl rfl hb1 [.slice A2 L.length c2] rfl rfl (by simp [Value.oneCell']) rfl [nv, .slice A2 L.length c2] rfl (fun w3 hb3 f3 => ?_)
  have hS2 := hS1.trans (Stp.of_store hS1.ob (ap.sub _ h.mem) h.ge f3)
  refine wo_nil ?_
  exact wq_end rfl ⟨rfl, _, hS2, _, _, _, _, h.boxes (x' := tidyX x) ap hb3 f3 hfo rfl⟩
/-- a row of raw elements, taken apart -/
theorem row_open {B : Nat} {O : List Nat} {w : World} {A : Option Addr} {c : Nat} {raws : List (Int × Value)} (hv : Go.Dc.Own TR 61 B O w (.slice A raws.length c) raws) (h0 : 0 < raws.length) :
    ∃ g R, A = some ⟨g, 0, none⟩ ∧ g ∈ O ∧ B ≤ g ∧ Blk w g 61 (rc raws ++ R) ∧ raws.length * 2 + R.length = c * 2 ∧ raws.length ≤ c ∧ c ≤ maxLen ∧ ∀ r ∈ raws, ∃ A n c, r.2 = .slice A n c := by
  obtain ⟨cs, ⟨hcl, hvv⟩, hrep⟩ := hv.ex
  rcases hvv with ⟨_, hl0⟩ | ⟨g, cap, cur, hvv, hBg, hh, hnc', hcm', hcs, hct⟩
  · omega
  injection hvv with hA hn2 hc2
  subst hA; subst hc2
  obtain ⟨hcs', hforms⟩ := rep_rc hrep
  have hT2 : TR.n = 2 := rfl
  rw [hT2] at hcs hct
  have hcurl : cur.toList = rc raws ++ cur.toList.drop (raws.length * 2) := by
    rw [← hcs', ← hct, hct]
    conv => lhs; rw [← List.take_append_drop (raws.length * 2) cur.toList]
    rw [hct]
  refine ⟨g, cur.toList.drop (raws.length * 2), rfl, hv.mem g rfl, hBg, ?_, ?_, hnc', hcm', hforms⟩
  · unfold Blk
    rw [← hcurl, Array.toArray_toList]
    exact hh
  · have := congrArg List.length hcurl
    rw [Array.length_toList, hcs] at this
    simp only [List.length_append, rc, pc_len, List.length_map] at this
    omega
theorem row_close {B : Nat} {O : List Nat} {w' : World} {g c : Nat} {L : List (Int × Value)} {R : List Value} (hg : g ∈ O) (hB : B ≤ g) (hb : Blk w' g 61 (rc L ++ R)) (hl : L.length * 2 + R.length = c * 2) (hc : L.length ≤ c) (hm : c ≤ maxLen) (hf : ∀ r ∈ L, ∃ A n c, r.2 = .slice A n c) :
    Go.Dc.Own TR 61 B O w' (.slice (some ⟨g, 0, none⟩) L.length c) L := by
  refine ⟨⟨rc L, ⟨by rw [rc, pc_len, List.length_map]; rfl, .inr ⟨g, c, (rc L ++ R).toArray, rfl, hB, hb, hc, hm, ?_, ?_⟩⟩, rc_rep hf⟩, fun k hk => by cases hk; exact hg⟩
  · rw [List.size_toArray, List.length_append, rc, pc_len, List.length_map]; exact hl
  · exact List.take_left' (by rw [rc, pc_len, List.length_map]; rfl)
/-- the second cell of an element -/
theorem rc_cell {L : List (Int × Value)} {R : List Value} {k : Nat} {x : Int × Value} (h : L[k]? = some x) : ((rc L ++ R).drop (k * 2 + 1)).take 1 = [x.2] := by
  have := rc_at (R := R) h
  have e := congrArg (List.drop 1) this
  rw [List.drop_take, List.drop_drop] at e
  simpa using e
theorem rc_put {L : List (Int × Value)} {R : List Value} {k : Nat} {x : Int × Value} {v : Value} (h : L[k]? = some x) : putAt (rc L ++ R) (k * 2 + 1) [v] = rc (L.set k (x.1, v)) ++ R := by
  have hk := (List.getElem?_eq_some_iff.1 h).1
  rw [← rc_set (x := (x.1, v)) hk]
  have h0 := rc_at (R := R) h
  have hd : ((rc L ++ R).drop (k * 2)) = .int .u64 x.1 :: x.2 :: (rc L ++ R).drop (k * 2 + 2) := by
    have := List.take_append_drop 2 ((rc L ++ R).drop (k * 2))
    rw [h0, List.drop_drop] at this
    exact this.symm
  unfold putAt
  have ht : (rc L ++ R).take (k * 2 + 1) = (rc L ++ R).take (k * 2) ++ [.int .u64 x.1] := by
    rw [List.take_add, hd]
    rfl
  rw [ht]
  simp
set_option maxRecDepth 100000 in
set_option maxHeartbeats 4000000 in
theorem i_Register_n {O : List Nat} {w : World} (hO : OB O w) {fuel : Nat} {v0 : Value} {x0 : GIpc} (h0 : tGIpc.is [] w v0 x0) {v1 : Value} {x1 : Int} (h1 : (Ty.int .u64).is [] w v1 x1) {v2 : Value} {x2 : Int} (h2 : (Ty.int .u64).is [] w v2 x2) {r : GIpc × Int} (h : i_Register fuel x0 x1 x2 = some r) : Calls Try.prog 10 #[v0, v1, v2] w (Gives (rt2 tGIpc (Ty.int .i64)) O w r) := by
  obtain rfl := int_is.1 h1
  obtain rfl := int_is.1 h2
  obtain ⟨v0_1, v0_2, rfl, h0_1, h0_2⟩ := tGIpc_is.1 h0
  have hS0 : Stp w.heap.size O w O w := Stp.refl hO
  refine calls_of (args := [(.agg #[v0_1, v0_2]), (.int .u64 x1), (.int .u64 x2)]) (N := 73) Try.func10 rfl rfl rfl ?_
  unfold i_Register at h
  refine wc_seq ?_
  refine wc_region (l := [0, 1, 2]) rfl ?_
  refine wo_box rfl rfl rfl rfl rfl rfl [v0_1, v0_2] rfl hO (fun b1 w1 n1 => ?_)
  have hb1 := n1.blk
  have hS1 := hS0.trans (Stp.of_new hS0.tr.size n1)
  refine wo_alloc Θ_ok rfl rfl rfl rfl rfl rfl [(.slice none 0 0), (.slice none 0 0)] rfl hS1.ob (fun b2 w2 n2 => ?_)
  have hb1 := hb1.fr0 n2.fr
  have hb2 := n2.blk
  have hg2 : w.heap.size ≤ b2 := Nat.le_trans hS1.tr.size n2.ge
  have hS2 := hS1.trans (Stp.of_new hS1.tr.size n2)
  have i2 : b2 ∈ b2 :: b1 :: O := List.mem_cons_self
  have hl2 : b2 < w2.heap.size := hb2.lt
  have hO2 : ∀ g ∈ O, g < w2.heap.size := fun g hg => Nat.lt_of_lt_of_le (hO g hg) hS2.tr.size
  refine wo_seg Θ_ok [2] [(1, (.int .u64 x1)), (2, (.int .u64 x2)), (3, (.pointer (some ⟨b1, 0, none⟩))), (6, (.pointer (some ⟨b2, 0, none⟩)))] rfl ⟨rfl, rfl, rfl, rfl, trivial⟩ ?_
  refine wo_nil ?_
  refine wq_seq ?_
  refine wc_seq ?_
  refine wc_region (l := [0, 1, 2, 3, 4, 5, 6]) rfl ?_
  refine wo_load Θ_ok rfl rfl rfl rfl rfl rfl rfl hb1 [v0_1, v0_2] rfl rfl (.inl rfl) (.agg #[v0_1, v0_2]) rfl ?_
  obtain ⟨e, he, h⟩ := bind_some h
  refine wo_call rfl rfl rfl rfl rfl ent33 rfl (i_own_h hS2.ob (h0.tr hS2.fr.tr0) he) (fun _ w3 hg => ?_)
  obtain ⟨pv, O3, rfl, hS3, hH0⟩ := hg
  refine ⟨_, rfl, ?_⟩
  have hb2 : Blk w3 b2 25 [(.slice none 0 0), (.slice none 0 0)] := (hS3.below _ hl2).trans hb2
  have hS4 := hS2.to hS3
  have i2 := hS3.sub _ i2
  refine wo_seg Θ_ok [2, 3, 4, 5, 6] [(1, (.int .u64 x1)), (2, (.int .u64 x2)), (6, (.pointer (some ⟨b2, 0, none⟩))), (8, pv), (9, (.int .i64 e.2))] rfl ⟨rfl, rfl, rfl, rfl, rfl, trivial⟩ ?_
  refine wo_nil ?_
  refine wq_seq ?_
  refine wc_seq ?_
  refine wc_block ?_
  refine wc_seq ?_
  refine wc_region (l := [0, 1, 2]) rfl ?_
  refine wo_seg Θ_ok [0, 1, 2] [(1, (.int .u64 x1)), (2, (.int .u64 x2)), (6, (.pointer (some ⟨b2, 0, none⟩))), (8, pv), (9, (.int .i64 e.2)), (17, (.bool (!(e.2 == 0))))] rfl ⟨rfl, rfl, rfl, rfl, rfl, rfl, trivial⟩ ?_
  refine wo_nil ?_
  refine wq_seq ?_
  rcases bif_some h with ⟨hc, h⟩ | ⟨hc, h⟩
  · refine wc_known_true rfl hc ?_
    cases h
    refine wc_seq ?_
    refine wc_region (l := [0, 1, 2, 3]) rfl ?_
    refine wo_seg Θ_ok [0, 1] [(6, (.pointer (some ⟨b2, 0, none⟩))), (20, (.agg #[(.slice none 0 0), (.slice none 0 0)])), (21, (.int .i64 e.2))] rfl ⟨rfl, rfl, rfl, trivial⟩ ?_
    refine wo_store Θ_ok rfl rfl rfl rfl rfl rfl rfl hb2 [(.slice none 0 0), (.slice none 0 0)] rfl rfl (by simp [Value.oneCell']) rfl [(.slice none 0 0), (.slice none 0 0)] rfl (fun wE hbE fE => ?_)
    refine wo_seg Θ_ok [3] [(6, (.pointer (some ⟨b2, 0, none⟩))), (7, (.int .i64 e.2))] rfl ⟨rfl, rfl, trivial⟩ ?_
    refine wo_nil ?_
    refine wq_seq ?_
    refine wc_ret ?_
    exact wq_block_ret (wq_then_ret (wq_retc Θ_ok (vs := [.agg #[(.slice none 0 0), (.slice none 0 0)], (.int .i64 e.2)]) ⟨_, _, rfl, ⟨_, _, _, _, rfl, hbE, rfl, rfl, .inl rfl, rfl⟩, _, _, rfl, rfl, rfl⟩ ⟨_, rfl, ⟨_, _, rfl, (tGIpc_is.2 ⟨_, _, rfl, slice_nil _ _ _, slice_nil _ _ _⟩), int_is.2 rfl⟩, (hS4.trans (Stp.of_store hS4.ob i2 hg2 fE)).fr⟩))
  refine wc_known_false rfl hc ?_
  have he0 : e.2 = 0 := by simpa using hc
  obtain ⟨b, rfl, nv, rv, S, raws, hH⟩ := hH0 he0
  refine wc_seq ?_
  refine wc_region (l := [0, 1, 2, 3]) rfl ?_
  refine wo_seg Θ_ok [0] [(1, (.int .u64 x1)), (2, (.int .u64 x2)), (6, (.pointer (some ⟨b2, 0, none⟩))), (8, (.pointer (some ⟨b, 0, none⟩))), (23, (.int .u64 x1))] rfl ⟨rfl, rfl, rfl, rfl, rfl, trivial⟩ ?_
  obtain ⟨ok, hok, h⟩ := bind_some h
  refine wo_gives rfl rfl rfl rfl rfl ent30 rfl (i_Is_c hS4.ob (int_is.2 rfl) hok) (fun v4 w4 g4 f4 => ?_)
  obtain rfl := bool_is.1 g4
  have hS5 := hS4.trans (Stp.of_fr hS4.ob hS4.tr.size f4)
  have hH := hH.fr0 f4
  have hb2 := hb2.fr0 f4
  refine wo_seg Θ_ok [2, 3] [(1, (.int .u64 x1)), (2, (.int .u64 x2)), (6, (.pointer (some ⟨b2, 0, none⟩))), (8, (.pointer (some ⟨b, 0, none⟩))), (22, (.bool (!ok)))] rfl ⟨rfl, rfl, rfl, rfl, rfl, trivial⟩ ?_
  refine wo_nil ?_
  refine wq_seq ?_
  rcases bif_some h with ⟨hc, h⟩ | ⟨hc, h⟩
  · refine wc_known_true rfl hc ?_
    cases h
    refine wc_seq ?_
    refine wc_region (l := [0, 1, 2]) rfl ?_
    refine wo_seg Θ_ok [0] [(6, (.pointer (some ⟨b2, 0, none⟩))), (26, (.agg #[(.slice none 0 0), (.slice none 0 0)]))] rfl ⟨rfl, rfl, trivial⟩ ?_
    refine wo_store Θ_ok rfl rfl rfl rfl rfl rfl rfl hb2 [(.slice none 0 0), (.slice none 0 0)] rfl rfl (by simp [Value.oneCell']) rfl [(.slice none 0 0), (.slice none 0 0)] rfl (fun wE hbE fE => ?_)
    refine wo_seg Θ_ok [2] [(6, (.pointer (some ⟨b2, 0, none⟩))), (7, (.int .i64 351))] rfl ⟨rfl, rfl, trivial⟩ ?_
    refine wo_nil ?_
    refine wq_seq ?_
    refine wc_ret ?_
    exact wq_block_ret (wq_then_ret (wq_retc Θ_ok (vs := [.agg #[(.slice none 0 0), (.slice none 0 0)], (.int .i64 351)]) ⟨_, _, rfl, ⟨_, _, _, _, rfl, hbE, rfl, rfl, .inl rfl, rfl⟩, _, _, rfl, rfl, rfl⟩ ⟨_, rfl, ⟨_, _, rfl, (tGIpc_is.2 ⟨_, _, rfl, slice_nil _ _ _, slice_nil _ _ _⟩), int_is.2 rfl⟩, (hS5.trans (Stp.of_store hS5.ob i2 hg2 fE)).fr⟩))
  refine wc_known_false rfl hc ?_
  refine wc_seq ?_
  refine wc_region (l := [0, 1, 2, 3]) rfl ?_
  refine wo_seg Θ_ok [0] [(1, (.int .u64 x1)), (2, (.int .u64 x2)), (6, (.pointer (some ⟨b2, 0, none⟩))), (8, (.pointer (some ⟨b, 0, none⟩))), (28, (.int .u64 x2))] rfl ⟨rfl, rfl, rfl, rfl, rfl, trivial⟩ ?_
  refine wo_gives rfl rfl rfl rfl rfl ent34 rfl (i_isPid_c hS5.ob (int_is.2 rfl)) (fun v5 w5 g5 f5 => ?_)
  obtain rfl := bool_is.1 g5
  have hS6 := hS5.trans (Stp.of_fr hS5.ob hS5.tr.size f5)
  have hH := hH.fr0 f5
  have hb2 := hb2.fr0 f5
  refine wo_seg Θ_ok [2, 3] [(1, (.int .u64 x1)), (2, (.int .u64 x2)), (6, (.pointer (some ⟨b2, 0, none⟩))), (8, (.pointer (some ⟨b, 0, none⟩))), (27, (.bool (!(i_isPid x2))))] rfl ⟨rfl, rfl, rfl, rfl, rfl, trivial⟩ ?_
  refine wo_nil ?_
  refine wq_seq ?_
  rcases bif_some h with ⟨hc, h⟩ | ⟨hc, h⟩
  · refine wc_known_true rfl hc ?_
    cases h
    refine wc_seq ?_
    refine wc_region (l := [0, 1, 2]) rfl ?_
    refine wo_seg Θ_ok [0] [(6, (.pointer (some ⟨b2, 0, none⟩))), (31, (.agg #[(.slice none 0 0), (.slice none 0 0)]))] rfl ⟨rfl, rfl, trivial⟩ ?_
    refine wo_store Θ_ok rfl rfl rfl rfl rfl rfl rfl hb2 [(.slice none 0 0), (.slice none 0 0)] rfl rfl (by simp [Value.oneCell']) rfl [(.slice none 0 0), (.slice none 0 0)] rfl (fun wE hbE fE => ?_)
    refine wo_seg Θ_ok [2] [(6, (.pointer (some ⟨b2, 0, none⟩))), (7, (.int .i64 2))] rfl ⟨rfl, rfl, trivial⟩ ?_
    refine wo_nil ?_
    refine wq_seq ?_
    refine wc_ret ?_
    exact wq_block_ret (wq_then_ret (wq_retc Θ_ok (vs := [.agg #[(.slice none 0 0), (.slice none 0 0)], (.int .i64 2)]) ⟨_, _, rfl, ⟨_, _, _, _, rfl, hbE, rfl, rfl, .inl rfl, rfl⟩, _, _, rfl, rfl, rfl⟩ ⟨_, rfl, ⟨_, _, rfl, (tGIpc_is.2 ⟨_, _, rfl, slice_nil _ _ _, slice_nil _ _ _⟩), int_is.2 rfl⟩, (hS6.trans (Stp.of_store hS6.ob i2 hg2 fE)).fr⟩))
  refine wc_known_false rfl hc ?_
  refine wc_skip ?_
  refine wq_block (wq_seq ?_)
  refine wc_seq ?_
  refine wc_region (l := [0, 1, 2, 3, 4, 5, 6, 7, 8, 9, 10, 11]) rfl ?_
  refine wo_seg Θ_ok [0, 1, 2, 3] [(1, (.int .u64 x1)), (2, (.int .u64 x2)), (6, (.pointer (some ⟨b2, 0, none⟩))), (8, (.pointer (some ⟨b, 0, none⟩))), (36, (.pointer (some ⟨b, 0, none⟩)))] rfl ⟨rfl, rfl, rfl, rfl, rfl, trivial⟩ ?_
  obtain ⟨An, cn, rfl, _, _⟩ := hH.ns.form
  refine wo_load Θ_ok rfl rfl rfl rfl rfl rfl rfl hH.blk [.slice An e.1.fNames.length cn] rfl rfl (.inr rfl) (.slice An e.1.fNames.length cn) rfl ?_
  refine wo_seg Θ_ok [5] [(1, (.int .u64 x1)), (2, (.int .u64 x2)), (6, (.pointer (some ⟨b2, 0, none⟩))), (8, (.pointer (some ⟨b, 0, none⟩))), (37, (.slice An e.1.fNames.length cn)), (38, (.int .u64 x1))] rfl ⟨rfl, rfl, rfl, rfl, rfl, rfl, trivial⟩ ?_
  obtain ⟨f, hf, h⟩ := bind_some h
  refine wo_gives rfl rfl rfl rfl rfl ent35 rfl (i_findN_c (ob_nil _) (hH.nameData (fun _ hg => by cases hg)) (int_is.2 rfl) (fn1_is (first := []) (cap := []) ent36 (fun O' w' ht hO u0 z0 q0 y hy => by cases hy; exact i_nameOf_c hO q0)) hf) (fun v6 w6 g6 f6 => ?_)
  obtain ⟨_, _, rfl, q1, q2⟩ := g6
  obtain rfl := int_is.1 q1
  obtain rfl := bool_is.1 q2
  have hS7 := hS6.trans (Stp.of_fr hS6.ob hS6.tr.size f6)
  have hH := hH.fr0 f6
  have hb2 := hb2.fr0 f6
  refine wo_seg Θ_ok [7, 8, 9, 10, 11] [(1, (.int .u64 x1)), (2, (.int .u64 x2)), (6, (.pointer (some ⟨b2, 0, none⟩))), (8, (.pointer (some ⟨b, 0, none⟩))), (10, (.int .i64 f.1)), (11, (.bool f.2))] rfl ⟨rfl, rfl, rfl, rfl, rfl, rfl, trivial⟩ ?_
  refine wo_nil ?_
  refine wq_seq ?_
  refine wc_seq ?_
  refine wc_block ?_
  refine wc_seq ?_
  refine wc_region (l := [0, 1]) rfl ?_
  refine wo_seg Θ_ok [0, 1] [(1, (.int .u64 x1)), (2, (.int .u64 x2)), (6, (.pointer (some ⟨b2, 0, none⟩))), (8, (.pointer (some ⟨b, 0, none⟩))), (10, (.int .i64 f.1)), (42, (.bool f.2))] rfl ⟨rfl, rfl, rfl, rfl, rfl, rfl, trivial⟩ ?_
  refine wo_nil ?_
  refine wq_seq ?_
  rcases bif_some h with ⟨hc, h⟩ | ⟨hc, h⟩
  · refine wc_known_true rfl hc ?_
    cases h
    refine wc_seq ?_
    refine wc_region (l := [0, 1, 2]) rfl ?_
    refine wo_seg Θ_ok [0] [(6, (.pointer (some ⟨b2, 0, none⟩))), (44, (.agg #[(.slice none 0 0), (.slice none 0 0)]))] rfl ⟨rfl, rfl, trivial⟩ ?_
    refine wo_store Θ_ok rfl rfl rfl rfl rfl rfl rfl hb2 [(.slice none 0 0), (.slice none 0 0)] rfl rfl (by simp [Value.oneCell']) rfl [(.slice none 0 0), (.slice none 0 0)] rfl (fun wE hbE fE => ?_)
    refine wo_seg Θ_ok [2] [(6, (.pointer (some ⟨b2, 0, none⟩))), (7, (.int .i64 5))] rfl ⟨rfl, rfl, trivial⟩ ?_
    refine wo_nil ?_
    refine wq_seq ?_
    refine wc_ret ?_
    exact wq_block_ret (wq_then_ret (wq_retc Θ_ok (vs := [.agg #[(.slice none 0 0), (.slice none 0 0)], (.int .i64 5)]) ⟨_, _, rfl, ⟨_, _, _, _, rfl, hbE, rfl, rfl, .inl rfl, rfl⟩, _, _, rfl, rfl, rfl⟩ ⟨_, rfl, ⟨_, _, rfl, (tGIpc_is.2 ⟨_, _, rfl, slice_nil _ _ _, slice_nil _ _ _⟩), int_is.2 rfl⟩, (hS7.trans (Stp.of_store hS7.ob i2 hg2 fE)).fr⟩))
  refine wc_known_false rfl hc ?_
  refine wc_seq ?_
  refine wc_region (l := [0, 1, 2, 3, 4, 5, 6, 7]) rfl ?_
  refine wo_seg Θ_ok [0, 1, 2, 3] [(1, (.int .u64 x1)), (2, (.int .u64 x2)), (6, (.pointer (some ⟨b2, 0, none⟩))), (8, (.pointer (some ⟨b, 0, none⟩))), (10, (.int .i64 f.1)), (49, (.pointer (some ⟨b, 0, none⟩)))] rfl ⟨rfl, rfl, rfl, rfl, rfl, rfl, trivial⟩ ?_
  refine wo_load Θ_ok rfl rfl rfl rfl rfl rfl rfl hH.blk [.slice An e.1.fNames.length cn] rfl rfl (.inr rfl) (.slice An e.1.fNames.length cn) rfl ?_
  refine wo_seg Θ_ok [5, 6, 7] [(1, (.int .u64 x1)), (2, (.int .u64 x2)), (6, (.pointer (some ⟨b2, 0, none⟩))), (8, (.pointer (some ⟨b, 0, none⟩))), (10, (.int .i64 f.1)), (45, (.bool ((e.1.fNames.length : Int) == 16)))] rfl ⟨rfl, rfl, rfl, rfl, rfl, rfl, trivial⟩ ?_
  refine wo_nil ?_
  refine wq_seq ?_
  rcases bif_some h with ⟨hc, h⟩ | ⟨hc, h⟩
  · refine wc_known_true rfl hc ?_
    cases h
    refine wc_seq ?_
    refine wc_region (l := [0, 1, 2]) rfl ?_
    refine wo_seg Θ_ok [0] [(6, (.pointer (some ⟨b2, 0, none⟩))), (53, (.agg #[(.slice none 0 0), (.slice none 0 0)]))] rfl ⟨rfl, rfl, trivial⟩ ?_
    refine wo_store Θ_ok rfl rfl rfl rfl rfl rfl rfl hb2 [(.slice none 0 0), (.slice none 0 0)] rfl rfl (by simp [Value.oneCell']) rfl [(.slice none 0 0), (.slice none 0 0)] rfl (fun wE hbE fE => ?_)
    refine wo_seg Θ_ok [2] [(6, (.pointer (some ⟨b2, 0, none⟩))), (7, (.int .i64 6))] rfl ⟨rfl, rfl, trivial⟩ ?_
    refine wo_nil ?_
    refine wq_seq ?_
    refine wc_ret ?_
    exact wq_block_ret (wq_then_ret (wq_retc Θ_ok (vs := [.agg #[(.slice none 0 0), (.slice none 0 0)], (.int .i64 6)]) ⟨_, _, rfl, ⟨_, _, _, _, rfl, hbE, rfl, rfl, .inl rfl, rfl⟩, _, _, rfl, rfl, rfl⟩ ⟨_, rfl, ⟨_, _, rfl, (tGIpc_is.2 ⟨_, _, rfl, slice_nil _ _ _, slice_nil _ _ _⟩), int_is.2 rfl⟩, (hS7.trans (Stp.of_store hS7.ob i2 hg2 fE)).fr⟩))
  refine wc_known_false rfl hc ?_
  refine wc_skip ?_
  refine wq_block (wq_seq ?_)
  obtain ⟨ns, hns, h⟩ := bind_some h
  cases h
  refine wc_seq ?_
  refine wc_region (l := [0, 1, 2, 3, 4, 5, 6, 7, 8, 9, 10, 11, 12, 13, 14, 15]) rfl ?_
  refine wo_seg Θ_ok [0, 1, 2, 3, 4] [(1, (.int .u64 x1)), (2, (.int .u64 x2)), (6, (.pointer (some ⟨b2, 0, none⟩))), (8, (.pointer (some ⟨b, 0, none⟩))), (10, (.int .i64 f.1)), (54, (.pointer (some ⟨b, 0, none⟩))), (58, (.pointer (some ⟨b, 0, none⟩)))] rfl ⟨rfl, rfl, rfl, rfl, rfl, rfl, rfl, trivial⟩ ?_
  refine wo_load Θ_ok rfl rfl rfl rfl rfl rfl rfl hH.blk [.slice An e.1.fNames.length cn] rfl rfl (.inr rfl) (.slice An e.1.fNames.length cn) rfl ?_
  refine wo_seg Θ_ok [6, 7, 8, 9] [(6, (.pointer (some ⟨b2, 0, none⟩))), (8, (.pointer (some ⟨b, 0, none⟩))), (54, (.pointer (some ⟨b, 0, none⟩))), (59, (.slice An e.1.fNames.length cn)), (60, (.int .i64 f.1)), (63, (.agg #[.int .u64 x1, .int .u64 x2]))] rfl ⟨rfl, rfl, rfl, rfl, rfl, rfl, trivial⟩ ?_
  refine wo_lit Θ_ok rfl rfl rfl rfl rfl rfl rfl rfl rfl rfl (T := tGName) (xs := [GName.mk x1 x2]) (vs := [.agg #[.int .u64 x1, .int .u64 x2]]) rfl ⟨(tGName_is (x := GName.mk x1 x2)).2 rfl, trivial⟩ rfl rfl rfl hS7.ob (fun b8 w8 q8 => ?_)
  have hH := hH.fr0 q8.fr
  have hb2 := hb2.fr0 q8.fr
  have hS8 := hS7.trans (Stp.of_fr hS7.ob hS7.tr.size q8.fr)
  have hd8 := q8.data hS7.ob
  have hp8 := (q8.own (B := 0) (Nat.zero_le _)).plain
  have hB8 : w2.heap.size ≤ w8.heap.size := Nat.le_trans hS3.tr.size (Nat.le_trans f4.size (Nat.le_trans f5.size (Nat.le_trans f6.size q8.fr.size)))
  refine wo_ownc rfl rfl rfl rfl rfl ent37 rfl (s_InsertN_c hS8.ob hB8 hH.ns (int_is.2 rfl) hd8 hp8 hns) (fun v9 w9 O9 ap => ?_)
  have hb9 := ap.blk hH.blk hH.nb
  have hb2 := ap.blk hb2 (fun e => by have := (hH.ns.lt b2 e).1; omega)
  have hS9 := hS8.trans ⟨ap.tr, ap.ob, ap.sub, fun k hk => ap.fr k (Nat.lt_of_lt_of_le hk hS8.tr.size) fun e => by have := (hH.ns.lt k e).1; have := hS2.tr.size; omega⟩
  have i2 := ap.sub _ i2
  obtain ⟨A9, c9, rfl, _, _⟩ := ap.own.form
  refine wo_seg Θ_ok [12, 13, 14] [(6, (.pointer (some ⟨b2, 0, none⟩))), (8, (.pointer (some ⟨b, 0, none⟩))), (65, (.slice A9 ns.length c9)), (68, (.pointer (some ⟨b, 0, none⟩)))] rfl ⟨rfl, rfl, rfl, rfl, trivial⟩ ?_
  refine wo_store Θ_ok rfl rfl rfl rfl rfl rfl rfl hb9 [.slice A9 ns.length c9] rfl rfl (by simp [Value.oneCell']) rfl [.slice A9 ns.length c9, rv] rfl (fun w10 hb10 f10 => ?_)
  have hb2 := hb2.fr f10 (by simp; have := hH.ge; omega)
  have hS10 := hS9.trans (Stp.of_store hS9.ob (ap.sub _ hH.mem) (Nat.le_trans hS2.tr.size hH.ge) f10)
  have hW := (hH.names (x' := GIpc.mk ns e.1.fBoxes) ap hb10 f10 rfl rfl).weak
  clear hH
  refine wo_nil ?_
  refine wq_seq ?_
  generalize hnvx : (Value.slice A9 ns.length c9) = nvx at *
  generalize hrvx : rv = rvx at *
  refine wc_seq ?_
  refine wc_region (l := [0, 1, 2, 3, 4, 5]) rfl ?_
  refine wo_seg Θ_ok [0, 1, 2] [(8, (.pointer (some ⟨b, 0, none⟩))), (6, (.pointer (some ⟨b2, 0, none⟩))), (71, (.pointer (some ⟨b, 0, none⟩)))] rfl ⟨rfl, rfl, rfl, trivial⟩ ?_
  refine wo_load Θ_ok rfl rfl rfl rfl rfl rfl rfl hW.blk [nvx, rvx] rfl rfl (.inl rfl) (.agg #[nvx, rvx]) rfl ?_
  obtain ⟨Ax, cx, hAx, _, _⟩ := hW.ns.form
  obtain ⟨Ay, cy, hAy, _, _⟩ := hW.row.form
  refine wo_store Θ_ok rfl rfl rfl rfl rfl rfl rfl hb2 [nvx, rvx] rfl rfl (by rw [hAx, hAy]; simp [Value.oneCell']) rfl [nvx, rvx] rfl (fun wE hbE fE => ?_)
  have hWE := hW.cell i2 hl2 fE
  have hE := (hS10.trans (Stp.of_store hS10.ob i2 hg2 fE)).fr
  refine wo_seg Θ_ok [5] [(6, (.pointer (some ⟨b2, 0, none⟩))), (7, (.int .i64 0))] rfl ⟨rfl, rfl, trivial⟩ ?_
  refine wo_nil ?_
  refine wq_seq ?_
  refine wc_ret ?_
  exact (wq_retc Θ_ok (vs := [.agg #[nvx, rvx], (.int .i64 0)]) ⟨_, _, rfl, ⟨_, _, _, _, rfl, hbE, rfl, rfl, .inl rfl, rfl⟩, _, _, rfl, rfl, rfl⟩ ⟨_, rfl, ⟨_, _, rfl, (hWE.data hO2), int_is.2 rfl⟩, hE⟩)
set_option maxRecDepth 100000 in
set_option maxHeartbeats 4000000 in
theorem i_Unregister_n {O : List Nat} {w : World} (hO : OB O w) {fuel : Nat} {v0 : Value} {x0 : GIpc} (h0 : tGIpc.is [] w v0 x0) {v1 : Value} {x1 : Int} (h1 : (Ty.int .u64).is [] w v1 x1) {r : GIpc × Int} (h : i_Unregister fuel x0 x1 = some r) : Calls Try.prog 11 #[v0, v1] w (Gives (rt2 tGIpc (Ty.int .i64)) O w r) := by
  obtain rfl := int_is.1 h1
  obtain ⟨v0_1, v0_2, rfl, h0_1, h0_2⟩ := tGIpc_is.1 h0
  have hS0 : Stp w.heap.size O w O w := Stp.refl hO
  refine calls_of (args := [(.agg #[v0_1, v0_2]), (.int .u64 x1)]) (N := 55) Try.func11 rfl rfl rfl ?_
  unfold i_Unregister at h
  refine wc_seq ?_
  refine wc_region (l := [0, 1, 2]) rfl ?_
  refine wo_box rfl rfl rfl rfl rfl rfl [v0_1, v0_2] rfl hO (fun b1 w1 n1 => ?_)
  have hb1 := n1.blk
  have hS1 := hS0.trans (Stp.of_new hS0.tr.size n1)
  refine wo_alloc Θ_ok rfl rfl rfl rfl rfl rfl [(.slice none 0 0), (.slice none 0 0)] rfl hS1.ob (fun b2 w2 n2 => ?_)
  have hb1 := hb1.fr0 n2.fr
  have hb2 := n2.blk
  have hg2 : w.heap.size ≤ b2 := Nat.le_trans hS1.tr.size n2.ge
  have hS2 := hS1.trans (Stp.of_new hS1.tr.size n2)
  have i2 : b2 ∈ b2 :: b1 :: O := List.mem_cons_self
  have hl2 : b2 < w2.heap.size := hb2.lt
  have hO2 : ∀ g ∈ O, g < w2.heap.size := fun g hg => Nat.lt_of_lt_of_le (hO g hg) hS2.tr.size
  refine wo_seg Θ_ok [2] [(1, (.int .u64 x1)), (2, (.pointer (some ⟨b1, 0, none⟩))), (4, (.pointer (some ⟨b2, 0, none⟩)))] rfl ⟨rfl, rfl, rfl, trivial⟩ ?_
  refine wo_nil ?_
  refine wq_seq ?_
  refine wc_seq ?_
  refine wc_region (l := [0, 1, 2, 3, 4, 5, 6]) rfl ?_
  refine wo_load Θ_ok rfl rfl rfl rfl rfl rfl rfl hb1 [v0_1, v0_2] rfl rfl (.inl rfl) (.agg #[v0_1, v0_2]) rfl ?_
  obtain ⟨e, he, h⟩ := bind_some h
  refine wo_call rfl rfl rfl rfl rfl ent33 rfl (i_own_h hS2.ob (h0.tr hS2.fr.tr0) he) (fun _ w3 hg => ?_)
  obtain ⟨pv, O3, rfl, hS3, hH0⟩ := hg
  refine ⟨_, rfl, ?_⟩
  have hb2 : Blk w3 b2 25 [(.slice none 0 0), (.slice none 0 0)] := (hS3.below _ hl2).trans hb2
  have hS4 := hS2.to hS3
  have i2 := hS3.sub _ i2
  refine wo_seg Θ_ok [2, 3, 4, 5, 6] [(1, (.int .u64 x1)), (4, (.pointer (some ⟨b2, 0, none⟩))), (6, pv), (7, (.int .i64 e.2))] rfl ⟨rfl, rfl, rfl, rfl, trivial⟩ ?_
  refine wo_nil ?_
  refine wq_seq ?_
  refine wc_seq ?_
  refine wc_block ?_
  refine wc_seq ?_
  refine wc_region (l := [0, 1, 2]) rfl ?_
  refine wo_seg Θ_ok [0, 1, 2] [(1, (.int .u64 x1)), (4, (.pointer (some ⟨b2, 0, none⟩))), (6, pv), (7, (.int .i64 e.2)), (15, (.bool (!(e.2 == 0))))] rfl ⟨rfl, rfl, rfl, rfl, rfl, trivial⟩ ?_
  refine wo_nil ?_
  refine wq_seq ?_
  rcases bif_some h with ⟨hc, h⟩ | ⟨hc, h⟩
  · refine wc_known_true rfl hc ?_
    cases h
    refine wc_seq ?_
    refine wc_region (l := [0, 1, 2, 3]) rfl ?_
    refine wo_seg Θ_ok [0, 1] [(4, (.pointer (some ⟨b2, 0, none⟩))), (18, (.agg #[(.slice none 0 0), (.slice none 0 0)])), (19, (.int .i64 e.2))] rfl ⟨rfl, rfl, rfl, trivial⟩ ?_
    refine wo_store Θ_ok rfl rfl rfl rfl rfl rfl rfl hb2 [(.slice none 0 0), (.slice none 0 0)] rfl rfl (by simp [Value.oneCell']) rfl [(.slice none 0 0), (.slice none 0 0)] rfl (fun wE hbE fE => ?_)
    refine wo_seg Θ_ok [3] [(4, (.pointer (some ⟨b2, 0, none⟩))), (5, (.int .i64 e.2))] rfl ⟨rfl, rfl, trivial⟩ ?_
    refine wo_nil ?_
    refine wq_seq ?_
    refine wc_ret ?_
    exact wq_block_ret (wq_then_ret (wq_retc Θ_ok (vs := [.agg #[(.slice none 0 0), (.slice none 0 0)], (.int .i64 e.2)]) ⟨_, _, rfl, ⟨_, _, _, _, rfl, hbE, rfl, rfl, .inl rfl, rfl⟩, _, _, rfl, rfl, rfl⟩ ⟨_, rfl, ⟨_, _, rfl, (tGIpc_is.2 ⟨_, _, rfl, slice_nil _ _ _, slice_nil _ _ _⟩), int_is.2 rfl⟩, (hS4.trans (Stp.of_store hS4.ob i2 hg2 fE)).fr⟩))
  refine wc_known_false rfl hc ?_
  have he0 : e.2 = 0 := by simpa using hc
  obtain ⟨b, rfl, nv, rv, S, raws, hH⟩ := hH0 he0
  refine wc_seq ?_
  refine wc_region (l := [0, 1, 2, 3]) rfl ?_
  refine wo_seg Θ_ok [0] [(1, (.int .u64 x1)), (4, (.pointer (some ⟨b2, 0, none⟩))), (6, (.pointer (some ⟨b, 0, none⟩))), (21, (.int .u64 x1))] rfl ⟨rfl, rfl, rfl, rfl, trivial⟩ ?_
  obtain ⟨ok, hok, h⟩ := bind_some h
  refine wo_gives rfl rfl rfl rfl rfl ent30 rfl (i_Is_c hS4.ob (int_is.2 rfl) hok) (fun v4 w4 g4 f4 => ?_)
  obtain rfl := bool_is.1 g4
  have hS5 := hS4.trans (Stp.of_fr hS4.ob hS4.tr.size f4)
  have hH := hH.fr0 f4
  have hb2 := hb2.fr0 f4
  refine wo_seg Θ_ok [2, 3] [(1, (.int .u64 x1)), (4, (.pointer (some ⟨b2, 0, none⟩))), (6, (.pointer (some ⟨b, 0, none⟩))), (20, (.bool (!ok)))] rfl ⟨rfl, rfl, rfl, rfl, trivial⟩ ?_
  refine wo_nil ?_
  refine wq_seq ?_
  rcases bif_some h with ⟨hc, h⟩ | ⟨hc, h⟩
  · refine wc_known_true rfl hc ?_
    cases h
    refine wc_seq ?_
    refine wc_region (l := [0, 1, 2]) rfl ?_
    refine wo_seg Θ_ok [0] [(4, (.pointer (some ⟨b2, 0, none⟩))), (24, (.agg #[(.slice none 0 0), (.slice none 0 0)]))] rfl ⟨rfl, rfl, trivial⟩ ?_
    refine wo_store Θ_ok rfl rfl rfl rfl rfl rfl rfl hb2 [(.slice none 0 0), (.slice none 0 0)] rfl rfl (by simp [Value.oneCell']) rfl [(.slice none 0 0), (.slice none 0 0)] rfl (fun wE hbE fE => ?_)
    refine wo_seg Θ_ok [2] [(4, (.pointer (some ⟨b2, 0, none⟩))), (5, (.int .i64 351))] rfl ⟨rfl, rfl, trivial⟩ ?_
    refine wo_nil ?_
    refine wq_seq ?_
    refine wc_ret ?_
    exact wq_block_ret (wq_then_ret (wq_retc Θ_ok (vs := [.agg #[(.slice none 0 0), (.slice none 0 0)], (.int .i64 351)]) ⟨_, _, rfl, ⟨_, _, _, _, rfl, hbE, rfl, rfl, .inl rfl, rfl⟩, _, _, rfl, rfl, rfl⟩ ⟨_, rfl, ⟨_, _, rfl, (tGIpc_is.2 ⟨_, _, rfl, slice_nil _ _ _, slice_nil _ _ _⟩), int_is.2 rfl⟩, (hS5.trans (Stp.of_store hS5.ob i2 hg2 fE)).fr⟩))
  refine wc_known_false rfl hc ?_
  refine wc_skip ?_
  refine wq_block (wq_seq ?_)
  refine wc_seq ?_
  refine wc_region (l := [0, 1, 2, 3, 4, 5, 6, 7, 8, 9, 10, 11]) rfl ?_
  refine wo_seg Θ_ok [0, 1, 2, 3] [(1, (.int .u64 x1)), (4, (.pointer (some ⟨b2, 0, none⟩))), (6, (.pointer (some ⟨b, 0, none⟩))), (29, (.pointer (some ⟨b, 0, none⟩)))] rfl ⟨rfl, rfl, rfl, rfl, trivial⟩ ?_
  obtain ⟨An, cn, rfl, _, _⟩ := hH.ns.form
  refine wo_load Θ_ok rfl rfl rfl rfl rfl rfl rfl hH.blk [.slice An e.1.fNames.length cn] rfl rfl (.inr rfl) (.slice An e.1.fNames.length cn) rfl ?_
  refine wo_seg Θ_ok [5] [(1, (.int .u64 x1)), (4, (.pointer (some ⟨b2, 0, none⟩))), (6, (.pointer (some ⟨b, 0, none⟩))), (30, (.slice An e.1.fNames.length cn)), (31, (.int .u64 x1))] rfl ⟨rfl, rfl, rfl, rfl, rfl, trivial⟩ ?_
  obtain ⟨f, hf, h⟩ := bind_some h
  refine wo_gives rfl rfl rfl rfl rfl ent35 rfl (i_findN_c (ob_nil _) (hH.nameData (fun _ hg => by cases hg)) (int_is.2 rfl) (fn1_is (first := []) (cap := []) ent36 (fun O' w' ht hO u0 z0 q0 y hy => by cases hy; exact i_nameOf_c hO q0)) hf) (fun v6 w6 g6 f6 => ?_)
  obtain ⟨_, _, rfl, q1, q2⟩ := g6
  obtain rfl := int_is.1 q1
  obtain rfl := bool_is.1 q2
  have hS7 := hS5.trans (Stp.of_fr hS5.ob hS5.tr.size f6)
  have hH := hH.fr0 f6
  have hb2 := hb2.fr0 f6
  refine wo_seg Θ_ok [7, 8, 9, 10, 11] [(1, (.int .u64 x1)), (4, (.pointer (some ⟨b2, 0, none⟩))), (6, (.pointer (some ⟨b, 0, none⟩))), (8, (.int .i64 f.1)), (9, (.bool f.2))] rfl ⟨rfl, rfl, rfl, rfl, rfl, trivial⟩ ?_
  refine wo_nil ?_
  refine wq_seq ?_
  refine wc_seq ?_
  refine wc_seq ?_
  refine wc_region (l := [0, 1]) rfl ?_
  refine wo_seg Θ_ok [0, 1] [(4, (.pointer (some ⟨b2, 0, none⟩))), (6, (.pointer (some ⟨b, 0, none⟩))), (8, (.int .i64 f.1)), (36, (.bool (!f.2)))] rfl ⟨rfl, rfl, rfl, rfl, trivial⟩ ?_
  refine wo_nil ?_
  refine wq_seq ?_
  rcases bif_some h with ⟨hc, h⟩ | ⟨hc, h⟩
  · refine wc_known_true rfl hc ?_
    cases h
    refine wc_seq ?_
    refine wc_region (l := [0, 1, 2]) rfl ?_
    refine wo_seg Θ_ok [0] [(4, (.pointer (some ⟨b2, 0, none⟩))), (37, (.agg #[(.slice none 0 0), (.slice none 0 0)]))] rfl ⟨rfl, rfl, trivial⟩ ?_
    refine wo_store Θ_ok rfl rfl rfl rfl rfl rfl rfl hb2 [(.slice none 0 0), (.slice none 0 0)] rfl rfl (by simp [Value.oneCell']) rfl [(.slice none 0 0), (.slice none 0 0)] rfl (fun wE hbE fE => ?_)
    refine wo_seg Θ_ok [2] [(4, (.pointer (some ⟨b2, 0, none⟩))), (5, (.int .i64 4))] rfl ⟨rfl, rfl, trivial⟩ ?_
    refine wo_nil ?_
    refine wq_seq ?_
    refine wc_ret ?_
    exact wq_then_ret (wq_retc Θ_ok (vs := [.agg #[(.slice none 0 0), (.slice none 0 0)], (.int .i64 4)]) ⟨_, _, rfl, ⟨_, _, _, _, rfl, hbE, rfl, rfl, .inl rfl, rfl⟩, _, _, rfl, rfl, rfl⟩ ⟨_, rfl, ⟨_, _, rfl, (tGIpc_is.2 ⟨_, _, rfl, slice_nil _ _ _, slice_nil _ _ _⟩), int_is.2 rfl⟩, (hS7.trans (Stp.of_store hS7.ob i2 hg2 fE)).fr⟩)
  refine wc_known_false rfl hc ?_
  refine wc_skip ?_
  refine wq_seq ?_
  obtain ⟨ns, hns, h⟩ := bind_some h
  cases h
  refine wc_seq ?_
  refine wc_region (l := [0, 1, 2, 3, 4, 5, 6, 7, 8, 9, 10, 11, 12, 13]) rfl ?_
  refine wo_seg Θ_ok [0, 1, 2, 3, 4] [(4, (.pointer (some ⟨b2, 0, none⟩))), (6, (.pointer (some ⟨b, 0, none⟩))), (8, (.int .i64 f.1)), (38, (.pointer (some ⟨b, 0, none⟩))), (42, (.pointer (some ⟨b, 0, none⟩)))] rfl ⟨rfl, rfl, rfl, rfl, rfl, trivial⟩ ?_
  refine wo_load Θ_ok rfl rfl rfl rfl rfl rfl rfl hH.blk [.slice An e.1.fNames.length cn] rfl rfl (.inr rfl) (.slice An e.1.fNames.length cn) rfl ?_
  refine wo_seg Θ_ok [6, 7, 8] [(4, (.pointer (some ⟨b2, 0, none⟩))), (6, (.pointer (some ⟨b, 0, none⟩))), (38, (.pointer (some ⟨b, 0, none⟩))), (43, (.slice An e.1.fNames.length cn)), (44, (.int .i64 f.1)), (46, (.int .i64 (IntKind.i64.wrap (f.1 + 1))))] rfl ⟨rfl, rfl, rfl, rfl, rfl, rfl, trivial⟩ ?_
  have hB8 : w2.heap.size ≤ w6.heap.size := Nat.le_trans hS3.tr.size (Nat.le_trans f4.size f6.size)
  refine wo_ownc rfl rfl rfl rfl rfl ent38 rfl (s_DeleteN_o hS7.ob hH.ns hns) (fun v9 w9 O9 ap => ?_)
  have hb9 := ap.blk hH.blk hH.nb
  have hb2 := ap.blk hb2 (fun e => by have := (hH.ns.lt b2 e).1; omega)
  have hS9 := hS7.trans ⟨ap.tr, ap.ob, ap.sub, fun k hk => ap.fr k (Nat.lt_of_lt_of_le hk hS7.tr.size) fun e => by have := (hH.ns.lt k e).1; have := hS2.tr.size; omega⟩
  have i2 := ap.sub _ i2
  obtain ⟨A9, c9, rfl, _, _⟩ := ap.own.form
  refine wo_seg Θ_ok [10, 11, 12] [(4, (.pointer (some ⟨b2, 0, none⟩))), (6, (.pointer (some ⟨b, 0, none⟩))), (47, (.slice A9 ns.length c9)), (50, (.pointer (some ⟨b, 0, none⟩)))] rfl ⟨rfl, rfl, rfl, rfl, trivial⟩ ?_
  refine wo_store Θ_ok rfl rfl rfl rfl rfl rfl rfl hb9 [.slice A9 ns.length c9] rfl rfl (by simp [Value.oneCell']) rfl [.slice A9 ns.length c9, rv] rfl (fun w10 hb10 f10 => ?_)
  have hb2 := hb2.fr f10 (by simp; have := hH.ge; omega)
  have hS10 := hS9.trans (Stp.of_store hS9.ob (ap.sub _ hH.mem) (Nat.le_trans hS2.tr.size hH.ge) f10)
  have hW := (hH.names (x' := GIpc.mk ns e.1.fBoxes) ap hb10 f10 rfl rfl).weak
  clear hH
  refine wo_nil ?_
  refine wq_seq ?_
  generalize hnvx : (Value.slice A9 ns.length c9) = nvx at *
  generalize hrvx : rv = rvx at *
  refine wc_seq ?_
  refine wc_region (l := [0, 1, 2, 3, 4, 5]) rfl ?_
  refine wo_seg Θ_ok [0, 1, 2] [(6, (.pointer (some ⟨b, 0, none⟩))), (4, (.pointer (some ⟨b2, 0, none⟩))), (53, (.pointer (some ⟨b, 0, none⟩)))] rfl ⟨rfl, rfl, rfl, trivial⟩ ?_
  refine wo_load Θ_ok rfl rfl rfl rfl rfl rfl rfl hW.blk [nvx, rvx] rfl rfl (.inl rfl) (.agg #[nvx, rvx]) rfl ?_
  obtain ⟨Ax, cx, hAx, _, _⟩ := hW.ns.form
  obtain ⟨Ay, cy, hAy, _, _⟩ := hW.row.form
  refine wo_store Θ_ok rfl rfl rfl rfl rfl rfl rfl hb2 [nvx, rvx] rfl rfl (by rw [hAx, hAy]; simp [Value.oneCell']) rfl [nvx, rvx] rfl (fun wE hbE fE => ?_)
  have hWE := hW.cell i2 hl2 fE
  have hE := (hS10.trans (Stp.of_store hS10.ob i2 hg2 fE)).fr
  refine wo_seg Θ_ok [5] [(4, (.pointer (some ⟨b2, 0, none⟩))), (5, (.int .i64 0))] rfl ⟨rfl, rfl, trivial⟩ ?_
  refine wo_nil ?_
  refine wq_seq ?_
  refine wc_ret ?_
  exact (wq_retc Θ_ok (vs := [.agg #[nvx, rvx], (.int .i64 0)]) ⟨_, _, rfl, ⟨_, _, _, _, rfl, hbE, rfl, rfl, .inl rfl, rfl⟩, _, _, rfl, rfl, rfl⟩ ⟨_, rfl, ⟨_, _, rfl, (hWE.data hO2), int_is.2 rfl⟩, hE⟩)
theorem i_Register_c {O : List Nat} {w : World} (hO : OB O w) {fuel : Nat} {v0 : Value} {x0 : GIpc} (h0 : tGIpc.is O w v0 x0) {v1 : Value} {x1 : Int} (h1 : (Ty.int .u64).is O w v1 x1) {v2 : Value} {x2 : Int} (h2 : (Ty.int .u64).is O w v2 x2) {r : GIpc × Int} (h : i_Register fuel x0 x1 x2 = some r) : Calls Try.prog 10 #[v0, v1, v2] w (Gives (rt2 tGIpc (Ty.int .i64)) O w r) := i_Register_n hO (h0.tr (Tr.less (sub_nil _))) (h1.tr (Tr.less (sub_nil _))) (h2.tr (Tr.less (sub_nil _))) h
theorem i_Unregister_c {O : List Nat} {w : World} (hO : OB O w) {fuel : Nat} {v0 : Value} {x0 : GIpc} (h0 : tGIpc.is O w v0 x0) {v1 : Value} {x1 : Int} (h1 : (Ty.int .u64).is O w v1 x1) {r : GIpc × Int} (h : i_Unregister fuel x0 x1 = some r) : Calls Try.prog 11 #[v0, v1] w (Gives (rt2 tGIpc (Ty.int .i64)) O w r) := i_Unregister_n hO (h0.tr (Tr.less (sub_nil _))) (h1.tr (Tr.less (sub_nil _))) h

set_option maxRecDepth 100000 in
theorem put_w {B : Nat} {O : List Nat} {w w' : World} {b g c : Nat} {nv : Value} {S : List Nat} {raws L : List (Int × Value)} {R : List Value} {names : List GName} {bs : List GBox} (mem : b ∈ O) (ge : B ≤ b) (blk : Blk w b 68 [nv, .slice (some ⟨g, 0, none⟩) raws.length c]) (ns : Go.Dc.Own tGName 31 B O w nv names) (nb : nv.ownBlock ≠ some b) (dj : Dj nv (.slice (some ⟨g, 0, none⟩) raws.length c))
    (hgb : g ≠ b) (hgO : g ∈ O) (hBg : B ≤ g) (hl : raws.length * 2 + R.length = c * 2) (hc : raws.length ≤ c) (hm : c ≤ maxLen) (f : Fr [g] w w') (hb' : Blk w' g 61 (rc L ++ R)) (hL : L.length = raws.length) (hLf : ∀ r ∈ L, ∃ A n c, r.2 = .slice A n c) (hfo : WFor S w L bs) (lt : ∀ j ∈ S, B ≤ j ∧ j < w.heap.size) (out : ∀ j ∈ S, j ∉ O) :
    HandW B O w' b nv (.slice (some ⟨g, 0, none⟩) raws.length c) S L (GIpc.mk names bs) := by
  refine ⟨mem, ge, blk.fr f (by simp; exact fun e => hgb e.symm), ns.st f hgO (fun e => dj g e rfl), ?_, hfo.imp fun _ _ k => k.keep (f.tr (one_in hgO)) fun j hj => f.block j (lt j hj).2 (by simp; rintro rfl; exact out _ hj hgO), fun j hj => ⟨(lt j hj).1, Nat.lt_of_lt_of_le (lt j hj).2 f.size⟩, out, nb, fun e => hgb (by injection e), dj⟩
  rw [← hL]
  exact row_close hgO hBg hb' (by rw [hL]; exact hl) (by rw [hL]; exact hc) hm hLf
def SP.safe (S : List Nat) (ys : List Int) : SP := ⟨fun w u => (∀ g ∈ S, g < w.heap.size) ∧ Safe S w u ys, fun hf ⟨h1, h2⟩ => ⟨fun g hg => Nat.lt_of_lt_of_le (h1 g hg) hf.size, h2.keep (O := []) (O' := []) hf.tr0 fun g hg => hf.block g (h1 g hg) (by simp)⟩⟩
theorem op_cutS {P : Program} {r : Option Nat} {N : Nat} {Θ : Tys} {ops : Array Oper} {Q : Exit → Act → World → Prop} {E : Env} {ds : List Deferred} {w : World} {i d : Nat} {o : Oper} {S : List Nat} (hΘ : Θ.ok P) {a : Act} (ha : Has N E ds a) (ho : ops[i]? = some o) (hw : want N ops E o.guard = some true) (hd : o.dst = some d) {t : Nat} {x : Operand} {lo hi mx : Option Operand} {ti te : TI} (hop : o.op = .slice t x lo hi mx) (ht : Θ.get t = some ti)
    (h5 : ti.tag = 5) (hte : Θ.get ti.e = some te) {v : Value} (hx : ev E x = some v) {l' h' m' : Option (IntKind × Int)} (hlo : evo E lo = some l') (hhi : evo E hi = some h') (hmx : evo E mx = some m') {xs ys : List Int} (hn : TW.n = te.size) (hv : Safe S w v xs)
    (hc : cutx xs (l'.map (·.2)) (h'.map (·.2)) (m'.map (·.2)) = some ys) : OpK P r ops Q i d a w (fun u w' => Safe S w' u ys ∧ Fr [] w w') := by
  obtain ⟨v', hrun, hv'⟩ := run_cut (w := w) hΘ ht h5 hte hn (hv [] fun _ _ hm => by cases hm) hc
  have hs : Safe S w v' ys := fun O2 hO2 => by
    obtain ⟨v'', hrun2, hv''⟩ := run_cut (w := w) hΘ ht h5 hte hn (hv O2 hO2) hc
    rw [hrun] at hrun2
    injection hrun2 with e1 e2
    rw [e1]
    exact hv''
  refine op_of ho (want_ok ha hw) hd (b := true) (v := v') (w' := w) ?_ ⟨hs, Fr.refl _ _⟩
  simp only [if_true]
  refine ⟨by rw [hop]; simp, ?_⟩
  simp only [execOp, hop, Sem.run_bind, ha.eval hx, evo_eval ha hlo, evo_eval ha hhi, evo_eval ha hmx, hrun]
  rfl
set_option maxRecDepth 100000 in
set_option maxHeartbeats 4000000 in
theorem i_Clear_n {O : List Nat} {w : World} (hO : OB O w) {fuel : Nat} {v0 : Value} {x0 : GIpc} (h0 : tGIpc.is [] w v0 x0) {v1 : Value} {x1 : Int} (h1 : (Ty.int .u64).is [] w v1 x1) {r : GIpc × Int × Int} (h : i_Clear fuel x0 x1 = some r) : Calls Try.prog 17 #[v0, v1] w (Gives (rt3 tGIpc (Ty.int .i64) (Ty.int .i64)) O w r) := by
  obtain rfl := int_is.1 h1
  obtain ⟨v0_1, v0_2, rfl, h0_1, h0_2⟩ := tGIpc_is.1 h0
  have hS0 : Stp w.heap.size O w O w := Stp.refl hO
  refine calls_of (args := [(.agg #[v0_1, v0_2]), (.int .u64 x1)]) (N := 47) Try.func17 rfl rfl rfl ?_
  unfold i_Clear at h
  refine wc_seq ?_
  refine wc_region (l := [0, 1, 2, 3]) rfl ?_
  refine wo_box rfl rfl rfl rfl rfl rfl [v0_1, v0_2] rfl hO (fun b1 w1 n1 => ?_)
  have hb1 := n1.blk
  have hS1 := hS0.trans (Stp.of_new hS0.tr.size n1)
  refine wo_alloc Θ_ok rfl rfl rfl rfl rfl rfl [(.slice none 0 0), (.slice none 0 0)] rfl hS1.ob (fun b2 w2 n2 => ?_)
  have hb1 := hb1.fr0 n2.fr
  have hb2 := n2.blk
  have hg2 : w.heap.size ≤ b2 := Nat.le_trans hS1.tr.size n2.ge
  have hS2 := hS1.trans (Stp.of_new hS1.tr.size n2)
  have i2 : b2 ∈ b2 :: b1 :: O := List.mem_cons_self
  have hl2 : b2 < w2.heap.size := hb2.lt
  have hO2 : ∀ g ∈ O, g < w2.heap.size := fun g hg => Nat.lt_of_lt_of_le (hO g hg) hS2.tr.size
  refine wo_seg Θ_ok [2, 3] [(1, (.int .u64 x1)), (2, (.pointer (some ⟨b1, 0, none⟩))), (4, (.pointer (some ⟨b2, 0, none⟩)))] rfl ⟨rfl, rfl, rfl, trivial⟩ ?_
  refine wo_nil ?_
  refine wq_seq ?_
  refine wc_seq ?_
  refine wc_region (l := [0, 1, 2, 3, 4, 5, 6, 7, 8, 9]) rfl ?_
  refine wo_load Θ_ok rfl rfl rfl rfl rfl rfl rfl hb1 [v0_1, v0_2] rfl rfl (.inl rfl) (.agg #[v0_1, v0_2]) rfl ?_
  obtain ⟨e, he, h⟩ := bind_some h
  refine wo_seg Θ_ok [1] [(1, (.int .u64 x1)), (4, (.pointer (some ⟨b2, 0, none⟩))), (12, (.agg #[v0_1, v0_2])), (13, (.int .u64 x1))] rfl ⟨rfl, rfl, rfl, rfl, trivial⟩ ?_
  refine wo_call rfl rfl rfl rfl rfl ent41 rfl (i_begin_h hS2.ob (h0.tr hS2.fr.tr0) he) (fun _ w3 hg => ?_)
  obtain ⟨pv, O3, rfl, hS3, hH0⟩ := hg
  refine ⟨_, rfl, ?_⟩
  have hb2 : Blk w3 b2 25 [(.slice none 0 0), (.slice none 0 0)] := (hS3.below _ hl2).trans hb2
  have hS4 := hS2.to hS3
  have i2 := hS3.sub _ i2
  refine wo_seg Θ_ok [3, 4, 5, 6, 7, 8, 9] [(1, (.int .u64 x1)), (4, (.pointer (some ⟨b2, 0, none⟩))), (7, pv), (8, (.int .i64 e.2.1)), (9, (.int .i64 e.2.2))] rfl ⟨rfl, rfl, rfl, rfl, rfl, trivial⟩ ?_
  refine wo_nil ?_
  refine wq_seq ?_
  refine wc_seq ?_
  refine wc_seq ?_
  refine wc_region (l := [0, 1]) rfl ?_
  refine wo_seg Θ_ok [0, 1] [(1, (.int .u64 x1)), (4, (.pointer (some ⟨b2, 0, none⟩))), (7, pv), (8, (.int .i64 e.2.1)), (9, (.int .i64 e.2.2)), (19, (.bool (!(e.2.2 == 0))))] rfl ⟨rfl, rfl, rfl, rfl, rfl, rfl, trivial⟩ ?_
  refine wo_nil ?_
  refine wq_seq ?_
  rcases bif_some h with ⟨hc, h⟩ | ⟨hc, h⟩
  · refine wc_known_true rfl hc ?_
    cases h
    refine wc_seq ?_
    refine wc_region (l := [0, 1, 2, 3, 4]) rfl ?_
    refine wo_seg Θ_ok [0, 1] [(4, (.pointer (some ⟨b2, 0, none⟩))), (20, (.agg #[(.slice none 0 0), (.slice none 0 0)])), (21, (.int .i64 e.2.2))] rfl ⟨rfl, rfl, rfl, trivial⟩ ?_
    refine wo_store Θ_ok rfl rfl rfl rfl rfl rfl rfl hb2 [(.slice none 0 0), (.slice none 0 0)] rfl rfl (by simp [Value.oneCell']) rfl [(.slice none 0 0), (.slice none 0 0)] rfl (fun wE hbE fE => ?_)
    refine wo_seg Θ_ok [3, 4] [(4, (.pointer (some ⟨b2, 0, none⟩))), (5, (.int .i64 0)), (6, (.int .i64 e.2.2))] rfl ⟨rfl, rfl, rfl, trivial⟩ ?_
    refine wo_nil ?_
    refine wq_seq ?_
    refine wc_ret ?_
    exact wq_then_ret (wq_retc Θ_ok (vs := [.agg #[(.slice none 0 0), (.slice none 0 0)], (.int .i64 0), (.int .i64 e.2.2)]) ⟨_, _, rfl, ⟨_, _, _, _, rfl, hbE, rfl, rfl, .inl rfl, rfl⟩, _, _, rfl, rfl, _, _, rfl, rfl, rfl⟩ ⟨_, rfl, ⟨_, _, _, rfl, (tGIpc_is.2 ⟨_, _, rfl, slice_nil _ _ _, slice_nil _ _ _⟩), int_is.2 rfl, int_is.2 rfl⟩, (hS4.trans (Stp.of_store hS4.ob i2 hg2 fE)).fr⟩)
  refine wc_known_false rfl hc ?_
  have he0 : e.2.2 = 0 := by simpa using hc
  obtain ⟨b, rfl, nv, rv, S, raws, hH⟩ := hH0 he0
  refine wc_skip ?_
  refine wq_seq ?_
  obtain ⟨z, hz, h⟩ := bind_some h
  obtain ⟨hk0, hkz⟩ := idx_some hz
  obtain ⟨k, hk⟩ : ∃ k : Nat, k = e.2.1.toNat := ⟨_, rfl⟩
  rw [← hk] at hkz
  have hek : e.2.1 = (k : Int) := by omega
  rw [hek]
  rw [← hk] at h
  have hW0 := hH.weak
  obtain ⟨vw, hr, hsafe⟩ := hW0.fo.at_ hkz
  obtain ⟨Aw, cw, rfl, hlw, hmw⟩ := slice_form (hsafe [] fun _ _ hm => by cases hm)
  obtain ⟨Ar, cr, rfl, _, _⟩ := hH.row.form
  have hkr := (List.getElem?_eq_some_iff.1 hr).1
  obtain ⟨g, R, rfl, hgO, hBg, hbR, hlR, hcR, hmR, hforms⟩ := row_open hH.row (by omega)
  have hgb : g ≠ b := fun e => hH.rb (by rw [← e]; rfl)
  have e1 : (k : Int).toNat * ({ tag := 8, k := 0, e := 0, fs := [(29, 0), (40, 1)], size := 2, bytes := 32, zero := .agg #[.int .u64 0, .slice none 0 0] } : TI).size = k * 2 := by rw [Int.toNat_natCast]
  have hlt : (k : Int).toNat < raws.length := by rw [Int.toNat_natCast]; exact hkr
  refine wc_seq ?_
  refine wc_region (l := [0, 1, 2, 3, 4, 5, 6, 7, 8, 9, 10]) rfl ?_
  refine wo_seg Θ_ok [0, 1, 2, 3] [(4, (.pointer (some ⟨b2, 0, none⟩))), (7, (.pointer (some ⟨b, 0, none⟩))), (8, (.int .i64 (k : Int))), (25, (.pointer (some ⟨b, 1, none⟩)))] rfl ⟨rfl, rfl, rfl, rfl, trivial⟩ ?_
  refine wo_load Θ_ok rfl rfl rfl rfl rfl rfl rfl hH.blk [(.slice (some ⟨g, 0, none⟩) raws.length cr)] rfl rfl (.inr rfl) (.slice (some ⟨g, 0, none⟩) raws.length cr) rfl ?_
  refine wo_seg Θ_ok [5] [(4, (.pointer (some ⟨b2, 0, none⟩))), (7, (.pointer (some ⟨b, 0, none⟩))), (8, (.int .i64 (k : Int))), (26, (.slice (some ⟨g, 0, none⟩) raws.length cr)), (27, (.int .i64 (k : Int)))] rfl ⟨rfl, rfl, rfl, rfl, rfl, trivial⟩ ?_
  refine wo_indexV Θ_ok rfl rfl rfl rfl rfl rfl rfl rfl rfl rfl (by omega) hlt ?_
  rw [e1, add_at, Nat.zero_add]
  refine wo_seg Θ_ok [7] [(4, (.pointer (some ⟨b2, 0, none⟩))), (7, (.pointer (some ⟨b, 0, none⟩))), (8, (.int .i64 (k : Int))), (29, (.pointer (some ⟨g, k * 2 + 1, none⟩)))] rfl ⟨rfl, rfl, rfl, rfl, trivial⟩ ?_
  refine wo_load Θ_ok rfl rfl rfl rfl rfl rfl rfl hbR [(.slice Aw z.fWords.length cw)] (rc_cell hr) rfl (.inr rfl) (.slice Aw z.fWords.length cw) rfl ?_
  refine wo_seg Θ_ok [9, 10] [(4, (.pointer (some ⟨b2, 0, none⟩))), (7, (.pointer (some ⟨b, 0, none⟩))), (8, (.int .i64 (k : Int))), (10, (.int .i64 (z.fWords.length : Int)))] rfl ⟨rfl, rfl, rfl, rfl, trivial⟩ ?_
  refine wo_nil ?_
  refine wq_seq ?_
  refine wc_seq ?_
  refine wc_region (l := [0, 1, 2, 3, 4, 5, 6, 7, 8]) rfl ?_
  refine wo_seg Θ_ok [0, 1, 2, 3] [(4, (.pointer (some ⟨b2, 0, none⟩))), (7, (.pointer (some ⟨b, 0, none⟩))), (8, (.int .i64 (k : Int))), (10, (.int .i64 (z.fWords.length : Int))), (35, (.pointer (some ⟨b, 1, none⟩)))] rfl ⟨rfl, rfl, rfl, rfl, rfl, trivial⟩ ?_
  refine wo_load Θ_ok rfl rfl rfl rfl rfl rfl rfl hH.blk [(.slice (some ⟨g, 0, none⟩) raws.length cr)] rfl rfl (.inr rfl) (.slice (some ⟨g, 0, none⟩) raws.length cr) rfl ?_
  refine wo_seg Θ_ok [5] [(4, (.pointer (some ⟨b2, 0, none⟩))), (7, (.pointer (some ⟨b, 0, none⟩))), (8, (.int .i64 (k : Int))), (10, (.int .i64 (z.fWords.length : Int))), (36, (.slice (some ⟨g, 0, none⟩) raws.length cr)), (37, (.int .i64 (k : Int)))] rfl ⟨rfl, rfl, rfl, rfl, rfl, rfl, trivial⟩ ?_
  refine wo_indexV Θ_ok rfl rfl rfl rfl rfl rfl rfl rfl rfl rfl (by omega) hlt ?_
  rw [e1, add_at, Nat.zero_add]
  refine wo_seg Θ_ok [7] [(4, (.pointer (some ⟨b2, 0, none⟩))), (7, (.pointer (some ⟨b, 0, none⟩))), (8, (.int .i64 (k : Int))), (10, (.int .i64 (z.fWords.length : Int))), (39, (.pointer (some ⟨g, k * 2 + 1, none⟩)))] rfl ⟨rfl, rfl, rfl, rfl, rfl, trivial⟩ ?_
  refine wo_store Θ_ok rfl rfl rfl rfl rfl rfl rfl hbR [(.slice none 0 0)] rfl rfl (by simp [Value.oneCell']) (Nat.ble_eq_true_of_le (by simp only [List.length_append, rc, pc_len, List.length_map]; show k * 2 + 1 + 1 ≤ _; omega)) (rc (raws.set k (z.fPid, (.slice none 0 0))) ++ R) (rc_put (x := (z.fPid, (.slice Aw z.fWords.length cw))) hr) (fun w5 hb5 f5 => ?_)
  have hW := put_w (bs := e.1.fBoxes.set k (GBox.mk z.fPid [])) hH.mem hH.ge hH.blk hH.ns hH.nb hH.dj hgb hgO hBg hlR hcR hmR f5 hb5 (by rw [List.length_set]) (fun r hr => by
    rcases List.mem_or_eq_of_mem_set hr with hr | rfl
    · exact hforms r hr
    · exact ⟨_, _, _, rfl⟩) (hW0.fo.set k safe_nil) hW0.lt hH.out
  have hb2 := hb2.fr f5 (by simp; omega)
  have hS6 := hS4.trans (Stp.of_store hS4.ob hgO (Nat.le_trans hS2.tr.size hBg) f5)
  clear hH hW0
  refine wo_nil ?_
  refine wq_seq ?_
  have hB6 : w2.heap.size ≤ w5.heap.size := Nat.le_trans hS3.tr.size f5.size
  refine wc_seq ?_
  refine wc_region (l := [0, 1]) rfl ?_
  refine wo_seg Θ_ok [0] [(10, (.int .i64 (z.fWords.length : Int))), (4, (.pointer (some ⟨b2, 0, none⟩))), (7, (.pointer (some ⟨b, 0, none⟩))), (40, (.pointer (some ⟨b, 0, none⟩)))] rfl ⟨rfl, rfl, rfl, rfl, trivial⟩ ?_
  refine wo_call rfl rfl rfl rfl rfl ent42 rfl (i_tidy_w hS6.ob hB6 ⟨_, _, _, _, hW⟩) (fun _ w7 hg => ?_)
  obtain ⟨rfl, O7, hS7, nvx, rvx, S7, raws7, hW⟩ := hg
  refine ⟨_, rfl, ?_⟩
  have hb2 : Blk w7 b2 25 [(.slice none 0 0), (.slice none 0 0)] := (hS7.below _ hl2).trans hb2
  have i2 := hS7.sub _ i2
  have hS8 : Stp w.heap.size O w O7 w7 := hS6.trans ⟨hS7.tr, hS7.ob, hS7.sub, fun j hj => hS7.below j (Nat.lt_of_lt_of_le hj hS2.tr.size)⟩
  refine wo_seg Θ_ok [] [(10, (.int .i64 (z.fWords.length : Int))), (4, (.pointer (some ⟨b2, 0, none⟩))), (7, (.pointer (some ⟨b, 0, none⟩)))] rfl ⟨rfl, rfl, rfl, trivial⟩ ?_
  refine wo_nil ?_
  refine wq_seq ?_
  cases h
  refine wc_seq ?_
  refine wc_region (l := [0, 1, 2, 3, 4, 5, 6, 7]) rfl ?_
  refine wo_seg Θ_ok [0, 1, 2] [(7, (.pointer (some ⟨b, 0, none⟩))), (10, (.int .i64 (z.fWords.length : Int))), (4, (.pointer (some ⟨b2, 0, none⟩))), (44, (.pointer (some ⟨b, 0, none⟩)))] rfl ⟨rfl, rfl, rfl, rfl, trivial⟩ ?_
  refine wo_load Θ_ok rfl rfl rfl rfl rfl rfl rfl hW.blk [nvx, rvx] rfl rfl (.inl rfl) (.agg #[nvx, rvx]) rfl ?_
  obtain ⟨Ax, cx, hAx, _, _⟩ := hW.ns.form
  obtain ⟨Ay, cy, hAy, _, _⟩ := hW.row.form
  refine wo_seg Θ_ok [4] [(4, (.pointer (some ⟨b2, 0, none⟩))), (45, (.agg #[nvx, rvx])), (46, (.int .i64 (z.fWords.length : Int)))] rfl ⟨rfl, rfl, rfl, trivial⟩ ?_
  refine wo_store Θ_ok rfl rfl rfl rfl rfl rfl rfl hb2 [nvx, rvx] rfl rfl (by rw [hAx, hAy]; simp [Value.oneCell']) rfl [nvx, rvx] rfl (fun wE hbE fE => ?_)
  have hWE := hW.cell i2 hl2 fE
  have hE := (hS8.trans (Stp.of_store hS8.ob i2 hg2 fE)).fr
  refine wo_seg Θ_ok [6, 7] [(4, (.pointer (some ⟨b2, 0, none⟩))), (5, (.int .i64 (z.fWords.length : Int))), (6, (.int .i64 0))] rfl ⟨rfl, rfl, rfl, trivial⟩ ?_
  refine wo_nil ?_
  refine wq_seq ?_
  refine wc_ret ?_
  exact (wq_retc Θ_ok (vs := [.agg #[nvx, rvx], (.int .i64 (z.fWords.length : Int)), (.int .i64 0)]) ⟨_, _, rfl, ⟨_, _, _, _, rfl, hbE, rfl, rfl, .inl rfl, rfl⟩, _, _, rfl, rfl, _, _, rfl, rfl, rfl⟩ ⟨_, rfl, ⟨_, _, _, rfl, (hWE.data hO2), int_is.2 rfl, int_is.2 rfl⟩, hE⟩)
set_option maxRecDepth 100000 in
set_option maxHeartbeats 4000000 in
theorem i_Receive_n {O : List Nat} {w : World} (hO : OB O w) {fuel : Nat} {v0 : Value} {x0 : GIpc} (h0 : tGIpc.is [] w v0 x0) {v1 : Value} {x1 : Int} (h1 : (Ty.int .u64).is [] w v1 x1) {r : GIpc × Int × Int} (h : i_Receive fuel x0 x1 = some r) : Calls Try.prog 19 #[v0, v1] w (Gives (rt3 tGIpc (Ty.int .u64) (Ty.int .i64)) O w r) := by
  obtain rfl := int_is.1 h1
  obtain ⟨v0_1, v0_2, rfl, h0_1, h0_2⟩ := tGIpc_is.1 h0
  have hS0 : Stp w.heap.size O w O w := Stp.refl hO
  refine calls_of (args := [(.agg #[v0_1, v0_2]), (.int .u64 x1)]) (N := 68) Try.func19 rfl rfl rfl ?_
  unfold i_Receive at h
  refine wc_seq ?_
  refine wc_region (l := [0, 1, 2, 3]) rfl ?_
  refine wo_box rfl rfl rfl rfl rfl rfl [v0_1, v0_2] rfl hO (fun b1 w1 n1 => ?_)
  have hb1 := n1.blk
  have hS1 := hS0.trans (Stp.of_new hS0.tr.size n1)
  refine wo_alloc Θ_ok rfl rfl rfl rfl rfl rfl [(.slice none 0 0), (.slice none 0 0)] rfl hS1.ob (fun b2 w2 n2 => ?_)
  have hb1 := hb1.fr0 n2.fr
  have hb2 := n2.blk
  have hg2 : w.heap.size ≤ b2 := Nat.le_trans hS1.tr.size n2.ge
  have hS2 := hS1.trans (Stp.of_new hS1.tr.size n2)
  have i2 : b2 ∈ b2 :: b1 :: O := List.mem_cons_self
  have hl2 : b2 < w2.heap.size := hb2.lt
  have hO2 : ∀ g ∈ O, g < w2.heap.size := fun g hg => Nat.lt_of_lt_of_le (hO g hg) hS2.tr.size
  refine wo_seg Θ_ok [2, 3] [(1, (.int .u64 x1)), (2, (.pointer (some ⟨b1, 0, none⟩))), (4, (.pointer (some ⟨b2, 0, none⟩)))] rfl ⟨rfl, rfl, rfl, trivial⟩ ?_
  refine wo_nil ?_
  refine wq_seq ?_
  refine wc_seq ?_
  refine wc_region (l := [0, 1, 2, 3, 4, 5, 6, 7, 8, 9]) rfl ?_
  refine wo_load Θ_ok rfl rfl rfl rfl rfl rfl rfl hb1 [v0_1, v0_2] rfl rfl (.inl rfl) (.agg #[v0_1, v0_2]) rfl ?_
  obtain ⟨e, he, h⟩ := bind_some h
  refine wo_seg Θ_ok [1] [(1, (.int .u64 x1)), (4, (.pointer (some ⟨b2, 0, none⟩))), (13, (.agg #[v0_1, v0_2])), (14, (.int .u64 x1))] rfl ⟨rfl, rfl, rfl, rfl, trivial⟩ ?_
  refine wo_call rfl rfl rfl rfl rfl ent41 rfl (i_begin_h hS2.ob (h0.tr hS2.fr.tr0) he) (fun _ w3 hg => ?_)
  obtain ⟨pv, O3, rfl, hS3, hH0⟩ := hg
  refine ⟨_, rfl, ?_⟩
  have hb2 : Blk w3 b2 25 [(.slice none 0 0), (.slice none 0 0)] := (hS3.below _ hl2).trans hb2
  have hS4 := hS2.to hS3
  have i2 := hS3.sub _ i2
  refine wo_seg Θ_ok [3, 4, 5, 6, 7, 8, 9] [(1, (.int .u64 x1)), (4, (.pointer (some ⟨b2, 0, none⟩))), (7, pv), (8, (.int .i64 e.2.1)), (9, (.int .i64 e.2.2))] rfl ⟨rfl, rfl, rfl, rfl, rfl, trivial⟩ ?_
  refine wo_nil ?_
  refine wq_seq ?_
  refine wc_seq ?_
  refine wc_seq ?_
  refine wc_region (l := [0, 1]) rfl ?_
  refine wo_seg Θ_ok [0, 1] [(1, (.int .u64 x1)), (4, (.pointer (some ⟨b2, 0, none⟩))), (7, pv), (8, (.int .i64 e.2.1)), (9, (.int .i64 e.2.2)), (20, (.bool (!(e.2.2 == 0))))] rfl ⟨rfl, rfl, rfl, rfl, rfl, rfl, trivial⟩ ?_
  refine wo_nil ?_
  refine wq_seq ?_
  rcases bif_some h with ⟨hc, h⟩ | ⟨hc, h⟩
  · refine wc_known_true rfl hc ?_
    cases h
    refine wc_seq ?_
    refine wc_region (l := [0, 1, 2, 3, 4]) rfl ?_
    refine wo_seg Θ_ok [0, 1] [(4, (.pointer (some ⟨b2, 0, none⟩))), (21, (.agg #[(.slice none 0 0), (.slice none 0 0)])), (22, (.int .i64 e.2.2))] rfl ⟨rfl, rfl, rfl, trivial⟩ ?_
    refine wo_store Θ_ok rfl rfl rfl rfl rfl rfl rfl hb2 [(.slice none 0 0), (.slice none 0 0)] rfl rfl (by simp [Value.oneCell']) rfl [(.slice none 0 0), (.slice none 0 0)] rfl (fun wE hbE fE => ?_)
    refine wo_seg Θ_ok [3, 4] [(4, (.pointer (some ⟨b2, 0, none⟩))), (5, (.int .u64 0)), (6, (.int .i64 e.2.2))] rfl ⟨rfl, rfl, rfl, trivial⟩ ?_
    refine wo_nil ?_
    refine wq_seq ?_
    refine wc_ret ?_
    exact wq_then_ret (wq_retc Θ_ok (vs := [.agg #[(.slice none 0 0), (.slice none 0 0)], (.int .u64 0), (.int .i64 e.2.2)]) ⟨_, _, rfl, ⟨_, _, _, _, rfl, hbE, rfl, rfl, .inl rfl, rfl⟩, _, _, rfl, rfl, _, _, rfl, rfl, rfl⟩ ⟨_, rfl, ⟨_, _, _, rfl, (tGIpc_is.2 ⟨_, _, rfl, slice_nil _ _ _, slice_nil _ _ _⟩), int_is.2 rfl, int_is.2 rfl⟩, (hS4.trans (Stp.of_store hS4.ob i2 hg2 fE)).fr⟩)
  refine wc_known_false rfl hc ?_
  have he0 : e.2.2 = 0 := by simpa using hc
  obtain ⟨b, rfl, nv, rv, S, raws, hH⟩ := hH0 he0
  refine wc_skip ?_
  refine wq_seq ?_
  obtain ⟨z, hz, h⟩ := bind_some h
  obtain ⟨hk0, hkz⟩ := idx_some hz
  obtain ⟨k, hk⟩ : ∃ k : Nat, k = e.2.1.toNat := ⟨_, rfl⟩
  rw [← hk] at hkz
  have hek : e.2.1 = (k : Int) := by omega
  rw [hek]
  rw [← hk] at h
  have hW0 := hH.weak
  obtain ⟨vw, hr, hsafe⟩ := hW0.fo.at_ hkz
  obtain ⟨Aw, cw, rfl, hlw, hmw⟩ := slice_form (hsafe [] fun _ _ hm => by cases hm)
  obtain ⟨Ar, cr, rfl, _, _⟩ := hH.row.form
  have hkr := (List.getElem?_eq_some_iff.1 hr).1
  obtain ⟨g, R, rfl, hgO, hBg, hbR, hlR, hcR, hmR, hforms⟩ := row_open hH.row (by omega)
  have hgb : g ≠ b := fun e => hH.rb (by rw [← e]; rfl)
  have e1 : (k : Int).toNat * ({ tag := 8, k := 0, e := 0, fs := [(29, 0), (40, 1)], size := 2, bytes := 32, zero := .agg #[.int .u64 0, .slice none 0 0] } : TI).size = k * 2 := by rw [Int.toNat_natCast]
  have hlt : (k : Int).toNat < raws.length := by rw [Int.toNat_natCast]; exact hkr
  refine wc_seq ?_
  refine wc_region (l := [0, 1, 2, 3, 4, 5, 6, 7]) rfl ?_
  refine wo_seg Θ_ok [0, 1, 2, 3] [(4, (.pointer (some ⟨b2, 0, none⟩))), (7, (.pointer (some ⟨b, 0, none⟩))), (8, (.int .i64 (k : Int))), (26, (.pointer (some ⟨b, 1, none⟩)))] rfl ⟨rfl, rfl, rfl, rfl, trivial⟩ ?_
  refine wo_load Θ_ok rfl rfl rfl rfl rfl rfl rfl hH.blk [(.slice (some ⟨g, 0, none⟩) raws.length cr)] rfl rfl (.inr rfl) (.slice (some ⟨g, 0, none⟩) raws.length cr) rfl ?_
  refine wo_seg Θ_ok [5] [(4, (.pointer (some ⟨b2, 0, none⟩))), (7, (.pointer (some ⟨b, 0, none⟩))), (8, (.int .i64 (k : Int))), (27, (.slice (some ⟨g, 0, none⟩) raws.length cr)), (28, (.int .i64 (k : Int)))] rfl ⟨rfl, rfl, rfl, rfl, rfl, trivial⟩ ?_
  refine wo_indexV Θ_ok rfl rfl rfl rfl rfl rfl rfl rfl rfl rfl (by omega) hlt ?_
  rw [e1, add_at, Nat.zero_add]
  refine wo_seg Θ_ok [7] [(4, (.pointer (some ⟨b2, 0, none⟩))), (7, (.pointer (some ⟨b, 0, none⟩))), (10, (.pointer (some ⟨g, k * 2, none⟩)))] rfl ⟨rfl, rfl, rfl, trivial⟩ ?_
  refine wo_nil ?_
  refine wq_seq ?_
  refine wc_seq ?_
  refine wc_seq ?_
  refine wc_region (l := [0, 1, 2, 3, 4, 5]) rfl ?_
  refine wo_seg Θ_ok [0, 1, 2] [(4, (.pointer (some ⟨b2, 0, none⟩))), (7, (.pointer (some ⟨b, 0, none⟩))), (10, (.pointer (some ⟨g, k * 2, none⟩))), (32, (.pointer (some ⟨g, k * 2 + 1, none⟩)))] rfl ⟨rfl, rfl, rfl, rfl, trivial⟩ ?_
  refine wo_load Θ_ok rfl rfl rfl rfl rfl rfl rfl hbR [(.slice Aw z.fWords.length cw)] (rc_cell hr) rfl (.inr rfl) (.slice Aw z.fWords.length cw) rfl ?_
  refine wo_seg Θ_ok [4, 5] [(4, (.pointer (some ⟨b2, 0, none⟩))), (7, (.pointer (some ⟨b, 0, none⟩))), (10, (.pointer (some ⟨g, k * 2, none⟩))), (35, (.bool ((z.fWords.length : Int) == 0)))] rfl ⟨rfl, rfl, rfl, rfl, trivial⟩ ?_
  refine wo_nil ?_
  refine wq_seq ?_
  rcases bif_some h with ⟨hc, h⟩ | ⟨hc, h⟩
  · refine wc_known_true rfl hc ?_
    cases h
    refine wc_seq ?_
    refine wc_region (l := [0, 1, 2, 3]) rfl ?_
    refine wo_seg Θ_ok [0] [(4, (.pointer (some ⟨b2, 0, none⟩))), (36, (.agg #[(.slice none 0 0), (.slice none 0 0)]))] rfl ⟨rfl, rfl, trivial⟩ ?_
    refine wo_store Θ_ok rfl rfl rfl rfl rfl rfl rfl hb2 [(.slice none 0 0), (.slice none 0 0)] rfl rfl (by simp [Value.oneCell']) rfl [(.slice none 0 0), (.slice none 0 0)] rfl (fun wE hbE fE => ?_)
    refine wo_seg Θ_ok [2, 3] [(4, (.pointer (some ⟨b2, 0, none⟩))), (5, (.int .u64 0)), (6, (.int .i64 4))] rfl ⟨rfl, rfl, rfl, trivial⟩ ?_
    refine wo_nil ?_
    refine wq_seq ?_
    refine wc_ret ?_
    exact wq_then_ret (wq_retc Θ_ok (vs := [.agg #[(.slice none 0 0), (.slice none 0 0)], (.int .u64 0), (.int .i64 4)]) ⟨_, _, rfl, ⟨_, _, _, _, rfl, hbE, rfl, rfl, .inl rfl, rfl⟩, _, _, rfl, rfl, _, _, rfl, rfl, rfl⟩ ⟨_, rfl, ⟨_, _, _, rfl, (tGIpc_is.2 ⟨_, _, rfl, slice_nil _ _ _, slice_nil _ _ _⟩), int_is.2 rfl, int_is.2 rfl⟩, (hS4.trans (Stp.of_store hS4.ob i2 hg2 fE)).fr⟩)
  refine wc_known_false rfl hc ?_
  refine wc_skip ?_
  refine wq_seq ?_
  obtain ⟨w0, hw0, h⟩ := bind_some h
  obtain ⟨_, hw0⟩ := idx_some hw0
  refine wc_seq ?_
  refine wc_region (l := [0, 1, 2, 3, 4, 5, 6]) rfl ?_
  refine wo_seg Θ_ok [0, 1, 2] [(4, (.pointer (some ⟨b2, 0, none⟩))), (7, (.pointer (some ⟨b, 0, none⟩))), (10, (.pointer (some ⟨g, k * 2, none⟩))), (39, (.pointer (some ⟨g, k * 2 + 1, none⟩)))] rfl ⟨rfl, rfl, rfl, rfl, trivial⟩ ?_
  refine wo_load Θ_ok rfl rfl rfl rfl rfl rfl rfl hbR [(.slice Aw z.fWords.length cw)] (rc_cell hr) rfl (.inr rfl) (.slice Aw z.fWords.length cw) rfl ?_
  refine wo_index Θ_ok rfl rfl rfl rfl rfl rfl rfl rfl rfl rfl (hsafe [] fun _ _ hm => by cases hm) rfl (Int.le_refl 0) hw0 (fun p6 hp6 => ?_)
  refine wo_loadp Θ_ok rfl rfl rfl rfl rfl rfl rfl hp6 rfl rfl (fun v6 hv6 => ?_)
  obtain rfl := int_is.1 hv6
  refine wo_seg Θ_ok [6] [(4, (.pointer (some ⟨b2, 0, none⟩))), (7, (.pointer (some ⟨b, 0, none⟩))), (10, (.pointer (some ⟨g, k * 2, none⟩))), (11, (.int .u64 w0))] rfl ⟨rfl, rfl, rfl, rfl, trivial⟩ ?_
  refine wo_nil ?_
  refine wq_seq ?_
  refine wc_seq ?_
  have hlS : ∀ g ∈ S, g < w3.heap.size := fun g hg => (hW0.lt g hg).2
  refine wc_drawT mixed [⟨43, [], [10]⟩, ⟨44, [], [10]⟩, ⟨45, [1], []⟩, ⟨46, [2], []⟩, ⟨47, [3], []⟩, ⟨48, [], [10]⟩, ⟨49, [5], []⟩, ⟨50, [6], []⟩, ⟨51, [7], []⟩, ⟨52, [8], []⟩, ⟨53, [], [10]⟩, ⟨54, [10], []⟩, ⟨55, [11], []⟩, ⟨56, [12], []⟩, ⟨57, [13], []⟩, ⟨58, [4, 9, 14], []⟩] [SP.eq (.pointer (some ⟨g, k * 2, none⟩)), SP.eq (.pointer (some ⟨g, k * 2, none⟩)), SP.eq (.pointer (some ⟨g, k * 2, none⟩)), SP.eq (.pointer (some ⟨g, k * 2 + 1, none⟩)), SP.eq (.slice Aw z.fWords.length cw), SP.eq (.pointer (some ⟨g, k * 2, none⟩)), SP.eq (.pointer (some ⟨g, k * 2, none⟩)), SP.eq (.pointer (some ⟨g, k * 2 + 1, none⟩)), SP.eq (.slice Aw z.fWords.length cw), SP.eq (.int .i64 (z.fWords.length : Int)), SP.eq (.pointer (some ⟨g, k * 2, none⟩)), SP.eq (.pointer (some ⟨g, k * 2, none⟩)), SP.eq (.pointer (some ⟨g, k * 2 + 1, none⟩)), SP.eq (.slice Aw z.fWords.length cw), SP.eq (.int .i64 (z.fWords.length : Int)), SP.safe S (z.fWords.drop 1)] rfl rfl rfl rfl ⟨?_, ?_, ?_, ?_, ?_, ?_, ?_, ?_, ?_, ?_, ?_, ?_, ?_, ?_, ?_, ?_, trivial⟩ ?_
  · intro a w2 hfr hN hds hb hd
    exact op_plain Θ_ok ⟨hN, hds, rows_get (E := [(10, (.pointer (some ⟨g, k * 2, none⟩)))]) ⟨hb 10 rfl _ rfl, trivial⟩⟩ rfl rfl rfl rfl rfl
  · intro a w2 hfr hN hds hb hd
    exact op_plain Θ_ok ⟨hN, hds, rows_get (E := [(10, (.pointer (some ⟨g, k * 2, none⟩)))]) ⟨hb 10 rfl _ rfl, trivial⟩⟩ rfl rfl rfl rfl rfl
  · intro a w2 hfr hN hds hb hd
    exact op_plain Θ_ok ⟨hN, hds, rows_get (E := [(44, (.pointer (some ⟨g, k * 2, none⟩)))]) ⟨(hd 1 rfl _ _ rfl rfl), trivial⟩⟩ rfl rfl rfl rfl rfl
  · intro a w2 hfr hN hds hb hd
    exact op_plain Θ_ok ⟨hN, hds, rows_get (E := [(45, (.pointer (some ⟨g, k * 2, none⟩)))]) ⟨(hd 2 rfl _ _ rfl rfl), trivial⟩⟩ rfl rfl rfl rfl rfl
  · intro a w2 hfr hN hds hb hd
    exact op_load Θ_ok ⟨hN, hds, rows_get (E := [(46, (.pointer (some ⟨g, k * 2 + 1, none⟩)))]) ⟨(hd 3 rfl _ _ rfl rfl), trivial⟩⟩ rfl rfl rfl rfl rfl rfl (hbR.fr0 hfr) [(.slice Aw z.fWords.length cw)] (rc_cell hr) rfl (.inr rfl) (.slice Aw z.fWords.length cw) rfl
  · intro a w2 hfr hN hds hb hd
    exact op_plain Θ_ok ⟨hN, hds, rows_get (E := [(10, (.pointer (some ⟨g, k * 2, none⟩)))]) ⟨hb 10 rfl _ rfl, trivial⟩⟩ rfl rfl rfl rfl rfl
  · intro a w2 hfr hN hds hb hd
    exact op_plain Θ_ok ⟨hN, hds, rows_get (E := [(48, (.pointer (some ⟨g, k * 2, none⟩)))]) ⟨(hd 5 rfl _ _ rfl rfl), trivial⟩⟩ rfl rfl rfl rfl rfl
  · intro a w2 hfr hN hds hb hd
    exact op_plain Θ_ok ⟨hN, hds, rows_get (E := [(49, (.pointer (some ⟨g, k * 2, none⟩)))]) ⟨(hd 6 rfl _ _ rfl rfl), trivial⟩⟩ rfl rfl rfl rfl rfl
  · intro a w2 hfr hN hds hb hd
    exact op_load Θ_ok ⟨hN, hds, rows_get (E := [(50, (.pointer (some ⟨g, k * 2 + 1, none⟩)))]) ⟨(hd 7 rfl _ _ rfl rfl), trivial⟩⟩ rfl rfl rfl rfl rfl rfl (hbR.fr0 hfr) [(.slice Aw z.fWords.length cw)] (rc_cell hr) rfl (.inr rfl) (.slice Aw z.fWords.length cw) rfl
  · intro a w2 hfr hN hds hb hd
    exact op_plain Θ_ok ⟨hN, hds, rows_get (E := [(51, (.slice Aw z.fWords.length cw))]) ⟨(hd 8 rfl _ _ rfl rfl), trivial⟩⟩ rfl rfl rfl rfl rfl
  · intro a w2 hfr hN hds hb hd
    exact op_plain Θ_ok ⟨hN, hds, rows_get (E := [(10, (.pointer (some ⟨g, k * 2, none⟩)))]) ⟨hb 10 rfl _ rfl, trivial⟩⟩ rfl rfl rfl rfl rfl
  · intro a w2 hfr hN hds hb hd
    exact op_plain Θ_ok ⟨hN, hds, rows_get (E := [(53, (.pointer (some ⟨g, k * 2, none⟩)))]) ⟨(hd 10 rfl _ _ rfl rfl), trivial⟩⟩ rfl rfl rfl rfl rfl
  · intro a w2 hfr hN hds hb hd
    exact op_plain Θ_ok ⟨hN, hds, rows_get (E := [(54, (.pointer (some ⟨g, k * 2, none⟩)))]) ⟨(hd 11 rfl _ _ rfl rfl), trivial⟩⟩ rfl rfl rfl rfl rfl
  · intro a w2 hfr hN hds hb hd
    exact op_load Θ_ok ⟨hN, hds, rows_get (E := [(55, (.pointer (some ⟨g, k * 2 + 1, none⟩)))]) ⟨(hd 12 rfl _ _ rfl rfl), trivial⟩⟩ rfl rfl rfl rfl rfl rfl (hbR.fr0 hfr) [(.slice Aw z.fWords.length cw)] (rc_cell hr) rfl (.inr rfl) (.slice Aw z.fWords.length cw) rfl
  · intro a w2 hfr hN hds hb hd
    exact op_plain Θ_ok ⟨hN, hds, rows_get (E := [(56, (.slice Aw z.fWords.length cw))]) ⟨(hd 13 rfl _ _ rfl rfl), trivial⟩⟩ rfl rfl rfl rfl rfl
  · intro a w2 hfr hN hds hb hd
    exact (op_cutS (S := S) (l' := some (.i64, 1)) (h' := some (.i64, (z.fWords.length : Int))) (m' := some (.i64, (z.fWords.length : Int))) (ys := z.fWords.drop 1) Θ_ok ⟨hN, hds, rows_get (E := [(47, (.slice Aw z.fWords.length cw)), (52, (.int .i64 (z.fWords.length : Int))), (57, (.int .i64 (z.fWords.length : Int)))]) ⟨(hd 4 rfl _ _ rfl rfl), (hd 9 rfl _ _ rfl rfl), (hd 14 rfl _ _ rfl rfl), trivial⟩⟩ rfl rfl rfl rfl rfl rfl rfl rfl rfl rfl rfl rfl (hsafe.keep (O := []) (O' := []) hfr.tr0 fun g hg => hfr.block g (hlS g hg) (by simp)) (by
      simp only [Option.map_some]
      unfold cutx
      have := (List.getElem?_eq_some_iff.1 hw0).1
      rw [if_pos (by simp at this ⊢; omega)]
      simp)).weaken (fun u w3 ⟨hu, hf⟩ => ⟨⟨fun g hg => Nat.lt_of_lt_of_le (hlS g hg) (Nat.le_trans hfr.size hf.size), hu⟩, hf⟩)
  intro a w4 f4 hN hds hbs hr2
  have hH := hH.fr0 f4
  have hW0 := hW0.fr0 f4
  have hbR := hbR.fr0 f4
  have hb2 := hb2.fr0 f4
  have hS5 := hS4.trans (Stp.of_fr hS4.ob hS4.tr.size f4)
  obtain ⟨_, hsn⟩ : (∀ g ∈ S, g < w4.heap.size) ∧ Safe S w4 (a.tmps.getD 58 undef) (z.fWords.drop 1) := hr2 15 _ _ rfl rfl
  obtain ⟨vn, hvn⟩ : ∃ v, a.tmps.getD 58 undef = v := ⟨_, rfl⟩
  rw [hvn] at hsn
  obtain ⟨An, cn, rfl, _, _⟩ := slice_form (hsn [] fun _ _ hm => by cases hm)
  refine wo_go (E := [(4, (.pointer (some ⟨b2, 0, none⟩))), (7, (.pointer (some ⟨b, 0, none⟩))), (11, (.int .u64 w0)), (43, (.pointer (some ⟨g, k * 2, none⟩))), (58, (.slice An (z.fWords.drop 1).length cn))]) (l := [16, 17, 18]) hN hds ⟨hbs 4 _ rfl rfl, hbs 7 _ rfl rfl, hbs 11 _ rfl rfl, (hr2 0 _ _ rfl rfl), hvn, trivial⟩ rfl ?_
  generalize hND : z.fWords.drop 1 = ND at *
  refine wo_seg Θ_ok [16, 17] [(4, (.pointer (some ⟨b2, 0, none⟩))), (7, (.pointer (some ⟨b, 0, none⟩))), (11, (.int .u64 w0)), (58, (.slice An ND.length cn)), (60, (.pointer (some ⟨g, k * 2 + 1, none⟩)))] rfl ⟨rfl, rfl, rfl, rfl, rfl, trivial⟩ ?_
  refine wo_store Θ_ok rfl rfl rfl rfl rfl rfl rfl hbR [(.slice An ND.length cn)] rfl rfl (by simp [Value.oneCell']) (Nat.ble_eq_true_of_le (by simp only [List.length_append, rc, pc_len, List.length_map]; show k * 2 + 1 + 1 ≤ _; omega)) (rc (raws.set k (z.fPid, (.slice An ND.length cn))) ++ R) (rc_put (x := (z.fPid, (.slice Aw z.fWords.length cw))) hr) (fun w5 hb5 f5 => ?_)
  have hW := put_w (bs := e.1.fBoxes.set k (GBox.mk z.fPid ND)) hH.mem hH.ge hH.blk hH.ns hH.nb hH.dj hgb hgO hBg hlR hcR hmR f5 hb5 (by rw [List.length_set]) (fun r hr => by
    rcases List.mem_or_eq_of_mem_set hr with hr | rfl
    · exact hforms r hr
    · exact ⟨_, _, _, rfl⟩) (hW0.fo.set k hsn) hW0.lt hH.out
  have hb2 := hb2.fr f5 (by simp; omega)
  have hS6 := hS5.trans (Stp.of_store hS5.ob hgO (Nat.le_trans hS2.tr.size hBg) f5)
  clear hH hW0
  refine wo_nil ?_
  refine wq_seq ?_
  have hB6 : w2.heap.size ≤ w5.heap.size := Nat.le_trans hS3.tr.size (Nat.le_trans f4.size f5.size)
  refine wc_seq ?_
  refine wc_region (l := [0, 1]) rfl ?_
  refine wo_seg Θ_ok [0] [(11, (.int .u64 w0)), (4, (.pointer (some ⟨b2, 0, none⟩))), (7, (.pointer (some ⟨b, 0, none⟩))), (61, (.pointer (some ⟨b, 0, none⟩)))] rfl ⟨rfl, rfl, rfl, rfl, trivial⟩ ?_
  refine wo_call rfl rfl rfl rfl rfl ent42 rfl (i_tidy_w hS6.ob hB6 ⟨_, _, _, _, hW⟩) (fun _ w7 hg => ?_)
  obtain ⟨rfl, O7, hS7, nvx, rvx, S7, raws7, hW⟩ := hg
  refine ⟨_, rfl, ?_⟩
  have hb2 : Blk w7 b2 25 [(.slice none 0 0), (.slice none 0 0)] := (hS7.below _ hl2).trans hb2
  have i2 := hS7.sub _ i2
  have hS8 : Stp w.heap.size O w O7 w7 := hS6.trans ⟨hS7.tr, hS7.ob, hS7.sub, fun j hj => hS7.below j (Nat.lt_of_lt_of_le hj hS2.tr.size)⟩
  refine wo_seg Θ_ok [] [(11, (.int .u64 w0)), (4, (.pointer (some ⟨b2, 0, none⟩))), (7, (.pointer (some ⟨b, 0, none⟩)))] rfl ⟨rfl, rfl, rfl, trivial⟩ ?_
  refine wo_nil ?_
  refine wq_seq ?_
  cases h
  refine wc_seq ?_
  refine wc_region (l := [0, 1, 2, 3, 4, 5, 6, 7]) rfl ?_
  refine wo_seg Θ_ok [0, 1, 2] [(7, (.pointer (some ⟨b, 0, none⟩))), (11, (.int .u64 w0)), (4, (.pointer (some ⟨b2, 0, none⟩))), (65, (.pointer (some ⟨b, 0, none⟩)))] rfl ⟨rfl, rfl, rfl, rfl, trivial⟩ ?_
  refine wo_load Θ_ok rfl rfl rfl rfl rfl rfl rfl hW.blk [nvx, rvx] rfl rfl (.inl rfl) (.agg #[nvx, rvx]) rfl ?_
  obtain ⟨Ax, cx, hAx, _, _⟩ := hW.ns.form
  obtain ⟨Ay, cy, hAy, _, _⟩ := hW.row.form
  refine wo_seg Θ_ok [4] [(4, (.pointer (some ⟨b2, 0, none⟩))), (66, (.agg #[nvx, rvx])), (67, (.int .u64 w0))] rfl ⟨rfl, rfl, rfl, trivial⟩ ?_
  refine wo_store Θ_ok rfl rfl rfl rfl rfl rfl rfl hb2 [nvx, rvx] rfl rfl (by rw [hAx, hAy]; simp [Value.oneCell']) rfl [nvx, rvx] rfl (fun wE hbE fE => ?_)
  have hWE := hW.cell i2 hl2 fE
  have hE := (hS8.trans (Stp.of_store hS8.ob i2 hg2 fE)).fr
  refine wo_seg Θ_ok [6, 7] [(4, (.pointer (some ⟨b2, 0, none⟩))), (5, (.int .u64 w0)), (6, (.int .i64 0))] rfl ⟨rfl, rfl, rfl, trivial⟩ ?_
  refine wo_nil ?_
  refine wq_seq ?_
  refine wc_ret ?_
  exact (wq_retc Θ_ok (vs := [.agg #[nvx, rvx], (.int .u64 w0), (.int .i64 0)]) ⟨_, _, rfl, ⟨_, _, _, _, rfl, hbE, rfl, rfl, .inl rfl, rfl⟩, _, _, rfl, rfl, _, _, rfl, rfl, rfl⟩ ⟨_, rfl, ⟨_, _, _, rfl, (hWE.data hO2), int_is.2 rfl, int_is.2 rfl⟩, hE⟩)
set_option maxRecDepth 100000 in
set_option maxHeartbeats 4000000 in
theorem i_Send_n {O : List Nat} {w : World} (hO : OB O w) {fuel : Nat} {v0 : Value} {x0 : GIpc} (h0 : tGIpc.is [] w v0 x0) {v1 : Value} {x1 : Int} (h1 : (Ty.int .u64).is [] w v1 x1) {v2 : Value} {x2 : List Int} (h2 : (Ty.slice (Ty.int .u64)).is [] w v2 x2) {r : GIpc × Int} (h : i_Send fuel x0 x1 x2 = some r) : Calls Try.prog 20 #[v0, v1, v2] w (Gives (rt2 tGIpc (Ty.int .i64)) O w r) := by
  obtain rfl := int_is.1 h1
  obtain ⟨A2, c2, rfl, hlc2, hmc2⟩ := slice_form h2
  obtain ⟨v0_1, v0_2, rfl, h0_1, h0_2⟩ := tGIpc_is.1 h0
  have hS0 : Stp w.heap.size O w O w := Stp.refl hO
  refine calls_of (args := [(.agg #[v0_1, v0_2]), (.int .u64 x1), (.slice A2 x2.length c2)]) (N := 55) Try.func20 rfl rfl rfl ?_
  unfold i_Send at h
  refine wc_seq ?_
  refine wc_region (l := [0, 1, 2]) rfl ?_
  refine wo_box rfl rfl rfl rfl rfl rfl [v0_1, v0_2] rfl hO (fun b1 w1 n1 => ?_)
  have hb1 := n1.blk
  have hS1 := hS0.trans (Stp.of_new hS0.tr.size n1)
  refine wo_alloc Θ_ok rfl rfl rfl rfl rfl rfl [(.slice none 0 0), (.slice none 0 0)] rfl hS1.ob (fun b2 w2 n2 => ?_)
  have hb1 := hb1.fr0 n2.fr
  have hb2 := n2.blk
  have hg2 : w.heap.size ≤ b2 := Nat.le_trans hS1.tr.size n2.ge
  have hS2 := hS1.trans (Stp.of_new hS1.tr.size n2)
  have i2 : b2 ∈ b2 :: b1 :: O := List.mem_cons_self
  have hl2 : b2 < w2.heap.size := hb2.lt
  have hO2 : ∀ g ∈ O, g < w2.heap.size := fun g hg => Nat.lt_of_lt_of_le (hO g hg) hS2.tr.size
  refine wo_seg Θ_ok [2] [(1, (.int .u64 x1)), (2, (.slice A2 x2.length c2)), (3, (.pointer (some ⟨b1, 0, none⟩))), (6, (.pointer (some ⟨b2, 0, none⟩)))] rfl ⟨rfl, rfl, rfl, rfl, trivial⟩ ?_
  refine wo_nil ?_
  refine wq_seq ?_
  refine wc_seq ?_
  refine wc_region (l := [0, 1, 2, 3, 4, 5, 6, 7, 8, 9]) rfl ?_
  refine wo_load Θ_ok rfl rfl rfl rfl rfl rfl rfl hb1 [v0_1, v0_2] rfl rfl (.inl rfl) (.agg #[v0_1, v0_2]) rfl ?_
  obtain ⟨e, he, h⟩ := bind_some h
  refine wo_seg Θ_ok [1] [(1, (.int .u64 x1)), (2, (.slice A2 x2.length c2)), (6, (.pointer (some ⟨b2, 0, none⟩))), (13, (.agg #[v0_1, v0_2])), (14, (.int .u64 x1))] rfl ⟨rfl, rfl, rfl, rfl, rfl, trivial⟩ ?_
  refine wo_call rfl rfl rfl rfl rfl ent41 rfl (i_begin_h hS2.ob (h0.tr hS2.fr.tr0) he) (fun _ w3 hg => ?_)
  obtain ⟨pv, O3, rfl, hS3, hH0⟩ := hg
  refine ⟨_, rfl, ?_⟩
  have hb2 : Blk w3 b2 25 [(.slice none 0 0), (.slice none 0 0)] := (hS3.below _ hl2).trans hb2
  have hS4 := hS2.to hS3
  have i2 := hS3.sub _ i2
  refine wo_seg Θ_ok [3, 4, 5, 6, 7, 8, 9] [(1, (.int .u64 x1)), (2, (.slice A2 x2.length c2)), (6, (.pointer (some ⟨b2, 0, none⟩))), (8, pv), (9, (.int .i64 e.2.1)), (10, (.int .i64 e.2.2))] rfl ⟨rfl, rfl, rfl, rfl, rfl, rfl, trivial⟩ ?_
  refine wo_nil ?_
  refine wq_seq ?_
  refine wc_seq ?_
  refine wc_seq ?_
  refine wc_region (l := [0, 1]) rfl ?_
  refine wo_seg Θ_ok [0, 1] [(1, (.int .u64 x1)), (2, (.slice A2 x2.length c2)), (6, (.pointer (some ⟨b2, 0, none⟩))), (8, pv), (9, (.int .i64 e.2.1)), (10, (.int .i64 e.2.2)), (20, (.bool (!(e.2.2 == 0))))] rfl ⟨rfl, rfl, rfl, rfl, rfl, rfl, rfl, trivial⟩ ?_
  refine wo_nil ?_
  refine wq_seq ?_
  rcases bif_some h with ⟨hc, h⟩ | ⟨hc, h⟩
  · refine wc_known_true rfl hc ?_
    cases h
    refine wc_seq ?_
    refine wc_region (l := [0, 1, 2, 3]) rfl ?_
    refine wo_seg Θ_ok [0, 1] [(6, (.pointer (some ⟨b2, 0, none⟩))), (21, (.agg #[(.slice none 0 0), (.slice none 0 0)])), (22, (.int .i64 e.2.2))] rfl ⟨rfl, rfl, rfl, trivial⟩ ?_
    refine wo_store Θ_ok rfl rfl rfl rfl rfl rfl rfl hb2 [(.slice none 0 0), (.slice none 0 0)] rfl rfl (by simp [Value.oneCell']) rfl [(.slice none 0 0), (.slice none 0 0)] rfl (fun wE hbE fE => ?_)
    refine wo_seg Θ_ok [3] [(6, (.pointer (some ⟨b2, 0, none⟩))), (7, (.int .i64 e.2.2))] rfl ⟨rfl, rfl, trivial⟩ ?_
    refine wo_nil ?_
    refine wq_seq ?_
    refine wc_ret ?_
    exact wq_then_ret (wq_retc Θ_ok (vs := [.agg #[(.slice none 0 0), (.slice none 0 0)], (.int .i64 e.2.2)]) ⟨_, _, rfl, ⟨_, _, _, _, rfl, hbE, rfl, rfl, .inl rfl, rfl⟩, _, _, rfl, rfl, rfl⟩ ⟨_, rfl, ⟨_, _, rfl, (tGIpc_is.2 ⟨_, _, rfl, slice_nil _ _ _, slice_nil _ _ _⟩), int_is.2 rfl⟩, (hS4.trans (Stp.of_store hS4.ob i2 hg2 fE)).fr⟩)
  refine wc_known_false rfl hc ?_
  have he0 : e.2.2 = 0 := by simpa using hc
  obtain ⟨b, rfl, nv, rv, S, raws, hH⟩ := hH0 he0
  refine wc_skip ?_
  refine wq_seq ?_
  obtain ⟨z, hz, h⟩ := bind_some h
  obtain ⟨hk0, hkz⟩ := idx_some hz
  obtain ⟨k, hk⟩ : ∃ k : Nat, k = e.2.1.toNat := ⟨_, rfl⟩
  rw [← hk] at hkz
  have hek : e.2.1 = (k : Int) := by omega
  rw [hek]
  rw [← hk] at h
  have hW0 := hH.weak
  obtain ⟨vw, hr, hsafe⟩ := hW0.fo.at_ hkz
  obtain ⟨Aw, cw, rfl, hlw, hmw⟩ := slice_form (hsafe [] fun _ _ hm => by cases hm)
  obtain ⟨Ar, cr, rfl, _, _⟩ := hH.row.form
  have hkr := (List.getElem?_eq_some_iff.1 hr).1
  obtain ⟨g, R, rfl, hgO, hBg, hbR, hlR, hcR, hmR, hforms⟩ := row_open hH.row (by omega)
  have hgb : g ≠ b := fun e => hH.rb (by rw [← e]; rfl)
  have e1 : (k : Int).toNat * ({ tag := 8, k := 0, e := 0, fs := [(29, 0), (40, 1)], size := 2, bytes := 32, zero := .agg #[.int .u64 0, .slice none 0 0] } : TI).size = k * 2 := by rw [Int.toNat_natCast]
  have hlt : (k : Int).toNat < raws.length := by rw [Int.toNat_natCast]; exact hkr
  refine wc_seq ?_
  refine wc_region (l := [0, 1, 2, 3, 4, 5, 6, 7]) rfl ?_
  refine wo_seg Θ_ok [0, 1, 2, 3] [(6, (.pointer (some ⟨b2, 0, none⟩))), (2, (.slice A2 x2.length c2)), (8, (.pointer (some ⟨b, 0, none⟩))), (9, (.int .i64 (k : Int))), (26, (.pointer (some ⟨b, 1, none⟩)))] rfl ⟨rfl, rfl, rfl, rfl, rfl, trivial⟩ ?_
  refine wo_load Θ_ok rfl rfl rfl rfl rfl rfl rfl hH.blk [(.slice (some ⟨g, 0, none⟩) raws.length cr)] rfl rfl (.inr rfl) (.slice (some ⟨g, 0, none⟩) raws.length cr) rfl ?_
  refine wo_seg Θ_ok [5] [(6, (.pointer (some ⟨b2, 0, none⟩))), (2, (.slice A2 x2.length c2)), (8, (.pointer (some ⟨b, 0, none⟩))), (9, (.int .i64 (k : Int))), (27, (.slice (some ⟨g, 0, none⟩) raws.length cr)), (28, (.int .i64 (k : Int)))] rfl ⟨rfl, rfl, rfl, rfl, rfl, rfl, trivial⟩ ?_
  refine wo_indexV Θ_ok rfl rfl rfl rfl rfl rfl rfl rfl rfl rfl (by omega) hlt ?_
  rw [e1, add_at, Nat.zero_add]
  refine wo_seg Θ_ok [7] [(6, (.pointer (some ⟨b2, 0, none⟩))), (2, (.slice A2 x2.length c2)), (8, (.pointer (some ⟨b, 0, none⟩))), (11, (.pointer (some ⟨g, k * 2, none⟩)))] rfl ⟨rfl, rfl, rfl, rfl, trivial⟩ ?_
  refine wo_nil ?_
  refine wq_seq ?_
  refine wc_seq ?_
  refine wc_seq ?_
  refine wc_region (l := [0, 1, 2, 3, 4, 5, 6, 7, 8]) rfl ?_
  refine wo_seg Θ_ok [0, 1, 2] [(6, (.pointer (some ⟨b2, 0, none⟩))), (2, (.slice A2 x2.length c2)), (8, (.pointer (some ⟨b, 0, none⟩))), (11, (.pointer (some ⟨g, k * 2, none⟩))), (32, (.pointer (some ⟨g, k * 2 + 1, none⟩)))] rfl ⟨rfl, rfl, rfl, rfl, rfl, trivial⟩ ?_
  refine wo_load Θ_ok rfl rfl rfl rfl rfl rfl rfl hbR [(.slice Aw z.fWords.length cw)] (rc_cell hr) rfl (.inr rfl) (.slice Aw z.fWords.length cw) rfl ?_
  refine wo_seg Θ_ok [4, 5, 6, 7, 8] [(6, (.pointer (some ⟨b2, 0, none⟩))), (2, (.slice A2 x2.length c2)), (8, (.pointer (some ⟨b, 0, none⟩))), (11, (.pointer (some ⟨g, k * 2, none⟩))), (38, (.bool (decide (IntKind.i64.wrap ((z.fWords.length : Int) + (x2.length : Int)) > 4))))] rfl ⟨rfl, rfl, rfl, rfl, rfl, trivial⟩ ?_
  refine wo_nil ?_
  refine wq_seq ?_
  rcases bif_some h with ⟨hc, h⟩ | ⟨hc, h⟩
  · refine wc_known_true rfl hc ?_
    cases h
    refine wc_seq ?_
    refine wc_region (l := [0, 1, 2]) rfl ?_
    refine wo_seg Θ_ok [0] [(6, (.pointer (some ⟨b2, 0, none⟩))), (39, (.agg #[(.slice none 0 0), (.slice none 0 0)]))] rfl ⟨rfl, rfl, trivial⟩ ?_
    refine wo_store Θ_ok rfl rfl rfl rfl rfl rfl rfl hb2 [(.slice none 0 0), (.slice none 0 0)] rfl rfl (by simp [Value.oneCell']) rfl [(.slice none 0 0), (.slice none 0 0)] rfl (fun wE hbE fE => ?_)
    refine wo_seg Θ_ok [2] [(6, (.pointer (some ⟨b2, 0, none⟩))), (7, (.int .i64 6))] rfl ⟨rfl, rfl, trivial⟩ ?_
    refine wo_nil ?_
    refine wq_seq ?_
    refine wc_ret ?_
    exact wq_then_ret (wq_retc Θ_ok (vs := [.agg #[(.slice none 0 0), (.slice none 0 0)], (.int .i64 6)]) ⟨_, _, rfl, ⟨_, _, _, _, rfl, hbE, rfl, rfl, .inl rfl, rfl⟩, _, _, rfl, rfl, rfl⟩ ⟨_, rfl, ⟨_, _, rfl, (tGIpc_is.2 ⟨_, _, rfl, slice_nil _ _ _, slice_nil _ _ _⟩), int_is.2 rfl⟩, (hS4.trans (Stp.of_store hS4.ob i2 hg2 fE)).fr⟩)
  refine wc_known_false rfl hc ?_
  refine wc_skip ?_
  refine wq_seq ?_
  obtain ⟨ws, hws, h⟩ := bind_some h
  cases h
  refine wc_seq ?_
  refine wc_region (l := [0, 1, 2, 3, 4, 5, 6, 7, 8, 9]) rfl ?_
  refine wo_seg Θ_ok [0, 1, 2, 3] [(6, (.pointer (some ⟨b2, 0, none⟩))), (2, (.slice A2 x2.length c2)), (8, (.pointer (some ⟨b, 0, none⟩))), (11, (.pointer (some ⟨g, k * 2, none⟩))), (40, (.pointer (some ⟨g, k * 2, none⟩))), (43, (.pointer (some ⟨g, k * 2 + 1, none⟩)))] rfl ⟨rfl, rfl, rfl, rfl, rfl, rfl, trivial⟩ ?_
  refine wo_load Θ_ok rfl rfl rfl rfl rfl rfl rfl hbR [(.slice Aw z.fWords.length cw)] (rc_cell hr) rfl (.inr rfl) (.slice Aw z.fWords.length cw) rfl ?_
  refine wo_seg Θ_ok [5] [(6, (.pointer (some ⟨b2, 0, none⟩))), (8, (.pointer (some ⟨b, 0, none⟩))), (40, (.pointer (some ⟨g, k * 2, none⟩))), (44, (.slice Aw z.fWords.length cw)), (45, (.slice A2 x2.length c2))] rfl ⟨rfl, rfl, rfl, rfl, rfl, trivial⟩ ?_
  obtain ⟨vw2, S1, S2, hr2, hSS, hfw, hre⟩ := hH.fo.at_ (show (e.1.fBoxes.map bx)[k]? = some (bx z) by simp [hkz])
  rw [hr] at hr2
  obtain rfl : (.slice Aw z.fWords.length cw) = vw2 := by injection hr2 with e; injection e with e1 e2
  have hin : ∀ j, ((.slice Aw z.fWords.length cw) : Value).ownBlock = some j → j ∈ S := fun j hj => by rw [hSS, hj]; simp
  have hou : ∀ j, j ∈ O3 → ((.slice Aw z.fWords.length cw) : Value).ownBlock ≠ some j := fun j hj e => hH.out j (hin j e) hj
  have hge : ∀ j, j < w2.heap.size → ((.slice Aw z.fWords.length cw) : Value).ownBlock ≠ some j := fun j hj e => by have := (hfw.lt j e).1; omega
  refine wo_app (O := ((.slice Aw z.fWords.length cw) : Value).ownBlock.toList) Θ_ok rfl rfl rfl rfl rfl rfl rfl rfl rfl rfl rfl rfl rfl rfl hS3.fr (fun j hj => (hfw.lt j (by simpa using hj)).2) (hfw.own TW_flat fun j hj => by simpa using hj) (h2.tr ⟨hS4.fr.os, hS4.fr.tape, hS4.fr.output, hS4.fr.size, fun j hj _ => ⟨fun hm => hge j (Nat.lt_of_lt_of_le hj hS2.tr.size) (by simpa using hm), hS4.fr.block j hj (by simp)⟩⟩) hws (fun vn w4 O4 ap => ?_)
  obtain ⟨An, cn, rfl, _, _⟩ := ap.own.form
  have hb2 : Blk w4 b2 25 [(.slice none 0 0), (.slice none 0 0)] := (ap.fr _ hb2.lt (hge _ hl2)).trans hb2
  have hbR : Blk w4 g 61 (rc raws ++ R) := (ap.fr _ hbR.lt (hou _ hgO)).trans hbR
  have hblk : Blk w4 b 68 [nv, (.slice (some ⟨g, 0, none⟩) raws.length cr)] := (ap.fr _ hH.blk.lt (hou _ hH.mem)).trans hH.blk
  have hns := (hH.ns.fown.keep tGName_flat (w' := w4) fun j hj => ap.fr j (hH.ns.lt j hj).2 (hou _ (hH.ns.mem j hj))).own tGName_flat hH.ns.mem
  have hS5 : Stp w.heap.size O w O3 w4 := ⟨⟨ap.tr.os.trans hS4.tr.os, ap.tr.tape.trans hS4.tr.tape, ap.tr.output.trans hS4.tr.output, Nat.le_trans hS4.tr.size ap.tr.size, fun j hj ho => ⟨(hS4.tr.keep j hj ho).1, (ap.fr j (Nat.lt_of_lt_of_le hj hS4.tr.size) (hge j (Nat.lt_of_lt_of_le hj hS2.tr.size))).trans (hS4.tr.keep j hj ho).2⟩⟩, fun j hj => Nat.lt_of_lt_of_le (hS4.ob j hj) ap.tr.size, hS4.sub, fun j hj => (ap.fr j (Nat.lt_of_lt_of_le hj hS4.tr.size) (hge j (Nat.lt_of_lt_of_le hj hS2.tr.size))).trans (hS4.below j hj)⟩
  have hnd := hH.nd
  rw [hSS, List.nodup_append, List.nodup_append] at hnd
  have hfo := hre (w' := w4) (fun j hj => ap.fr j (hH.fo.lt j (by rw [hSS]; simp at hj ⊢; rcases hj with hj | hj; exact .inl hj; exact .inr (.inr hj))).2 (fun e => by
    rcases List.mem_append.1 hj with hj | hj
    · exact hnd.1.2.2 j hj j (by rw [e]; simp) rfl
    · exact hnd.2.2 j (List.mem_append_right _ (by rw [e]; simp)) j hj rfl)) TW_flat ap.own.fown
  obtain ⟨S', hS'⟩ : ∃ S', S' = S1 ++ (Value.slice An ws.length cn).ownBlock.toList ++ S2 := ⟨_, rfl⟩
  rw [← hS'] at hfo
  have hfo : Forest TW 29 w2.heap.size w4 S' (raws.set k (z.fPid, .slice An ws.length cn)) ((e.1.fBoxes.set k (GBox.mk z.fPid ws)).map bx) := by rw [List.map_set]; exact hfo
  have hout : ∀ j ∈ S', j ∉ O3 := fun j hj hm => by
    rw [hS'] at hj
    simp only [List.mem_append, Option.mem_toList] at hj
    rcases hj with (hj | hj) | hj
    · exact hH.out j (by rw [hSS]; simp [hj]) hm
    · exact ap.ne j (hS4.ob j hm) (hou j hm) hj
    · exact hH.out j (by rw [hSS]; simp [hj]) hm
  refine wo_seg Θ_ok [7, 8] [(6, (.pointer (some ⟨b2, 0, none⟩))), (8, (.pointer (some ⟨b, 0, none⟩))), (46, (.slice An ws.length cn)), (48, (.pointer (some ⟨g, k * 2 + 1, none⟩)))] rfl ⟨rfl, rfl, rfl, rfl, trivial⟩ ?_
  refine wo_store Θ_ok rfl rfl rfl rfl rfl rfl rfl hbR [(.slice An ws.length cn)] rfl rfl (by simp [Value.oneCell']) (Nat.ble_eq_true_of_le (by simp only [List.length_append, rc, pc_len, List.length_map]; show k * 2 + 1 + 1 ≤ _; omega)) (rc (raws.set k (z.fPid, (.slice An ws.length cn))) ++ R) (rc_put (x := (z.fPid, (.slice Aw z.fWords.length cw))) hr) (fun w5 hb5 f5 => ?_)
  have hW := put_w (bs := e.1.fBoxes.set k (GBox.mk z.fPid ws)) hH.mem hH.ge hblk hns hH.nb hH.dj hgb hgO hBg hlR hcR hmR f5 hb5 (by rw [List.length_set]) (fun r hr => by
    rcases List.mem_or_eq_of_mem_set hr with hr | rfl
    · exact hforms r hr
    · exact ⟨_, _, _, rfl⟩) (WFor.of S' hfo (fun _ h => h)) hfo.lt hout
  have hb2 := hb2.fr f5 (by simp; omega)
  have hS6 := hS5.trans (Stp.of_store hS5.ob hgO (Nat.le_trans hS2.tr.size hBg) f5)
  clear hH hW0
  refine wo_nil ?_
  refine wq_seq ?_
  have hB6 : w2.heap.size ≤ w5.heap.size := Nat.le_trans hS3.tr.size (Nat.le_trans ap.tr.size f5.size)
  refine wc_seq ?_
  refine wc_region (l := [0, 1]) rfl ?_
  refine wo_seg Θ_ok [0] [(6, (.pointer (some ⟨b2, 0, none⟩))), (8, (.pointer (some ⟨b, 0, none⟩))), (49, (.pointer (some ⟨b, 0, none⟩)))] rfl ⟨rfl, rfl, rfl, trivial⟩ ?_
  refine wo_call rfl rfl rfl rfl rfl ent42 rfl (i_tidy_w hS6.ob hB6 ⟨_, _, _, _, hW⟩) (fun _ w7 hg => ?_)
  obtain ⟨rfl, O7, hS7, nvx, rvx, S7, raws7, hW⟩ := hg
  refine ⟨_, rfl, ?_⟩
  have hb2 : Blk w7 b2 25 [(.slice none 0 0), (.slice none 0 0)] := (hS7.below _ hl2).trans hb2
  have i2 := hS7.sub _ i2
  have hS8 : Stp w.heap.size O w O7 w7 := hS6.trans ⟨hS7.tr, hS7.ob, hS7.sub, fun j hj => hS7.below j (Nat.lt_of_lt_of_le hj hS2.tr.size)⟩
  refine wo_seg Θ_ok [] [(6, (.pointer (some ⟨b2, 0, none⟩))), (8, (.pointer (some ⟨b, 0, none⟩)))] rfl ⟨rfl, rfl, trivial⟩ ?_
  refine wo_nil ?_
  refine wq_seq ?_
  refine wc_seq ?_
  refine wc_region (l := [0, 1, 2, 3, 4, 5]) rfl ?_
  refine wo_seg Θ_ok [0, 1, 2] [(8, (.pointer (some ⟨b, 0, none⟩))), (6, (.pointer (some ⟨b2, 0, none⟩))), (53, (.pointer (some ⟨b, 0, none⟩)))] rfl ⟨rfl, rfl, rfl, trivial⟩ ?_
  refine wo_load Θ_ok rfl rfl rfl rfl rfl rfl rfl hW.blk [nvx, rvx] rfl rfl (.inl rfl) (.agg #[nvx, rvx]) rfl ?_
  obtain ⟨Ax, cx, hAx, _, _⟩ := hW.ns.form
  obtain ⟨Ay, cy, hAy, _, _⟩ := hW.row.form
  refine wo_store Θ_ok rfl rfl rfl rfl rfl rfl rfl hb2 [nvx, rvx] rfl rfl (by rw [hAx, hAy]; simp [Value.oneCell']) rfl [nvx, rvx] rfl (fun wE hbE fE => ?_)
  have hWE := hW.cell i2 hl2 fE
  have hE := (hS8.trans (Stp.of_store hS8.ob i2 hg2 fE)).fr
  refine wo_seg Θ_ok [5] [(6, (.pointer (some ⟨b2, 0, none⟩))), (7, (.int .i64 0))] rfl ⟨rfl, rfl, trivial⟩ ?_
  refine wo_nil ?_
  refine wq_seq ?_
  refine wc_ret ?_
  exact (wq_retc Θ_ok (vs := [.agg #[nvx, rvx], (.int .i64 0)]) ⟨_, _, rfl, ⟨_, _, _, _, rfl, hbE, rfl, rfl, .inl rfl, rfl⟩, _, _, rfl, rfl, rfl⟩ ⟨_, rfl, ⟨_, _, rfl, (hWE.data hO2), int_is.2 rfl⟩, hE⟩)
theorem i_Clear_c {O : List Nat} {w : World} (hO : OB O w) {fuel : Nat} {v0 : Value} {x0 : GIpc} (h0 : tGIpc.is O w v0 x0) {v1 : Value} {x1 : Int} (h1 : (Ty.int .u64).is O w v1 x1) {r : GIpc × Int × Int} (h : i_Clear fuel x0 x1 = some r) : Calls Try.prog 17 #[v0, v1] w (Gives (rt3 tGIpc (Ty.int .i64) (Ty.int .i64)) O w r) := i_Clear_n hO (h0.tr (Tr.less (sub_nil _))) (h1.tr (Tr.less (sub_nil _))) h
theorem i_Receive_c {O : List Nat} {w : World} (hO : OB O w) {fuel : Nat} {v0 : Value} {x0 : GIpc} (h0 : tGIpc.is O w v0 x0) {v1 : Value} {x1 : Int} (h1 : (Ty.int .u64).is O w v1 x1) {r : GIpc × Int × Int} (h : i_Receive fuel x0 x1 = some r) : Calls Try.prog 19 #[v0, v1] w (Gives (rt3 tGIpc (Ty.int .u64) (Ty.int .i64)) O w r) := i_Receive_n hO (h0.tr (Tr.less (sub_nil _))) (h1.tr (Tr.less (sub_nil _))) h
theorem i_Send_c {O : List Nat} {w : World} (hO : OB O w) {fuel : Nat} {v0 : Value} {x0 : GIpc} (h0 : tGIpc.is O w v0 x0) {v1 : Value} {x1 : Int} (h1 : (Ty.int .u64).is O w v1 x1) {v2 : Value} {x2 : List Int} (h2 : (Ty.slice (Ty.int .u64)).is O w v2 x2) {r : GIpc × Int} (h : i_Send fuel x0 x1 x2 = some r) : Calls Try.prog 20 #[v0, v1, v2] w (Gives (rt2 tGIpc (Ty.int .i64)) O w r) := i_Send_n hO (h0.tr (Tr.less (sub_nil _))) (h1.tr (Tr.less (sub_nil _))) (h2.tr (Tr.less (sub_nil _))) h

end Go.Proofs.Ytjdeaihnpgkphaa
