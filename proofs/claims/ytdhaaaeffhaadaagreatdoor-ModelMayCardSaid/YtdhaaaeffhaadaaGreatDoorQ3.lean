/- A part of the proof that ModelMay returns true for every input: the machine of values, its soundness, the program and the document as plain functions, the laws. Conditions: those of the given row. -/
import Derived.Test.YtdhaaaeffhaadaaGreatDoorQ2
import Derived.Test.YtdhaaaeffhaadaaGreatDoorProg
import Derived.Lib.Bytealg
import Derived.Shelf.Strings.OnBuilder
set_option linter.unusedVariables false
set_option linter.unusedSimpArgs false
noncomputable section
section
namespace Go.Vx
open Go.RowKit Go.Dc
section
variable {S:bL} {K:bQ S} {P:Program}
def OY {α:Type} (T:Ty α):Prop:= ∀(O:List Nat) (w:World) (O':List Nat) (w':World) (cs:List Value) (x:α),T.rep O w cs x->T.rep O' w' cs x
theorem S5 {α:Type} {T:Ty α} (hf:OY T) {O O':List Nat} {w w':World}: ∀ {xs:List α} {cs:List Value},cf T O w cs xs->cf T O' w' cs xs
 |[],_,h=>h
 |_::_,_,⟨c,r,e,h1,h2⟩=>⟨c,r,e,hf O w O' w' c _ h1,S5 hf h2⟩
def qW (K:bQ S) (f e:Nat) (cl:List (S.El e)->Option (List (S.El e))):jd S:=⟨f,λaqJ h k=>match aqJ with
 |[.one l]=>(match fh K (aJ h) e l with|some xs=>(cl xs).bind λzs=>k (.ret (.s (.one (.own h.length)))) (h++[some (.row e zs)]) []|none=>none)
 |_=>none⟩
theorem pA {h:AH S} {X:Ob S} {i:Nat} {Y:Ob S} (hi:aJ (h++[some X]) i=some Y):aJ h i=some Y\/(i=h.length/\Y=X):=by
 rw[mM] at hi
 rcases iq hi with h1|⟨h1,h2⟩
 ·exact .inl (mM.2 h1)
 ·exact .inr ⟨h1,Option.some.inj h2⟩
theorem xy (hK:cI K P) {f e:Nat} {cl:List (S.El e)->Option (List (S.El e))} (gv:fI P f) (C8:OY (S.ty e))
  (hC: ∀(O:List Nat) (w:World) (v:Value) (xs zs:List (S.El e)),OB O w->(S.ty e).slice.is O w v xs->cl xs=some zs->Calls P f #[v] w (gE (S.ty e) e w.heap.size O w (.slice none 0 0) zs))
  {R:Type} (aqJ:List (aE S)) (h:AH S) (k:Rs S->AH S->List Nat->Option R) (z:R) (hz:(qW K f e cl).out aqJ h k=some z): ∃r h' dt,k r h' dt=some z/\gR K P f aqJ h r h' dt:=by
 simp only[qW] at hz
 split at hz
 rotate_left
 ·cases hz
 rename_i l
 split at hz
 rotate_left
 ·cases hz
 rename_i xs eE
 obtain⟨zs,fT,hk⟩:=bind_some hz
 refine⟨_,_,_,hk,gv,λA O w vs hv hg hO hG cp=>?_⟩
 obtain⟨v,rest,rfl,xg,xb⟩:=hv
 rw[show rest=[] from xb]
 have sG:=m_ hK hg eE xg
 obtain⟨O1,nt⟩: ∃O1,O1=fV A (n3 l) O:=⟨_,rfl⟩
 rw[<-nt] at sG
 have jh:Dc.Sub O1 O:=by rw[nt];exact iW
 refine(hC O1 w v xs zs (λb hb=>hO b (jh b hb)) sG fT).mono ?_
 rintro en w' ⟨v',O2,rfl,ha⟩
 obtain⟨A',da⟩: ∃A':Pl,A'=⟨λi=>bif Nat.beq i h.length then some v' else A.pl i,A.ls⟩:=⟨_,rfl⟩
 have eB: ∀i,i≠h.length->A'.pl i=A.pl i:=λi hi=>by
  rw[da]
  have:Nat.beq i h.length=false:=by
   cases hb:Nat.beq i h.length with
   |false=>rfl
   |true=>exact absurd (Nat.eq_of_beq_eq_true hb) hi
  simp only[this,cond_false]
 have gy:A'.pl h.length=some v':=by rw[da];simp
 have hle:A.le A':=⟨λi p hp=>by
  rw[eB i (λe=>by subst e;rw[cp _ (Nat.le_refl _)] at hp;cases hp)];exact hp,by rw[da]⟩
 have fR: ∀b,b<w.heap.size->w'.heap[b]? =w.heap[b]? :=λb hb=>ha.fr b hb (by simp[Value.ownBlock])
 have ajK:OB (O2++O) w':=λb hb=>by
  rcases List.mem_append.1 hb with hb|hb
  ·exact ha.ob b hb
  ·exact Nat.lt_of_lt_of_le (hO b hb) ha.tr.size
 have eO:Tr O w (O2++O) w':=⟨ha.tr.os,ha.tr.tape,ha.tr.output,ha.tr.size,λb hb hn=>⟨λhm=>by
  rcases List.mem_append.1 hm with hm|hm
  ·exact(ha.tr.keep b hb λh1=>hn (jh b h1)).1 hm
  ·exact hn hm,fR b hb⟩⟩
 have dr: ∀b,cq v'=some b->w.heap.size<=b/\b∈O2:=by
  intro b hb
  have gf:v'.ownBlock=some b:=by
   rcases l7 ha.own with⟨e1,_⟩|⟨b',c,e1⟩
   ·rw[e1] at hb;cases hb
   ·rw[e1] at hb ⊢;cases hb;rfl
  exact⟨(ha.own.lt b gf).1,ha.own.mem b gf⟩
 have pa:v'.oneCell'=true:=by
  rcases l7 ha.own with⟨e1,_⟩|⟨b',c,e1⟩<;>rw[e1]<;>rfl
 have fi:Dc.Own (S.ty e) e 0 (O2++O) w' v' zs:=by
  obtain⟨cs,⟨h0,h1⟩,h2⟩:=ha.own.ex
  refine⟨⟨cs,⟨h0,?_⟩,S5 C8 h2⟩,λb hb=>List.mem_append_left _ (ha.own.mem b hb)⟩
  rcases h1 with h1|⟨g,cap,cur,q1,q2,q3⟩
  ·exact .inl h1
  ·exact .inr ⟨g,cap,cur,q1,Nat.zero_le _,q3⟩
 refine⟨A',O2++O,⟨v',rfl,⟨v',gy,rfl,pa⟩⟩,⟨⟨?_,?_⟩,ajK,eO,λi hi=>eB i (by omega),(λj hj=>by cases hj),by rw[da],by simp,?_,?_⟩⟩
 ·intro i X hi
  rcases pA hi with h1|⟨rfl,rfl⟩
  ·obtain⟨p,hp,hR,hb⟩:=hg.al i X h1
   have aH:=hU h1
   exact⟨p,by rw[eB i (by omega)];exact hp,hR.keep eO hle λb b6=>⟨fR b (hO b (hb b b6)),List.mem_append_right _ (hb b b6)⟩,λb b6=>List.mem_append_right _ (hb b b6)⟩
  ·exact⟨v',gy,fi,λb hb=>List.mem_append_left _ (dr b hb).2⟩
 ·intro i j X Y p q b dp hi hj hp hq b6 ew
  have gj: ∀ {i:Nat} {X:Ob S} {p:Value},aJ h i=some X->A'.pl i=some p->cq p=some b->b<w.heap.size/\A.pl i=some p:=by
   intro i X p h1 h2 h3
   have aH:=hU h1
   rw[eB i (by omega)] at h2
   obtain⟨p',dx,_,hb⟩:=hg.al i X h1
   rw[h2] at dx;cases dx
   exact⟨hO b (hb b h3),h2⟩
  rcases pA hi with h1|⟨rfl,rfl⟩
  ·rcases pA hj with h2|⟨rfl,rfl⟩
   ·exact hg.dj i j X Y p q b dp h1 h2 (gj h1 hp b6).2 (gj h2 hq ew).2 b6 ew
   ·rw[gy] at hq;cases hq
    have:=(gj h1 hp b6).1
    have:=(dr b ew).1
    omega
  ·rcases pA hj with h2|⟨rfl,rfl⟩
   ·rw[gy] at hp;cases hp
    have:=(gj h2 hq ew).1
    have:=(dr b b6).1
    omega
   ·exact absurd rfl dp
 ·intro i hi
  simp at hi
  rw[eB i (by omega)]
  exact cp i (by omega)
 ·intro b hb _
  refine⟨fR b (hO b hb),List.mem_append_right _ hb,λi X p hi hX hp b6=>?_⟩
  rcases pA hX with h1|⟨rfl,rfl⟩
  ·have:=hU h1;omega
  ·rw[gy] at hp;cases hp
   have:=(dr b b6).1
   have:=hO b hb
   omega
end
section
variable {S:bL} {K:bQ S} {P:Program} {N:Nat} {B:dz} {A A':Pl} {O:List Nat} {w:World} {st:AS S} {a:Act}
def iE (j c e:Nat) (st:AS S):AS S:=match aJ st.h j with
 |some (.box t cs)=>(match cs[c]? with
  |some (.v (.slice none 0 0))=> { st with h:=st.h.set j (some (.box t (cs.set c (.own st.h.length))))++[some (.row e [])] }
  |_=>st)
 |_=>st
theorem XP {n:Nat} (hA:A.le A') (hn:A'.pl n=some (.slice none 0 0)): ∀ {ls:List (LV S)} {xs:List Value} {c:Nat},bT A O w ls xs->ls[c]? =some (.v (.slice none 0 0))->bT A' O w (ls.set c (.own n)) xs
 |[],_,c,_,h=>by simp at h
 |l::ls,xs,0,⟨ys,zs,h1,h2,h3⟩,h=>by
  have h:l= .v (.slice none 0 0):=by simpa using h
  subst h
  exact⟨ys,zs,h1,⟨_,hn,h2.1,rfl⟩,pH (Tr.refl O w) hA h3⟩
 |l::ls,xs,c+1,⟨ys,zs,h1,h2,h3⟩,h=>⟨ys,zs,h1,h2.tr (Tr.refl O w) hA,XP hA hn h3 (by simpa using h)⟩
theorem bA.iE (j c e:Nat) (h:bA K P N B A O w st a): ∃A',bA K P N B A' O w (Vx.iE j c e st) a:=by
 unfold Vx.iE
 split
 rotate_left
 ·exact⟨A,h⟩
 rename_i t cs hj
 split
 rotate_left
 ·exact⟨A,h⟩
 rename_i hc
 have iy:=hU hj
 obtain⟨A',da⟩: ∃A',A'=A.put st.h.length (.slice none 0 0):=⟨_,rfl⟩
 have cp:=h.free st.h.length (Nat.le_refl _)
 have hle:A.le A':=by rw[da];exact Pl.tz cp
 have gy:A'.pl st.h.length=some (.slice none 0 0):=by rw[da];exact Pl.kK _ _ _
 have eB: ∀i,i≠st.h.length->A'.pl i=A.pl i:=λi hi=>by rw[da];exact Pl.xL (λe=>hi e.symm)
 have hlen:(st.h.set j (some (.box t (cs.set c (.own st.h.length))))).length=st.h.length:=List.length_set
 have gY: ∀ {i:Nat} {X:Ob S},aJ (st.h.set j (some (.box t (cs.set c (.own st.h.length))))++[some (.row e [])]) i=some X->(i=st.h.length/\X= .row e [])\/(i=j/\X= .box t (cs.set c (.own st.h.length)))\/(i≠j/\aJ st.h i=some X):=by
  intro i X hi
  rcases pA hi with h1|⟨h1,h2⟩
  ·right
   rw[mM,List.getElem?_set] at h1
   split at h1
   ·rename_i he
    simp only[Option.some.injEq] at h1
    exact .inl ⟨he.symm,h1.symm⟩
   ·rename_i he
    exact .inr ⟨λx=>he x.symm,mM.2 h1⟩
  ·exact .inl ⟨h1.trans hlen,h2⟩
 have hold: ∀ {i:Nat} {X:Ob S} {p:Value} {b:Nat},aJ (st.h.set j (some (.box t (cs.set c (.own st.h.length))))++[some (.row e [])]) i=some X->A'.pl i=some p->cq p=some b-> ∃Y,aJ st.h i=some Y/\A.pl i=some p:=by
  intro i X p b hi hp hb
  rcases gY hi with⟨rfl,_⟩|⟨rfl,_⟩|⟨_,h1⟩
  ·rw[gy] at hp;cases hp;cases hb
  ·exact⟨_,hj,by rw[<-eB i (by omega)];exact hp⟩
  ·have:=hU h1
   exact⟨_,h1,by rw[<-eB i (by omega)];exact hp⟩
 refine⟨A',h.size,h.env.tr (Tr.refl O w) hle,⟨?_,?_⟩,h.ob,h.dT,?_,h.nb,?_,h.tr,?_,by rw[da];exact h.ls,?_,?_,?_,h.lp,h.dl,h.hi,h.o0,h.rr⟩
 ·intro i X hi
  rcases gY hi with⟨rfl,rfl⟩|⟨rfl,rfl⟩|⟨aV,h1⟩
  ·exact⟨_,gy,Own.kH,λb hb=>by cases hb⟩
  ·obtain⟨p,hp,⟨b,vs,h2,h3,h4⟩,hb⟩:=h.rel.al i _ hj
   exact⟨p,by rw[eB i (by omega)];exact hp,⟨b,vs,h2,h3,XP hle gy h4 hc⟩,hb⟩
  ·obtain⟨p,hp,hR,hb⟩:=h.rel.al i X h1
   have:=hU h1
   exact⟨p,by rw[eB i (by omega)];exact hp,hR.keep (Tr.refl O w) hle λb b6=>⟨rfl,hb b b6⟩,hb⟩
 ·intro i i' X Y p q b aV hi iS hp hq b6 ew
  obtain⟨X0,h1,h2⟩:=hold hi hp b6
  obtain⟨Y0,h3,h4⟩:=hold iS hq ew
  exact h.rel.dj i i' X0 Y0 p q b aV h1 h3 h2 h4 b6 ew
 ·intro i hi
  simp at hi
  rw[eB i (by omega)]
  exact h.free i (by omega)
 ·show B.nb<=(st.h.set j _++[_]).length
  have:=h.le
  simp
  omega
 ·intro i hi
  have:=h.le
  rw[eB i (by omega)]
  exact h.pl i hi
 ·intro i X hi hX
  have:=h.le
  rcases gY hX with⟨rfl,_⟩|⟨rfl,_⟩|⟨_,h1⟩
  ·omega
  ·exact h.lv i _ hi hj
  ·exact h.lv i X hi h1
 ·intro b hb hx bS
  obtain⟨c1,c2,c3⟩:=h.cl b hb hx bS
  refine⟨c1,c2,λi X p hi hX hp b6=>?_⟩
  obtain⟨Y,h1,h2⟩:=hold hX hp b6
  exact c3 i Y p hi h1 h2 b6
 ·exact dS.yg hle.at_ (λD hD=>hD) h.df
def jq (l:List Nat) (st:AS S):AS S:= { st with dt:=l++st.dt }
theorem bA.jq (l:List Nat) (h:bA K P N B A O w st a):bA K P N B A O w (Vx.jq l st) a:=
 ⟨h.size,h.env,h.rel,h.ob,h.dT,h.free,h.nb,h.le,h.tr,h.pl,h.ls,h.lv,λb hb hx hc=>h.cl b hb hx λi hi=>hc i (List.mem_append_right _ hi),h.df,h.lp,h.dl,h.hi,h.o0,h.rr⟩
theorem bA.seen {j:Nat} {X X':Ob S} (h:bA K P N B A O w st a) (hj:aJ st.h j=some X) (hR: ∀p,ig A O w X p->ig A O w X' p):bA K P N B A O w { st with h:=st.h.set j (some X') } a:=by
 have iy:=hU hj
 have gY: ∀ {i:Nat} {Y:Ob S},aJ (st.h.set j (some X')) i=some Y->(i=j/\Y=X')\/(i≠j/\aJ st.h i=some Y):=by
  intro i Y hi
  rw[mM,List.getElem?_set] at hi
  split at hi
  ·rename_i he
   simp only[Option.some.injEq] at hi
   exact .inl ⟨he.symm,hi.symm⟩
  ·rename_i he
   exact .inr ⟨λx=>he x.symm,mM.2 hi⟩
 have hold: ∀ {i:Nat} {Y:Ob S},aJ (st.h.set j (some X')) i=some Y-> ∃Z,aJ st.h i=some Z:=by
  intro i Y hi
  rcases gY hi with⟨rfl,_⟩|⟨_,h1⟩
  ·exact⟨_,hj⟩
  ·exact⟨_,h1⟩
 refine⟨h.size,h.env,⟨?_,?_⟩,h.ob,h.dT,?_,h.nb,?_,h.tr,h.pl,h.ls,?_,?_,h.df,h.lp,h.dl,h.hi,h.o0,h.rr⟩
 ·intro i Y hi
  rcases gY hi with⟨rfl,rfl⟩|⟨_,h1⟩
  ·obtain⟨p,hp,h2,hb⟩:=h.rel.al i _ hj
   exact⟨p,hp,hR p h2,hb⟩
  ·exact h.rel.al i Y h1
 ·intro i i' Y Z p q b aV hi iS hp hq b6 ew
  obtain⟨Y0,h1⟩:=hold hi
  obtain⟨Z0,h2⟩:=hold iS
  exact h.rel.dj i i' Y0 Z0 p q b aV h1 h2 hp hq b6 ew
 ·intro i hi
  exact h.free i (by simpa using hi)
 ·show B.nb<=(st.h.set j _).length
  have:=h.le
  simp
  omega
 ·intro i Y hi hY
  obtain⟨Z,h1⟩:=hold hY
  exact h.lv i Z hi h1
 ·intro b hb hx bS
  obtain⟨c1,c2,c3⟩:=h.cl b hb hx bS
  refine⟨c1,c2,λi Y p hi hY hp b6=>?_⟩
  obtain⟨Z,h1⟩:=hold hY
  exact c3 i Z p hi h1 hp b6
def G6 (cs:List (LV S)):List (LV S):=match r7 cs with
 |some bs=>[.dQ bs.length bs]
 |none=>(match mG cs with|some (k,gs)=>[.bR k gs.length gs]|none=>cs)
theorem adv {cs:List (LV S)} {xs:List Value} (h:bT A O w cs xs):bT A O w (G6 cs) xs:=by
 unfold G6
 split
 ·rename_i bs hb
  exact⟨xs,[],by simp,⟨rfl,G9 hb h⟩,rfl⟩
 ·split
  ·rename_i k gs hg
   exact⟨xs,[],by simp,⟨rfl,KN hg h⟩,rfl⟩
  ·exact h
def oC (j:Nat) (st:AS S):AS S:=match aJ st.h j with
 |some (.box t cs)=> { st with h:=st.h.set j (some (.box t (G6 cs))) }
 |_=>st
theorem bA.oC (j:Nat) (h:bA K P N B A O w st a):bA K P N B A O w (Vx.oC j st) a:=by
 unfold Vx.oC
 split
 ·rename_i t cs hj
  refine h.seen hj ?_
  rintro p ⟨b,vs,h1,h2,h3⟩
  exact⟨b,vs,h1,h2,adv h3⟩
 ·exact h
def SF:Option (LV S)->Option (List Bool)
 |some (.dQ _ x)=>some x
 |_=>none
def nT (pre:AS S->AS S) (lc:bo S):bo S:=⟨lc.id,λst k=>lc.out (pre st) k⟩
def c7 (K:bQ S) (P:Program) (pre:AS S->AS S):Prop:= ∀ {N:Nat} {B:dz} {A:Pl} {O:List Nat} {w:World} {st:AS S} {a:Act},bA K P N B A O w st a-> ∃A',bA K P N B A' O w (pre st) a
theorem c7.gc (sl:List Nat):c7 K P (Vx.gc sl):=λh=>h.gc
theorem c7.iE (j c e:Nat):c7 K P (Vx.iE j c e):=λh=>h.iE j c e
theorem c7.jq (l:List Nat):c7 K P (Vx.jq l):=λh=>⟨_,h.jq l⟩
theorem c7.oC (j:Nat):c7 K P (Vx.oC j):=λh=>⟨_,h.oC j⟩
theorem c7.comp {f g:AS S->AS S} (hf:c7 K P f) (hg:c7 K P g):c7 K P (λst=>f (g st)):=λh=>
 let⟨_,h1⟩:=hg h
 hf h1
theorem aC.pre {J:pQ} {x:Code} {lc:bo S} {pre:AS S->AS S} (hp:c7 K P pre) (h:aC K P J x lc):aC K P J x (nT pre lc):=by
 intro R st k z hz
 obtain⟨e,bm,h1,h2⟩:=h (pre st) k z hz
 refine⟨e,bm,h1,λC A O w a hr=>?_⟩
 obtain⟨A',dd⟩:=hp hr
 exact h2 C A' O w a dd
end
section
variable {S:bL} {K:bQ S} {P:Program}
def xp (K:bQ S) (f e:Nat) (ins:List (S.El e)->Int->List (S.El e)->Option (List (S.El e))):jd S:=⟨f,λaqJ h k=>match aqJ with
 |[.one (.own r),.one (.v (.int .i64 j)),.one (.own r2)]=>bif Nat.beq r r2 then none else(match fh K (aJ h) e (.own r),fh K (aJ h) e (.own r2) with
  |some xs,some ys=>(ins xs j ys).bind λzs=>k (.ret (.s (.one (.own h.length)))) ((h.set r none).set r2 none++[some (.row e zs)]) [r,r2]
  |_,_=>none)
 |_=>none⟩
theorem Hr {g:Nat->Option (Ob S)} {e r:Nat} {xs:List (S.El e)} (h:fh K g e (.own r)=some xs):g r=some (.row e xs):=by
 simp only[fh] at h
 split at h
 ·rename_i e' ys hg
  split at h
  ·rename_i p _
   subst p
   cases h
   exact hg
  ·cases h
 ·cases h
theorem LB {h:AH S} {r i:Nat} {X:Ob S} (hi:aJ (h.set r none) i=some X):i≠r/\aJ h i=some X:=by
 rw[mM] at hi
 rw[List.getElem?_set] at hi
 split at hi
 ·split at hi<;>simp at hi
 ·rename_i aV
  exact⟨λe=>aV e.symm,mM.2 hi⟩
theorem KL (hK:cI K P) {f e:Nat} {ins:List (S.El e)->Int->List (S.El e)->Option (List (S.El e))} (gv:fI P f)
  (hC: ∀(O:List Nat) (w:World) (v u:Value) (xs ys zs:List (S.El e)) (j:Int),OB O w->Dc.Own (S.ty e) e 0 O w v xs->(S.ty e).slice.is O w u ys->Plain w u->ins xs j ys=some zs->Calls P f #[v,.int .i64 j,u] w (gE (S.ty e) e 0 O w v zs))
  {R:Type} (aqJ:List (aE S)) (h:AH S) (k:Rs S->AH S->List Nat->Option R) (z:R) (hz:(xp K f e ins).out aqJ h k=some z): ∃r h' dt,k r h' dt=some z/\gR K P f aqJ h r h' dt:=by
 simp only[xp] at hz
 split at hz
 rotate_left
 ·cases hz
 rename_i r j r2
 cases aV:Nat.beq r r2<;>rw[aV] at hz
 rotate_left
 ·cases hz
 simp only[cond_false] at hz
 split at hz
 rotate_left
 ·cases hz
 rename_i xs ys eE dE
 obtain⟨zs,fT,hk⟩:=bind_some hz
 have aV:r≠r2:=λe=>by subst e;rw[Nat.beq_refl] at aV;cases aV
 have mB:=Hr eE
 have Da:=Hr dE
 refine⟨_,_,_,hk,gv,λA O w vs hv hg hO hG cp=>?_⟩
 obtain⟨v,_,rfl,xg,v1,_,rfl,⟨Kn,_⟩,u,rest,rfl,iV,xb⟩:=hv
 rw[show rest=[] from xb]
 obtain rfl:v1= .int .i64 j:=by simpa using Kn
 have sG:=m_ hK hg dE iV
 obtain⟨_,mD,g_,_⟩:=xg
 cases g_
 obtain⟨_,pd,huu,_⟩:=iV
 cases huu
 obtain⟨v0,xe,jw,T8⟩:=hg.al r _ mB
 rw[mD] at xe;cases xe
 obtain⟨u0,Dh,ajM,hbu⟩:=hg.al r2 _ Da
 rw[pd] at Dh;cases Dh
 obtain⟨O1,nt⟩: ∃O1,O1=fV A [r2] O:=⟨_,rfl⟩
 have sG:(S.ty e).slice.is O1 w u ys:=by rw[nt];exact sG
 have jh:Dc.Sub O1 O:=by rw[nt];exact iW
 have aj7: ∀g,cq v=some g->g∈O1:=by
  intro g lT
  rw[nt,mJ]
  refine⟨T8 g lT,λr' dd p hp=>?_⟩
  have:r'=r2:=by simpa using dd
  subst this
  exact hg.dj r r' _ _ v p g aV mB Da mD hp lT
 have ajN:Dc.Own (S.ty e) e 0 O1 w v xs:=by
  have jw:Dc.Own (S.ty e) e 0 O w v xs:=jw
  obtain⟨cs,h1,h2⟩:=jw.ex
  exact⟨⟨cs,h1,h2.tr (Tr.less jh)⟩,λg lT=>aj7 g (lI lT)⟩
 refine(hC O1 w v u xs ys zs j (λb hb=>hO b (jh b hb)) ajN sG (Dc.Own.plain ajM) fT).mono ?_
 rintro en w' ⟨v',O2,rfl,ha⟩
 obtain⟨A',da⟩: ∃A':Pl,A'=⟨λi=>bif Nat.beq i h.length then some v' else A.pl i,A.ls⟩:=⟨_,rfl⟩
 have eB: ∀i,i≠h.length->A'.pl i=A.pl i:=λi hi=>by
  rw[da]
  have:Nat.beq i h.length=false:=by
   cases hb:Nat.beq i h.length with
   |false=>rfl
   |true=>exact absurd (Nat.eq_of_beq_eq_true hb) hi
  simp only[this,cond_false]
 have gy:A'.pl h.length=some v':=by rw[da];simp
 have hle:A.le A':=⟨λi p hp=>by
  rw[eB i (λe=>by subst e;rw[cp _ (Nat.le_refl _)] at hp;cases hp)];exact hp,by rw[da]⟩
 have gf: ∀b,cq v≠some b->v.ownBlock≠some b:=λb hb hv=>hb (lI hv)
 have fR: ∀b,b<w.heap.size->cq v≠some b->w'.heap[b]? =w.heap[b]? :=λb hb hn=>ha.fr b hb (gf b hn)
 have c6: ∀b,b∈O->cq u≠some b->b∈O2:=λb hb hn=>ha.sub b (by
  rw[nt,mJ]
  refine⟨hb,λr' dd p hp=>?_⟩
  have:r'=r2:=by simpa using dd
  subst this
  rw[pd] at hp;cases hp
  exact hn)
 have eO:Tr O w O2 w':=(Tr.less jh).trans ha.tr
 have dr: ∀b,cq v'=some b->v'.ownBlock=some b/\b∈O2:=by
  intro b hb
  have gf:v'.ownBlock=some b:=by
   rcases l7 ha.own with⟨e1,_⟩|⟨b',c,e1⟩
   ·rw[e1] at hb;cases hb
   ·rw[e1] at hb ⊢;cases hb;rfl
  exact⟨gf,ha.own.mem b gf⟩
 have nK: ∀b,b<w.heap.size->cq v≠some b->cq v'≠some b:=λb hb hn h'=>ha.ne b hb (gf b hn) (dr b h').1
 have pa:v'.oneCell'=true:=by
  rcases l7 ha.own with⟨e1,_⟩|⟨b',c,e1⟩<;>rw[e1]<;>rfl
 have hlen:((h.set r none).set r2 none).length=h.length:=by simp
 have lY: ∀ {i:Nat} {X:Ob S},aJ ((h.set r none).set r2 none++[some (.row e zs)]) i=some X->(i≠r/\i≠r2/\aJ h i=some X)\/(i=h.length/\X= .row e zs):=by
  intro i X hi
  rcases pA hi with h1|⟨h1,h2⟩
  ·obtain⟨h3,h4⟩:=LB h1
   obtain⟨h5,h6⟩:=LB h4
   exact .inl ⟨h5,h3,h6⟩
  ·exact .inr ⟨h1.trans hlen,h2⟩
 refine⟨A',O2,⟨v',rfl,⟨v',gy,rfl,pa⟩⟩,⟨⟨?_,?_⟩,ha.ob,eO,λi hi=>eB i (by omega),(λj hj=>?_),by rw[da],by simp,?_,?_⟩⟩
 ·intro i X hi
  rcases lY hi with⟨nG,ajA,h1⟩|⟨rfl,rfl⟩
  ·obtain⟨p,hp,hR,hb⟩:=hg.al i X h1
   have aH:=hU h1
   have Uk: ∀b,cq p=some b->b∈O2:=λb b6=>c6 b (hb b b6) (λhub=>hg.dj i r2 _ _ p u b ajA h1 Da hp pd b6 hub)
   exact⟨p,by rw[eB i (by omega)];exact hp,hR.keep eO hle λb b6=>⟨fR b (hO b (hb b b6)) (λgf=>hg.dj i r _ _ p v b nG h1 mB hp mD b6 gf),Uk b b6⟩,Uk⟩
  ·exact⟨v',gy,ha.own,λb hb=>(dr b hb).2⟩
 ·intro i j X Y p q b dp hi hj hp hq b6 ew
  have gj: ∀ {i:Nat} {X:Ob S} {p:Value},i≠r->aJ h i=some X->A'.pl i=some p->cq p=some b->b<w.heap.size/\A.pl i=some p/\cq v≠some b:=by
   intro i X p h0 h1 h2 h3
   have aH:=hU h1
   rw[eB i (by omega)] at h2
   obtain⟨p',dx,_,hb⟩:=hg.al i X h1
   rw[h2] at dx;cases dx
   exact⟨hO b (hb b h3),h2,λgf=>hg.dj i r _ _ p v b h0 h1 mB h2 mD h3 gf⟩
  rcases lY hi with⟨nG,_,h1⟩|⟨rfl,rfl⟩
  ·rcases lY hj with⟨qF,_,h2⟩|⟨rfl,rfl⟩
   ·exact hg.dj i j X Y p q b dp h1 h2 (gj nG h1 hp b6).2.1 (gj qF h2 hq ew).2.1 b6 ew
   ·rw[gy] at hq;cases hq
    have h3:=gj nG h1 hp b6
    exact nK b h3.1 h3.2.2 ew
  ·rcases lY hj with⟨qF,_,h2⟩|⟨rfl,rfl⟩
   ·rw[gy] at hp;cases hp
    have h3:=gj qF h2 hq ew
    exact nK b h3.1 h3.2.2 b6
   ·exact absurd rfl dp
 ·have:j=r\/j=r2:=by simpa using hj
  rcases this with rfl|rfl
  ·exact hU mB
  ·exact hU Da
 ·intro i hi
  simp at hi
  rw[eB i (by omega)]
  exact cp i (by omega)
 ·intro b hb hn
  have k5:=hn r (by simp) v mD
  have hnu:=hn r2 (by simp) u pd
  refine⟨fR b (hO b hb) k5,c6 b hb hnu,λi X p hi hX hp b6=>?_⟩
  rcases lY hX with⟨_,_,h1⟩|⟨rfl,rfl⟩
  ·have:=hU h1;omega
  ·rw[gy] at hp;cases hp
   exact nK b (hO b hb) k5 b6
end
end Go.Vx
end
section
namespace Go.Proofs.YtdhaaaeffhaadaaGreatDoor
open Go.Dc
structure ah where
 ae:Int
 bn:Int
 bW:Bool
 cP:Int
 deriving DecidableEq
structure b_ where
 aR:List Int
 ao:List ah
 deriving DecidableEq
structure aj where
 ae:Int
 cJ:Int
 c8:Int
 deriving DecidableEq
structure ar where
 bY:Int
 bc:Int
 deriving DecidableEq
structure cz where
 ao:List ar
 bz:Int
 deriving DecidableEq
structure aw where
 cB:Int
 ae:Int
 deriving DecidableEq
structure an where
 ae:Int
 a_:List Int
 deriving DecidableEq
structure bh where
 aK:List aw
 ay:List an
 deriving DecidableEq
structure bF where
 aG:b_
 bj:List aj
 aI:cz
 aA:bh
 deriving DecidableEq
structure dh where
 dG:Int
 fArgs:List Int
 deriving DecidableEq
structure cF where
 iO:Int
 iP:Int
 deriving DecidableEq
structure mf where
 jN:List ByteArray
 vN:Int
 deriving DecidableEq
def Cf:ah:=⟨1,0,false,0⟩
def si (x y:cF):Bool:=(x.iO==y.iO)&&(x.iP==y.iP)
def iN (x y:ah):Bool:=(x.ae==y.ae)&&(x.bn==y.bn)&&(x.bW==y.bW)&&(x.cP==y.cP)
def kQ (x y:aj):Bool:=(x.ae==y.ae)&&(x.cJ==y.cJ)&&(x.c8==y.c8)
def lJ (x y:ar):Bool:=(x.bY==y.bY)&&(x.bc==y.bc)
def lK (x y:aw):Bool:=(x.cB==y.cB)&&(x.ae==y.ae)
end Go.Proofs.YtdhaaaeffhaadaaGreatDoor
end
section
namespace Go.Proofs.YtdhaaaeffhaadaaGreatDoor
open Go.RowKit Go.Dc Go.Vx
set_option maxRecDepth 100000
set_option maxHeartbeats 4000000
def Θ:dm:=[(2,⟨2,3,0,[],1,8,.int .i64 0⟩),
 (3,⟨2,3,0,[],1,8,.int .i64 0⟩),
 (4,⟨1,0,0,[],1,1,.bool false⟩),
 (5,⟨2,4,0,[],1,1,.int .u8 0⟩),
 (6,⟨2,4,0,[],1,1,.int .u8 0⟩),
 (7,⟨8,0,0,[(2,0),(3,1),(4,2),(6,3)],4,24,.agg #[.int .i64 0,.int .i64 0,.bool false,.int .u8 0]⟩),
 (8,⟨8,0,0,[(2,0),(3,1),(4,2),(6,3)],4,24,.agg #[.int .i64 0,.int .i64 0,.bool false,.int .u8 0]⟩),
 (9,⟨3,0,0,[],1,16,.string ByteArray.empty⟩),
 (10,⟨3,0,0,[],1,16,.string ByteArray.empty⟩),
 (11,⟨3,0,0,[],1,16,.string ByteArray.empty⟩),
 (12,⟨2,7,0,[],1,8,.int .u64 0⟩),
 (13,⟨8,0,0,[(9,0),(12,1)],2,24,.agg #[.string ByteArray.empty,.int .u64 0]⟩),
 (14,⟨8,0,0,[(9,0),(12,1)],2,24,.agg #[.string ByteArray.empty,.int .u64 0]⟩),
 (15,⟨4,0,310,[],1,8,.pointer none⟩),
 (16,⟨4,0,313,[],1,8,.pointer none⟩),
 (17,⟨4,0,321,[],1,8,.pointer none⟩),
 (18,⟨8,0,0,[(17,0)],1,8,.agg #[.pointer none]⟩),
 (19,⟨8,0,0,[(17,0)],1,8,.agg #[.pointer none]⟩),
 (20,⟨10,0,0,[],1,16,.nilIface⟩),
 (21,⟨2,2,0,[],1,4,.int .i32 0⟩),
 (22,⟨6,16,3,[],16,128,.agg #[.int .i64 0,.int .i64 0,.int .i64 0,.int .i64 0,.int .i64 0,.int .i64 0,.int .i64 0,.int .i64 0,.int .i64 0,.int .i64 0,.int .i64 0,.int .i64 0,.int .i64 0,.int .i64 0,.int .i64 0,.int .i64 0]⟩),
 (23,⟨5,0,69,[],1,24,.slice none 0 0⟩),
 (24,⟨8,0,0,[(22,0),(23,16)],17,152,.agg #[.int .i64 0,.int .i64 0,.int .i64 0,.int .i64 0,.int .i64 0,.int .i64 0,.int .i64 0,.int .i64 0,.int .i64 0,.int .i64 0,.int .i64 0,.int .i64 0,.int .i64 0,.int .i64 0,.int .i64 0,.int .i64 0,.slice none 0 0]⟩),
 (25,⟨8,0,0,[(22,0),(23,16)],17,152,.agg #[.int .i64 0,.int .i64 0,.int .i64 0,.int .i64 0,.int .i64 0,.int .i64 0,.int .i64 0,.int .i64 0,.int .i64 0,.int .i64 0,.int .i64 0,.int .i64 0,.int .i64 0,.int .i64 0,.int .i64 0,.int .i64 0,.slice none 0 0]⟩),
 (26,⟨5,0,89,[],1,24,.slice none 0 0⟩),
 (27,⟨5,0,71,[],1,24,.slice none 0 0⟩),
 (28,⟨2,7,0,[],1,8,.int .u64 0⟩),
 (29,⟨8,0,0,[(27,0),(28,1)],2,32,.agg #[.slice none 0 0,.int .u64 0]⟩),
 (30,⟨8,0,0,[(27,0),(28,1)],2,32,.agg #[.slice none 0 0,.int .u64 0]⟩),
 (31,⟨5,0,93,[],1,24,.slice none 0 0⟩),
 (32,⟨5,0,82,[],1,24,.slice none 0 0⟩),
 (33,⟨8,0,0,[(31,0),(32,1)],2,48,.agg #[.slice none 0 0,.slice none 0 0]⟩),
 (34,⟨8,0,0,[(31,0),(32,1)],2,48,.agg #[.slice none 0 0,.slice none 0 0]⟩),
 (35,⟨8,0,0,[(25,0),(26,17),(30,18),(34,20)],22,256,.agg #[.int .i64 0,.int .i64 0,.int .i64 0,.int .i64 0,.int .i64 0,.int .i64 0,.int .i64 0,.int .i64 0,.int .i64 0,.int .i64 0,.int .i64 0,.int .i64 0,.int .i64 0,.int .i64 0,.int .i64 0,.int .i64 0,.slice none 0 0,.slice none 0 0,.slice none 0 0,.int .u64 0,.slice none 0 0,.slice none 0 0]⟩),
 (36,⟨8,0,0,[(25,0),(26,17),(30,18),(34,20)],22,256,.agg #[.int .i64 0,.int .i64 0,.int .i64 0,.int .i64 0,.int .i64 0,.int .i64 0,.int .i64 0,.int .i64 0,.int .i64 0,.int .i64 0,.int .i64 0,.int .i64 0,.int .i64 0,.int .i64 0,.int .i64 0,.int .i64 0,.slice none 0 0,.slice none 0 0,.slice none 0 0,.int .u64 0,.slice none 0 0,.slice none 0 0]⟩),
 (40,⟨2,3,0,[],1,8,.int .i64 0⟩),
 (43,⟨6,5,3,[],5,40,.agg #[.int .i64 0,.int .i64 0,.int .i64 0,.int .i64 0,.int .i64 0]⟩),
 (46,⟨5,0,50,[],1,24,.slice none 0 0⟩),
 (48,⟨6,4,28,[],4,32,.agg #[.int .u64 0,.int .u64 0,.int .u64 0,.int .u64 0]⟩),
 (49,⟨8,0,0,[(28,0),(48,1)],5,40,.agg #[.int .u64 0,.int .u64 0,.int .u64 0,.int .u64 0,.int .u64 0]⟩),
 (50,⟨8,0,0,[(28,0),(48,1)],5,40,.agg #[.int .u64 0,.int .u64 0,.int .u64 0,.int .u64 0,.int .u64 0]⟩),
 (51,⟨5,0,53,[],1,24,.slice none 0 0⟩),
 (52,⟨8,0,0,[(40,0),(28,1)],2,16,.agg #[.int .i64 0,.int .u64 0]⟩),
 (53,⟨8,0,0,[(40,0),(28,1)],2,16,.agg #[.int .i64 0,.int .u64 0]⟩),
 (67,⟨7,28,3,[],1,8,.map none⟩),
 (68,⟨8,0,0,[(28,0),(28,1),(4,2),(28,3)],4,32,.agg #[.int .u64 0,.int .u64 0,.bool false,.int .u64 0]⟩),
 (69,⟨8,0,0,[(28,0),(28,1),(4,2),(28,3)],4,32,.agg #[.int .u64 0,.int .u64 0,.bool false,.int .u64 0]⟩),
 (70,⟨8,0,0,[(28,0),(28,1)],2,16,.agg #[.int .u64 0,.int .u64 0]⟩),
 (71,⟨8,0,0,[(28,0),(28,1)],2,16,.agg #[.int .u64 0,.int .u64 0]⟩),
 (76,⟨5,0,28,[],1,24,.slice none 0 0⟩),
 (78,⟨6,5,28,[],5,40,.agg #[.int .u64 0,.int .u64 0,.int .u64 0,.int .u64 0,.int .u64 0]⟩),
 (79,⟨2,7,0,[],1,8,.int .u64 0⟩),
 (81,⟨8,0,0,[(28,0),(76,1)],2,32,.agg #[.int .u64 0,.slice none 0 0]⟩),
 (82,⟨8,0,0,[(28,0),(76,1)],2,32,.agg #[.int .u64 0,.slice none 0 0]⟩),
 (83,⟨9,0,0,[],1,8,.nilFunc⟩),
 (88,⟨8,0,0,[(28,0),(3,1),(28,2)],3,24,.agg #[.int .u64 0,.int .i64 0,.int .u64 0]⟩),
 (89,⟨8,0,0,[(28,0),(3,1),(28,2)],3,24,.agg #[.int .u64 0,.int .i64 0,.int .u64 0]⟩),
 (92,⟨8,0,0,[(28,0),(28,1)],2,16,.agg #[.int .u64 0,.int .u64 0]⟩),
 (93,⟨8,0,0,[(28,0),(28,1)],2,16,.agg #[.int .u64 0,.int .u64 0]⟩),
 (105,⟨9,0,0,[],1,8,.nilFunc⟩),
 (107,⟨9,0,0,[],1,8,.nilFunc⟩),
 (117,⟨9,0,0,[],1,8,.nilFunc⟩),
 (118,⟨9,0,0,[],1,8,.nilFunc⟩),
 (120,⟨4,0,36,[],1,8,.pointer none⟩),
 (124,⟨4,0,128,[],1,8,.pointer none⟩),
 (127,⟨8,0,0,[(34,0)],2,48,.agg #[.slice none 0 0,.slice none 0 0]⟩),
 (128,⟨8,0,0,[(34,0)],2,48,.agg #[.slice none 0 0,.slice none 0 0]⟩),
 (129,⟨9,0,0,[],1,8,.nilFunc⟩),
 (130,⟨9,0,0,[],1,8,.nilFunc⟩),
 (138,⟨9,0,0,[],1,8,.nilFunc⟩),
 (140,⟨4,0,142,[],1,8,.pointer none⟩),
 (141,⟨8,0,0,[(25,0)],17,152,.agg #[.int .i64 0,.int .i64 0,.int .i64 0,.int .i64 0,.int .i64 0,.int .i64 0,.int .i64 0,.int .i64 0,.int .i64 0,.int .i64 0,.int .i64 0,.int .i64 0,.int .i64 0,.int .i64 0,.int .i64 0,.int .i64 0,.slice none 0 0]⟩),
 (142,⟨8,0,0,[(25,0)],17,152,.agg #[.int .i64 0,.int .i64 0,.int .i64 0,.int .i64 0,.int .i64 0,.int .i64 0,.int .i64 0,.int .i64 0,.int .i64 0,.int .i64 0,.int .i64 0,.int .i64 0,.int .i64 0,.int .i64 0,.int .i64 0,.int .i64 0,.slice none 0 0]⟩),
 (143,⟨4,0,69,[],1,8,.pointer none⟩),
 (145,⟨9,0,0,[],1,8,.nilFunc⟩),
 (147,⟨5,0,3,[],1,24,.slice none 0 0⟩),
 (148,⟨9,0,0,[],1,8,.nilFunc⟩),
 (149,⟨9,0,0,[],1,8,.nilFunc⟩),
 (151,⟨9,0,0,[],1,8,.nilFunc⟩),
 (153,⟨7,28,28,[],1,8,.map none⟩),
 (160,⟨9,0,0,[],1,8,.nilFunc⟩),
 (163,⟨4,0,165,[],1,8,.pointer none⟩),
 (164,⟨8,0,0,[(36,0),(48,22)],26,288,.agg #[.int .i64 0,.int .i64 0,.int .i64 0,.int .i64 0,.int .i64 0,.int .i64 0,.int .i64 0,.int .i64 0,.int .i64 0,.int .i64 0,.int .i64 0,.int .i64 0,.int .i64 0,.int .i64 0,.int .i64 0,.int .i64 0,.slice none 0 0,.slice none 0 0,.slice none 0 0,.int .u64 0,.slice none 0 0,.slice none 0 0,.int .u64 0,.int .u64 0,.int .u64 0,.int .u64 0]⟩),
 (165,⟨8,0,0,[(36,0),(48,22)],26,288,.agg #[.int .i64 0,.int .i64 0,.int .i64 0,.int .i64 0,.int .i64 0,.int .i64 0,.int .i64 0,.int .i64 0,.int .i64 0,.int .i64 0,.int .i64 0,.int .i64 0,.int .i64 0,.int .i64 0,.int .i64 0,.int .i64 0,.slice none 0 0,.slice none 0 0,.slice none 0 0,.int .u64 0,.slice none 0 0,.slice none 0 0,.int .u64 0,.int .u64 0,.int .u64 0,.int .u64 0]⟩),
 (166,⟨9,0,0,[],1,8,.nilFunc⟩),
 (167,⟨6,15,166,[],15,120,.agg #[.nilFunc,.nilFunc,.nilFunc,.nilFunc,.nilFunc,.nilFunc,.nilFunc,.nilFunc,.nilFunc,.nilFunc,.nilFunc,.nilFunc,.nilFunc,.nilFunc,.nilFunc]⟩),
 (170,⟨9,0,0,[],1,8,.nilFunc⟩),
 (174,⟨6,8,5,[],8,8,.agg #[.int .u8 0,.int .u8 0,.int .u8 0,.int .u8 0,.int .u8 0,.int .u8 0,.int .u8 0,.int .u8 0]⟩),
 (175,⟨5,0,5,[],1,24,.slice none 0 0⟩),
 (178,⟨9,0,0,[],1,8,.nilFunc⟩),
 (181,⟨9,0,0,[],1,8,.nilFunc⟩),
 (185,⟨5,0,9,[],1,24,.slice none 0 0⟩),
 (186,⟨5,0,9,[],1,24,.slice none 0 0⟩),
 (187,⟨8,0,0,[(186,0),(28,1)],2,32,.agg #[.slice none 0 0,.int .u64 0]⟩),
 (188,⟨8,0,0,[(186,0),(28,1)],2,32,.agg #[.slice none 0 0,.int .u64 0]⟩),
 (220,⟨9,0,0,[],1,8,.nilFunc⟩),
 (223,⟨9,0,0,[],1,8,.nilFunc⟩),
 (224,⟨9,0,0,[],1,8,.nilFunc⟩),
 (244,⟨9,0,0,[],1,8,.nilFunc⟩),
 (254,⟨9,0,0,[],1,8,.nilFunc⟩),
 (256,⟨9,0,0,[],1,8,.nilFunc⟩),
 (261,⟨6,8,4,[],8,8,.agg #[.bool false,.bool false,.bool false,.bool false,.bool false,.bool false,.bool false,.bool false]⟩),
 (262,⟨9,0,0,[],1,8,.nilFunc⟩),
 (263,⟨9,0,0,[],1,8,.nilFunc⟩),
 (266,⟨5,0,4,[],1,24,.slice none 0 0⟩),
 (270,⟨9,0,0,[],1,8,.nilFunc⟩),
 (271,⟨9,0,0,[],1,8,.nilFunc⟩),
 (274,⟨9,0,0,[],1,8,.nilFunc⟩),
 (276,⟨9,0,0,[],1,8,.nilFunc⟩),
 (281,⟨4,0,283,[],1,8,.pointer none⟩),
 (282,⟨8,0,0,[(281,0),(175,1)],2,32,.agg #[.pointer none,.slice none 0 0]⟩),
 (283,⟨8,0,0,[(281,0),(175,1)],2,32,.agg #[.pointer none,.slice none 0 0]⟩),
 (285,⟨10,0,0,[],1,16,.nilIface⟩),
 (286,⟨10,0,0,[],1,16,.nilIface⟩),
 (295,⟨9,0,0,[],1,8,.nilFunc⟩),
 (298,⟨4,0,5,[],1,8,.pointer none⟩),
 (302,⟨0,0,0,[],1,8,.pointer none⟩),
 (309,⟨8,0,0,[(17,0),(17,1),(17,2),(9,3)],4,40,.agg #[.pointer none,.pointer none,.pointer none,.string ByteArray.empty]⟩),
 (310,⟨8,0,0,[(17,0),(17,1),(17,2),(9,3)],4,40,.agg #[.pointer none,.pointer none,.pointer none,.string ByteArray.empty]⟩),
 (311,⟨6,0,16,[],0,0,.agg #[]⟩),
 (312,⟨8,0,0,[(311,0)],0,0,.agg #[]⟩),
 (313,⟨8,0,0,[(311,0)],0,0,.agg #[]⟩),
 (314,⟨2,6,0,[],1,4,.int .u32 0⟩),
 (315,⟨2,4,0,[],1,1,.int .u8 0⟩),
 (316,⟨2,4,0,[],1,1,.int .u8 0⟩),
 (317,⟨9,0,0,[],1,8,.nilFunc⟩),
 (318,⟨2,2,0,[],1,4,.int .i32 0⟩),
 (319,⟨2,2,0,[],1,4,.int .i32 0⟩),
 (320,⟨8,0,0,[(12,0),(12,1),(314,2),(315,3),(5,4),(5,5),(316,6),(317,7),(298,8),(318,9),(319,10)],11,48,.agg #[.int .u64 0,.int .u64 0,.int .u32 0,.int .u8 0,.int .u8 0,.int .u8 0,.int .u8 0,.nilFunc,.pointer none,.int .i32 0,.int .i32 0]⟩),
 (321,⟨8,0,0,[(12,0),(12,1),(314,2),(315,3),(5,4),(5,5),(316,6),(317,7),(298,8),(318,9),(319,10)],11,48,.agg #[.int .u64 0,.int .u64 0,.int .u32 0,.int .u8 0,.int .u8 0,.int .u8 0,.int .u8 0,.nilFunc,.pointer none,.int .i32 0,.int .i32 0]⟩)]
theorem ai:Θ.ok Tryz.prog:=⟨⟨by kernel_rfl,by kernel_rfl⟩,⟨by kernel_rfl,by kernel_rfl⟩,⟨by kernel_rfl,by kernel_rfl⟩,⟨by kernel_rfl,by kernel_rfl⟩,⟨by kernel_rfl,by kernel_rfl⟩,⟨by kernel_rfl,by kernel_rfl⟩,⟨by kernel_rfl,by kernel_rfl⟩,⟨by kernel_rfl,by kernel_rfl⟩,⟨by kernel_rfl,by kernel_rfl⟩,⟨by kernel_rfl,by kernel_rfl⟩,⟨by kernel_rfl,by kernel_rfl⟩,⟨by kernel_rfl,by kernel_rfl⟩,⟨by kernel_rfl,by kernel_rfl⟩,⟨by kernel_rfl,by kernel_rfl⟩,⟨by kernel_rfl,by kernel_rfl⟩,⟨by kernel_rfl,by kernel_rfl⟩,⟨by kernel_rfl,by kernel_rfl⟩,⟨by kernel_rfl,by kernel_rfl⟩,⟨by kernel_rfl,by kernel_rfl⟩,⟨by kernel_rfl,by kernel_rfl⟩,⟨by kernel_rfl,by kernel_rfl⟩,⟨by kernel_rfl,by kernel_rfl⟩,⟨by kernel_rfl,by kernel_rfl⟩,⟨by kernel_rfl,by kernel_rfl⟩,⟨by kernel_rfl,by kernel_rfl⟩,⟨by kernel_rfl,by kernel_rfl⟩,⟨by kernel_rfl,by kernel_rfl⟩,⟨by kernel_rfl,by kernel_rfl⟩,⟨by kernel_rfl,by kernel_rfl⟩,⟨by kernel_rfl,by kernel_rfl⟩,⟨by kernel_rfl,by kernel_rfl⟩,⟨by kernel_rfl,by kernel_rfl⟩,⟨by kernel_rfl,by kernel_rfl⟩,⟨by kernel_rfl,by kernel_rfl⟩,⟨by kernel_rfl,by kernel_rfl⟩,⟨by kernel_rfl,by kernel_rfl⟩,⟨by kernel_rfl,by kernel_rfl⟩,⟨by kernel_rfl,by kernel_rfl⟩,⟨by kernel_rfl,by kernel_rfl⟩,⟨by kernel_rfl,by kernel_rfl⟩,⟨by kernel_rfl,by kernel_rfl⟩,⟨by kernel_rfl,by kernel_rfl⟩,⟨by kernel_rfl,by kernel_rfl⟩,⟨by kernel_rfl,by kernel_rfl⟩,⟨by kernel_rfl,by kernel_rfl⟩,⟨by kernel_rfl,by kernel_rfl⟩,⟨by kernel_rfl,by kernel_rfl⟩,⟨by kernel_rfl,by kernel_rfl⟩,⟨by kernel_rfl,by kernel_rfl⟩,⟨by kernel_rfl,by kernel_rfl⟩,⟨by kernel_rfl,by kernel_rfl⟩,⟨by kernel_rfl,by kernel_rfl⟩,⟨by kernel_rfl,by kernel_rfl⟩,⟨by kernel_rfl,by kernel_rfl⟩,⟨by kernel_rfl,by kernel_rfl⟩,⟨by kernel_rfl,by kernel_rfl⟩,⟨by kernel_rfl,by kernel_rfl⟩,⟨by kernel_rfl,by kernel_rfl⟩,⟨by kernel_rfl,by kernel_rfl⟩,⟨by kernel_rfl,by kernel_rfl⟩,⟨by kernel_rfl,by kernel_rfl⟩,⟨by kernel_rfl,by kernel_rfl⟩,⟨by kernel_rfl,by kernel_rfl⟩,⟨by kernel_rfl,by kernel_rfl⟩,⟨by kernel_rfl,by kernel_rfl⟩,⟨by kernel_rfl,by kernel_rfl⟩,⟨by kernel_rfl,by kernel_rfl⟩,⟨by kernel_rfl,by kernel_rfl⟩,⟨by kernel_rfl,by kernel_rfl⟩,⟨by kernel_rfl,by kernel_rfl⟩,⟨by kernel_rfl,by kernel_rfl⟩,⟨by kernel_rfl,by kernel_rfl⟩,⟨by kernel_rfl,by kernel_rfl⟩,⟨by kernel_rfl,by kernel_rfl⟩,⟨by kernel_rfl,by kernel_rfl⟩,⟨by kernel_rfl,by kernel_rfl⟩,⟨by kernel_rfl,by kernel_rfl⟩,⟨by kernel_rfl,by kernel_rfl⟩,⟨by kernel_rfl,by kernel_rfl⟩,⟨by kernel_rfl,by kernel_rfl⟩,⟨by kernel_rfl,by kernel_rfl⟩,⟨by kernel_rfl,by kernel_rfl⟩,⟨by kernel_rfl,by kernel_rfl⟩,⟨by kernel_rfl,by kernel_rfl⟩,⟨by kernel_rfl,by kernel_rfl⟩,⟨by kernel_rfl,by kernel_rfl⟩,⟨by kernel_rfl,by kernel_rfl⟩,⟨by kernel_rfl,by kernel_rfl⟩,⟨by kernel_rfl,by kernel_rfl⟩,⟨by kernel_rfl,by kernel_rfl⟩,⟨by kernel_rfl,by kernel_rfl⟩,⟨by kernel_rfl,by kernel_rfl⟩,⟨by kernel_rfl,by kernel_rfl⟩,⟨by kernel_rfl,by kernel_rfl⟩,⟨by kernel_rfl,by kernel_rfl⟩,⟨by kernel_rfl,by kernel_rfl⟩,⟨by kernel_rfl,by kernel_rfl⟩,⟨by kernel_rfl,by kernel_rfl⟩,⟨by kernel_rfl,by kernel_rfl⟩,⟨by kernel_rfl,by kernel_rfl⟩,⟨by kernel_rfl,by kernel_rfl⟩,⟨by kernel_rfl,by kernel_rfl⟩,⟨by kernel_rfl,by kernel_rfl⟩,⟨by kernel_rfl,by kernel_rfl⟩,⟨by kernel_rfl,by kernel_rfl⟩,⟨by kernel_rfl,by kernel_rfl⟩,⟨by kernel_rfl,by kernel_rfl⟩,⟨by kernel_rfl,by kernel_rfl⟩,⟨by kernel_rfl,by kernel_rfl⟩,⟨by kernel_rfl,by kernel_rfl⟩,⟨by kernel_rfl,by kernel_rfl⟩,⟨by kernel_rfl,by kernel_rfl⟩,⟨by kernel_rfl,by kernel_rfl⟩,⟨by kernel_rfl,by kernel_rfl⟩,⟨by kernel_rfl,by kernel_rfl⟩,⟨by kernel_rfl,by kernel_rfl⟩,⟨by kernel_rfl,by kernel_rfl⟩,⟨by kernel_rfl,by kernel_rfl⟩,⟨by kernel_rfl,by kernel_rfl⟩,⟨by kernel_rfl,by kernel_rfl⟩,⟨by kernel_rfl,by kernel_rfl⟩,⟨by kernel_rfl,by kernel_rfl⟩,⟨by kernel_rfl,by kernel_rfl⟩,⟨by kernel_rfl,by kernel_rfl⟩,⟨by kernel_rfl,by kernel_rfl⟩,⟨by kernel_rfl,by kernel_rfl⟩,⟨by kernel_rfl,by kernel_rfl⟩,⟨by kernel_rfl,by kernel_rfl⟩,⟨by kernel_rfl,by kernel_rfl⟩,⟨by kernel_rfl,by kernel_rfl⟩,trivial⟩
theorem mixed:Tryz.prog.follows .mixedOrders=true:=by kernel_rfl
def jG:Ty ah:=(Ty.pair (Ty.int .u64) (Ty.pair (Ty.int .u64) (Ty.pair Ty.bool (Ty.int .u64)))).ji λd=>(d.ae,d.bn,d.bW,d.cP)
def yc:Ty b_:=(Ty.pair (mn .i64 16) (Ty.slice jG)).ji λd=>(d.aR,d.ao)
def kL:Ty aj:=(Ty.pair (Ty.int .u64) (Ty.pair (Ty.int .i64) (Ty.int .u64))).ji λd=>(d.ae,d.cJ,d.c8)
def mR:Ty ar:=(Ty.pair (Ty.int .u64) (Ty.int .u64)).ji λd=>(d.bY,d.bc)
def yb:Ty cz:=(Ty.pair (Ty.slice mR) (Ty.int .u64)).ji λd=>(d.ao,d.bz)
def eP:Ty aw:=(Ty.pair (Ty.int .u64) (Ty.int .u64)).ji λd=>(d.cB,d.ae)
def lA:Ty an:=(Ty.pair (Ty.int .u64) (Ty.slice (Ty.int .u64))).ji λd=>(d.ae,d.a_)
def ja:Ty bh:=(Ty.pair (Ty.slice eP) (Ty.slice lA)).ji λd=>(d.aK,d.ay)
def tI:Ty bF:=(Ty.pair yc (Ty.pair (Ty.slice kL) (Ty.pair yb ja))).ji λd=>(d.aG,d.bj,d.aI,d.aA)
def Er:Ty dh:=(Ty.pair (Ty.int .u64) (mn .u64 4)).ji λd=>(d.dG,d.fArgs)
def Et:Ty cF:=(Ty.pair (Ty.int .i64) (Ty.int .u64)).ji λd=>(d.iO,d.iP)
def MG:Ty mf:=(Ty.pair (Ty.slice Ty.str) (Ty.int .u64)).ji λd=>(d.jN,d.vN)
def Lj:Ty Unit:= { agg:=false,n:=1,rep:=λ_ _ _ _=>False,tr:=λ_ h=>h,len:=λh=>h.elim,one:=λh=>h.elim,i_:=λ_=>rfl }
def x_ (t:Nat):(α:Type)×Ty α:=match t with
 |3=>⟨Int,(Ty.int .i64)⟩
 |4=>⟨Bool,Ty.bool⟩
 |5=>⟨Int,(Ty.int .u8)⟩
 |9=>⟨ByteArray,Ty.str⟩
 |21=>⟨Int,(Ty.int .i32)⟩
 |22=>⟨List Int,(mn .i64 16)⟩
 |23=>⟨List ah,(Ty.slice jG)⟩
 |25=>⟨b_,yc⟩
 |26=>⟨List aj,(Ty.slice kL)⟩
 |27=>⟨List ar,(Ty.slice mR)⟩
 |28=>⟨Int,(Ty.int .u64)⟩
 |30=>⟨cz,yb⟩
 |31=>⟨List aw,(Ty.slice eP)⟩
 |32=>⟨List an,(Ty.slice lA)⟩
 |34=>⟨bh,ja⟩
 |36=>⟨bF,tI⟩
 |40=>⟨Int,(Ty.int .i64)⟩
 |43=>⟨List Int,(mn .i64 5)⟩
 |46=>⟨List dh,(Ty.slice Er)⟩
 |48=>⟨List Int,(mn .u64 4)⟩
 |50=>⟨dh,Er⟩
 |51=>⟨List cF,(Ty.slice Et)⟩
 |53=>⟨cF,Et⟩
 |69=>⟨ah,jG⟩
 |71=>⟨ar,mR⟩
 |76=>⟨List Int,(Ty.slice (Ty.int .u64))⟩
 |82=>⟨an,lA⟩
 |89=>⟨aj,kL⟩
 |93=>⟨aw,eP⟩
 |147=>⟨List Int,(Ty.slice (Ty.int .i64))⟩
 |185=>⟨List ByteArray,(Ty.slice Ty.str)⟩
 |186=>⟨List ByteArray,(Ty.slice Ty.str)⟩
 |188=>⟨mf,MG⟩
 |_=>⟨Unit,Lj⟩
abbrev SS:bL:=⟨λt=>(x_ t).1,λt=>(x_ t).2⟩
def Mw (t:Nat):Option (At SS t):=match t with
 |23=>some ⟨69,id,id⟩
 |26=>some ⟨89,id,id⟩
 |27=>some ⟨71,id,id⟩
 |31=>some ⟨93,id,id⟩
 |32=>some ⟨82,id,id⟩
 |46=>some ⟨50,id,id⟩
 |51=>some ⟨53,id,id⟩
 |76=>some ⟨28,id,id⟩
 |147=>some ⟨3,id,id⟩
 |185=>some ⟨9,id,id⟩
 |186=>some ⟨9,id,id⟩
 |_=>none
def Mi (e:Nat):Option (zY SS e):=match e with
 |69=>some ⟨23,id⟩
 |89=>some ⟨26,id⟩
 |71=>some ⟨27,id⟩
 |93=>some ⟨31,id⟩
 |82=>some ⟨32,id⟩
 |50=>some ⟨46,id⟩
 |53=>some ⟨51,id⟩
 |28=>some ⟨76,id⟩
 |3=>some ⟨147,id⟩
 |9=>some ⟨185,id⟩
 |_=>none
def W6:(t:Nat)->SS.El t->aE SS:=λt=>match t with
 |3=>λx=> .one (.v (.int .i64 x))
 |4=>λx=> .one (.v (.bool x))
 |5=>λx=> .one (.v (.int .u8 x))
 |9=>λx=> .one (.v (.string x))
 |21=>λx=> .one (.v (.int .i32 x))
 |22=>λx=> .agg [.bR .i64 16 x]
 |23=>λx=> .one (.aP 23 x)
 |25=>λx=> .agg [.bR .i64 16 x.aR,.aP 23 x.ao]
 |26=>λx=> .one (.aP 26 x)
 |27=>λx=> .one (.aP 27 x)
 |28=>λx=> .one (.v (.int .u64 x))
 |30=>λx=> .agg [.aP 27 x.ao,.v (.int .u64 x.bz)]
 |31=>λx=> .one (.aP 31 x)
 |32=>λx=> .one (.aP 32 x)
 |34=>λx=> .agg [.aP 31 x.aK,.aP 32 x.ay]
 |36=>λx=> .agg [.bR .i64 16 x.aG.aR,.aP 23 x.aG.ao,.aP 26 x.bj,.aP 27 x.aI.ao,.v (.int .u64 x.aI.bz),.aP 31 x.aA.aK,.aP 32 x.aA.ay]
 |40=>λx=> .one (.v (.int .i64 x))
 |43=>λx=> .agg [.bR .i64 5 x]
 |46=>λx=> .one (.aP 46 x)
 |48=>λx=> .agg [.bR .u64 4 x]
 |50=>λx=> .agg [.v (.int .u64 x.dG),.bR .u64 4 x.fArgs]
 |51=>λx=> .one (.aP 51 x)
 |53=>λx=> .agg [.v (.int .i64 x.iO),.v (.int .u64 x.iP)]
 |69=>λx=> .agg [.v (.int .u64 x.ae),.v (.int .u64 x.bn),.v (.bool x.bW),.v (.int .u64 x.cP)]
 |71=>λx=> .agg [.v (.int .u64 x.bY),.v (.int .u64 x.bc)]
 |76=>λx=> .one (.aP 76 x)
 |82=>λx=> .agg [.v (.int .u64 x.ae),.aP 76 x.a_]
 |89=>λx=> .agg [.v (.int .u64 x.ae),.v (.int .i64 x.cJ),.v (.int .u64 x.c8)]
 |93=>λx=> .agg [.v (.int .u64 x.cB),.v (.int .u64 x.ae)]
 |147=>λx=> .one (.aP 147 x)
 |185=>λx=> .one (.aP 185 x)
 |186=>λx=> .one (.aP 185 x)
 |188=>λx=> .agg [.aP 185 x.jN,.v (.int .u64 x.vN)]
 |t=>λx=> .one (.aP t x)
theorem ak_:fZ (S:=SS) jG λx=>[.v (.int .u64 x.ae),.v (.int .u64 x.bn),.v (.bool x.bW),.v (.int .u64 x.cP)]:=lj (iY gA (iY gA (iY WZ gA)))
def D_:List (LV SS)->Option (ah×List (LV SS)):=jZ (rdPair (fW .u64) (rdPair (fW .u64) (rdPair D6 (fW .u64)))) (λ(a0,a1,a2,a3)=>⟨a0,a1,a2,a3⟩)
theorem L9:fJ (S:=SS) jG D_:=lq (iZ gB (iZ gB (iZ XH gB))) λ_=>rfl
theorem WY:fZ (S:=SS) yc λx=>[.bR .i64 16 x.aR,.aP 23 x.ao]:=lj (iY xF (iG (S:=SS) (t:=23) rfl))
def L3:List (LV SS)->Option (b_×List (LV SS)):=jZ (rdPair (l9 .i64 16) (gM (S:=SS) 23 (some ([]:List ah)))) (λ(a0,a1)=>⟨a0,a1⟩)
theorem XG:fJ (S:=SS) yc L3:=lq (iZ nZ (iI (S:=SS) (t:=23) λx hx O w=>by cases hx;exact iF O w)) λ_=>rfl
theorem ak6:fZ (S:=SS) kL λx=>[.v (.int .u64 x.ae),.v (.int .i64 x.cJ),.v (.int .u64 x.c8)]:=lj (iY gA (iY gA gA))
def D7:List (LV SS)->Option (aj×List (LV SS)):=jZ (rdPair (fW .u64) (rdPair (fW .i64) (fW .u64))) (λ(a0,a1,a2)=>⟨a0,a1,a2⟩)
theorem L6:fJ (S:=SS) kL D7:=lq (iZ gB (iZ gB gB)) λ_=>rfl
theorem ak7:fZ (S:=SS) mR λx=>[.v (.int .u64 x.bY),.v (.int .u64 x.bc)]:=lj (iY gA gA)
def D8:List (LV SS)->Option (ar×List (LV SS)):=jZ (rdPair (fW .u64) (fW .u64)) (λ(a0,a1)=>⟨a0,a1⟩)
theorem L7:fJ (S:=SS) mR D8:=lq (iZ gB gB) λ_=>rfl
theorem WX:fZ (S:=SS) yb λx=>[.aP 27 x.ao,.v (.int .u64 x.bz)]:=lj (iY (iG (S:=SS) (t:=27) rfl) gA)
def L2:List (LV SS)->Option (cz×List (LV SS)):=jZ (rdPair (gM (S:=SS) 27 (some ([]:List ar))) (fW .u64)) (λ(a0,a1)=>⟨a0,a1⟩)
theorem XF:fJ (S:=SS) yb L2:=lq (iZ (iI (S:=SS) (t:=27) λx hx O w=>by cases hx;exact iF O w) gB) λ_=>rfl
theorem ak8:fZ (S:=SS) eP λx=>[.v (.int .u64 x.cB),.v (.int .u64 x.ae)]:=lj (iY gA gA)
def D9:List (LV SS)->Option (aw×List (LV SS)):=jZ (rdPair (fW .u64) (fW .u64)) (λ(a0,a1)=>⟨a0,a1⟩)
theorem L8:fJ (S:=SS) eP D9:=lq (iZ gB gB) λ_=>rfl
theorem ak4:fZ (S:=SS) lA λx=>[.v (.int .u64 x.ae),.aP 76 x.a_]:=lj (iY gA (iG (S:=SS) (t:=76) rfl))
def XA:List (LV SS)->Option (an×List (LV SS)):=jZ (rdPair (fW .u64) (gM (S:=SS) 76 (some ([]:List Int)))) (λ(a0,a1)=>⟨a0,a1⟩)
theorem ane:fJ (S:=SS) lA XA:=lq (iZ gB (iI (S:=SS) (t:=76) λx hx O w=>by cases hx;exact iF O w)) λ_=>rfl
theorem WW:fZ (S:=SS) ja λx=>[.aP 31 x.aK,.aP 32 x.ay]:=lj (iY (iG (S:=SS) (t:=31) rfl) (iG (S:=SS) (t:=32) rfl))
def L1:List (LV SS)->Option (bh×List (LV SS)):=jZ (rdPair (gM (S:=SS) 31 (some ([]:List aw))) (gM (S:=SS) 32 (some ([]:List an)))) (λ(a0,a1)=>⟨a0,a1⟩)
theorem XE:fJ (S:=SS) ja L1:=lq (iZ (iI (S:=SS) (t:=31) λx hx O w=>by cases hx;exact iF O w) (iI (S:=SS) (t:=32) λx hx O w=>by cases hx;exact iF O w)) λ_=>rfl
theorem ala:fZ (S:=SS) tI λx=>[.bR .i64 16 x.aG.aR,.aP 23 x.aG.ao,.aP 26 x.bj,.aP 27 x.aI.ao,.v (.int .u64 x.aI.bz),.aP 31 x.aA.aK,.aP 32 x.aA.ay]:=lj (iY WY (iY (iG (S:=SS) (t:=26) rfl) (iY WX WW)))
def XD:List (LV SS)->Option (bF×List (LV SS)):=jZ (rdPair L3 (rdPair (gM (S:=SS) 26 (some ([]:List aj))) (rdPair L2 L1))) (λ(a0,a1,a2,a3)=>⟨a0,a1,a2,a3⟩)
theorem anh:fJ (S:=SS) tI XD:=lq (iZ XG (iZ (iI (S:=SS) (t:=26) λx hx O w=>by cases hx;exact iF O w) (iZ XF XE))) λ_=>rfl
theorem ak5:fZ (S:=SS) Er λx=>[.v (.int .u64 x.dG),.bR .u64 4 x.fArgs]:=lj (iY gA xF)
def XB:List (LV SS)->Option (dh×List (LV SS)):=jZ (rdPair (fW .u64) (l9 .u64 4)) (λ(a0,a1)=>⟨a0,a1⟩)
theorem anf:fJ (S:=SS) Er XB:=lq (iZ gB nZ) λ_=>rfl
theorem ak':fZ (S:=SS) Et λx=>[.v (.int .i64 x.iO),.v (.int .u64 x.iP)]:=lj (iY gA gA)
def Ea:List (LV SS)->Option (cF×List (LV SS)):=jZ (rdPair (fW .i64) (fW .u64)) (λ(a0,a1)=>⟨a0,a1⟩)
theorem L_:fJ (S:=SS) Et Ea:=lq (iZ gB gB) λ_=>rfl
theorem ak9:fZ (S:=SS) MG λx=>[.aP 185 x.jN,.v (.int .u64 x.vN)]:=lj (iY (iG (S:=SS) (t:=185) rfl) gA)
def XC:List (LV SS)->Option (mf×List (LV SS)):=jZ (rdPair (gM (S:=SS) 185 (some ([]:List ByteArray))) (fW .u64)) (λ(a0,a1)=>⟨a0,a1⟩)
theorem ang:fJ (S:=SS) MG XC:=lq (iZ (iI (S:=SS) (t:=185) λx hx O w=>by cases hx;exact iF O w) gB) λ_=>rfl
def Hg:(t:Nat)->List (LV SS)->Option (SS.El t):=λt=>match t with
 |3=>λr=>cS ((fW .i64) r)
 |4=>λr=>cS (D6 r)
 |5=>λr=>cS ((fW .u8) r)
 |9=>λr=>cS (L5 r)
 |21=>λr=>cS ((fW .i32) r)
 |22=>λr=>cS ((l9 .i64 16) r)
 |23=>λr=>cS ((gM (S:=SS) 23 (some ([]:List ah))) r)
 |25=>λr=>cS (L3 r)
 |26=>λr=>cS ((gM (S:=SS) 26 (some ([]:List aj))) r)
 |27=>λr=>cS ((gM (S:=SS) 27 (some ([]:List ar))) r)
 |28=>λr=>cS ((fW .u64) r)
 |30=>λr=>cS (L2 r)
 |31=>λr=>cS ((gM (S:=SS) 31 (some ([]:List aw))) r)
 |32=>λr=>cS ((gM (S:=SS) 32 (some ([]:List an))) r)
 |34=>λr=>cS (L1 r)
 |36=>λr=>cS (XD r)
 |40=>λr=>cS ((fW .i64) r)
 |43=>λr=>cS ((l9 .i64 5) r)
 |46=>λr=>cS ((gM (S:=SS) 46 (some ([]:List dh))) r)
 |48=>λr=>cS ((l9 .u64 4) r)
 |50=>λr=>cS (XB r)
 |51=>λr=>cS ((gM (S:=SS) 51 (some ([]:List cF))) r)
 |53=>λr=>cS (Ea r)
 |69=>λr=>cS (D_ r)
 |71=>λr=>cS (D8 r)
 |76=>λr=>cS ((gM (S:=SS) 76 (some ([]:List Int))) r)
 |82=>λr=>cS (XA r)
 |89=>λr=>cS (D7 r)
 |93=>λr=>cS (D9 r)
 |147=>λr=>cS ((gM (S:=SS) 147 (some ([]:List Int))) r)
 |185=>λr=>cS ((gM (S:=SS) 185 (some ([]:List ByteArray))) r)
 |186=>λr=>cS ((gM (S:=SS) 185 (some ([]:List ByteArray))) r)
 |188=>λr=>cS (XC r)
 |t=>λr=>none
theorem Sy (d:Nat) (w:World) (x y:cF):(Op.equalIn (d+2) 53 (.agg #[.int .i64 x.iO,.int .u64 x.iP]) (.agg #[.int .i64 y.iO,.int .u64 y.iP])).run Tryz.prog w= .ok (si x y) w:=by
 have hS:Tryz.prog.underlying 53=some (.struct (Tryz.prog.fieldsOf 53)):=by kernel_rfl
 have hp:Tryz.prog.stoodInHeld 53=false:=by kernel_rfl
 rw[show d+2=(d+1)+1 from rfl,run_equalIn_agg w _ 53 _ _ hS hp]
 simp only[Program.fieldsOf,Tryz.underlying53]
 unfold si
 go_simp
 by_cases h0:x.iO=y.iO<;>by_cases h1:x.iP=y.iP<;>simp_all
theorem aif {ox oy:Operand} {w:World} (x y:cF):(do eqGuard .eql 53 ox oy (.agg #[.int .i64 x.iO,.int .u64 x.iP]) (.agg #[.int .i64 y.iO,.int .u64 y.iP]);binOp .eql 53 (.agg #[.int .i64 x.iO,.int .u64 x.iP]) (.agg #[.int .i64 y.iO,.int .u64 y.iP]):Sem Value).run Tryz.prog w= .ok (.bool (si x y)) w:=by
 simp only[Sem.run_bind]
 rw[run_eqGuard_agg w .eql 53 ox oy _ _ (by kernel_rfl)]
 simp only[Result.andThen_ok]
 rw[run_eql_struct,show(10000:Nat)=9998+2 from rfl,Sy]
 rfl
theorem akM {ox oy:Operand} {w:World} (x y:cF):(do eqGuard .neq 53 ox oy (.agg #[.int .i64 x.iO,.int .u64 x.iP]) (.agg #[.int .i64 y.iO,.int .u64 y.iP]);binOp .neq 53 (.agg #[.int .i64 x.iO,.int .u64 x.iP]) (.agg #[.int .i64 y.iO,.int .u64 y.iP]):Sem Value).run Tryz.prog w= .ok (.bool (!si x y)) w:=by
 simp only[Sem.run_bind]
 rw[run_eqGuard_agg w .neq 53 ox oy _ _ (by kernel_rfl)]
 simp only[Result.andThen_ok]
 rw[run_neq_struct,show(10000:Nat)=9998+2 from rfl,Sy]
 rfl
theorem Sz (d:Nat) (w:World) (x y:ah):(Op.equalIn (d+2) 69 (.agg #[.int .u64 x.ae,.int .u64 x.bn,.bool x.bW,.int .u64 x.cP]) (.agg #[.int .u64 y.ae,.int .u64 y.bn,.bool y.bW,.int .u64 y.cP])).run Tryz.prog w= .ok (iN x y) w:=by
 have hS:Tryz.prog.underlying 69=some (.struct (Tryz.prog.fieldsOf 69)):=by kernel_rfl
 have hp:Tryz.prog.stoodInHeld 69=false:=by kernel_rfl
 rw[show d+2=(d+1)+1 from rfl,run_equalIn_agg w _ 69 _ _ hS hp]
 simp only[Program.fieldsOf,Tryz.underlying69]
 unfold iN
 go_simp
 by_cases h0:x.ae=y.ae<;>by_cases h1:x.bn=y.bn<;>by_cases h2:x.bW=y.bW<;>by_cases h3:x.cP=y.cP<;>simp_all
theorem aih {ox oy:Operand} {w:World} (x y:ah):(do eqGuard .eql 69 ox oy (.agg #[.int .u64 x.ae,.int .u64 x.bn,.bool x.bW,.int .u64 x.cP]) (.agg #[.int .u64 y.ae,.int .u64 y.bn,.bool y.bW,.int .u64 y.cP]);binOp .eql 69 (.agg #[.int .u64 x.ae,.int .u64 x.bn,.bool x.bW,.int .u64 x.cP]) (.agg #[.int .u64 y.ae,.int .u64 y.bn,.bool y.bW,.int .u64 y.cP]):Sem Value).run Tryz.prog w= .ok (.bool (iN x y)) w:=by
 simp only[Sem.run_bind]
 rw[run_eqGuard_agg w .eql 69 ox oy _ _ (by kernel_rfl)]
 simp only[Result.andThen_ok]
 rw[run_eql_struct,show(10000:Nat)=9998+2 from rfl,Sz]
 rfl
theorem akN {ox oy:Operand} {w:World} (x y:ah):(do eqGuard .neq 69 ox oy (.agg #[.int .u64 x.ae,.int .u64 x.bn,.bool x.bW,.int .u64 x.cP]) (.agg #[.int .u64 y.ae,.int .u64 y.bn,.bool y.bW,.int .u64 y.cP]);binOp .neq 69 (.agg #[.int .u64 x.ae,.int .u64 x.bn,.bool x.bW,.int .u64 x.cP]) (.agg #[.int .u64 y.ae,.int .u64 y.bn,.bool y.bW,.int .u64 y.cP]):Sem Value).run Tryz.prog w= .ok (.bool (!iN x y)) w:=by
 simp only[Sem.run_bind]
 rw[run_eqGuard_agg w .neq 69 ox oy _ _ (by kernel_rfl)]
 simp only[Result.andThen_ok]
 rw[run_neq_struct,show(10000:Nat)=9998+2 from rfl,Sz]
 rfl
theorem SB (d:Nat) (w:World) (x y:aj):(Op.equalIn (d+2) 89 (.agg #[.int .u64 x.ae,.int .i64 x.cJ,.int .u64 x.c8]) (.agg #[.int .u64 y.ae,.int .i64 y.cJ,.int .u64 y.c8])).run Tryz.prog w= .ok (kQ x y) w:=by
 have hS:Tryz.prog.underlying 89=some (.struct (Tryz.prog.fieldsOf 89)):=by kernel_rfl
 have hp:Tryz.prog.stoodInHeld 89=false:=by kernel_rfl
 rw[show d+2=(d+1)+1 from rfl,run_equalIn_agg w _ 89 _ _ hS hp]
 simp only[Program.fieldsOf,Tryz.underlying89]
 unfold kQ
 go_simp
 by_cases h0:x.ae=y.ae<;>by_cases h1:x.cJ=y.cJ<;>by_cases h2:x.c8=y.c8<;>simp_all
theorem aij {ox oy:Operand} {w:World} (x y:aj):(do eqGuard .eql 89 ox oy (.agg #[.int .u64 x.ae,.int .i64 x.cJ,.int .u64 x.c8]) (.agg #[.int .u64 y.ae,.int .i64 y.cJ,.int .u64 y.c8]);binOp .eql 89 (.agg #[.int .u64 x.ae,.int .i64 x.cJ,.int .u64 x.c8]) (.agg #[.int .u64 y.ae,.int .i64 y.cJ,.int .u64 y.c8]):Sem Value).run Tryz.prog w= .ok (.bool (kQ x y)) w:=by
 simp only[Sem.run_bind]
 rw[run_eqGuard_agg w .eql 89 ox oy _ _ (by kernel_rfl)]
 simp only[Result.andThen_ok]
 rw[run_eql_struct,show(10000:Nat)=9998+2 from rfl,SB]
 rfl
theorem akP {ox oy:Operand} {w:World} (x y:aj):(do eqGuard .neq 89 ox oy (.agg #[.int .u64 x.ae,.int .i64 x.cJ,.int .u64 x.c8]) (.agg #[.int .u64 y.ae,.int .i64 y.cJ,.int .u64 y.c8]);binOp .neq 89 (.agg #[.int .u64 x.ae,.int .i64 x.cJ,.int .u64 x.c8]) (.agg #[.int .u64 y.ae,.int .i64 y.cJ,.int .u64 y.c8]):Sem Value).run Tryz.prog w= .ok (.bool (!kQ x y)) w:=by
 simp only[Sem.run_bind]
 rw[run_eqGuard_agg w .neq 89 ox oy _ _ (by kernel_rfl)]
 simp only[Result.andThen_ok]
 rw[run_neq_struct,show(10000:Nat)=9998+2 from rfl,SB]
 rfl
theorem SA (d:Nat) (w:World) (x y:ar):(Op.equalIn (d+2) 71 (.agg #[.int .u64 x.bY,.int .u64 x.bc]) (.agg #[.int .u64 y.bY,.int .u64 y.bc])).run Tryz.prog w= .ok (lJ x y) w:=by
 have hS:Tryz.prog.underlying 71=some (.struct (Tryz.prog.fieldsOf 71)):=by kernel_rfl
 have hp:Tryz.prog.stoodInHeld 71=false:=by kernel_rfl
 rw[show d+2=(d+1)+1 from rfl,run_equalIn_agg w _ 71 _ _ hS hp]
 simp only[Program.fieldsOf,Tryz.underlying71]
 unfold lJ
 go_simp
 by_cases h0:x.bY=y.bY<;>by_cases h1:x.bc=y.bc<;>simp_all
theorem aii {ox oy:Operand} {w:World} (x y:ar):(do eqGuard .eql 71 ox oy (.agg #[.int .u64 x.bY,.int .u64 x.bc]) (.agg #[.int .u64 y.bY,.int .u64 y.bc]);binOp .eql 71 (.agg #[.int .u64 x.bY,.int .u64 x.bc]) (.agg #[.int .u64 y.bY,.int .u64 y.bc]):Sem Value).run Tryz.prog w= .ok (.bool (lJ x y)) w:=by
 simp only[Sem.run_bind]
 rw[run_eqGuard_agg w .eql 71 ox oy _ _ (by kernel_rfl)]
 simp only[Result.andThen_ok]
 rw[run_eql_struct,show(10000:Nat)=9998+2 from rfl,SA]
 rfl
theorem akO {ox oy:Operand} {w:World} (x y:ar):(do eqGuard .neq 71 ox oy (.agg #[.int .u64 x.bY,.int .u64 x.bc]) (.agg #[.int .u64 y.bY,.int .u64 y.bc]);binOp .neq 71 (.agg #[.int .u64 x.bY,.int .u64 x.bc]) (.agg #[.int .u64 y.bY,.int .u64 y.bc]):Sem Value).run Tryz.prog w= .ok (.bool (!lJ x y)) w:=by
 simp only[Sem.run_bind]
 rw[run_eqGuard_agg w .neq 71 ox oy _ _ (by kernel_rfl)]
 simp only[Result.andThen_ok]
 rw[run_neq_struct,show(10000:Nat)=9998+2 from rfl,SA]
 rfl
theorem SC (d:Nat) (w:World) (x y:aw):(Op.equalIn (d+2) 93 (.agg #[.int .u64 x.cB,.int .u64 x.ae]) (.agg #[.int .u64 y.cB,.int .u64 y.ae])).run Tryz.prog w= .ok (lK x y) w:=by
 have hS:Tryz.prog.underlying 93=some (.struct (Tryz.prog.fieldsOf 93)):=by kernel_rfl
 have hp:Tryz.prog.stoodInHeld 93=false:=by kernel_rfl
 rw[show d+2=(d+1)+1 from rfl,run_equalIn_agg w _ 93 _ _ hS hp]
 simp only[Program.fieldsOf,Tryz.underlying93]
 unfold lK
 go_simp
 by_cases h0:x.cB=y.cB<;>by_cases h1:x.ae=y.ae<;>simp_all
theorem aik {ox oy:Operand} {w:World} (x y:aw):(do eqGuard .eql 93 ox oy (.agg #[.int .u64 x.cB,.int .u64 x.ae]) (.agg #[.int .u64 y.cB,.int .u64 y.ae]);binOp .eql 93 (.agg #[.int .u64 x.cB,.int .u64 x.ae]) (.agg #[.int .u64 y.cB,.int .u64 y.ae]):Sem Value).run Tryz.prog w= .ok (.bool (lK x y)) w:=by
 simp only[Sem.run_bind]
 rw[run_eqGuard_agg w .eql 93 ox oy _ _ (by kernel_rfl)]
 simp only[Result.andThen_ok]
 rw[run_eql_struct,show(10000:Nat)=9998+2 from rfl,SC]
 rfl
theorem akQ {ox oy:Operand} {w:World} (x y:aw):(do eqGuard .neq 93 ox oy (.agg #[.int .u64 x.cB,.int .u64 x.ae]) (.agg #[.int .u64 y.cB,.int .u64 y.ae]);binOp .neq 93 (.agg #[.int .u64 x.cB,.int .u64 x.ae]) (.agg #[.int .u64 y.cB,.int .u64 y.ae]):Sem Value).run Tryz.prog w= .ok (.bool (!lK x y)) w:=by
 simp only[Sem.run_bind]
 rw[run_eqGuard_agg w .neq 93 ox oy _ _ (by kernel_rfl)]
 simp only[Result.andThen_ok]
 rw[run_neq_struct,show(10000:Nat)=9998+2 from rfl,SC]
 rfl
def Hy (t:Nat) (ls ms:List (LV SS)):Option Bool:=match t with
 |43=>(match cS ((l9 .i64 5) ls),cS ((l9 .i64 5) ms) with|some x,some y=>some (x==y)|_,_=>none)
 |53=>(match cS (Ea ls),cS (Ea ms) with|some x,some y=>some (si x y)|_,_=>none)
 |69=>(match cS (D_ ls),cS (D_ ms) with|some x,some y=>some (iN x y)|_,_=>none)
 |22=>(match cS ((l9 .i64 16) ls),cS ((l9 .i64 16) ms) with|some x,some y=>some (x==y)|_,_=>none)
 |89=>(match cS (D7 ls),cS (D7 ms) with|some x,some y=>some (kQ x y)|_,_=>none)
 |71=>(match cS (D8 ls),cS (D8 ms) with|some x,some y=>some (lJ x y)|_,_=>none)
 |93=>(match cS (D9 ls),cS (D9 ms) with|some x,some y=>some (lK x y)|_,_=>none)
 |_=>none
def Iw (g:Nat):Option ((t:Nat)×SS.El t):=match g with
 |0=>some ⟨69,Cf⟩
 |_=>none
def KK:bQ SS:=⟨Θ,Mw,Mi,W6,Hg,Iw,Hy⟩
theorem an2 {t:Nat} (h:t∉([3,4,5,9,21,22,23,25,26,27,28,30,31,32,34,36,40,43,46,48,50,51,53,69,71,76,82,89,93,147,185,186,188]:List Nat)):x_ t=⟨Unit,Lj⟩:=by
 unfold x_
 split<;>first|rfl|(exfalso;exact h (by decide))
theorem akU {t:Nat} (h:t∉([3,4,5,9,21,22,23,25,26,27,28,30,31,32,34,36,40,43,46,48,50,51,53,69,71,76,82,89,93,147,185,186,188]:List Nat)) {O:List Nat} {w:World} {cs:List Value} {x:SS.El t}: ¬(SS.ty t).rep O w cs x:=by
 have key: ∀(p:(α:Type)×Ty α) (_:p=⟨Unit,Lj⟩) (x:p.1),¬p.2.rep O w cs x:=by
  rintro _ rfl x hx;exact hx
 exact key (x_ t) (an2 h) x
theorem Wz {t:Nat} {p:Prop} (h:t∈([3,4,5,9,21,22,23,25,26,27,28,30,31,32,34,36,40,43,46,48,50,51,53,69,71,76,82,89,93,147,185,186,188]:List Nat)) (h3:t=3->p) (h4:t=4->p) (h5:t=5->p) (h9:t=9->p) (h21:t=21->p) (h22:t=22->p) (h23:t=23->p) (h25:t=25->p) (h26:t=26->p) (h27:t=27->p) (h28:t=28->p) (h30:t=30->p) (h31:t=31->p) (h32:t=32->p) (h34:t=34->p) (h36:t=36->p) (h40:t=40->p) (h43:t=43->p) (h46:t=46->p) (h48:t=48->p) (h50:t=50->p) (h51:t=51->p) (h53:t=53->p) (h69:t=69->p) (h71:t=71->p) (h76:t=76->p) (h82:t=82->p) (h89:t=89->p) (h93:t=93->p) (ai3:t=147->p) (ai4:t=185->p) (ai5:t=186->p) (ai6:t=188->p):p:=by
 simp only[List.mem_cons,List.not_mem_nil,or_false] at h
 rcases h with h|h|h|h|h|h|h|h|h|h|h|h|h|h|h|h|h|h|h|h|h|h|h|h|h|h|h|h|h|h|h|h|h
 ·exact h3 h
 ·exact h4 h
 ·exact h5 h
 ·exact h9 h
 ·exact h21 h
 ·exact h22 h
 ·exact h23 h
 ·exact h25 h
 ·exact h26 h
 ·exact h27 h
 ·exact h28 h
 ·exact h30 h
 ·exact h31 h
 ·exact h32 h
 ·exact h34 h
 ·exact h36 h
 ·exact h40 h
 ·exact h43 h
 ·exact h46 h
 ·exact h48 h
 ·exact h50 h
 ·exact h51 h
 ·exact h53 h
 ·exact h69 h
 ·exact h71 h
 ·exact h76 h
 ·exact h82 h
 ·exact h89 h
 ·exact h93 h
 ·exact ai3 h
 ·exact ai4 h
 ·exact ai5 h
 ·exact ai6 h
theorem alA (A:Pl) (O:List Nat) (w:World) (t:Nat) (x:SS.El t) (cs:List Value) (h:(SS.ty t).rep O w cs x):bT A O w (W6 t x).cells cs:=by
 by_cases hm:t∈([3,4,5,9,21,22,23,25,26,27,28,30,31,32,34,36,40,43,46,48,50,51,53,69,71,76,82,89,93,147,185,186,188]:List Nat)
 ·refine Wz hm ?_ ?_ ?_ ?_ ?_ ?_ ?_ ?_ ?_ ?_ ?_ ?_ ?_ ?_ ?_ ?_ ?_ ?_ ?_ ?_ ?_ ?_ ?_ ?_ ?_ ?_ ?_ ?_ ?_ ?_ ?_ ?_ ?_
  ·intro e;subst e;exact gA A O w x cs h
  ·intro e;subst e;exact WZ A O w x cs h
  ·intro e;subst e;exact gA A O w x cs h
  ·intro e;subst e;exact alg A O w x cs h
  ·intro e;subst e;exact gA A O w x cs h
  ·intro e;subst e;exact xF A O w x cs h
  ·intro e;subst e;exact(iG (S:=SS) (t:=23) rfl) A O w x cs h
  ·intro e;subst e;exact WY A O w x cs h
  ·intro e;subst e;exact(iG (S:=SS) (t:=26) rfl) A O w x cs h
  ·intro e;subst e;exact(iG (S:=SS) (t:=27) rfl) A O w x cs h
  ·intro e;subst e;exact gA A O w x cs h
  ·intro e;subst e;exact WX A O w x cs h
  ·intro e;subst e;exact(iG (S:=SS) (t:=31) rfl) A O w x cs h
  ·intro e;subst e;exact(iG (S:=SS) (t:=32) rfl) A O w x cs h
  ·intro e;subst e;exact WW A O w x cs h
  ·intro e;subst e;exact ala A O w x cs h
  ·intro e;subst e;exact gA A O w x cs h
  ·intro e;subst e;exact xF A O w x cs h
  ·intro e;subst e;exact(iG (S:=SS) (t:=46) rfl) A O w x cs h
  ·intro e;subst e;exact xF A O w x cs h
  ·intro e;subst e;exact ak5 A O w x cs h
  ·intro e;subst e;exact(iG (S:=SS) (t:=51) rfl) A O w x cs h
  ·intro e;subst e;exact ak' A O w x cs h
  ·intro e;subst e;exact ak_ A O w x cs h
  ·intro e;subst e;exact ak7 A O w x cs h
  ·intro e;subst e;exact(iG (S:=SS) (t:=76) rfl) A O w x cs h
  ·intro e;subst e;exact ak4 A O w x cs h
  ·intro e;subst e;exact ak6 A O w x cs h
  ·intro e;subst e;exact ak8 A O w x cs h
  ·intro e;subst e;exact(iG (S:=SS) (t:=147) rfl) A O w x cs h
  ·intro e;subst e;exact(iG (S:=SS) (t:=185) rfl) A O w x cs h
  ·intro e;subst e;exact(iG (S:=SS) (t:=185) rfl) A O w x cs h
  ·intro e;subst e;exact ak9 A O w x cs h
 ·exact absurd h (akU hm)
theorem adR (A:Pl) (O:List Nat) (w:World) (t:Nat) (ls:List (LV SS)) (x:SS.El t) (cs:List Value) (hc:Hg t ls=some x) (h:bT A O w ls cs):(SS.ty t).rep O w cs x:=by
 by_cases hm:t∈([3,4,5,9,21,22,23,25,26,27,28,30,31,32,34,36,40,43,46,48,50,51,53,69,71,76,82,89,93,147,185,186,188]:List Nat)
 ·refine Wz hm ?_ ?_ ?_ ?_ ?_ ?_ ?_ ?_ ?_ ?_ ?_ ?_ ?_ ?_ ?_ ?_ ?_ ?_ ?_ ?_ ?_ ?_ ?_ ?_ ?_ ?_ ?_ ?_ ?_ ?_ ?_ ?_ ?_
  ·intro e;subst e;exact cX (S:=SS) gB hc h
  ·intro e;subst e;exact cX (S:=SS) XH hc h
  ·intro e;subst e;exact cX (S:=SS) gB hc h
  ·intro e;subst e;exact cX (S:=SS) ani hc h
  ·intro e;subst e;exact cX (S:=SS) gB hc h
  ·intro e;subst e;exact cX (S:=SS) nZ hc h
  ·intro e;subst e;exact cX (S:=SS) (iI (S:=SS) (t:=23) λx hx O w=>by cases hx;exact iF O w) hc h
  ·intro e;subst e;exact cX (S:=SS) XG hc h
  ·intro e;subst e;exact cX (S:=SS) (iI (S:=SS) (t:=26) λx hx O w=>by cases hx;exact iF O w) hc h
  ·intro e;subst e;exact cX (S:=SS) (iI (S:=SS) (t:=27) λx hx O w=>by cases hx;exact iF O w) hc h
  ·intro e;subst e;exact cX (S:=SS) gB hc h
  ·intro e;subst e;exact cX (S:=SS) XF hc h
  ·intro e;subst e;exact cX (S:=SS) (iI (S:=SS) (t:=31) λx hx O w=>by cases hx;exact iF O w) hc h
  ·intro e;subst e;exact cX (S:=SS) (iI (S:=SS) (t:=32) λx hx O w=>by cases hx;exact iF O w) hc h
  ·intro e;subst e;exact cX (S:=SS) XE hc h
  ·intro e;subst e;exact cX (S:=SS) anh hc h
  ·intro e;subst e;exact cX (S:=SS) gB hc h
  ·intro e;subst e;exact cX (S:=SS) nZ hc h
  ·intro e;subst e;exact cX (S:=SS) (iI (S:=SS) (t:=46) λx hx O w=>by cases hx;exact iF O w) hc h
  ·intro e;subst e;exact cX (S:=SS) nZ hc h
  ·intro e;subst e;exact cX (S:=SS) anf hc h
  ·intro e;subst e;exact cX (S:=SS) (iI (S:=SS) (t:=51) λx hx O w=>by cases hx;exact iF O w) hc h
  ·intro e;subst e;exact cX (S:=SS) L_ hc h
  ·intro e;subst e;exact cX (S:=SS) L9 hc h
  ·intro e;subst e;exact cX (S:=SS) L7 hc h
  ·intro e;subst e;exact cX (S:=SS) (iI (S:=SS) (t:=76) λx hx O w=>by cases hx;exact iF O w) hc h
  ·intro e;subst e;exact cX (S:=SS) ane hc h
  ·intro e;subst e;exact cX (S:=SS) L6 hc h
  ·intro e;subst e;exact cX (S:=SS) L8 hc h
  ·intro e;subst e;exact cX (S:=SS) (iI (S:=SS) (t:=147) λx hx O w=>by cases hx;exact iF O w) hc h
  ·intro e;subst e;exact cX (S:=SS) (iI (S:=SS) (t:=185) λx hx O w=>by cases hx;exact iF O w) hc h
  ·intro e;subst e;exact cX (S:=SS) (iI (S:=SS) (t:=185) λx hx O w=>by cases hx;exact iF O w) hc h
  ·intro e;subst e;exact cX (S:=SS) ang hc h
 ·unfold Hg at hc
  split at hc<;>first|cases hc|(exfalso;exact hm (by decide))
theorem anZ (t:Nat) (I:At SS t) (h:Mw t=some I):(SS.ty t).agg=false/\(∀(O:List Nat) (w:World) (v:Value) (x:SS.El t),(SS.ty t).is O w v x->(SS.ty I.e).slice.is O w v (I.to x))/\ ∀(O:List Nat) (w:World) (v:Value) (xs:List (SS.El I.e)),(SS.ty I.e).slice.is O w v xs->(SS.ty t).is O w v (I.of xs):=by
 unfold Mw at h
 split at h<;>first|(cases h;exact⟨rfl,λ_ _ _ _ h=>h,λ_ _ _ _ h=>h⟩)|cases h
theorem anr (e:Nat) (I:zY SS e) (h:Mi e=some I):(SS.ty I.t).agg=false/\ ∀(O:List Nat) (w:World) (v:Value) (xs:List (SS.El e)),(SS.ty e).slice.is O w v xs->(SS.ty I.t).is O w v (I.of xs):=by
 unfold Mi at h
 split at h<;>first|(cases h;exact⟨rfl,λ_ _ _ _ h=>h⟩)|cases h
theorem aio (A:Pl) (O:List Nat) (w:World) (t:Nat) (ls ms:List (LV SS)) (b:Bool) (xs ys:List Value) (ox oy:Operand) (h:Hy t ls ms=some b) (hx:bT A O w ls xs) (hy:bT A O w ms ys):
  (do eqGuard .eql t ox oy (.agg xs.toArray) (.agg ys.toArray);binOp .eql t (.agg xs.toArray) (.agg ys.toArray):Sem Value).run Tryz.prog w= .ok (.bool b) w/\
  (do eqGuard .neq t ox oy (.agg xs.toArray) (.agg ys.toArray);binOp .neq t (.agg xs.toArray) (.agg ys.toArray):Sem Value).run Tryz.prog w= .ok (.bool (!b)) w:=by
 unfold Hy at h
 split at h
 ·split at h
  ·rename_i x y h1 h2
   cases h
   have q1:=cX (S:=SS) nZ h1 hx
   have q2:=cX (S:=SS) nZ h2 hy
   obtain⟨l1,rfl⟩:=q1
   obtain⟨l2,rfl⟩:=q2
   exact Yb w 43 3 5 .i64 .i64 Tryz.underlying43 Tryz.underlying3 (λw=>by go_simp) (by kernel_rfl) x y l1 l2 ox oy
  ·cases h
 ·split at h
  ·rename_i x y h1 h2
   cases h
   have q1:=cX (S:=SS) L_ h1 hx
   have q2:=cX (S:=SS) L_ h2 hy
   obtain⟨_,_,rfl,rfl,rfl⟩:=q1
   obtain⟨_,_,rfl,rfl,rfl⟩:=q2
   exact⟨aif x y,akM x y⟩
  ·cases h
 ·split at h
  ·rename_i x y h1 h2
   cases h
   have q1:=cX (S:=SS) L9 h1 hx
   have q2:=cX (S:=SS) L9 h2 hy
   obtain⟨_,_,rfl,rfl,⟨_,_,rfl,rfl,⟨_,_,rfl,rfl,rfl⟩⟩⟩:=q1
   obtain⟨_,_,rfl,rfl,⟨_,_,rfl,rfl,⟨_,_,rfl,rfl,rfl⟩⟩⟩:=q2
   exact⟨aih x y,akN x y⟩
  ·cases h
 ·split at h
  ·rename_i x y h1 h2
   cases h
   have q1:=cX (S:=SS) nZ h1 hx
   have q2:=cX (S:=SS) nZ h2 hy
   obtain⟨l1,rfl⟩:=q1
   obtain⟨l2,rfl⟩:=q2
   exact Yb w 22 3 16 .i64 .i64 Tryz.underlying22 Tryz.underlying3 (λw=>by go_simp) (by kernel_rfl) x y l1 l2 ox oy
  ·cases h
 ·split at h
  ·rename_i x y h1 h2
   cases h
   have q1:=cX (S:=SS) L6 h1 hx
   have q2:=cX (S:=SS) L6 h2 hy
   obtain⟨_,_,rfl,rfl,⟨_,_,rfl,rfl,rfl⟩⟩:=q1
   obtain⟨_,_,rfl,rfl,⟨_,_,rfl,rfl,rfl⟩⟩:=q2
   exact⟨aij x y,akP x y⟩
  ·cases h
 ·split at h
  ·rename_i x y h1 h2
   cases h
   have q1:=cX (S:=SS) L7 h1 hx
   have q2:=cX (S:=SS) L7 h2 hy
   obtain⟨_,_,rfl,rfl,rfl⟩:=q1
   obtain⟨_,_,rfl,rfl,rfl⟩:=q2
   exact⟨aii x y,akO x y⟩
  ·cases h
 ·split at h
  ·rename_i x y h1 h2
   cases h
   have q1:=cX (S:=SS) L8 h1 hx
   have q2:=cX (S:=SS) L8 h2 hy
   obtain⟨_,_,rfl,rfl,rfl⟩:=q1
   obtain⟨_,_,rfl,rfl,rfl⟩:=q2
   exact⟨aik x y,akQ x y⟩
  ·cases h
 ·cases h
theorem er:cI KK Tryz.prog:=⟨ai,anZ,anr,alA,adR,aio⟩
theorem bg:zU Tryz.prog:=by
 have h:Tryz.prog.funcs.toList.all (λfn=>fn.name != "runtime.NumGoroutine" ||fn.body.isNone)=true:=by kernel_rfl
 intro f fn hf hb
 rw[List.all_eq_true] at h
 have:=h fn (by rw[Array.mem_toList_iff];exact Array.mem_of_getElem? hf)
 cases T4:fn.body with
 |none=>rw[T4] at hb;cases hb
 |some c=>rw[T4] at this;simpa using this
def ax (f k:Nat):List Nat:=match f with
 |3=>(match k with|1000000=>[4]|_=>[])
 |4=>(match k with|10=>[1,2,5,6,7,8,37,38,39]|1000000=>[4]|1000001=>[1,2,6,7,8]|1000002=>[1,2,5,6,7,8,37,38,39]|_=>[])
 |5=>(match k with|8=>[5,23,24,25]|1000000=>[4]|1000001=>[]|1000002=>[5,23,24,25]|_=>[])
 |6=>(match k with|9=>[1,5,6,7,38,39,40]|14=>[1,5,6,7,50,51,52]|19=>[5,6,7,60,61,62]|1000000=>[4]|1000001=>[1,5,6,7]|1000002=>[1,5,6,7,38,39,40]|1000003=>[1,5,6,7]|1000004=>[1,5,6,7,50,51,52]|1000005=>[]|1000006=>[5,6,7,60,61,62]|1000007=>[5,6,7,60,61,62]|_=>[])
 |7=>(match k with|1000000=>[6]|1000001=>[4,7,8,9,10,11,14]|_=>[])
 |8=>(match k with|1000000=>[0]|_=>[])
 |9=>(match k with|8=>[1,2,3,59,60,61]|1000000=>[2]|1000001=>[1,2,3]|1000002=>[1,2,3,59,60,61]|_=>[])
 |10=>(match k with|5=>[1,32,33,34]|11=>[1,53,54,55]|17=>[1,67,68,69]|1000000=>[2]|1000001=>[1]|1000002=>[1,32,33,34]|1000003=>[1]|1000004=>[1,53,54,55]|1000005=>[]|1000006=>[1,67,68,69]|_=>[])
 |11=>(match k with|6=>[1,3,4,37,38,39]|12=>[1,3,4,52,53,54]|1000000=>[2]|1000001=>[1,3,4]|1000002=>[1,3,4,37,38,39]|1000003=>[1,3,4]|1000004=>[1,3,4,52,53,54]|_=>[])
 |12=>(match k with|1000000=>[4]|_=>[])
 |13=>(match k with|1000000=>[4]|_=>[])
 |14=>(match k with|4=>[1,2,3,8,9,10]|1000000=>[2]|1000001=>[1,2,3]|1000002=>[1,2,3,8,9,10]|_=>[])
 |15=>(match k with|6=>[1,2,3,12,13,14]|1000000=>[2]|1000001=>[1,2,3]|1000002=>[1,2,3,12,13,14]|_=>[])
 |16=>(match k with|1000000=>[0]|_=>[])
 |17=>(match k with|1000000=>[0]|_=>[])
 |18=>(match k with|1000000=>[2]|_=>[])
 |19=>(match k with|1000000=>[4,5,6]|_=>[])
 |20=>(match k with|1000000=>[4,5]|1000001=>[2,3,4,5]|_=>[])
 |21=>(match k with|1000000=>[4]|_=>[])
 |22=>(match k with|1000000=>[2]|_=>[])
 |23=>(match k with|1000000=>[2]|_=>[])
 |24=>(match k with|3=>[1,12,13]|8=>[1,29,30]|13=>[1,46,47]|18=>[1,64,65]|23=>[81,82,83]|26=>[7,81,82,83,89,90]|1000001=>[1]|1000002=>[1,12,13]|1000003=>[1]|1000004=>[1,29,30]|1000005=>[1]|1000006=>[1,46,47]|1000007=>[1]|1000008=>[1,64,65]|1000009=>[]|1000010=>[81,82,83]|1000011=>[81,82,83]|1000012=>[7,81,82,83,89,90]|_=>[])
 |25=>(match k with|1000000=>[4,5,6]|_=>[])
 |26=>(match k with|5=>[0,1,12,13]|1000000=>[4]|1000001=>[]|1000002=>[0,1,12,13]|_=>[])
 |27=>(match k with|1000000=>[4]|_=>[])
 |28=>(match k with|1000000=>[4]|_=>[])
 |29=>(match k with|1000000=>[4,5]|_=>[])
 |30=>(match k with|1000000=>[4,5,6]|_=>[])
 |31=>(match k with|1000000=>[4]|1000001=>[5]|1000002=>[5]|2000008=>[5,12]|_=>[])
 |32=>(match k with|1000000=>[4]|_=>[])
 |33=>(match k with|1000000=>[3]|_=>[])
 |34=>(match k with|1000000=>[2]|_=>[])
 |35=>(match k with|1000000=>[2]|_=>[])
 |36=>(match k with|1000000=>[2]|_=>[])
 |37=>(match k with|1000000=>[2]|_=>[])
 |38=>(match k with|1000000=>[2]|_=>[])
 |39=>(match k with|1000000=>[2]|_=>[])
 |40=>(match k with|3=>[1,8,9]|9=>[1,20,21,22]|1000000=>[2]|1000001=>[1]|1000002=>[1,8,9]|1000003=>[1]|1000004=>[1,20,21,22]|_=>[])
 |41=>(match k with|3=>[0,5,6,7]|1000000=>[2]|1000001=>[0]|1000002=>[0,5,6,7]|_=>[])
 |42=>(match k with|3=>[1,8,9,10]|8=>[1,4,8,9,10,50,51,52]|1000000=>[2]|1000001=>[1]|1000002=>[1,8,9,10]|1000003=>[1,8,9,10]|1000004=>[1,4,8,9,10,50,51,52]|_=>[])
 |43=>(match k with|3=>[1,8,9,10]|9=>[1,43,44,45]|1000000=>[2]|1000001=>[1]|1000002=>[1,8,9,10]|1000003=>[1]|1000004=>[1,43,44,45]|_=>[])
 |44=>(match k with|1000000=>[4]|_=>[])
 |45=>(match k with|3=>[1,9,10,11]|1000000=>[4]|1000001=>[]|1000002=>[1,9,10,11]|_=>[])
 |46=>(match k with|1000000=>[2]|1000001=>[2]|1000002=>[1,2,4]|2000011=>[1,2,4,33]|_=>[])
 |47=>(match k with|5=>[0,8,9,10]|1000000=>[2]|1000001=>[]|1000002=>[0,8,9,10]|_=>[])
 |48=>(match k with|4=>[1,3,7,8,9]|1000000=>[2]|1000001=>[1]|1000002=>[1,3,7,8,9]|_=>[])
 |49=>(match k with|5=>[1,12,13,14]|11=>[1,47,48,49]|1000000=>[2]|1000001=>[1]|1000002=>[1,12,13,14]|1000003=>[]|1000004=>[1,47,48,49]|_=>[])
 |50=>(match k with|4=>[1,5,8,9,10]|1000000=>[4]|1000001=>[5]|1000002=>[1,5,8,9,10]|_=>[])
 |51=>(match k with|1000000=>[4]|_=>[])
 |52=>(match k with|4=>[1,5,8,9,10]|1000000=>[4]|1000001=>[5]|1000002=>[1,5,8,9,10]|_=>[])
 |53=>(match k with|1000000=>[3]|_=>[])
 |54=>(match k with|4=>[1,5,8,9,10]|1000000=>[4]|1000001=>[5]|1000002=>[1,5,8,9,10]|_=>[])
 |55=>(match k with|1000000=>[3]|_=>[])
 |56=>(match k with|1000000=>[4]|_=>[])
 |57=>(match k with|5=>[0,1,12,13]|1000000=>[4]|1000001=>[]|1000002=>[0,1,12,13]|_=>[])
 |58=>(match k with|1000000=>[4]|_=>[])
 |59=>(match k with|1000000=>[4]|_=>[])
 |60=>(match k with|5=>[3,22,23,24]|1000000=>[4]|1000001=>[]|1000002=>[3,22,23,24]|_=>[])
 |61=>(match k with|5=>[1,12,13,14]|1000000=>[4]|1000001=>[]|1000002=>[1,12,13,14]|_=>[])
 |62=>(match k with|5=>[3,22,23,24]|1000000=>[4]|1000001=>[]|1000002=>[3,22,23,24]|_=>[])
 |63=>(match k with|5=>[2,3,26,27,28]|11=>[3,42,43,44]|1000000=>[4]|1000001=>[2,3]|1000002=>[2,3,26,27,28]|1000003=>[]|1000004=>[3,42,43,44]|_=>[])
 |64=>(match k with|1000000=>[0]|_=>[])
 |65=>(match k with|1000000=>[0]|_=>[])
 |66=>(match k with|1000000=>[0]|_=>[])
 |67=>(match k with|1000000=>[4,5]|_=>[])
 |68=>(match k with|6=>[1,2,31,32,33]|1000000=>[2]|1000001=>[1,2]|1000002=>[1,2,31,32,33]|_=>[])
 |69=>(match k with|1000000=>[4,5,6]|1000001=>[2,3,4]|_=>[])
 |70=>(match k with|1000000=>[2]|_=>[])
 |71=>(match k with|1000000=>[4]|_=>[])
 |72=>(match k with|1000000=>[4,5]|_=>[])
 |73=>(match k with|4=>[1,5,8,9,10]|1000000=>[4]|1000001=>[5]|1000002=>[1,5,8,9,10]|_=>[])
 |74=>(match k with|1000000=>[3]|_=>[])
 |75=>(match k with|1000000=>[4,5,6]|1000001=>[1,7]|_=>[])
 |77=>(match k with|1000000=>[4]|_=>[])
 |78=>(match k with|3=>[0,1,7,8]|1000000=>[4]|1000001=>[]|1000002=>[0,1,7,8]|_=>[])
 |79=>(match k with|8=>[0,5,14,15]|1000000=>[2,3]|1000001=>[5]|1000002=>[0,5,14,15]|_=>[])
 |80=>(match k with|1000000=>[4]|_=>[])
 |81=>(match k with|1000000=>[2]|_=>[])
 |82=>(match k with|1000000=>[2]|_=>[])
 |83=>(match k with|1000000=>[4]|_=>[])
 |84=>(match k with|1000000=>[2]|_=>[])
 |85=>(match k with|4=>[3,4,12,13]|1000000=>[2]|1000001=>[3,4]|1000002=>[3,4,12,13]|_=>[])
 |86=>(match k with|1000000=>[2]|_=>[])
 |87=>(match k with|1000000=>[4]|_=>[])
 |88=>(match k with|1000000=>[3]|_=>[])
 |89=>(match k with|1000000=>[4]|1000001=>[4]|1000002=>[3,4]|2000005=>[3,4,8]|_=>[])
 |90=>(match k with|1000000=>[2]|_=>[])
 |91=>(match k with|1000000=>[4]|_=>[])
 |92=>(match k with|1000000=>[2]|_=>[])
 |93=>(match k with|1000000=>[2]|_=>[])
 |94=>(match k with|1000000=>[2]|_=>[])
 |95=>(match k with|1000000=>[4]|_=>[])
 |96=>(match k with|1000000=>[2]|_=>[])
 |97=>(match k with|4=>[3,8,9,10]|1000000=>[2]|1000001=>[3]|1000002=>[3,8,9,10]|_=>[])
 |98=>(match k with|5=>[5,20]|1000000=>[2]|1000001=>[5]|1000002=>[5,20]|_=>[])
 |99=>(match k with|1000000=>[2]|_=>[])
 |100=>(match k with|5=>[0,1,12,13]|1000000=>[4]|1000001=>[]|1000002=>[0,1,12,13]|_=>[])
 |101=>(match k with|5=>[0,1,12,13]|1000000=>[4]|1000001=>[]|1000002=>[0,1,12,13]|_=>[])
 |102=>(match k with|5=>[0,1,12,13]|1000000=>[4]|1000001=>[]|1000002=>[0,1,12,13]|_=>[])
 |103=>(match k with|5=>[1,2,15,16,17]|1000000=>[6]|1000001=>[]|1000002=>[1,2,15,16,17]|_=>[])
 |104=>(match k with|1000000=>[4]|_=>[])
 |105=>(match k with|5=>[0,1,12,13]|1000000=>[4]|1000001=>[]|1000002=>[0,1,12,13]|_=>[])
 |106=>(match k with|5=>[1,12,13,14]|1000000=>[4]|1000001=>[]|1000002=>[1,12,13,14]|_=>[])
 |109=>(match k with|1000000=>[2]|_=>[])
 |110=>(match k with|1000000=>[0]|_=>[])
 |111=>(match k with|1000000=>[4,5,6]|1000001=>[2,3,4,7]|_=>[])
 |112=>(match k with|1000000=>[4,5,6]|_=>[])
 |113=>(match k with|1000000=>[4,5,6]|1000001=>[2,4,7]|_=>[])
 |114=>(match k with|1000000=>[4,5,6]|1000001=>[2,4,8]|_=>[])
 |115=>(match k with|1000000=>[4,5,6]|_=>[])
 |116=>(match k with|1000000=>[4]|1000001=>[2]|1000002=>[2]|2000005=>[2,6]|_=>[])
 |117=>(match k with|2=>[0,2,8,9,10]|1000001=>[]|1000002=>[0,2,8,9,10]|_=>[])
 |118=>(match k with|7=>[5,20,21,22]|1000000=>[2,3]|1000001=>[5]|1000002=>[5,20,21,22]|_=>[])
 |119=>(match k with|1000000=>[4]|_=>[])
 |120=>(match k with|6=>[0,1,5,6]|1000000=>[4]|1000001=>[0,5]|1000002=>[0,1,5,6]|_=>[])
 |121=>(match k with|1000000=>[2]|_=>[])
 |122=>(match k with|2=>[0,2,7,8,9]|1000001=>[]|1000002=>[0,2,7,8,9]|_=>[])
 |123=>(match k with|3=>[0,4]|1000000=>[2,3]|1000001=>[4]|1000002=>[0,4]|_=>[])
 |124=>(match k with|6=>[0,3,10,11,12]|1000000=>[2]|1000001=>[0,3]|1000002=>[0,3,10,11,12]|_=>[])
 |125=>(match k with|3=>[1,4,8,9,10]|1000000=>[4,5]|1000001=>[4]|1000002=>[1,4,8,9,10]|_=>[])
 |126=>(match k with|3=>[0,1,7,8]|1000000=>[4]|1000001=>[]|1000002=>[0,1,7,8]|_=>[])
 |127=>(match k with|2=>[0,1,9,10]|1000001=>[]|1000002=>[0,1,9,10]|_=>[])
 |128=>(match k with|4=>[3,6,7,8]|1000000=>[2]|1000001=>[3]|1000002=>[3,6,7,8]|_=>[])
 |129=>(match k with|1000000=>[4]|_=>[])
 |130=>(match k with|1000000=>[4]|_=>[])
 |131=>(match k with|1000000=>[2,3]|1000001=>[0,2,6,7]|1000002=>[0,2,4,6,7]|2000010=>[0,2,4,6,7,26]|_=>[])
 |132=>(match k with|4=>[0,4,5]|1000000=>[2,3]|1000001=>[0,4]|1000002=>[0,4,5]|_=>[])
 |133=>(match k with|1000000=>[2]|_=>[])
 |134=>(match k with|1000000=>[2]|_=>[])
 |135=>(match k with|1000000=>[2]|_=>[])
 |136=>(match k with|1000000=>[2]|_=>[])
 |137=>(match k with|1000000=>[2]|_=>[])
 |138=>(match k with|1000000=>[2]|_=>[])
 |139=>(match k with|1000000=>[2]|_=>[])
 |140=>(match k with|1000000=>[2]|_=>[])
 |141=>(match k with|1000000=>[2]|_=>[])
 |142=>(match k with|1000000=>[2]|_=>[])
 |143=>(match k with|1000000=>[2]|_=>[])
 |144=>(match k with|1000000=>[2]|_=>[])
 |145=>(match k with|1000000=>[2]|_=>[])
 |146=>(match k with|1000000=>[2]|_=>[])
 |147=>(match k with|5=>[1,2,4,15]|1000000=>[4,5,6]|1000001=>[4]|1000002=>[1,2,4,15]|_=>[])
 |148=>(match k with|11=>[2,3,6,9,11,41,42,43]|1000000=>[6,7,8]|1000001=>[3,6,9,11]|1000002=>[2,3,6,9,11,41,42,43]|_=>[])
 |149=>(match k with|8=>[1,2,3,6,8,21,22,23]|1000000=>[6,7]|1000001=>[3,6,8]|1000002=>[1,2,3,6,8,21,22,23]|1000003=>[1,2,3,6,8,21,22,23]|_=>[])
 |150=>(match k with|4=>[1,5,9,10,11]|1000000=>[4]|1000001=>[5]|1000002=>[1,5,9,10,11]|_=>[])
 |151=>(match k with|4=>[1,5,8,9,10]|1000000=>[4]|1000001=>[5]|1000002=>[1,5,8,9,10]|_=>[])
 |152=>(match k with|4=>[1,2,3,6,7,16,17,18]|12=>[1,6,7,45,46,47]|1000000=>[6]|1000001=>[1,2,3,6,7]|1000002=>[1,2,3,6,7,16,17,18]|1000003=>[6,7]|1000004=>[1,6,7,45,46,47]|_=>[])
 |153=>(match k with|4=>[1,5,6,10,11,12]|1000000=>[4]|1000001=>[5]|1000002=>[1,5,6,10,11,12]|_=>[])
 |154=>(match k with|5=>[0,1,2,9]|12=>[0,9,10,11,36,37,38]|19=>[9,10,11,54,55,56]|1000000=>[6,7,8]|1000001=>[0,1,2,9]|1000002=>[0,1,2,9]|1000003=>[0,9,10,11]|1000004=>[0,9,10,11,36,37,38]|1000005=>[9,11]|1000006=>[9,10,11,54,55,56]|_=>[])
 |155=>(match k with|3=>[1,2,9,10,11]|1000000=>[6]|1000001=>[]|1000002=>[1,2,9,10,11]|_=>[])
 |156=>(match k with|1000000=>[2]|_=>[])
 |157=>(match k with|3=>[0,1,11,12,13]|1000000=>[6,7]|1000001=>[0]|1000002=>[0,1,11,12,13]|_=>[])
 |158=>(match k with|1000000=>[6,7,8]|_=>[])
 |159=>(match k with|1000000=>[4,5,6]|_=>[])
 |160=>(match k with|8=>[1,4,6,24,25,26]|1000000=>[4,5]|1000001=>[4,6]|1000002=>[1,4,6,24,25,26]|_=>[])
 |161=>(match k with|4=>[1,5,8,9,10]|1000000=>[4]|1000001=>[5]|1000002=>[1,5,8,9,10]|_=>[])
 |162=>(match k with|3=>[1,8,9,10]|1000000=>[4]|1000001=>[]|1000002=>[1,8,9,10]|_=>[])
 |163=>(match k with|3=>[1,9,10,11]|1000000=>[4,5]|1000001=>[]|1000002=>[1,9,10,11]|_=>[])
 |164=>(match k with|13=>[1,2,3,6,10,40,41,42]|20=>[1,6,10,66,67,68]|1000000=>[6,7]|1000001=>[1,2,3,6,10]|1000002=>[1,2,3,6,10,40,41,42]|1000003=>[6,10]|1000004=>[1,6,10,66,67,68]|_=>[])
 |165=>(match k with|9=>[1,4,8,28,29,30]|1000000=>[4,5]|1000001=>[4,8]|1000002=>[1,4,8,28,29,30]|_=>[])
 |166=>(match k with|3=>[1,8,9,10]|1000000=>[4]|1000001=>[]|1000002=>[1,8,9,10]|_=>[])
 |167=>(match k with|1000000=>[6,7]|_=>[])
 |168=>(match k with|1000000=>[2]|_=>[])
 |169=>(match k with|1000000=>[6]|_=>[])
 |170=>(match k with|4=>[0,3,6,7]|1000000=>[2]|1000001=>[3]|1000002=>[0,3,6,7]|_=>[])
 |171=>(match k with|3=>[0,5,6]|1000000=>[2]|1000001=>[0]|1000002=>[0,5,6]|_=>[])
 |172=>(match k with|1000000=>[2]|_=>[])
 |173=>(match k with|1000000=>[2]|_=>[])
 |174=>(match k with|1000000=>[2]|_=>[])
 |175=>(match k with|3=>[0,6]|1000000=>[2]|1000001=>[0]|1000002=>[0,6]|_=>[])
 |176=>(match k with|1000000=>[2,3]|_=>[])
 |177=>(match k with|1000000=>[4,5,6]|_=>[])
 |178=>(match k with|1000000=>[4]|_=>[])
 |179=>(match k with|1000000=>[6,7]|_=>[])
 |180=>(match k with|1000000=>[4]|_=>[])
 |181=>(match k with|1000000=>[6,7,8]|_=>[])
 |182=>(match k with|1000000=>[4]|_=>[])
 |183=>(match k with|10=>[10,11,28,29,30]|1000000=>[4,5]|1000001=>[11]|1000002=>[10,11,28,29,30]|_=>[])
 |184=>(match k with|1000000=>[6,7,8]|1000001=>[0,1,2]|1000002=>[0,1,2,9]|1000003=>[9]|2000010=>[0,1,2,9,25]|_=>[])
 |185=>(match k with|1000000=>[4]|_=>[])
 |186=>(match k with|8=>[1,9,10,23,24,25]|1000000=>[6,7]|1000001=>[9,10]|1000002=>[1,9,10,23,24,25]|_=>[])
 |187=>(match k with|1000000=>[2]|_=>[])
 |188=>(match k with|1000000=>[6,7,8]|1000001=>[0,1,2]|_=>[])
 |189=>(match k with|1000000=>[4,5,6]|1000001=>[1,2,4]|_=>[])
 |190=>(match k with|1000000=>[4]|_=>[])
 |191=>(match k with|1000000=>[4,5]|_=>[])
 |192=>(match k with|1000000=>[4]|_=>[])
 |193=>(match k with|1000000=>[4,5]|1000001=>[2,3,4,5]|1000002=>[4,5]|2000010=>[2,3,4,5,28]|_=>[])
 |194=>(match k with|1000000=>[6,7]|1000001=>[1,2,6,8]|1000002=>[1,2,6,8,10]|_=>[])
 |195=>(match k with|1000000=>[4,5]|1000001=>[1,4,6]|_=>[])
 |196=>(match k with|1000000=>[4,5]|1000001=>[1,2]|_=>[])
 |197=>(match k with|1000000=>[6,7]|_=>[])
 |198=>(match k with|1000000=>[4,5,6]|_=>[])
 |199=>(match k with|3=>[1,7,8,9]|1000000=>[4]|1000001=>[]|1000002=>[1,7,8,9]|_=>[])
 |200=>(match k with|4=>[0,3,5,10,11,12]|11=>[3,5,32,33,34]|1000000=>[4]|1000001=>[0,3,5]|1000002=>[0,3,5,10,11,12]|1000003=>[5]|1000004=>[3,5,32,33,34]|_=>[])
 |201=>(match k with|6=>[6,21,22,23]|1000000=>[4]|1000001=>[]|1000002=>[6,21,22,23]|_=>[])
 |202=>(match k with|1000000=>[2]|_=>[])
 |203=>(match k with|4=>[1,5,9,10,11]|1000000=>[4]|1000001=>[5]|1000002=>[1,5,9,10,11]|_=>[])
 |204=>(match k with|4=>[0,1,2,8,9,10]|1000000=>[6,7]|1000001=>[0,1,2,8,9]|1000002=>[0,1,2,8,9,10]|_=>[])
 |205=>(match k with|1000000=>[5]|_=>[])
 |208=>(match k with|1=>[0,1]|1000001=>[]|1000002=>[0,1]|_=>[])
 |209=>(match k with|1000000=>[4]|_=>[])
 |210=>(match k with|1000000=>[4]|_=>[])
 |211=>(match k with|1000000=>[2]|_=>[])
 |212=>(match k with|13=>[0,1,5,39,40,41]|23=>[1,8,63,64,65]|1000000=>[4]|1000001=>[0,1]|1000002=>[0,1,5]|1000003=>[0,1,5,39,40,41]|1000004=>[8]|1000005=>[1,8,63,64,65]|_=>[])
 |213=>(match k with|1000000=>[4]|_=>[])
 |214=>(match k with|1000000=>[4,5]|_=>[])
 |216=>(match k with|1000000=>[4]|_=>[])
 |217=>(match k with|3=>[0,3]|1000000=>[2]|1000001=>[3]|1000002=>[0,3]|_=>[])
 |219=>(match k with|1000001=>[]|1000002=>[1]|2000009=>[1,40]|_=>[])
 |221=>(match k with|4=>[1,5,8,9,10]|1000000=>[4]|1000001=>[5]|1000002=>[1,5,8,9,10]|_=>[])
 |222=>(match k with|1000000=>[4]|_=>[])
 |224=>(match k with|1000000=>[3]|_=>[])
 |225=>(match k with|1000000=>[4]|_=>[])
 |226=>(match k with|7=>[4,6,7]|1000000=>[2,3]|1000001=>[6]|1000002=>[4,6,7]|_=>[])
 |227=>(match k with|1000000=>[3]|_=>[])
 |228=>(match k with|1000000=>[4]|_=>[])
 |229=>(match k with|3=>[0,1,7,8]|1000000=>[4]|1000001=>[]|1000002=>[0,1,7,8]|_=>[])
 |230=>(match k with|4=>[0,2,4,8,9,10]|1000000=>[6,7]|1000001=>[0,2,4,8,9]|1000002=>[0,2,4,8,9,10]|_=>[])
 |231=>(match k with|1000000=>[6]|_=>[])
 |232=>(match k with|1000000=>[6,7]|1000001=>[6,7]|1000002=>[5,6,7]|2000007=>[5,6,7,14]|_=>[])
 |233=>(match k with|1000000=>[3]|_=>[])
 |234=>(match k with|1000000=>[3]|_=>[])
 |235=>(match k with|1000000=>[4]|_=>[])
 |236=>(match k with|4=>[1,5,8,9,10]|1000000=>[4]|1000001=>[5]|1000002=>[1,5,8,9,10]|_=>[])
 |237=>(match k with|1000000=>[3]|_=>[])
 |238=>(match k with|1000000=>[6,7]|_=>[])
 |239=>(match k with|1000000=>[2]|_=>[])
 |240=>(match k with|1000000=>[6]|_=>[])
 |241=>(match k with|1000000=>[6]|_=>[])
 |242=>(match k with|1000000=>[2]|_=>[])
 |244=>(match k with|1000000=>[4]|_=>[])
 |245=>(match k with|1000000=>[4]|_=>[])
 |247=>(match k with|1000000=>[4,5]|_=>[])
 |248=>(match k with|1000000=>[2]|_=>[])
 |249=>(match k with|1000000=>[4]|_=>[])
 |250=>(match k with|1000000=>[3]|_=>[])
 |252=>(match k with|1000000=>[4]|_=>[])
 |253=>(match k with|1000000=>[3]|_=>[])
 |254=>(match k with|3=>[0,1,7,8]|1000000=>[4]|1000001=>[]|1000002=>[0,1,7,8]|_=>[])
 |255=>(match k with|1000000=>[3]|_=>[])
 |256=>(match k with|1000000=>[6]|_=>[])
 |257=>(match k with|2=>[0,2,6,7,8]|1000001=>[]|1000002=>[0,2,6,7,8]|_=>[])
 |260=>(match k with|2=>[0,2,7,8,9]|1000001=>[]|1000002=>[0,2,7,8,9]|_=>[])
 |261=>(match k with|1000000=>[4]|_=>[])
 |262=>(match k with|4=>[0,1,2,8,9,10]|1000000=>[6,7]|1000001=>[0,1,2,8,9]|1000002=>[0,1,2,8,9,10]|_=>[])
 |263=>(match k with|1000000=>[5]|_=>[])
 |266=>(match k with|2=>[0,2,3]|1000001=>[]|1000002=>[0,2,3]|_=>[])
 |270=>(match k with|3=>[0,1,7,8]|1000000=>[4]|1000001=>[]|1000002=>[0,1,7,8]|_=>[])
 |274=>(match k with|1000000=>[4]|_=>[])
 |279=>(match k with|2=>[0,2,3]|1000001=>[]|1000002=>[0,2,3]|_=>[])
 |280=>(match k with|5=>[0,1,12,13]|1000000=>[4]|1000001=>[]|1000002=>[0,1,12,13]|_=>[])
 |281=>(match k with|2=>[0,2,3]|1000001=>[]|1000002=>[0,2,3]|_=>[])
 |282=>(match k with|2=>[0,2,3]|1000001=>[]|1000002=>[0,2,3]|_=>[])
 |_=>[]
noncomputable def G0:az SS:=⟨KK,[],[],[],yd Tryz.prog ax⟩
theorem aby:ab G0 Tryz.prog:=⟨er,⟨λf cn h=>by cases h⟩,(λf hc h=>by cases h),(λg dc h=>by cases h),mixed,bg⟩
end Go.Proofs.YtdhaaaeffhaadaaGreatDoor
end
section
namespace Go.Proofs.YtdhaaaeffhaadaaGreatDoor
open Go.RowKit Go.Dc Go.Vx
set_option maxRecDepth 100000 in
set_option maxHeartbeats 4000000 in
theorem adJ {O:List Nat} {w:World} (hO:OB O w) {v0:Value} {x0:List ah} (h0:(Ty.slice jG).is O w v0 x0) {r:List ah} (h:app 32 [] x0=some r):Calls Tryz.prog 35 #[v0] w (gE jG 69 w.heap.size O w (.slice none 0 0) r):=by
 have hF:=Fr.refl [] w
 have iQ:=hO
 have hS:=Dc.Sub.refl O
 have hB:=Nat.le_refl w.heap.size
 refine im (args:=[v0]) (N:=8) Tryz.func35 rfl rfl rfl ?_
 refine aL ?_
 refine aT (l:=[0]) rfl ?_
 refine aD ai [0] [(0,v0)] rfl ⟨rfl,trivial⟩ ?_
 refine aQ ?_
 refine aM ?_
 refine aL ?_
 refine aL ?_
 refine aT (l:=[0,1]) rfl ?_
 refine aD ai [0] [(0,v0),(3,v0)] rfl ⟨rfl,rfl,trivial⟩ ?_
 obtain⟨A2,c3,rfl,wR,wT⟩:=fm h0
 refine aD ai [1] [(0,(.slice A2 x0.length c3)),(4,(.bool A2.isNone))] rfl ⟨rfl,rfl,trivial⟩ ?_
 refine aQ ?_
 refine aM ?_
 rcases A2 with _|m4
 ·obtain rfl:=pL h0
  simp[app] at h
  subst h
  refine mS rfl ?_
  refine aL ?_
  refine aT (l:=[0]) rfl ?_
  refine aD ai [0] [(2,(.slice none 0 0))] rfl ⟨rfl,trivial⟩ ?_
  refine aQ ?_
  refine aM ?_
  refine dJ ?_
  exact gm (eI rfl (mw Own.kH hS hF iQ hB))
 refine lC rfl ?_
 refine eY ?_
 refine aM ?_
 refine aL ?_
 refine aT (l:=[0,1,2,3]) rfl ?_
 refine tM ai rfl rfl rfl rfl rfl rfl rfl rfl rfl rfl (T:=jG) (xs:=([]:List ah)) (vs:=[]) rfl trivial rfl rfl rfl hO (λb4 w5 q6=>?_)
 obtain⟨_,hJ,_⟩:=q6.new
 have h7:=q6.own hF.size
 have h0:=h0.tr hJ.tr
 have hO:=hJ.ob
 have hF:=hF.trans hJ.fr
 have hS:=Sub.cons hS b4
 generalize (Value.slice (some ⟨b4,0,none⟩) 0 0)=v8 at*
 refine aD ai [1] [(5,v8),(6,(.slice (some m4) x0.length c3))] rfl ⟨rfl,rfl,trivial⟩ ?_
 refine tK ai rfl rfl rfl rfl rfl rfl rfl rfl rfl rfl rfl rfl rfl rfl hF hO h7 h0 h (λv11 Ey zV fy=>?_)
 have hF:=fy.cD h7 hF
 have hS:=Sub.trans hS fy.sub
 have hO:=fy.ob
 have nk:=fy.own
 refine aD ai [3] [(2,v11)] rfl ⟨rfl,trivial⟩ ?_
 refine aQ ?_
 refine aM ?_
 refine dJ ?_
 exact eI rfl (mw nk hS hF iQ hB)
def Hb:jd SS:=qW KK 35 69 (λxs=>app 32 [] xs)
theorem adK {R:Type} (xs:List (aE SS)) (h:AH SS) (k:Rs SS->AH SS->List Nat->Option R) (z:R) (hz:(Hb).out xs h k=some z): ∃r h' dt,k r h' dt=some z/\gR KK Tryz.prog 35 xs h r h' dt:=
 xy (e:=69) (cl:=λxs=>app 32 [] xs) er (dW bg Tryz.func35 rfl) (λ_ _ _ _ _ _ h=>h) (λO w v xs zs hO hv hz=>adJ hO hv hz) xs h k z hz
set_option maxRecDepth 100000 in
set_option maxHeartbeats 4000000 in
theorem adL {O:List Nat} {w:World} (hO:OB O w) {v0:Value} {x0:List aj} (h0:(Ty.slice kL).is O w v0 x0) {r:List aj} (h:app 24 [] x0=some r):Calls Tryz.prog 36 #[v0] w (gE kL 89 w.heap.size O w (.slice none 0 0) r):=by
 have hF:=Fr.refl [] w
 have iQ:=hO
 have hS:=Dc.Sub.refl O
 have hB:=Nat.le_refl w.heap.size
 refine im (args:=[v0]) (N:=8) Tryz.func36 rfl rfl rfl ?_
 refine aL ?_
 refine aT (l:=[0]) rfl ?_
 refine aD ai [0] [(0,v0)] rfl ⟨rfl,trivial⟩ ?_
 refine aQ ?_
 refine aM ?_
 refine aL ?_
 refine aL ?_
 refine aT (l:=[0,1]) rfl ?_
 refine aD ai [0] [(0,v0),(3,v0)] rfl ⟨rfl,rfl,trivial⟩ ?_
 obtain⟨A2,c3,rfl,wR,wT⟩:=fm h0
 refine aD ai [1] [(0,(.slice A2 x0.length c3)),(4,(.bool A2.isNone))] rfl ⟨rfl,rfl,trivial⟩ ?_
 refine aQ ?_
 refine aM ?_
 rcases A2 with _|m4
 ·obtain rfl:=pL h0
  simp[app] at h
  subst h
  refine mS rfl ?_
  refine aL ?_
  refine aT (l:=[0]) rfl ?_
  refine aD ai [0] [(2,(.slice none 0 0))] rfl ⟨rfl,trivial⟩ ?_
  refine aQ ?_
  refine aM ?_
  refine dJ ?_
  exact gm (eI rfl (mw Own.kH hS hF iQ hB))
 refine lC rfl ?_
 refine eY ?_
 refine aM ?_
 refine aL ?_
 refine aT (l:=[0,1,2,3]) rfl ?_
 refine tM ai rfl rfl rfl rfl rfl rfl rfl rfl rfl rfl (T:=kL) (xs:=([]:List aj)) (vs:=[]) rfl trivial rfl rfl rfl hO (λb4 w5 q6=>?_)
 obtain⟨_,hJ,_⟩:=q6.new
 have h7:=q6.own hF.size
 have h0:=h0.tr hJ.tr
 have hO:=hJ.ob
 have hF:=hF.trans hJ.fr
 have hS:=Sub.cons hS b4
 generalize (Value.slice (some ⟨b4,0,none⟩) 0 0)=v8 at*
 refine aD ai [1] [(5,v8),(6,(.slice (some m4) x0.length c3))] rfl ⟨rfl,rfl,trivial⟩ ?_
 refine tK ai rfl rfl rfl rfl rfl rfl rfl rfl rfl rfl rfl rfl rfl rfl hF hO h7 h0 h (λv11 Ey zV fy=>?_)
 have hF:=fy.cD h7 hF
 have hS:=Sub.trans hS fy.sub
 have hO:=fy.ob
 have nk:=fy.own
 refine aD ai [3] [(2,v11)] rfl ⟨rfl,trivial⟩ ?_
 refine aQ ?_
 refine aM ?_
 refine dJ ?_
 exact eI rfl (mw nk hS hF iQ hB)
def Hc:jd SS:=qW KK 36 89 (λxs=>app 24 [] xs)
theorem adM {R:Type} (xs:List (aE SS)) (h:AH SS) (k:Rs SS->AH SS->List Nat->Option R) (z:R) (hz:(Hc).out xs h k=some z): ∃r h' dt,k r h' dt=some z/\gR KK Tryz.prog 36 xs h r h' dt:=
 xy (e:=89) (cl:=λxs=>app 24 [] xs) er (dW bg Tryz.func36 rfl) (λ_ _ _ _ _ _ h=>h) (λO w v xs zs hO hv hz=>adL hO hv hz) xs h k z hz
set_option maxRecDepth 100000 in
set_option maxHeartbeats 4000000 in
theorem adN {O:List Nat} {w:World} (hO:OB O w) {v0:Value} {x0:List ar} (h0:(Ty.slice mR).is O w v0 x0) {r:List ar} (h:app 16 [] x0=some r):Calls Tryz.prog 37 #[v0] w (gE mR 71 w.heap.size O w (.slice none 0 0) r):=by
 have hF:=Fr.refl [] w
 have iQ:=hO
 have hS:=Dc.Sub.refl O
 have hB:=Nat.le_refl w.heap.size
 refine im (args:=[v0]) (N:=8) Tryz.func37 rfl rfl rfl ?_
 refine aL ?_
 refine aT (l:=[0]) rfl ?_
 refine aD ai [0] [(0,v0)] rfl ⟨rfl,trivial⟩ ?_
 refine aQ ?_
 refine aM ?_
 refine aL ?_
 refine aL ?_
 refine aT (l:=[0,1]) rfl ?_
 refine aD ai [0] [(0,v0),(3,v0)] rfl ⟨rfl,rfl,trivial⟩ ?_
 obtain⟨A2,c3,rfl,wR,wT⟩:=fm h0
 refine aD ai [1] [(0,(.slice A2 x0.length c3)),(4,(.bool A2.isNone))] rfl ⟨rfl,rfl,trivial⟩ ?_
 refine aQ ?_
 refine aM ?_
 rcases A2 with _|m4
 ·obtain rfl:=pL h0
  simp[app] at h
  subst h
  refine mS rfl ?_
  refine aL ?_
  refine aT (l:=[0]) rfl ?_
  refine aD ai [0] [(2,(.slice none 0 0))] rfl ⟨rfl,trivial⟩ ?_
  refine aQ ?_
  refine aM ?_
  refine dJ ?_
  exact gm (eI rfl (mw Own.kH hS hF iQ hB))
 refine lC rfl ?_
 refine eY ?_
 refine aM ?_
 refine aL ?_
 refine aT (l:=[0,1,2,3]) rfl ?_
 refine tM ai rfl rfl rfl rfl rfl rfl rfl rfl rfl rfl (T:=mR) (xs:=([]:List ar)) (vs:=[]) rfl trivial rfl rfl rfl hO (λb4 w5 q6=>?_)
 obtain⟨_,hJ,_⟩:=q6.new
 have h7:=q6.own hF.size
 have h0:=h0.tr hJ.tr
 have hO:=hJ.ob
 have hF:=hF.trans hJ.fr
 have hS:=Sub.cons hS b4
 generalize (Value.slice (some ⟨b4,0,none⟩) 0 0)=v8 at*
 refine aD ai [1] [(5,v8),(6,(.slice (some m4) x0.length c3))] rfl ⟨rfl,rfl,trivial⟩ ?_
 refine tK ai rfl rfl rfl rfl rfl rfl rfl rfl rfl rfl rfl rfl rfl rfl hF hO h7 h0 h (λv11 Ey zV fy=>?_)
 have hF:=fy.cD h7 hF
 have hS:=Sub.trans hS fy.sub
 have hO:=fy.ob
 have nk:=fy.own
 refine aD ai [3] [(2,v11)] rfl ⟨rfl,trivial⟩ ?_
 refine aQ ?_
 refine aM ?_
 refine dJ ?_
 exact eI rfl (mw nk hS hF iQ hB)
def Hd:jd SS:=qW KK 37 71 (λxs=>app 16 [] xs)
theorem adO {R:Type} (xs:List (aE SS)) (h:AH SS) (k:Rs SS->AH SS->List Nat->Option R) (z:R) (hz:(Hd).out xs h k=some z): ∃r h' dt,k r h' dt=some z/\gR KK Tryz.prog 37 xs h r h' dt:=
 xy (e:=71) (cl:=λxs=>app 16 [] xs) er (dW bg Tryz.func37 rfl) (λ_ _ _ _ _ _ h=>h) (λO w v xs zs hO hv hz=>adN hO hv hz) xs h k z hz
set_option maxRecDepth 100000 in
set_option maxHeartbeats 4000000 in
theorem R_ {O:List Nat} {w:World} (hO:OB O w) {v0:Value} {x0:List aw} (h0:(Ty.slice eP).is O w v0 x0) {r:List aw} (h:app 16 [] x0=some r):Calls Tryz.prog 38 #[v0] w (gE eP 93 w.heap.size O w (.slice none 0 0) r):=by
 have hF:=Fr.refl [] w
 have iQ:=hO
 have hS:=Dc.Sub.refl O
 have hB:=Nat.le_refl w.heap.size
 refine im (args:=[v0]) (N:=8) Tryz.func38 rfl rfl rfl ?_
 refine aL ?_
 refine aT (l:=[0]) rfl ?_
 refine aD ai [0] [(0,v0)] rfl ⟨rfl,trivial⟩ ?_
 refine aQ ?_
 refine aM ?_
 refine aL ?_
 refine aL ?_
 refine aT (l:=[0,1]) rfl ?_
 refine aD ai [0] [(0,v0),(3,v0)] rfl ⟨rfl,rfl,trivial⟩ ?_
 obtain⟨A2,c3,rfl,wR,wT⟩:=fm h0
 refine aD ai [1] [(0,(.slice A2 x0.length c3)),(4,(.bool A2.isNone))] rfl ⟨rfl,rfl,trivial⟩ ?_
 refine aQ ?_
 refine aM ?_
 rcases A2 with _|m4
 ·obtain rfl:=pL h0
  simp[app] at h
  subst h
  refine mS rfl ?_
  refine aL ?_
  refine aT (l:=[0]) rfl ?_
  refine aD ai [0] [(2,(.slice none 0 0))] rfl ⟨rfl,trivial⟩ ?_
  refine aQ ?_
  refine aM ?_
  refine dJ ?_
  exact gm (eI rfl (mw Own.kH hS hF iQ hB))
 refine lC rfl ?_
 refine eY ?_
 refine aM ?_
 refine aL ?_
 refine aT (l:=[0,1,2,3]) rfl ?_
 refine tM ai rfl rfl rfl rfl rfl rfl rfl rfl rfl rfl (T:=eP) (xs:=([]:List aw)) (vs:=[]) rfl trivial rfl rfl rfl hO (λb4 w5 q6=>?_)
 obtain⟨_,hJ,_⟩:=q6.new
 have h7:=q6.own hF.size
 have h0:=h0.tr hJ.tr
 have hO:=hJ.ob
 have hF:=hF.trans hJ.fr
 have hS:=Sub.cons hS b4
 generalize (Value.slice (some ⟨b4,0,none⟩) 0 0)=v8 at*
 refine aD ai [1] [(5,v8),(6,(.slice (some m4) x0.length c3))] rfl ⟨rfl,rfl,trivial⟩ ?_
 refine tK ai rfl rfl rfl rfl rfl rfl rfl rfl rfl rfl rfl rfl rfl rfl hF hO h7 h0 h (λv11 Ey zV fy=>?_)
 have hF:=fy.cD h7 hF
 have hS:=Sub.trans hS fy.sub
 have hO:=fy.ob
 have nk:=fy.own
 refine aD ai [3] [(2,v11)] rfl ⟨rfl,trivial⟩ ?_
 refine aQ ?_
 refine aM ?_
 refine dJ ?_
 exact eI rfl (mw nk hS hF iQ hB)
def He:jd SS:=qW KK 38 93 (λxs=>app 16 [] xs)
theorem adP {R:Type} (xs:List (aE SS)) (h:AH SS) (k:Rs SS->AH SS->List Nat->Option R) (z:R) (hz:(He).out xs h k=some z): ∃r h' dt,k r h' dt=some z/\gR KK Tryz.prog 38 xs h r h' dt:=
 xy (e:=93) (cl:=λxs=>app 16 [] xs) er (dW bg Tryz.func38 rfl) (λ_ _ _ _ _ _ h=>h) (λO w v xs zs hO hv hz=>R_ hO hv hz) xs h k z hz
set_option maxRecDepth 100000 in
set_option maxHeartbeats 4000000 in
theorem R' {O:List Nat} {w:World} (hO:OB O w) {v0:Value} {x0:List Int} (h0:(Ty.slice (Ty.int .u64)).is O w v0 x0) {r:List Int} (h:app 8 [] x0=some r):Calls Tryz.prog 39 #[v0] w (gE (Ty.int .u64) 28 w.heap.size O w (.slice none 0 0) r):=by
 have hF:=Fr.refl [] w
 have iQ:=hO
 have hS:=Dc.Sub.refl O
 have hB:=Nat.le_refl w.heap.size
 refine im (args:=[v0]) (N:=8) Tryz.func39 rfl rfl rfl ?_
 refine aL ?_
 refine aT (l:=[0]) rfl ?_
 refine aD ai [0] [(0,v0)] rfl ⟨rfl,trivial⟩ ?_
 refine aQ ?_
 refine aM ?_
 refine aL ?_
 refine aL ?_
 refine aT (l:=[0,1]) rfl ?_
 refine aD ai [0] [(0,v0),(3,v0)] rfl ⟨rfl,rfl,trivial⟩ ?_
 obtain⟨A2,c3,rfl,wR,wT⟩:=fm h0
 refine aD ai [1] [(0,(.slice A2 x0.length c3)),(4,(.bool A2.isNone))] rfl ⟨rfl,rfl,trivial⟩ ?_
 refine aQ ?_
 refine aM ?_
 rcases A2 with _|m4
 ·obtain rfl:=pL h0
  simp[app] at h
  subst h
  refine mS rfl ?_
  refine aL ?_
  refine aT (l:=[0]) rfl ?_
  refine aD ai [0] [(2,(.slice none 0 0))] rfl ⟨rfl,trivial⟩ ?_
  refine aQ ?_
  refine aM ?_
  refine dJ ?_
  exact gm (eI rfl (mw Own.kH hS hF iQ hB))
 refine lC rfl ?_
 refine eY ?_
 refine aM ?_
 refine aL ?_
 refine aT (l:=[0,1,2,3]) rfl ?_
 refine tM ai rfl rfl rfl rfl rfl rfl rfl rfl rfl rfl (T:=(Ty.int .u64)) (xs:=([]:List Int)) (vs:=[]) rfl trivial rfl rfl rfl hO (λb4 w5 q6=>?_)
 obtain⟨_,hJ,_⟩:=q6.new
 have h7:=q6.own hF.size
 have h0:=h0.tr hJ.tr
 have hO:=hJ.ob
 have hF:=hF.trans hJ.fr
 have hS:=Sub.cons hS b4
 generalize (Value.slice (some ⟨b4,0,none⟩) 0 0)=v8 at*
 refine aD ai [1] [(5,v8),(6,(.slice (some m4) x0.length c3))] rfl ⟨rfl,rfl,trivial⟩ ?_
 refine tK ai rfl rfl rfl rfl rfl rfl rfl rfl rfl rfl rfl rfl rfl rfl hF hO h7 h0 h (λv11 Ey zV fy=>?_)
 have hF:=fy.cD h7 hF
 have hS:=Sub.trans hS fy.sub
 have hO:=fy.ob
 have nk:=fy.own
 refine aD ai [3] [(2,v11)] rfl ⟨rfl,trivial⟩ ?_
 refine aQ ?_
 refine aM ?_
 refine dJ ?_
 exact eI rfl (mw nk hS hF iQ hB)
def Hf:jd SS:=qW KK 39 28 (λxs=>app 8 [] xs)
theorem adQ {R:Type} (xs:List (aE SS)) (h:AH SS) (k:Rs SS->AH SS->List Nat->Option R) (z:R) (hz:(Hf).out xs h k=some z): ∃r h' dt,k r h' dt=some z/\gR KK Tryz.prog 39 xs h r h' dt:=
 xy (e:=28) (cl:=λxs=>app 8 [] xs) er (dW bg Tryz.func39 rfl) (λ_ _ _ _ _ _ h=>h) (λO w v xs zs hO hv hz=>R' hO hv hz) xs h k z hz
set_option maxRecDepth 100000
noncomputable def ET:az SS:= { G0 with H:=Hb::G0.H }
theorem abu:ab ET Tryz.prog:=ab.nA (c:=Hb) aby adK
noncomputable def EU:az SS:= { ET with H:=Hc::ET.H }
theorem abv:ab EU Tryz.prog:=ab.nA (c:=Hc) abu adM
noncomputable def EV:az SS:= { EU with H:=Hd::EU.H }
theorem abw:ab EV Tryz.prog:=ab.nA (c:=Hd) abv adO
noncomputable def EW:az SS:= { EV with H:=He::EV.H }
theorem abx:ab EW Tryz.prog:=ab.nA (c:=He) abw adP
noncomputable def G1:az SS:= { EW with H:=Hf::EW.H }
theorem abz:ab G1 Tryz.prog:=ab.nA (c:=Hf) abx adQ
end Go.Proofs.YtdhaaaeffhaadaaGreatDoor
end
section
namespace Go.Proofs.YtdhaaaeffhaadaaGreatDoor
open Go.RowKit Go.Dc Go.Vx
set_option maxRecDepth 100000 in
set_option maxHeartbeats 4000000 in
theorem akf {w:World} (s:ByteArray) (c:Int):Calls Tryz.prog 245 #[.string s,.int .u8 c] w (λe w'=>e= .returned (.int .i64 (Lib.indexByte s.data.toList c.toNat.toUInt8))/\Fr [] w w'):=by
 have hF:=Fr.refl [] w
 refine im (args:=[.string s,.int .u8 c]) (N:=8) Tryz.func245 rfl rfl rfl ?_
 refine aL ?_
 refine aT (l:=[0]) rfl ?_
 refine aD ai [0] [(0,.string s),(1,.int .u8 c)] rfl ⟨rfl,rfl,trivial⟩ ?_
 refine aQ ?_
 refine aM ?_
 refine aL ?_
 refine aT (l:=[0,1,2,3]) rfl ?_
 refine aD ai [0,1] [(5,.string s),(6,.int .u8 c)] rfl ⟨rfl,rfl,trivial⟩ ?_
 have gu:(callFunc 267 #[.string s,.int .u8 c]).run Tryz.prog w= .ok (.value (.int .i64 (Lib.indexByte s.data.toList c.toNat.toUInt8))) w:=by
  rw[run_callFunc_extern Tryz.func267 rfl rfl rfl rfl,Lib.run_indexByteString];rfl
 refine fv rfl rfl rfl rfl (by intro c h;cases h) (λa hA=>?_) (v:= .int .i64 (Lib.indexByte s.data.toList c.toNat.toUInt8)) (w':=w) (d:=7) ?_
 ·have h1:=hA.get 5 _ rfl
  have h2:=hA.get 6 _ rfl
  simp only[execOp,Sem.run_bind,resolve,Act.eval,Deferred.ofValue,Sem.run_pure,Result.andThen_ok,invoke]
  simpa[Act.eval,h1,h2] using gu
 refine aD ai [3] [(4,.int .i64 (Lib.indexByte s.data.toList c.toNat.toUInt8))] rfl ⟨rfl,trivial⟩ ?_
 refine aQ ?_
 refine aM ?_
 refine dJ ?_
 exact eI rfl ⟨rfl,hF⟩
def Dp:bq SS:=⟨245,λxs k=>match xs with
 |[.one (.v (.string s)),.one (.v (.int .u8 c))]=>k (.ret (.s (.one (.v (.int .i64 (Lib.indexByte s.data.toList c.toNat.toUInt8))))))
 |_=>none⟩
theorem akg {R:Type} (xs:List (aE SS)) (k:Rs SS->Option R) (z:R) (_:xs.all aE.pure=true) (hz:Dp.out xs k=some z): ∃r,k r=some z/\fY KK Tryz.prog 245 xs r:=by
 simp only[Dp] at hz
 split at hz
 ·rename_i s c h0
  refine⟨_,hz,dW bg Tryz.func245 rfl,λA O w vs hv hO hG=>?_⟩
  obtain⟨y,ys,rfl,⟨h1,_⟩,y2,mb,rfl,⟨h2,_⟩,h3⟩:=hv
  cases h1;cases h2
  rw[show mb=[] from h3]
  refine(akf s c).mono ?_
  rintro e w' ⟨rfl,hF⟩
  exact⟨⟨_,rfl,rfl,rfl⟩,hF⟩
 ·cases hz
set_option maxRecDepth 100000
noncomputable def G2:az SS:= { G1 with C:=Dp::G1.C }
theorem abA:ab G2 Tryz.prog:=ab.bB (c:=Dp) abz akg
end Go.Proofs.YtdhaaaeffhaadaaGreatDoor
end
section
namespace Go.Proofs.YtdhaaaeffhaadaaGreatDoor
open Go.RowKit Go.Dc Go.Vx
set_option maxRecDepth 100000
theorem Zs (e:Int) (w:World):(Instr.typeAssert (.iface 40 (.int .i64 e)) 20 40 true).run Tryz.prog w= .ok (.tuple #[.int .i64 e,.bool true]) w:=by
 simp[Instr.typeAssert,run_underlying Tryz.underlying40]
theorem WE (e:Int) (w:World) (ox oy:Operand):(do eqGuard .neq 20 ox oy (.iface 40 (.int .i64 e)) .nilIface;binOp .neq 20 (.iface 40 (.int .i64 e)) .nilIface:Sem Value).run Tryz.prog w= .ok (.bool true) w:=by
 simp[go_sem]
theorem WI (w:World) (ox:Operand):(do eqGuard .neq 20 ox (.const .nilIface) .nilIface .nilIface;binOp .neq 20 .nilIface .nilIface:Sem Value).run Tryz.prog w= .ok (.bool false) w:=by
 simp[go_sem,eqGuard]
set_option maxHeartbeats 4000000 in
theorem afy {w:World} {p1 p2:Value}:
  CallsDIn (fw none) 0 Tryz.prog 251 #[p1,p2] .returning w (λe' u' w'=>(∃v,e'= .returned v)/\u'= .returning/\w'=w):=by
 refine callsDIn_of_wpSIn Tryz.func251 rfl (by simp[fw]) λHl cs hu=>?_
 apply wpSIn_seq
 apply wpSIn_region
 simp[wpOpsSIn,go_sem,recoverD,hu,Tryz.ntmps251,Exit.thenS]
 refine wpSIn_of_wpIn rfl ?_
 obtain⟨E0,lP⟩: ∃E0:Env,E0=[(0,p1),(1,p2),(2,.nilIface)]:=⟨_,rfl⟩
 refine(show WC Tryz.prog none 18 _ _ E0 [] w from ?_) _ ⟨by simp,rfl,ct (by subst lP;refine⟨?_,?_,?_,trivial⟩<;>simp)⟩
 subst lP
 refine aL ?_
 refine aT (l:=[0,1]) rfl ?_
 refine aD ai [0] [(6,.nilIface)] rfl ⟨rfl,trivial⟩ ?_
 refine fv (d:=7) rfl rfl rfl rfl (by intro c h;cases h) (λa hA=>?_) (v:= .bool false) (w':=w) ?_
 ·have h:=hA.get 6 _ rfl
  show(do let v<-(do eqGuard .neq 20 (.tmp 6) (.const .nilIface) (a.tmps.getD 6 undef) .nilIface;binOp .neq 20 (a.tmps.getD 6 undef) .nilIface:Sem Value);pure (Next.value v):Sem Next).run _ w=_
  rw[Sem.run_bind,h,WI];rfl
 refine aQ ?_
 refine aM ?_
 refine lC rfl ?_
 refine eY λa ha=>?_
 have eV:(results Tryz.f251 a.tmps).run Tryz.prog w= .ok (.tuple #[]) w:=by simp[results,Tryz.results251]
 simp only[bodyPostS]
 refine⟨ha.defers,.returning,?_,.tuple #[],eV,?_⟩
 ·rw[<-hu]
 ·simp
set_option maxHeartbeats 4000000 in
theorem afA {w:World} {b1 b2:Nat} {jo je:List Value} (e:Int) (h1:b9 w b1 25 jo) (h2:b9 w b2 40 je) (o9:jo.length=17) (gw:je.length=1) (aV:b1≠b2):
  CallsDIn (fw none) 0 Tryz.prog 251 #[.pointer (some ⟨b1,0,none⟩),.pointer (some ⟨b2,0,none⟩)] (.panicking [{ v:= .iface 40 (.int .i64 e),recovered:=false }]) w
   (λe' u' w'=>(∃v,e'= .returned v)/\settle u'= .returning/\ ∃w1,Fr [b1] w w1/\b9 w1 b1 25 (List.replicate 16 (.int .i64 0)++[.slice none 0 0])/\Fr [b2] w1 w'/\b9 w' b2 40 [.int .i64 e]):=by
 refine callsDIn_of_wpSIn Tryz.func251 rfl (by simp[fw]) λHl cs hu=>?_
 apply wpSIn_seq
 apply wpSIn_region
 simp[wpOpsSIn,go_sem,recoverD,hu,Tryz.ntmps251,Exit.thenS]
 refine wpSIn_of_wpIn rfl ?_
 obtain⟨E0,lP⟩: ∃E0:Env,E0=[(0,.pointer (some ⟨b1,0,none⟩)),(1,.pointer (some ⟨b2,0,none⟩)),(2,.iface 40 (.int .i64 e))]:=⟨_,rfl⟩
 refine(show WC Tryz.prog none 18 _ _ E0 [] w from ?_) _ ⟨by simp,rfl,ct (by subst lP;refine⟨?_,?_,?_,trivial⟩<;>simp)⟩
 subst lP
 refine aL ?_
 refine aT (l:=[0,1]) rfl ?_
 refine aD ai [0] [(0,.pointer (some ⟨b1,0,none⟩)),(1,.pointer (some ⟨b2,0,none⟩)),(2,.iface 40 (.int .i64 e)),(6,.iface 40 (.int .i64 e))] rfl ⟨rfl,rfl,rfl,rfl,trivial⟩ ?_
 refine fv (d:=7) rfl rfl rfl rfl (by intro c h;cases h) (λa hA=>?_) (v:= .bool true) (w':=w) ?_
 ·have h:=hA.get 6 _ rfl
  show(do let v<-(do eqGuard .neq 20 (.tmp 6) (.const .nilIface) (a.tmps.getD 6 undef) .nilIface;binOp .neq 20 (a.tmps.getD 6 undef) .nilIface:Sem Value);pure (Next.value v):Sem Next).run _ w=_
  rw[Sem.run_bind,h,WE];rfl
 refine aQ ?_
 refine aM ?_
 refine mS rfl ?_
 refine aL ?_
 refine aT (l:=[0,1,2,3,4,5,6]) rfl ?_
 refine aD ai [0] [(0,.pointer (some ⟨b1,0,none⟩)),(1,.pointer (some ⟨b2,0,none⟩)),(9,.iface 40 (.int .i64 e))] rfl ⟨rfl,rfl,rfl,trivial⟩ ?_
 refine fv (d:=10) rfl rfl rfl rfl (by intro c h;cases h) (λa hA=>?_) (v:= .tuple #[.int .i64 e,.bool true]) (w':=w) ?_
 ·have h:=hA.get 9 _ rfl
  show(do let v<-Instr.typeAssert (a.tmps.getD 9 undef) 20 40 true;pure (Next.value v):Sem Next).run _ w=_
  rw[Sem.run_bind,h,Zs];rfl
 refine aD ai [2,3,4,5,6] [(0,.pointer (some ⟨b1,0,none⟩)),(1,.pointer (some ⟨b2,0,none⟩)),(3,.int .i64 e),(4,.bool true)] rfl ⟨rfl,rfl,rfl,rfl,trivial⟩ ?_
 refine aQ ?_
 refine aM ?_
 refine aL ?_
 refine aL ?_
 refine aT (l:=[0,1]) rfl ?_
 refine aD ai [0,1] [(0,.pointer (some ⟨b1,0,none⟩)),(1,.pointer (some ⟨b2,0,none⟩)),(3,.int .i64 e),(14,.bool false)] rfl ⟨rfl,rfl,rfl,rfl,trivial⟩ ?_
 refine aQ ?_
 refine aM ?_
 refine lC rfl ?_
 refine eY ?_
 refine aM ?_
 refine aT (l:=[0,1,2,3]) rfl ?_
 refine aD ai [0,1] [(0,.pointer (some ⟨b1,0,none⟩)),(1,.pointer (some ⟨b2,0,none⟩)),(16,.agg (List.replicate 16 (Value.int .i64 0)++[Value.slice none 0 0]).toArray),(17,.int .i64 e)] rfl ⟨rfl,rfl,rfl,rfl,trivial⟩ ?_
 refine gD ai rfl rfl rfl rfl rfl rfl rfl h1 (List.replicate 16 (.int .i64 0)++[.slice none 0 0]) rfl rfl (by simp[List.replicate,Value.oneCell']) (by rw[o9];rfl) (List.replicate 16 (.int .i64 0)++[.slice none 0 0]) (by unfold putAt;rw[List.drop_eq_nil_of_le (by simp[o9,gw])];rfl) (λw1 k1 f1=>?_)
 have h2:=h2.fr f1 (by simpa using aV.symm)
 refine gD ai rfl rfl rfl rfl rfl rfl rfl h2 [.int .i64 e] rfl rfl (by simp[Value.oneCell']) (by rw[gw];rfl) [.int .i64 e] (by unfold putAt;rw[List.drop_eq_nil_of_le (by simp[o9,gw])];rfl) (λw2 k2 f2=>?_)
 refine aQ λa ha=>?_
 have eV:(results Tryz.f251 a.tmps).run Tryz.prog w2= .ok (.tuple #[]) w2:=by simp[results,Tryz.results251]
 simp only[bodyPostS]
 refine⟨ha.defers,.panicking [{ v:= .iface 40 (.int .i64 e),recovered:=true }],rfl,.tuple #[],eV,⟨.tuple #[],rfl⟩,rfl,w1,f1,k1,f2,k2⟩
def EE:List Value:=List.replicate 16 (.int .i64 0)++[.slice none 0 0]
def BQ:rJ SS:=⟨251,λcs p dZ k=>match cs with
 |[.one (.br i 0),.one (.br j 0)]=>(match p with
  |none=>k none []
  |some (.iface 40 (.int .i64 e))=>(match dZ i,dZ j with
   |some (.box 25 jo),some (.box 40 je)=>bif !(Nat.beq i j)&&(Nat.beq (eX jo) 17&&Nat.beq (eX je) 1) then k none [(i,some (.box 25 (EE.map .v))),(j,some (.box 40 [.v (.int .i64 e)]))] else none
   |_,_=>none)
  |_=>none)
 |_=>none⟩
theorem WD {i j:Nat} (h:(!(Nat.beq i j))=true):i≠j:=λe=>by subst e;simp at h
theorem afz {R:Type} (cs:List (aE SS)) (p:Option Value) (dZ:Nat->Option (Ob SS)) (k:Option Value->Up SS->Option R) (z:R) (hz:BQ.out cs p dZ k=some z): ∃q up,k q up=some z/\rK KK Tryz.prog 251 cs p dZ q up:=by
 simp only[BQ] at hz
 split at hz
 rotate_left
 ·cases hz
 rename_i i j
 split at hz
 ·refine⟨_,_,hz,dW bg Tryz.func251 rfl,λA O w xs u hx hg hO hG hm=>?_⟩
  obtain⟨x1,ys,rfl,⟨b1,_,e1⟩,x2,mb,rfl,⟨b2,_,e2⟩,e3⟩:=hx
  cases e1;cases e2
  rw[show mb=[] from e3,show u=_ from hm]
  refine afy.mono ?_
  rintro e u' w' ⟨h1,rfl,rfl⟩
  exact⟨h1,rfl,A,O,cM.none hO⟩
 ·rename_i e
  split at hz
  rotate_left
  ·cases hz
  rename_i jo je h1 h2
  cases hb:(!(Nat.beq i j)&&(Nat.beq (eX jo) 17&&Nat.beq (eX je) 1))<;>rw[hb] at hz
  ·cases hz
  simp only[Bool.and_eq_true] at hb
  obtain⟨dp,dV,jx⟩:=hb
  have dp:=WD dp
  refine⟨_,_,hz,dW bg Tryz.func251 rfl,λA O w xs u hx hg hO hG hm=>?_⟩
  obtain⟨b1,ZP,p1,k1,r1,o1⟩:=xE hg h1
  obtain⟨b2,vs2,p2,k2,r2,o2⟩:=xE hg h2
  obtain⟨x1,ys,rfl,⟨b1',q1,e1⟩,x2,mb,rfl,⟨b2',q2,e2⟩,e3⟩:=hx
  rw[p1] at q1;rw[p2] at q2
  cases q1;cases q2
  cases e1;cases e2
  rw[show mb=[] from e3,show u=_ from hm]
  have aV:b1≠b2:=λe=>hg.dj i j _ _ _ _ b1 dp h1 h2 p1 p2 rfl (by rw[e];rfl)
  refine(afA e k1 k2 ((j2 r1).trans (Nat.eq_of_beq_eq_true dV)) ((j2 r2).trans (Nat.eq_of_beq_eq_true jx)) aV).mono ?_
  rintro en u' w' ⟨h3,h4,w1,f1,m1,f2,m2⟩
  have E1:cM A O w dZ [(i,some (.box 25 (EE.map .v)))] A O w1:=BW hg hO h1 p1 f1 m1 (XQ (by decide))
  have sK:=hg.cO hO E1
  have sB:cK dZ [(i,some (.box 25 (EE.map LV.v)))] j=some (.box 40 je):=by
   rw[gP (λV hV=>dp (by simp at hV;exact hV.1.symm))];exact h2
  have E2:cM A O w1 (cK dZ [(i,some (.box 25 (EE.map .v)))]) [(j,some (.box 40 [.v (.int .i64 e)]))] A O w':=BW sK E1.ob sB p2 f2 m2 ⟨[.int .i64 e],[],rfl,⟨rfl,rfl⟩,rfl⟩
  exact⟨h3,h4,A,O,cM.two hg dp E1 E2 hO⟩
 ·cases hz
set_option maxHeartbeats 4000000 in
theorem afv {w:World} {p1 p2 p3:Value}:
  CallsDIn (fw none) 0 Tryz.prog 107 #[p1,p2,p3] .returning w (λe' u' w'=>(∃v,e'= .returned v)/\u'= .returning/\w'=w):=by
 refine callsDIn_of_wpSIn Tryz.func107 rfl (by simp[fw]) λHl cs hu=>?_
 apply wpSIn_seq
 apply wpSIn_region
 simp[wpOpsSIn,go_sem,recoverD,hu,Tryz.ntmps107,Exit.thenS]
 refine wpSIn_of_wpIn rfl ?_
 obtain⟨E0,lP⟩: ∃E0:Env,E0=[(0,p1),(1,p2),(2,p3),(3,.nilIface)]:=⟨_,rfl⟩
 refine(show WC Tryz.prog none 20 _ _ E0 [] w from ?_) _ ⟨by simp,rfl,ct (by subst lP;refine⟨?_,?_,?_,?_,trivial⟩<;>simp)⟩
 subst lP
 refine aL ?_
 refine aT (l:=[0,1]) rfl ?_
 refine aD ai [0] [(7,.nilIface)] rfl ⟨rfl,trivial⟩ ?_
 refine fv (d:=8) rfl rfl rfl rfl (by intro c h;cases h) (λa hA=>?_) (v:= .bool false) (w':=w) ?_
 ·have h:=hA.get 7 _ rfl
  show(do let v<-(do eqGuard .neq 20 (.tmp 7) (.const .nilIface) (a.tmps.getD 7 undef) .nilIface;binOp .neq 20 (a.tmps.getD 7 undef) .nilIface:Sem Value);pure (Next.value v):Sem Next).run _ w=_
  rw[Sem.run_bind,h,WI];rfl
 refine aQ ?_
 refine aM ?_
 refine lC rfl ?_
 refine eY λa ha=>?_
 have eV:(results Tryz.f107 a.tmps).run Tryz.prog w= .ok (.tuple #[]) w:=by simp[results,Tryz.results107]
 simp only[bodyPostS]
 refine⟨ha.defers,.returning,?_,.tuple #[],eV,?_⟩
 ·rw[<-hu]
 ·simp
set_option maxHeartbeats 4000000 in
theorem afx {w:World} {b0 b1 b2:Nat} {iM jo je:List Value} (e:Int) (h0:b9 w b0 36 iM) (h1:b9 w b1 36 jo) (h2:b9 w b2 53 je) (mA:iM.length=22) (o9:jo.length=22) (gw:je.length=2) (ho: ∀u∈iM,u.oneCell'=true) (aV:b1≠b2):
  CallsDIn (fw none) 0 Tryz.prog 107 #[.pointer (some ⟨b0,0,none⟩),.pointer (some ⟨b1,0,none⟩),.pointer (some ⟨b2,0,none⟩)] (.panicking [{ v:= .iface 40 (.int .i64 e),recovered:=false }]) w
   (λe' u' w'=>(∃v,e'= .returned v)/\settle u'= .returning/\ ∃w1,Fr [b1] w w1/\b9 w1 b1 36 iM/\Fr [b2] w1 w'/\b9 w' b2 53 [.int .i64 e,.int .u64 0]):=by
 refine callsDIn_of_wpSIn Tryz.func107 rfl (by simp[fw]) λHl cs hu=>?_
 apply wpSIn_seq
 apply wpSIn_region
 simp[wpOpsSIn,go_sem,recoverD,hu,Tryz.ntmps107,Exit.thenS]
 refine wpSIn_of_wpIn rfl ?_
 obtain⟨E0,lP⟩: ∃E0:Env,E0=[(0,.pointer (some ⟨b0,0,none⟩)),(1,.pointer (some ⟨b1,0,none⟩)),(2,.pointer (some ⟨b2,0,none⟩)),(3,.iface 40 (.int .i64 e))]:=⟨_,rfl⟩
 refine(show WC Tryz.prog none 20 _ _ E0 [] w from ?_) _ ⟨by simp,rfl,ct (by subst lP;refine⟨?_,?_,?_,?_,trivial⟩<;>simp)⟩
 subst lP
 refine aL ?_
 refine aT (l:=[0,1]) rfl ?_
 refine aD ai [0] [(0,.pointer (some ⟨b0,0,none⟩)),(1,.pointer (some ⟨b1,0,none⟩)),(2,.pointer (some ⟨b2,0,none⟩)),(3,.iface 40 (.int .i64 e)),(7,.iface 40 (.int .i64 e))] rfl ⟨rfl,rfl,rfl,rfl,rfl,trivial⟩ ?_
 refine fv (d:=8) rfl rfl rfl rfl (by intro c h;cases h) (λa hA=>?_) (v:= .bool true) (w':=w) ?_
 ·have h:=hA.get 7 _ rfl
  show(do let v<-(do eqGuard .neq 20 (.tmp 7) (.const .nilIface) (a.tmps.getD 7 undef) .nilIface;binOp .neq 20 (a.tmps.getD 7 undef) .nilIface:Sem Value);pure (Next.value v):Sem Next).run _ w=_
  rw[Sem.run_bind,h,WE];rfl
 refine aQ ?_
 refine aM ?_
 refine mS rfl ?_
 refine aL ?_
 refine aT (l:=[0,1,2,3,4,5,6]) rfl ?_
 refine aD ai [0] [(0,.pointer (some ⟨b0,0,none⟩)),(1,.pointer (some ⟨b1,0,none⟩)),(2,.pointer (some ⟨b2,0,none⟩)),(10,.iface 40 (.int .i64 e))] rfl ⟨rfl,rfl,rfl,rfl,trivial⟩ ?_
 refine fv (d:=11) rfl rfl rfl rfl (by intro c h;cases h) (λa hA=>?_) (v:= .tuple #[.int .i64 e,.bool true]) (w':=w) ?_
 ·have h:=hA.get 10 _ rfl
  show(do let v<-Instr.typeAssert (a.tmps.getD 10 undef) 20 40 true;pure (Next.value v):Sem Next).run _ w=_
  rw[Sem.run_bind,h,Zs];rfl
 refine aD ai [2,3,4,5,6] [(0,.pointer (some ⟨b0,0,none⟩)),(1,.pointer (some ⟨b1,0,none⟩)),(2,.pointer (some ⟨b2,0,none⟩)),(4,.int .i64 e),(5,.bool true)] rfl ⟨rfl,rfl,rfl,rfl,rfl,trivial⟩ ?_
 refine aQ ?_
 refine aM ?_
 refine aL ?_
 refine aL ?_
 refine aT (l:=[0,1]) rfl ?_
 refine aD ai [0,1] [(0,.pointer (some ⟨b0,0,none⟩)),(1,.pointer (some ⟨b1,0,none⟩)),(2,.pointer (some ⟨b2,0,none⟩)),(4,.int .i64 e),(15,.bool false)] rfl ⟨rfl,rfl,rfl,rfl,rfl,trivial⟩ ?_
 refine aQ ?_
 refine aM ?_
 refine lC rfl ?_
 refine eY ?_
 refine aM ?_
 refine aT (l:=[0,1,2,3,4]) rfl ?_
 refine eZ ai rfl rfl rfl rfl rfl rfl rfl h0 iM (by rw[List.drop_zero];exact List.take_of_length_le (by rw[mA];decide)) mA (.inl rfl) (.agg iM.toArray) rfl ?_
 refine aD ai [1,2] [(1,.pointer (some ⟨b1,0,none⟩)),(2,.pointer (some ⟨b2,0,none⟩)),(17,.agg iM.toArray),(19,.agg #[.int .i64 e,.int .u64 0])] rfl ⟨rfl,rfl,rfl,rfl,trivial⟩ ?_
 refine gD ai rfl rfl rfl rfl rfl rfl rfl h1 iM rfl mA ho (by rw[o9];rfl) iM (by unfold putAt;rw[List.drop_eq_nil_of_le (by simp[o9,mA]),List.append_nil];rfl) (λw1 k1 f1=>?_)
 have h2:=h2.fr f1 (by simpa using aV.symm)
 refine gD ai rfl rfl rfl rfl rfl rfl rfl h2 [.int .i64 e,.int .u64 0] rfl rfl (by simp[Value.oneCell']) (by rw[gw];rfl) [.int .i64 e,.int .u64 0] (by unfold putAt;rw[List.drop_eq_nil_of_le (by simp[gw])];rfl) (λw2 k2 f2=>?_)
 refine aQ λa ha=>?_
 have eV:(results Tryz.f107 a.tmps).run Tryz.prog w2= .ok (.tuple #[]) w2:=by simp[results,Tryz.results107]
 simp only[bodyPostS]
 refine⟨ha.defers,.panicking [{ v:= .iface 40 (.int .i64 e),recovered:=true }],rfl,.tuple #[],eV,⟨.tuple #[],rfl⟩,rfl,w1,f1,k1,f2,k2⟩
def BP:rJ SS:=⟨107,λcs p dZ k=>match cs with
 |[.one (.br h 0),.one (.br i 0),.one (.br j 0)]=>(match p with
  |none=>k none []
  |some (.iface 40 (.int .i64 e))=>(match dZ h,dZ i,dZ j with
   |some (.box 36 iM),some (.box 36 jo),some (.box 53 je)=>bif !(Nat.beq i j)&&(Nat.beq (eX iM) 22&&(Nat.beq (eX jo) 22&&Nat.beq (eX je) 2)) then k none [(i,some (.box 36 iM)),(j,some (.box 53 [.v (.int .i64 e),.v (.int .u64 0)]))] else none
   |_,_,_=>none)
  |_=>none)
 |_=>none⟩
theorem afw {R:Type} (cs:List (aE SS)) (p:Option Value) (dZ:Nat->Option (Ob SS)) (k:Option Value->Up SS->Option R) (z:R) (hz:BP.out cs p dZ k=some z): ∃q up,k q up=some z/\rK KK Tryz.prog 107 cs p dZ q up:=by
 simp only[BP] at hz
 split at hz
 rotate_left
 ·cases hz
 rename_i h i j
 split at hz
 ·refine⟨_,_,hz,dW bg Tryz.func107 rfl,λA O w xs u hx hg hO hG hm=>?_⟩
  obtain⟨x0,ys0,rfl,⟨b0,_,e0⟩,x1,ys,rfl,⟨b1,_,e1⟩,x2,mb,rfl,⟨b2,_,e2⟩,e3⟩:=hx
  cases e0;cases e1;cases e2
  rw[show mb=[] from e3,show u=_ from hm]
  refine afv.mono ?_
  rintro e u' w' ⟨h1,rfl,rfl⟩
  exact⟨h1,rfl,A,O,cM.none hO⟩
 ·rename_i e
  split at hz
  rotate_left
  ·cases hz
  rename_i iM jo je h0 h1 h2
  cases hb:(!(Nat.beq i j)&&(Nat.beq (eX iM) 22&&(Nat.beq (eX jo) 22&&Nat.beq (eX je) 2)))<;>rw[hb] at hz
  ·cases hz
  simp only[Bool.and_eq_true] at hb
  obtain⟨dp,hs0,dV,jx⟩:=hb
  have dp:=WD dp
  refine⟨_,_,hz,dW bg Tryz.func107 rfl,λA O w xs u hx hg hO hG hm=>?_⟩
  obtain⟨b0,MS,U,k0,r0,o0⟩:=xE hg h0
  obtain⟨b1,ZP,p1,k1,r1,o1⟩:=xE hg h1
  obtain⟨b2,vs2,p2,k2,r2,o2⟩:=xE hg h2
  obtain⟨x0,ys0,rfl,⟨b0',q0,e0⟩,x1,ys,rfl,⟨b1',q1,e1⟩,x2,mb,rfl,⟨b2',q2,e2⟩,e3⟩:=hx
  rw[U] at q0;rw[p1] at q1;rw[p2] at q2
  cases q0;cases q1;cases q2
  cases e0;cases e1;cases e2
  rw[show mb=[] from e3,show u=_ from hm]
  have aV:b1≠b2:=λe=>hg.dj i j _ _ _ _ b1 dp h1 h2 p1 p2 rfl (by rw[e];rfl)
  refine(afx e k0 k1 k2 ((j2 r0).trans (Nat.eq_of_beq_eq_true hs0)) ((j2 r1).trans (Nat.eq_of_beq_eq_true dV)) ((j2 r2).trans (Nat.eq_of_beq_eq_true jx)) (XO r0) aV).mono ?_
  rintro en u' w' ⟨h3,h4,w1,f1,m1,f2,m2⟩
  have E1:cM A O w dZ [(i,some (.box 36 iM))] A O w1:=BW hg hO h1 p1 f1 m1 (pH (f1.tr (kI o1)) (Pl.le.refl A) r0)
  have sK:=hg.cO hO E1
  have sB:cK dZ [(i,some (.box 36 iM))] j=some (.box 53 je):=by
   rw[gP (λV hV=>dp (by simp at hV;exact hV.1.symm))];exact h2
  have E2:cM A O w1 (cK dZ [(i,some (.box 36 iM))]) [(j,some (.box 53 [.v (.int .i64 e),.v (.int .u64 0)]))] A O w':=BW sK E1.ob sB p2 f2 m2 ⟨[.int .i64 e],[.int .u64 0],rfl,⟨rfl,rfl⟩,[.int .u64 0],[],rfl,⟨rfl,rfl⟩,rfl⟩
  exact⟨h3,h4,A,O,cM.two hg dp E1 E2 hO⟩
 ·cases hz
noncomputable def EX:az SS:= { G2 with D:=BQ::G2.D }
theorem abC:ab EX Tryz.prog:=ab.Si (c:=BQ) abA afz
noncomputable def G3:az SS:= { EX with D:=BP::EX.D }
theorem abB:ab G3 Tryz.prog:=ab.Si (c:=BP) abC afw
end Go.Proofs.YtdhaaaeffhaadaaGreatDoor
end
section
namespace Go.Proofs
open Go.Shelf
def Tryz.Vl:Go.Shelf.Ren:=⟨λ|156=>212|165=>246|166=>247|169=>248|240=>268|241=>269|276=>276|277=>277|n=>n,λ|31=>185|9=>9|3=>3|4=>4|0=>0|20=>20|72=>283|76=>287|70=>281|37=>175|75=>286|127=>298|164=>302|5=>5|80=>289|n=>n,λ|n=>n⟩
theorem Tryz.Vk:Go.Proofs.Lays.n156 Tryz.prog Tryz.Vl:= {
 mixed:=by kernel_rfl
 f156:=Tryz.func212.trans (congrArg some (by kernel_rfl))
 f165:=Tryz.func246.trans (congrArg some (by kernel_rfl))
 f166:=Tryz.func247.trans (congrArg some (by kernel_rfl))
 f169:=Tryz.func248.trans (congrArg some (by kernel_rfl))
 f240:=Tryz.func268.trans (congrArg some (by kernel_rfl))
 f241:=Tryz.func269.trans (congrArg some (by kernel_rfl))
 f276:=Tryz.func276.trans (congrArg some (by kernel_rfl))
 f277:=Tryz.func277.trans (congrArg some (by kernel_rfl))
 t0:=Tryz.underlying0
 a0:=Tryz.isAgg0
 z0:=Tryz.sizeOf0
 v0:=Tryz.zeroValue0
 t3:=Tryz.underlying3
 a3:=Tryz.isAgg3
 z3:=Tryz.sizeOf3
 v3:=Tryz.zeroValue3
 t4:=Tryz.underlying4
 a4:=Tryz.isAgg4
 z4:=Tryz.sizeOf4
 v4:=Tryz.zeroValue4
 t9:=Tryz.underlying9
 a9:=Tryz.isAgg9
 z9:=Tryz.sizeOf9
 v9:=Tryz.zeroValue9
 t20:=Tryz.underlying20
 a20:=Tryz.isAgg20
 z20:=Tryz.sizeOf20
 v20:=Tryz.zeroValue20
 t31:=Tryz.underlying185
 a31:=Tryz.isAgg185
 z31:=Tryz.sizeOf185
 v31:=Tryz.zeroValue185
 t37:=Tryz.underlying175
 a37:=Tryz.isAgg175
 z37:=Tryz.sizeOf175
 v37:=Tryz.zeroValue175
 t70:=Tryz.underlying281
 a70:=Tryz.isAgg281
 z70:=Tryz.sizeOf281
 v70:=Tryz.zeroValue281
 t72:=Tryz.underlying283
 a72:=Tryz.isAgg283
 z72:=Tryz.sizeOf283
 v72:=Tryz.zeroValue283
 t75:=Tryz.underlying286
 a75:=Tryz.isAgg286
 z75:=Tryz.sizeOf286
 v75:=Tryz.zeroValue286
 t76:=Tryz.underlying287
 a76:=Tryz.isAgg287
 z76:=Tryz.sizeOf287
 v76:=Tryz.zeroValue287
 t127:=Tryz.underlying298
 a127:=Tryz.isAgg298
 z127:=Tryz.sizeOf298
 v127:=Tryz.zeroValue298
 t164:=Tryz.underlying302
 a164:=Tryz.isAgg302
 z164:=Tryz.sizeOf302
 v164:=Tryz.zeroValue302 }
theorem Tryz.Nd:Builder.Extra Tryz.prog Tryz.Vl:= {
 sizeBuilder:=by kernel_rfl
 liesBuilder:=by kernel_rfl
 t5:=Tryz.underlying5
 a5:=Tryz.isAgg5
 z5:=Tryz.sizeOf5
 v5:=Tryz.zeroValue5
 infoByte:=by kernel_rfl
 cellsByte:=by kernel_rfl
 sizeByte:=by kernel_rfl
 neB5:=by decide }
open Go.RowKit in
theorem Tryz.strings_Join_none (a:Option Addr) (c:Nat) (sep:ByteArray) (w:World):
 Calls Tryz.prog 212 #[.slice a 0 c,.string sep] w λe w'=>e= .returned (.string ⟨#[]⟩)/\w'=w:=Any.strings_Join_none Tryz.Vk Tryz.Nd a c sep w
open Go.RowKit in
theorem Tryz.strings_Join (bk o c:Nat) (xs:List ByteArray) (sep:ByteArray) (w:World) (nz: ∀(j:Nat) x,xs[j]? =some x->w.cell? ⟨bk,o+j,none⟩=some (.string x)) (Js:bk<w.heap.size) (hN:xs.length<=140737488355328) (wz:xs.length<=c) (hlen:(Lib.join (xs.map (·.data.toList)) sep.data.toList).length<=140737488355328):
 Calls Tryz.prog 212 #[.slice (some ⟨bk,o,none⟩) xs.length c,.string sep] w λe w'=>e= .returned (.string ⟨(Lib.join (xs.map (·.data.toList)) sep.data.toList).toArray⟩)/\Below w.heap.size w w':=Any.strings_Join Tryz.Vk Tryz.Nd bk o c xs sep w nz Js hN wz hlen
end Go.Proofs
end
section
namespace Go.Proofs.YtdhaaaeffhaadaaGreatDoor
open Go.RowKit Go.Dc Go.Vx
set_option maxRecDepth 100000
def kE (es:List ByteArray) (sep:ByteArray):ByteArray:=⟨(Lib.join (es.map (·.data.toList)) sep.data.toList).toArray⟩
theorem an3 {w:World} {ad:Addr} {v:Value} (h:w.cell? ad=some v):ad.spot=none:=by
 unfold World.cell? at h
 split at h
 ·split at h
  ·cases h
  ·rename_i hs;simpa using hs
 ·cases h
theorem akn {O:List Nat} {w:World} {v:Value} {es:List ByteArray} (sep:ByteArray) (hv:(Ty.slice Ty.str).is O w v es) (hN:es.length<=140737488355328) (hlen:(kE es sep).size<=140737488355328):
  Calls Tryz.prog 212 #[v,.string sep] w (λe w'=>e= .returned (.string (kE es sep))/\Fr [] w w'):=by
 obtain⟨cs,⟨A,c,hc,hl,hx⟩,iD⟩:=hv
 subst hc
 have iD:v= .slice A es.length c:=iD
 subst iD
 cases es with
 |nil=>
  refine(Tryz.strings_Join_none A c sep w).mono ?_
  rintro e w' ⟨rfl,rfl⟩
  exact⟨rfl,Fr.refl _ _⟩
 |cons e0 es=>
  obtain⟨ad,u,hA,hb,ho,hr,he⟩:=hx 0 e0 rfl
  subst hA
  have hr:u=[.string e0]:=hr
  subst hr
  have h0:(ad.add (0*Ty.str.n)).add 0=ad:=by simp[Addr.add]
  have h1:=he.1 0 (.string e0) rfl
  rw[h0] at h1
  have hs:=an3 h1
  obtain⟨b,o,sp⟩:=ad
  have hs:sp=none:=hs
  subst hs
  refine(Tryz.strings_Join b o c (e0::es) sep w (λj x hj=>?_) hb hN hl.1 (by simpa[kE,ByteArray.size] using hlen)).mono ?_
  ·obtain⟨BC,u,hA,_,_,hr,he⟩:=hx j x hj
   cases hA
   have hr:u=[.string x]:=hr
   subst hr
   have h2:=he.1 0 (.string x) rfl
   have e1:((⟨b,o,none⟩:Addr).add (j*Ty.str.n)).add 0=⟨b,o+j,none⟩:=by
    rw[add_add,show j*Ty.str.n+0=j by show j*1+0=j;omega]
    unfold Addr.add
    split<;>simp_all
   rw[e1] at h2
   exact h2
  ·rintro e w' ⟨rfl,hB⟩
   exact⟨rfl,hB.os,hB.tape,hB.output,hB.size,λk hk _=>hB.block k hk⟩
def Dw:bq SS:=⟨212,λxs k=>match xs with
 |[.one l,.one (.v (.string sep))]=>(match fh KK (λ_=>none) 9 l with
  |some es=>bif decide (List.length (α:=ByteArray) es<=140737488355328)&&decide ((kE es sep).size<=140737488355328) then k (.ret (.s (.one (.v (.string (kE es sep)))))) else none
  |none=>none)
 |_=>none⟩
theorem ako {R:Type} (xs:List (aE SS)) (k:Rs SS->Option R) (z:R) (pd:xs.all aE.pure=true) (hz:Dw.out xs k=some z): ∃r,k r=some z/\fY KK Tryz.prog 212 xs r:=by
 clear pd
 simp only[Dw] at hz
 split at hz
 rotate_left
 ·cases hz
 rename_i l sep
 split at hz
 rotate_left
 ·cases hz
 rename_i es JL
 rcases mo hz with⟨hc,hz⟩|⟨_,hz⟩
 rotate_left
 ·cases hz
 simp only[Bool.and_eq_true,decide_eq_true_eq] at hc
 refine⟨_,hz,dW bg Tryz.func212 rfl,λA O w vs hv hO hG=>?_⟩
 obtain⟨y,ys,rfl,h1,y2,mb,rfl,⟨h2,_⟩,h3⟩:=hv
 cases h2
 rw[show mb=[] from h3]
 have hg:cC A O w (λ_=>(none:Option (Ob SS))):=⟨(λi X h=>nomatch h),(λi j X Y p q b _ h=>nomatch h)⟩
 have hd:=m_ er hg JL h1
 refine(akn sep hd hc.1 hc.2).mono ?_
 rintro e w' ⟨rfl,hF⟩
 exact⟨⟨_,rfl,rfl,rfl⟩,hF⟩
noncomputable def G4:az SS:= { G3 with C:=Dw::G3.C }
theorem abD:ab G4 Tryz.prog:=ab.bB (c:=Dw) abB ako
end Go.Proofs.YtdhaaaeffhaadaaGreatDoor
end
section
namespace Go.Dc
open Go.RowKit
def pF (k:IntKind):Ty (Int×Value) where
 agg:=true
 n:=2
 rep _ _ cs x:=cs=[.int k x.1,x.2]/\ ∃A n c,x.2= .slice A n c
 tr _ h:=h
 len:=λ⟨h,_⟩=>by rw[h];rfl
 one:=λ⟨h,A,n,c,h2⟩ u hu=>by
  rw[h,h2] at hu
  simp only[List.mem_cons,List.not_mem_nil,or_false] at hu
  rcases hu with rfl|rfl<;>rfl
 i_ h:=by cases h
theorem LX (k:IntKind):(pF k).Flat:=λh=>h
structure dL {α:Type} (T:Ty α) (e B:Nat) (w:World) (v:Value) (xs:List α):Prop where
 ex: ∃cs,w.ownsRow B e T.n v xs.length cs/\cf T [] w cs xs
section
variable {α:Type} {T:Ty α} {e B:Nat} {O O':List Nat} {w w':World} {v:Value} {xs:List α}
theorem Own.mv (h:Own T e B O w v xs):dL T e B w v xs:=by
 obtain⟨cs,h1,h2⟩:=h.ex
 exact⟨cs,h1,h2.tr (Tr.less (an6 _))⟩
theorem dL.own (hT:T.Flat) (h:dL T e B w v xs) (hO: ∀g,v.ownBlock=some g->g∈O):Own T e B O w v xs:=by
 obtain⟨cs,h1,h2⟩:=h.ex
 exact⟨⟨cs,h1,Ee hT h2⟩,hO⟩
theorem dL.lt (h:dL T e B w v xs): ∀g,v.ownBlock=some g->B<=g/\g<w.heap.size:=by
 obtain⟨cs,h1,_⟩:=h.ex
 exact h1.lt
theorem dL.keep (hT:T.Flat) (h:dL T e B w v xs) (hk: ∀g,v.ownBlock=some g->w'.heap[g]? =w.heap[g]?):dL T e B w' v xs:=by
 obtain⟨cs,⟨h0,h1⟩,h2⟩:=h.ex
 refine⟨cs,⟨h0,?_⟩,Ee hT h2⟩
 rcases h1 with h1|⟨g,cap,cur,hv,hg,hh,r⟩
 ·exact .inl h1
 ·refine .inr ⟨g,cap,cur,hv,hg,?_,r⟩
  rw[hk g (by rw[hv];rfl)];exact hh
theorem dL.cD (hT:T.Flat) (h:dL T e B w v xs) (hf:Fr [] w w'):dL T e B w' v xs:=h.keep hT λg hg=>hf.block g (h.lt g hg).2 (by simp)
theorem dL.less {B':Nat} (h:dL T e B w v xs) (hb:B'<=B):dL T e B' w v xs:=by
 obtain⟨cs,⟨h0,h1⟩,h2⟩:=h.ex
 refine⟨cs,⟨h0,?_⟩,h2⟩
 rcases h1 with h1|⟨g,cap,cur,hv,hg,r⟩
 ·exact .inl h1
 ·exact .inr ⟨g,cap,cur,hv,Nat.le_trans hb hg,r⟩
theorem dL.form (h:dL T e B w v xs): ∃A c,v= .slice A xs.length c/\xs.length<=c/\c<=maxLen:=by
 obtain⟨cs,⟨_,h1⟩,_⟩:=h.ex
 rcases h1 with⟨rfl,h2⟩|⟨g,cap,cur,rfl,_,_,h3,h4,_⟩
 ·exact⟨none,0,by rw[h2],by omega,by unfold maxLen;omega⟩
 ·exact⟨_,cap,rfl,h3,h4⟩
theorem dL.data (hT:T.Flat) (h:dL T e B w v xs) (hn: ∀g,v.ownBlock=some g->g∉O):T.slice.is O w v xs:=by
 obtain⟨cs,⟨h0,h1⟩,h2⟩:=h.ex
 rcases h1 with⟨rfl,hl⟩|⟨g,cap,cur,rfl,hg,hh,h3,h4,h5,h6⟩
 ·have:xs=[]:=List.eq_nil_of_length_eq_zero hl
  subst this
  exact j4 _ _ _
 ·have sB:cf T O w cs xs:=Ee hT h2
  exact Mz hh (hn g rfl) sB (by rw[sB.len];exact h6) h3 h4
theorem dL.kH:dL T e B w (.slice none 0 0) []:=⟨[],World.ownsRow_nil w B e T.n,rfl⟩
end
def SP.mv {α:Type} (T:Ty α) (hT:T.Flat) (e B:Nat) (xs:List α):SP:=⟨λw v=>dL T e B w v xs,λhf h=>h.cD hT hf⟩
theorem Tm {α:Type} {T:Ty α} {e B:Nat} {O:List Nat} {w w':World} {zs:List α} {en:Ending} (hB:w.heap.size=B) (h:gE T e B O w (.slice none 0 0) zs en w'):jI (λ_ w v zs=>dL T e B w v zs) O w zs en w':=by
 subst hB
 obtain⟨v',O',he,ap⟩:=h
 exact⟨v',he,ap.own.mv,ap.cD Own.kH (Fr.refl [] w)⟩
def dP {β:Type} (T:Ty β) (e B:Nat) (w:World):List Nat->List (Int×Value)->List (Int×List β)->Prop
 |S,[],[]=>S=[]
 |S,x::r,y::r'=> ∃S2,x.1=y.1/\S=x.2.ownBlock.toList++S2/\dL T e B w x.2 y.2/\dP T e B w S2 r r'
 |_,_,_=>False
section
variable {β:Type} {T:Ty β} {e B:Nat} {w w':World}
theorem dP.keep (hT:T.Flat): ∀ {S:List Nat} {rs:List (Int×Value)} {xs:List (Int×List β)},dP T e B w S rs xs->(∀g∈S,w'.heap[g]? =w.heap[g]?)->dP T e B w' S rs xs
 |_,[],[],h,_=>h
 |_,_::_,_::_,⟨S2,h1,h2,h3,h4⟩,hk=>by
  subst h2
  exact⟨S2,h1,rfl,h3.keep hT λg hg=>hk g (List.mem_append_left _ (by rw[hg];simp)),dP.keep hT h4 λg hg=>hk g (List.mem_append_right _ hg)⟩
 |_,[],_::_,h,_=>h.elim
 |_,_::_,[],h,_=>h.elim
theorem dP.lt: ∀ {S:List Nat} {rs:List (Int×Value)} {xs:List (Int×List β)},dP T e B w S rs xs-> ∀g∈S,B<=g/\g<w.heap.size
 |_,[],[],h,g,hg=>by rw[show _=[] from h] at hg;cases hg
 |_,_::_,_::_,⟨S2,h1,h2,h3,h4⟩,g,hg=>by
  subst h2
  rcases List.mem_append.1 hg with hg|hg
  ·exact h3.lt g (by simpa using hg)
  ·exact dP.lt h4 g hg
 |_,[],_::_,h,_,_=>h.elim
 |_,_::_,[],h,_,_=>h.elim
theorem dP.cD (hT:T.Flat) {S:List Nat} {rs:List (Int×Value)} {xs:List (Int×List β)} (h:dP T e B w S rs xs) (hf:Fr [] w w'):dP T e B w' S rs xs:=h.keep hT λg hg=>hf.block g (h.lt g hg).2 (by simp)
theorem dP.len: ∀ {S:List Nat} {rs:List (Int×Value)} {xs:List (Int×List β)},dP T e B w S rs xs->rs.length=xs.length
 |_,[],[],_=>rfl
 |_,_::_,_::_,⟨_,_,_,_,h4⟩=>by simp[dP.len h4]
 |_,[],_::_,h=>h.elim
 |_,_::_,[],h=>h.elim
theorem dP.app: ∀ {S S':List Nat} {rs rl:List (Int×Value)} {xs jl:List (Int×List β)},dP T e B w S rs xs->dP T e B w S' rl jl->dP T e B w (S++S') (rs++rl) (xs++jl)
 |_,_,[],_,[],_,h,k=>by rw[show _=[] from h];exact k
 |_,_,_::_,_,_::_,_,⟨S2,h1,h2,h3,h4⟩,k=>by subst h2;exact⟨S2++_,h1,by simp,h3,dP.app h4 k⟩
 |_,_,[],_,_::_,_,h,_=>h.elim
 |_,_,_::_,_,[],_,h,_=>h.elim
theorem dP.at_: ∀ {S:List Nat} {rs:List (Int×Value)} {xs:List (Int×List β)} {j:Nat} {x:Int×List β},dP T e B w S rs xs->xs[j]? =some x->
  ∃v S1 S2,rs[j]? =some (x.1,v)/\S=S1++v.ownBlock.toList++S2/\dL T e B w v x.2/\
   ∀ {w':World} {v':Value} {ys:List β},(∀g∈S1++S2,w'.heap[g]? =w.heap[g]?)->T.Flat->dL T e B w' v' ys->dP T e B w' (S1++v'.ownBlock.toList++S2) (rs.set j (x.1,v')) (xs.set j (x.1,ys))
 |_,[],[],_,_,_,hj=>by simp at hj
 |_,r::rs,y::xs,0,x,⟨S2,h1,h2,h3,h4⟩,hj=>by
  simp at hj
  subst hj
  refine⟨r.2,[],S2,by simp[<-h1],by simpa using h2,h3,λ{w' v' ys} hk hT hf=>?_⟩
  exact⟨S2,rfl,by simp,hf,h4.keep hT λg hg=>hk g (by simpa using hg)⟩
 |_,r::rs,y::xs,j+1,x,⟨S2,h1,h2,h3,h4⟩,hj=>by
  obtain⟨v,U1,U2,e1,e2,e3,e4⟩:=dP.at_ h4 (by simpa using hj)
  refine⟨v,r.2.ownBlock.toList++U1,U2,by simpa using e1,by rw[h2,e2];simp,e3,λ{w' v' ys} hk hT hf=>?_⟩
  exact⟨U1++v'.ownBlock.toList++U2,h1,by simp,h3.keep hT λg hg=>hk g (by simp[hg]),e4 (λg hg=>hk g (by simp at hg ⊢;exact .inr hg)) hT hf⟩
 |_,[],_::_,_,_,h,_=>h.elim
 |_,_::_,[],_,_,_,hj=>by simp at hj
theorem dP.ins: ∀ {S:List Nat} {rs:List (Int×Value)} {xs:List (Int×List β)} (j:Nat) (p:Int),j<=rs.length->dP T e B w S rs xs->dP T e B w S (rs.take j++[(p,.slice none 0 0)]++rs.drop j) (xs.take j++[(p,[])]++xs.drop j)
 |S,rs,xs,0,p,_,h=>by
  simp only[List.take_zero,List.nil_append,List.drop_zero,List.singleton_append]
  exact⟨S,rfl,rfl,dL.kH,h⟩
 |_,r::rs,y::xs,j+1,p,hj,⟨S2,h1,h2,h3,h4⟩=>by
  simp only[List.take_succ_cons,List.drop_succ_cons,List.cons_append]
  exact⟨S2,h1,h2,h3,dP.ins j p (by simpa using hj) h4⟩
 |_,[],_,j+1,p,hj,_=>by simp at hj
 |_,_::_,[],j+1,p,_,h=>h.elim
end
end Go.Dc
end
section
namespace Go.Proofs.YtdhaaaeffhaadaaGreatDoor
open Go.RowKit Go.Dc Go.Vx
def xn (xs:List aj) (j:Int) (ys:List aj):Option (List aj):=pj 24 xs j ys
def xo (xs:List aw) (j:Int) (ys:List aw):Option (List aw):=pj 16 xs j ys
def sZ (xs:List ah) (j:Int) (ys:List ah):Option (List ah):=pj 32 xs j ys
def Ej (xs:List (Int×Value)) (j:Int) (ys:List (Int×Value)):Option (List (Int×Value)):=pj 32 xs j ys
set_option maxRecDepth 100000 in
set_option maxHeartbeats 12000000 in
theorem Du:(∀ {O:List Nat} {w:World},OB O w-> ∀ {B:Nat},B<=w.heap.size-> ∀ {v:Value} {xs:List aj},Go.Dc.Own kL 89 B O w v xs-> ∀ {v1:Value} {j:Int},(Ty.int .i64).is O w v1 j-> ∀ {u:Value} {ys:List aj},(Ty.slice kL).is O w u ys->Plain w u-> ∀ {zs:List aj},xn xs j ys=some zs->let T:Ty aj:=kL;let e:Nat:=89;let S:Nat:=3;Calls Tryz.prog 231 #[v,v1,u] w (gE T e B O w v zs))/\(∀ {O:List Nat} {w:World},OB O w-> ∀ {B:Nat},B<=w.heap.size-> ∀ {v:Value} {xs:List aw},Go.Dc.Own eP 93 B O w v xs-> ∀ {v1:Value} {j:Int},(Ty.int .i64).is O w v1 j-> ∀ {u:Value} {ys:List aw},(Ty.slice eP).is O w u ys->Plain w u-> ∀ {zs:List aw},xo xs j ys=some zs->let T:Ty aw:=eP;let e:Nat:=93;let S:Nat:=2;Calls Tryz.prog 240 #[v,v1,u] w (gE T e B O w v zs))/\(∀ {O:List Nat} {w:World},OB O w-> ∀ {B:Nat},B<=w.heap.size-> ∀ {v:Value} {xs:List ah},Go.Dc.Own jG 69 B O w v xs-> ∀ {v1:Value} {j:Int},(Ty.int .i64).is O w v1 j-> ∀ {u:Value} {ys:List ah},(Ty.slice jG).is O w u ys->Plain w u-> ∀ {zs:List ah},sZ xs j ys=some zs->let T:Ty ah:=jG;let e:Nat:=69;let S:Nat:=4;Calls Tryz.prog 256 #[v,v1,u] w (gE T e B O w v zs))/\(∀ {O:List Nat} {w:World},OB O w-> ∀ {B:Nat},B<=w.heap.size-> ∀ {v:Value} {xs:List (Int×Value)},Go.Dc.Own (pF .u64) 82 B O w v xs-> ∀ {v1:Value} {j:Int},(Ty.int .i64).is O w v1 j-> ∀ {u:Value} {ys:List (Int×Value)},(Ty.slice (pF .u64)).is O w u ys->Plain w u-> ∀ {zs:List (Int×Value)},Ej xs j ys=some zs->let T:Ty (Int×Value):=(pF .u64);let e:Nat:=82;let S:Nat:=2;Calls Tryz.prog 169 #[v,v1,u] w (gE T e B O w v zs)):=by
 refine⟨?_,?_,?_,?_⟩
 all_goals
  intro O w hO B hB v xs hv v1 j h1 u ys hu hp zs hz T e S
  obtain rfl:=ey.1 h1
  obtain⟨hj0,hj1,bt,rfl⟩:=U6 hz
  obtain⟨k,rfl⟩: ∃k:Nat,j=k:=⟨j.toNat,by omega⟩
  simp only[Int.toNat_natCast] at*
  have qG:k<=xs.length:=by omega
  obtain⟨A,c,rfl,eL,kU⟩:=hv.form
  obtain⟨Au,cu,rfl,Ux,hmm⟩:=fm hu
  refine im (args:=[.slice A xs.length c,.int .i64 k,.slice Au ys.length cu]) (N:=95) (by first|exact Tryz.func231|exact Tryz.func240|exact Tryz.func256|exact Tryz.func169) rfl rfl rfl ?_
  refine aL ?_
  refine aT (l:=[0]) rfl ?_
  refine aD ai [0] [(0,.slice A xs.length c),(1,.int .i64 k),(2,.slice Au ys.length cu)] rfl ⟨rfl,rfl,rfl,trivial⟩ ?_
  refine aQ ?_
  refine aM ?_
  refine aL ?_
  refine aT (l:=[0,1,2]) rfl ?_
  refine aD ai [0,1] [(0,.slice A xs.length c),(1,.int .i64 k),(2,.slice Au ys.length cu),(10,.slice A xs.length c),(11,.int .i64 k)] rfl ⟨rfl,rfl,rfl,rfl,rfl,trivial⟩ ?_
  refine yl ai rfl rfl rfl rfl rfl rfl rfl rfl rfl rfl eL qG ?_
  refine aQ ?_
  refine aM ?_
  refine aL ?_
  refine aT (l:=[0,1,2]) rfl ?_
  refine aD ai [0,1,2] [(0,.slice A xs.length c),(1,.int .i64 k),(2,.slice Au ys.length cu),(7,.int .i64 (ys.length:Int))] rfl ⟨rfl,rfl,rfl,rfl,trivial⟩ ?_
  refine aQ ?_
  refine aM ?_
  refine aL ?_
  refine aL ?_
  refine aT (l:=[0,1]) rfl ?_
  refine aD ai [0,1] [(0,.slice A xs.length c),(1,.int .i64 k),(2,.slice Au ys.length cu),(7,.int .i64 (ys.length:Int)),(16,.bool ((ys.length:Int)==0))] rfl ⟨rfl,rfl,rfl,rfl,rfl,trivial⟩ ?_
  refine aQ ?_
  refine aM ?_
  by_cases J5:ys.length=0
  ·have dE:ys=[]:=List.eq_nil_of_length_eq_zero J5
   refine iK rfl (by simp[J5]) ?_
   refine aL ?_
   refine aT (l:=[0,1]) rfl ?_
   refine aD ai [0,1] [(6,.slice A xs.length c)] rfl ⟨rfl,trivial⟩ ?_
   refine aQ ?_
   refine aM ?_
   refine dJ ?_
   refine gm (eI rfl ⟨_,O,rfl,?_⟩)
   have e:xs.take k++ys++xs.drop k=xs:=by rw[dE];simp
   rw[e]
   exact⟨hv,Tr.refl _ _,hO,Sub.refl _,λ_ _ _=>rfl,λ_ _ h=>h⟩
  refine jc rfl (beq_eq_false_iff_ne.2 (by omega)) ?_
  refine eY ?_
  refine aM ?_
  refine aL ?_
  refine aT (l:=[0,1,2]) rfl ?_
  refine aD ai [0,1,2] [(0,.slice A xs.length c),(1,.int .i64 k),(2,.slice Au ys.length cu),(7,.int .i64 (ys.length:Int)),(8,.int .i64 (xs.length:Int))] rfl ⟨rfl,rfl,rfl,rfl,rfl,trivial⟩ ?_
  refine aQ ?_
  refine aM ?_
  refine aL ?_
  refine aL ?_
  refine aT (l:=[0,1,2]) rfl ?_
  refine aD ai [0,1,2] [(0,.slice A xs.length c),(1,.int .i64 k),(2,.slice Au ys.length cu),(7,.int .i64 (ys.length:Int)),(8,.int .i64 (xs.length:Int)),(22,.bool ((k:Int)==(xs.length:Int)))] rfl ⟨rfl,rfl,rfl,rfl,rfl,rfl,trivial⟩ ?_
  refine aQ ?_
  refine aM ?_
  by_cases Uo:k=xs.length
  ·refine iK rfl (by simp[Uo]) ?_
   refine aL ?_
   refine aT (l:=[0,1,2,3]) rfl ?_
   refine aD ai [0,1] [(23,.slice A xs.length c),(24,.slice Au ys.length cu)] rfl ⟨rfl,rfl,trivial⟩ ?_
   refine ZV ai rfl rfl rfl rfl rfl rfl rfl rfl rfl (by decide) rfl (by decide) rfl rfl hB hO hv hu (by simp only[Nat.reduceMul] at bt ⊢;omega) (λv' w' O' iu=>?_)
   refine aD ai [3] [(6,v')] rfl ⟨rfl,trivial⟩ ?_
   refine aQ ?_
   refine aM ?_
   refine dJ ?_
   refine gm (eI rfl ⟨_,O',rfl,?_⟩)
   have e:xs.take k++ys++xs.drop k=xs++ys:=by subst Uo;simp
   rw[e]
   exact iu
  refine jc rfl (by simp;omega) ?_
  refine eY ?_
  refine aM ?_
  obtain⟨cs,⟨bS,g_⟩,eN⟩:=hv.ex
  rcases g_ with⟨_,mA⟩|⟨g,c2,cur,g_,ir,hh,kr,qz,fb,jR⟩
  ·omega
  injection g_ with hA sQ iR
  subst hA;subst iR
  have gb:=hv.mem g rfl
  cases Au with
  |none=>exact absurd (pL hu) (λh=>J5 (by rw[h];rfl))
  |some ad=>
  obtain⟨aqz,cu',tu,JV⟩:=hp ad _ _ rfl
  obtain⟨_,us,gZ,kV⟩:=xZ hu
  have eD:us.length=ys.length*S:=gZ.len
  have bS:cs.length=xs.length*S:=bS
  have hT:T.n=S:=rfl
  rw[hT] at fb jR
  have T0:ad.block≠g:=by
   intro e
   obtain⟨y,hy⟩: ∃y,ys[0]? =some y:=⟨_,List.getElem?_eq_getElem (by omega)⟩
   obtain⟨BC,e',qI⟩:=My hu hy
   cases e'
   obtain⟨_,⟨_,_,Ju,_,iU,_⟩,iR⟩:=qI
   subst Ju
   have iR:Value.pointer (some (ad.add (0*T.n)))= .pointer (some _):=iR
   injection iR with iR
   injection iR with iR
   rw[<-iR,kO,e] at iU
   exact iU gb
  have nz: ∀j,w.cell? ⟨g,j,none⟩=cur[j]? :=λj=>cell_of_row w g j cur e (0,0) hh
  have ajm: ∀j x,cs[j]? =some x->cur.toList[j]? =some x:=λj x hx=>by
   rw[<-jR,List.getElem?_take] at hx
   split at hx
   ·exact hx
   ·cases hx
  have Jz: ∀q,e_ w ⟨g,q,none⟩ (cs.drop q):=λq j x hx=>by
   rw[gT,nz,<-Array.getElem?_toList]
   rw[List.getElem?_drop] at hx
   exact ajm _ x hx
  have hkS:k*S<=xs.length*S:=Nat.mul_le_mul_right _ qG
  have ap9:xs.length*S<=c*S:=Nat.mul_le_mul_right _ kr
  have pa: ∀x∈cs,x.oneCell'=true:=eN.one
  refine aL ?_
  refine aL ?_
  refine aT (l:=[0,1,2,3,4,5]) rfl ?_
  have Kr:IntKind.i64.wrap ((xs.length:Int)+(ys.length:Int))=((xs.length+ys.length:Nat):Int):=by
   rw[IntKind.wrap_i64];unfold maxLen at*;omega
  refine aD ai [0,1,2,3,4,5] [(0,.slice (some ⟨g,0,none⟩) xs.length c),(1,.int .i64 k),(2,.slice (some ad) ys.length cu),(7,.int .i64 (ys.length:Int)),(8,.int .i64 (xs.length:Int)),(31,.bool (decide (IntKind.i64.wrap ((xs.length:Int)+(ys.length:Int))>(c:Int))))] rfl ⟨rfl,rfl,rfl,rfl,rfl,rfl,trivial⟩ ?_
  refine aQ ?_
  refine aM ?_
  rw[Kr]
  by_cases aqb:c<xs.length+ys.length
  ·refine iK rfl (by simp;omega) ?_
   refine aL ?_
   refine aT (l:=[0,1,2,3,4,5,6,7,8,9]) rfl ?_
   refine aD ai [0,1] [(0,.slice (some ⟨g,0,none⟩) xs.length c),(1,.int .i64 k),(2,.slice (some ad) ys.length cu),(7,.int .i64 (ys.length:Int)),(8,.int .i64 (xs.length:Int)),(32,.slice (some ⟨g,0,none⟩) xs.length c),(33,.int .i64 k)] rfl ⟨rfl,rfl,rfl,rfl,rfl,rfl,rfl,trivial⟩ ?_
   refine MY ai rfl rfl rfl rfl rfl rfl rfl rfl rfl rfl kr (by omega) ?_
   refine aD ai [3,4,5,6,7] [(0,.slice (some ⟨g,0,none⟩) xs.length c),(1,.int .i64 k),(2,.slice (some ad) ys.length cu),(7,.int .i64 (ys.length:Int)),(34,.slice (some ⟨g,0,none⟩) k c),(39,.int .i64 (IntKind.i64.wrap (IntKind.i64.wrap ((xs.length:Int)+(ys.length:Int))-(k:Int))))] rfl ⟨rfl,rfl,rfl,rfl,rfl,rfl,trivial⟩ ?_
   have nP:IntKind.i64.wrap (IntKind.i64.wrap ((xs.length:Int)+(ys.length:Int))-(k:Int))=((xs.length+ys.length-k:Nat):Int):=by
    rw[Kr,IntKind.wrap_i64];unfold maxLen at*;omega
   rw[nP]
   have gx:(cs.take (k*S)).length=k*S:=by rw[List.length_take];omega
   refine apS ai rfl rfl rfl rfl rfl rfl rfl rfl rfl rfl rfl rfl rfl (us:=cs.take (k*S)) (λj x hx=>by
    rw[List.getElem?_take] at hx
    split at hx
    ·have:=Jz 0 j x (by simpa using hx);exact this
    ·cases hx) gx (by omega) (by omega) (by simp only[Nat.reduceMul] at bt ⊢;omega) rfl ?_
   have UC:k+(xs.length+ys.length-k)=xs.length+ys.length:=by omega
   rw[UC]
   generalize hC:grownCap w (xs.length+ys.length) c e=C
   have IB:xs.length+ys.length<=C:=by rw[<-hC];exact grownCap_ge _ _ _ _
   have hCm:C<=maxLen:=by rw[<-hC];exact grownCap_le_maxLen _ _ _ _ (by unfold maxLen at*;omega)
   have hCS:(xs.length+ys.length)*S<=C*S:=Nat.mul_le_mul_right _ IB
   refine aD ai [9] [(0,.slice (some ⟨g,0,none⟩) xs.length c),(1,.int .i64 k),(2,.slice (some ad) ys.length cu),(7,.int .i64 (ys.length:Int)),(9,.slice (some ⟨w.heap.size,0,none⟩) (xs.length+ys.length) C)] rfl ⟨rfl,rfl,rfl,rfl,rfl,trivial⟩ ?_
   refine aQ ?_
   refine aM ?_
   obtain⟨Z,TU,IG⟩:=ans (cs:=cs.take (k*S)) (xs.length+ys.length-k) (C-(xs.length+ys.length)) (by first|exact(show(Value.cells (.agg #[(.int .u64 0),(.int .i64 0),(.int .u64 0)])).size=S from(λ(_:e=89)=>rfl) rfl)|exact(show(Value.cells (.agg #[(.int .u64 0),(.int .u64 0)])).size=S from(λ(_:e=93)=>rfl) rfl)|exact(show(Value.cells (.agg #[(.int .u64 0),(.int .u64 0),(.bool false),(.int .u64 0)])).size=S from(λ(_:e=69)=>rfl) rfl)|exact(show(Value.cells (.agg #[.int .u64 0,.slice none 0 0])).size=S from(λ(_:e=82)=>rfl) rfl))
   rw[show xs.length+ys.length-k+(C-(xs.length+ys.length))=C-k by omega] at IG
   generalize (cs.take (k*S)).toArray++Builtin.zeroCells _ (xs.length+ys.length-k)++Builtin.zeroCells _ (C-(xs.length+ys.length))=row at*
   have hCk:(C-k)*S+k*S=C*S:=by rw[<-Nat.add_mul];congr 1;omega
   have aqx:row.size=C*S:=by rw[<-Array.length_toList,TU,List.length_append,IG,gx];omega
   have wW:=pt (O:=O) (w:=w.drew) hO e row.toList
   simp only[Array.toArray_toList] at wW
   generalize sU:w.drew.alloc (.cells row e)=w1 at*
   have ID:w1.heap[w.heap.size]? =some (.cells row e (0,0)):=by have:=wW.bV;unfold b9 at this;simpa using this
   have oU:Fr [] w w1:=(Fr.drew [] w).trans wW.fr
   have Kj:(xs.length+ys.length)*S=k*S+ys.length*S+(xs.length-k)*S:=by rw[<-Nat.add_mul,<-Nat.add_mul];congr 1;omega
   have Un:(k+ys.length)*S=k*S+ys.length*S:=Nat.add_mul _ _ _
   have ajI:(xs.length-k)*S+k*S=xs.length*S:=by rw[<-Nat.add_mul];congr 1;omega
   refine aL ?_
   refine aT (l:=[0,1,2,3,4]) rfl ?_
   refine aD ai [0,1] [(0,.slice (some ⟨g,0,none⟩) xs.length c),(1,.int .i64 k),(2,.slice (some ad) ys.length cu),(7,.int .i64 (ys.length:Int)),(9,.slice (some ⟨w.heap.size,0,none⟩) (xs.length+ys.length) C),(41,.slice (some ⟨w.heap.size,0,none⟩) (xs.length+ys.length) C),(42,.int .i64 k)] rfl ⟨rfl,rfl,rfl,rfl,rfl,rfl,rfl,trivial⟩ ?_
   refine yl ai rfl rfl rfl rfl rfl rfl rfl rfl rfl rfl IB (by omega) ?_
   rw[if_neg (by omega),Option.map_some,gT,Nat.zero_add]
   refine aD ai [3] [(0,.slice (some ⟨g,0,none⟩) xs.length c),(1,.int .i64 k),(7,.int .i64 (ys.length:Int)),(9,.slice (some ⟨w.heap.size,0,none⟩) (xs.length+ys.length) C),(43,.slice (some ⟨w.heap.size,k*S,none⟩) (xs.length+ys.length-k) (C-k)),(44,.slice (some ad) ys.length cu)] rfl ⟨rfl,rfl,rfl,rfl,rfl,rfl,trivial⟩ ?_
   have Jp:ad.block<w.heap.size:=(Array.getElem?_eq_some_iff.1 JV).1
   refine MX ai rfl rfl rfl rfl rfl rfl rfl rfl rfl rfl ID (kV.keep (oU.block _ Jp (by simp))) eD gZ.one (by omega) (by omega) (λz=>?_)
   rw[TU,List.take_left' gx]
   generalize eb:(cs.take (k*S)++us++List.drop (k*S+us.length) (cs.take (k*S)++Z)).toArray=rk
   obtain⟨Z2,TV,TX⟩: ∃Z2:List Value,rk.toList=cs.take (k*S)++us++Z2/\Z2.length=C*S-(k*S+ys.length*S):=by
    refine⟨_,by rw[<-eb],?_⟩
    simp only[List.length_drop,List.length_append,gx,IG,eD]
    omega
   clear eb
   have sJ:=od (new:=rk) ID
   have TF:(w1.setRow w.heap.size rk).heap[w.heap.size]? =some (.cells rk e (0,0)):=setRow_heap w1 _ _ _ _ _ ID
   generalize aqA:w1.setRow w.heap.size rk=w2 at*
   have oP:Fr [] w w2:=oU.own sJ (Nat.le_refl _)
   refine aQ ?_
   refine aM ?_
   refine aL ?_
   have pg:IntKind.i64.wrap ((k:Int)+(ys.length:Int))=((k+ys.length:Nat):Int):=by rw[IntKind.wrap_i64];unfold maxLen at*;omega
   refine Ez mixed [⟨46,[],[9]⟩,⟨47,[],[1]⟩,⟨48,[],[7]⟩,⟨49,[1,2],[]⟩,⟨50,[0,3],[]⟩,⟨51,[],[0]⟩,⟨52,[],[1]⟩,⟨53,[5,6],[]⟩] [SP.eq (.slice (some ⟨w.heap.size,0,none⟩) (xs.length+ys.length) C),SP.eq (.int .i64 k),SP.eq (.int .i64 (ys.length:Int)),SP.eq (.int .i64 (IntKind.i64.wrap ((k:Int)+(ys.length:Int)))),SP.eq (.slice (some ⟨w.heap.size,(k+ys.length)*S,none⟩) (xs.length-k) (C-(k+ys.length))),SP.eq (.slice (some ⟨g,0,none⟩) xs.length c),SP.eq (.int .i64 k),SP.eq (.slice (some ⟨g,k*S,none⟩) (xs.length-k) (c-k))] rfl rfl rfl rfl ⟨?_,?_,?_,?_,?_,?_,?_,?_,trivial⟩ ?_
   ·intro a w3 bP hN aX hb hd
    exact dI ai ⟨hN,aX,ct (E:=[(9,.slice (some ⟨w.heap.size,0,none⟩) (xs.length+ys.length) C)]) ⟨hb 9 rfl _ rfl,trivial⟩⟩ rfl rfl rfl rfl rfl
   ·intro a w3 bP hN aX hb hd
    exact dI ai ⟨hN,aX,ct (E:=[(1,.int .i64 k)]) ⟨hb 1 rfl _ rfl,trivial⟩⟩ rfl rfl rfl rfl rfl
   ·intro a w3 bP hN aX hb hd
    exact dI ai ⟨hN,aX,ct (E:=[(7,.int .i64 (ys.length:Int))]) ⟨hb 7 rfl _ rfl,trivial⟩⟩ rfl rfl rfl rfl rfl
   ·intro a w3 bP hN aX hb hd
    exact dI ai ⟨hN,aX,ct (E:=[(47,.int .i64 k),(48,.int .i64 (ys.length:Int))]) ⟨(hd 1 rfl _ _ rfl rfl),(hd 2 rfl _ _ rfl rfl),trivial⟩⟩ rfl rfl rfl rfl rfl
   ·intro a w3 bP hN aX hb hd
    have h49:a.tmps.getD 49 undef= .int .i64 ((k+ys.length:Nat):Int):=by rw[<-pg];exact hd 3 rfl _ _ rfl rfl
    refine(xG ai ⟨hN,aX,ct (E:=[(46,.slice (some ⟨w.heap.size,0,none⟩) (xs.length+ys.length) C),(49,.int .i64 ((k+ys.length:Nat):Int))]) ⟨(hd 0 rfl _ _ rfl rfl),h49,trivial⟩⟩ rfl rfl rfl rfl rfl rfl rfl rfl rfl IB (by omega)).weaken (λu w4 ⟨hu,hf⟩=>⟨?_,hf⟩)
    rw[hu,if_neg (by omega),Option.map_some,gT,Nat.zero_add,show xs.length+ys.length-(k+ys.length)=xs.length-k by omega]
    rfl
   ·intro a w3 bP hN aX hb hd
    exact dI ai ⟨hN,aX,ct (E:=[(0,.slice (some ⟨g,0,none⟩) xs.length c)]) ⟨hb 0 rfl _ rfl,trivial⟩⟩ rfl rfl rfl rfl rfl
   ·intro a w3 bP hN aX hb hd
    exact dI ai ⟨hN,aX,ct (E:=[(1,.int .i64 k)]) ⟨hb 1 rfl _ rfl,trivial⟩⟩ rfl rfl rfl rfl rfl
   ·intro a w3 bP hN aX hb hd
    refine(xG ai ⟨hN,aX,ct (E:=[(51,.slice (some ⟨g,0,none⟩) xs.length c),(52,.int .i64 k)]) ⟨(hd 5 rfl _ _ rfl rfl),(hd 6 rfl _ _ rfl rfl),trivial⟩⟩ rfl rfl rfl rfl rfl rfl rfl rfl rfl kr qG).weaken (λu w4 ⟨hu,hf⟩=>⟨?_,hf⟩)
    rw[hu,if_neg (by omega),Option.map_some,gT,Nat.zero_add]
    rfl
   intro a w3 f3 hN aX hb hr
   have qu:w3.heap[w.heap.size]? =some (.cells rk e (0,0)):=(f3.block _ (Array.getElem?_eq_some_iff.1 TF).1 (by simp)).trans TF
   have TB:Fr [] w w3:=oP.trans f3
   refine ym (E:=[(9,.slice (some ⟨w.heap.size,0,none⟩) (xs.length+ys.length) C),(50,.slice (some ⟨w.heap.size,(k+ys.length)*S,none⟩) (xs.length-k) (C-(k+ys.length))),(53,.slice (some ⟨g,k*S,none⟩) (xs.length-k) (c-k))]) (l:=[8]) hN aX ⟨hb 9 _ rfl rfl,(hr 4 _ _ rfl rfl),(hr 7 _ _ rfl rfl),trivial⟩ rfl ?_
   have wJ:g<w.heap.size:=(Array.getElem?_eq_some_iff.1 hh).1
   have aqs:rk.size=C*S:=by rw[<-Array.length_toList,TV,List.length_append,List.length_append,gx,eD,TX];omega
   have eU:(cs.drop (k*S)).length=(xs.length-k)*S:=by rw[List.length_drop];omega
   refine MX ai rfl rfl rfl rfl rfl rfl rfl rfl rfl rfl qu ((Jz (k*S)).keep (TB.block _ wJ (by simp))) eU (λu hu=>pa u (List.mem_of_mem_drop hu)) (Nat.le_refl _) (by omega) (λz=>?_)
   rw[TV,List.take_left' (by rw[List.length_append,gx,eD,Un])]
   generalize qJ:(cs.take (k*S)++us++cs.drop (k*S)++List.drop ((k+ys.length)*S+(cs.drop (k*S)).length) (cs.take (k*S)++us++Z2)).toArray=j3
   obtain⟨Z3,wi,Ck⟩: ∃Z3:List Value,j3.toList=cs.take (k*S)++us++cs.drop (k*S)++Z3/\Z3.length=C*S-(xs.length+ys.length)*S:=by
    refine⟨_,by rw[<-qJ],?_⟩
    simp only[List.length_drop,List.length_append,gx,TX,eD,bS]
    omega
   clear qJ
   have wG:=od (new:=j3) qu
   have vX:(w3.setRow w.heap.size j3).heap[w.heap.size]? =some (.cells j3 e (0,0)):=setRow_heap w3 _ _ _ _ _ qu
   generalize w3.setRow w.heap.size j3=w4 at*
   have vW:Fr [] w w4:=TB.own wG (Nat.le_refl _)
   refine aQ ?_
   refine aM ?_
   refine aL ?_
   refine aT (l:=[0,1]) rfl ?_
   refine aD ai [0,1] [(6,.slice (some ⟨w.heap.size,0,none⟩) (xs.length+ys.length) C)] rfl ⟨rfl,trivial⟩ ?_
   refine aQ ?_
   refine aM ?_
   refine dJ ?_
   refine gm (eI rfl ⟨_,w.heap.size::O,rfl,?_⟩)
   have gJ:(xs.take k++ys++xs.drop k).length=xs.length+ys.length:=by simp only[List.length_append,List.length_take,List.length_drop];omega
   have eO:Tr O w (w.heap.size::O) w4:=MH vW (Nat.le_refl _)
   have:=Tt (T:=T) (e:=e) (B:=B) (v:= .slice (some ⟨g,0,none⟩) xs.length c) (zs:=xs.take k++ys++xs.drop k) (cap:=C) (cs:=cs.take (k*S)++us++cs.drop (k*S)) hO (Nat.le_refl _) hB vW vX (by rw[hT,<-Array.length_toList,wi];simp only[List.length_append,gx,eD,eU,Ck];omega) hCm (by omega)
    ((((eN.take k).app gZ).app (eN.drop k)).tr eO) (by rw[gJ,hT,wi];exact List.take_left' (by simp only[List.length_append,gx,eD,eU];omega))
   rw[gJ] at this
   exact this
  ·
   refine jc rfl (by simp;omega) ?_
   refine eY ?_
   refine aM ?_
   have aqw:(xs.length+ys.length)*S<=c*S:=Nat.mul_le_mul_right _ (by omega)
   have Kj:(xs.length+ys.length)*S=k*S+ys.length*S+(xs.length-k)*S:=by rw[<-Nat.add_mul,<-Nat.add_mul];congr 1;omega
   have Un:(k+ys.length)*S=k*S+ys.length*S:=Nat.add_mul _ _ _
   have ajI:(xs.length-k)*S+k*S=xs.length*S:=by rw[<-Nat.add_mul];congr 1;omega
   have eU:(cs.drop (k*S)).length=(xs.length-k)*S:=by rw[List.length_drop];omega
   have gx:(cs.take (k*S)).length=k*S:=by rw[List.length_take];omega
   refine aL ?_
   refine aT (l:=[0,1,2,3,4,5]) rfl ?_
   refine aD ai [0,1,2,3] [(1,.int .i64 k),(2,.slice (some ad) ys.length cu),(7,.int .i64 (ys.length:Int)),(8,.int .i64 (xs.length:Int)),(56,.slice (some ⟨g,0,none⟩) xs.length c),(59,.int .i64 (IntKind.i64.wrap ((xs.length:Int)+(ys.length:Int))))] rfl ⟨rfl,rfl,rfl,rfl,rfl,rfl,trivial⟩ ?_
   rw[Kr]
   refine MY ai rfl rfl rfl rfl rfl rfl rfl rfl rfl rfl kr (by omega) ?_
   refine aD ai [5] [(0,.slice (some ⟨g,0,none⟩) (xs.length+ys.length) c),(1,.int .i64 k),(2,.slice (some ad) ys.length cu),(7,.int .i64 (ys.length:Int)),(8,.int .i64 (xs.length:Int))] rfl ⟨rfl,rfl,rfl,rfl,rfl,trivial⟩ ?_
   refine aQ ?_
   refine aM ?_
   refine aL ?_
   refine aL ?_
   refine aT (l:=[0,1,2,3,4,5,6,7]) rfl ?_
   have pg:IntKind.i64.wrap ((k:Int)+(ys.length:Int))=((k+ys.length:Nat):Int):=by rw[IntKind.wrap_i64];unfold maxLen at*;omega
   refine aD ai [0,1,2,3,4] [(0,.slice (some ⟨g,0,none⟩) (xs.length+ys.length) c),(1,.int .i64 k),(2,.slice (some ad) ys.length cu),(7,.int .i64 (ys.length:Int)),(8,.int .i64 (xs.length:Int)),(61,.slice (some ad) ys.length cu),(62,.slice (some ⟨g,0,none⟩) (xs.length+ys.length) c),(65,.int .i64 (IntKind.i64.wrap ((k:Int)+(ys.length:Int))))] rfl ⟨rfl,rfl,rfl,rfl,rfl,rfl,rfl,rfl,trivial⟩ ?_
   rw[pg]
   refine yl ai rfl rfl rfl rfl rfl rfl rfl rfl rfl rfl (by omega) (by omega) ?_
   rw[if_neg (by omega),Option.map_some,gT,Nat.zero_add]
   refine apZ ai rfl rfl rfl rfl rfl (by first|exact Tryz.func258|exact Tryz.func264|exact Tryz.func271|exact Tryz.func206) rfl rfl rfl rfl rfl rfl rfl rfl rfl T0 JV hh (by rw[fb];omega) ?_
   refine aD ai [7] [(0,.slice (some ⟨g,0,none⟩) (xs.length+ys.length) c),(1,.int .i64 k),(2,.slice (some ad) ys.length cu),(7,.int .i64 (ys.length:Int)),(68,.bool (!false))] rfl ⟨rfl,rfl,rfl,rfl,rfl,trivial⟩ ?_
   refine aQ ?_
   refine aM ?_
   refine iK rfl rfl ?_
   refine aL ?_
   refine Ez mixed [⟨69,[],[0]⟩,⟨70,[],[1]⟩,⟨71,[],[7]⟩,⟨72,[1,2],[]⟩,⟨73,[0,3],[]⟩,⟨74,[],[0]⟩,⟨75,[],[1]⟩,⟨76,[5,6],[]⟩] [SP.eq (.slice (some ⟨g,0,none⟩) (xs.length+ys.length) c),SP.eq (.int .i64 k),SP.eq (.int .i64 (ys.length:Int)),SP.eq (.int .i64 (IntKind.i64.wrap ((k:Int)+(ys.length:Int)))),SP.eq (.slice (some ⟨g,(k+ys.length)*S,none⟩) (xs.length-k) (c-(k+ys.length))),SP.eq (.slice (some ⟨g,0,none⟩) (xs.length+ys.length) c),SP.eq (.int .i64 k),SP.eq (.slice (some ⟨g,k*S,none⟩) (xs.length+ys.length-k) (c-k))] rfl rfl rfl rfl ⟨?_,?_,?_,?_,?_,?_,?_,?_,trivial⟩ ?_
   ·intro a w3 bP hN aX hb hd
    exact dI ai ⟨hN,aX,ct (E:=[(0,.slice (some ⟨g,0,none⟩) (xs.length+ys.length) c)]) ⟨hb 0 rfl _ rfl,trivial⟩⟩ rfl rfl rfl rfl rfl
   ·intro a w3 bP hN aX hb hd
    exact dI ai ⟨hN,aX,ct (E:=[(1,.int .i64 k)]) ⟨hb 1 rfl _ rfl,trivial⟩⟩ rfl rfl rfl rfl rfl
   ·intro a w3 bP hN aX hb hd
    exact dI ai ⟨hN,aX,ct (E:=[(7,.int .i64 (ys.length:Int))]) ⟨hb 7 rfl _ rfl,trivial⟩⟩ rfl rfl rfl rfl rfl
   ·intro a w3 bP hN aX hb hd
    exact dI ai ⟨hN,aX,ct (E:=[(70,.int .i64 k),(71,.int .i64 (ys.length:Int))]) ⟨(hd 1 rfl _ _ rfl rfl),(hd 2 rfl _ _ rfl rfl),trivial⟩⟩ rfl rfl rfl rfl rfl
   ·intro a w3 bP hN aX hb hd
    have h72:a.tmps.getD 72 undef= .int .i64 ((k+ys.length:Nat):Int):=by rw[<-pg];exact hd 3 rfl _ _ rfl rfl
    refine(xG ai ⟨hN,aX,ct (E:=[(69,.slice (some ⟨g,0,none⟩) (xs.length+ys.length) c),(72,.int .i64 ((k+ys.length:Nat):Int))]) ⟨(hd 0 rfl _ _ rfl rfl),h72,trivial⟩⟩ rfl rfl rfl rfl rfl rfl rfl rfl rfl (by omega) (by omega)).weaken (λu w4 ⟨hu,hf⟩=>⟨?_,hf⟩)
    rw[hu,if_neg (by omega),Option.map_some,gT,Nat.zero_add,show xs.length+ys.length-(k+ys.length)=xs.length-k by omega]
    rfl
   ·intro a w3 bP hN aX hb hd
    exact dI ai ⟨hN,aX,ct (E:=[(0,.slice (some ⟨g,0,none⟩) (xs.length+ys.length) c)]) ⟨hb 0 rfl _ rfl,trivial⟩⟩ rfl rfl rfl rfl rfl
   ·intro a w3 bP hN aX hb hd
    exact dI ai ⟨hN,aX,ct (E:=[(1,.int .i64 k)]) ⟨hb 1 rfl _ rfl,trivial⟩⟩ rfl rfl rfl rfl rfl
   ·intro a w3 bP hN aX hb hd
    refine(xG ai ⟨hN,aX,ct (E:=[(74,.slice (some ⟨g,0,none⟩) (xs.length+ys.length) c),(75,.int .i64 k)]) ⟨(hd 5 rfl _ _ rfl rfl),(hd 6 rfl _ _ rfl rfl),trivial⟩⟩ rfl rfl rfl rfl rfl rfl rfl rfl rfl (by omega) (by omega)).weaken (λu w4 ⟨hu,hf⟩=>⟨?_,hf⟩)
    rw[hu,if_neg (by omega),Option.map_some,gT,Nat.zero_add]
    rfl
   intro a w3 f3 hN aX hb hr
   have qu:w3.heap[g]? =some (.cells cur e (0,0)):=(f3.block _ (Array.getElem?_eq_some_iff.1 hh).1 (by simp)).trans hh
   refine ym (E:=[(0,.slice (some ⟨g,0,none⟩) (xs.length+ys.length) c),(1,.int .i64 k),(2,.slice (some ad) ys.length cu),(73,.slice (some ⟨g,(k+ys.length)*S,none⟩) (xs.length-k) (c-(k+ys.length))),(76,.slice (some ⟨g,k*S,none⟩) (xs.length+ys.length-k) (c-k))]) (l:=[8]) hN aX ⟨hb 0 _ rfl rfl,hb 1 _ rfl rfl,hb 2 _ rfl rfl,(hr 4 _ _ rfl rfl),(hr 7 _ _ rfl rfl),trivial⟩ rfl ?_
   have wJ:g<w.heap.size:=(Array.getElem?_eq_some_iff.1 hh).1
   have Jp:ad.block<w.heap.size:=(Array.getElem?_eq_some_iff.1 JV).1
   refine apU ai rfl rfl rfl rfl rfl rfl rfl rfl rfl rfl qu ((Jz (k*S)).keep (f3.block _ wJ (by simp))) eU (λu hu=>pa u (List.mem_of_mem_drop hu)) (by omega) (by omega) (λz=>?_)
   generalize qJ:(cur.toList.take ((k+ys.length)*S)++cs.drop (k*S)++List.drop ((k+ys.length)*S+(cs.drop (k*S)).length) cur.toList).toArray=j3
   have ke:cur.toList.length=c*S:=by rw[Array.length_toList,fb]
   obtain⟨Y,Z3,wi,hY,Ck⟩: ∃Y Z3:List Value,j3.toList=cs.take (k*S)++Y++cs.drop (k*S)++Z3/\Y.length=ys.length*S/\Z3.length=c*S-(xs.length+ys.length)*S:=by
    refine⟨(cur.toList.take ((k+ys.length)*S)).drop (k*S),List.drop ((k+ys.length)*S+(cs.drop (k*S)).length) cur.toList,?_,?_,?_⟩
    ·rw[<-qJ]
     have e:cs.take (k*S)=(cur.toList.take ((k+ys.length)*S)).take (k*S):=by
      rw[<-jR,List.take_take,List.take_take];congr 1;omega
     rw[e,List.take_append_drop]
    ·rw[List.length_drop,List.length_take,ke];omega
    ·rw[List.length_drop,ke,eU];omega
   clear qJ
   have wG:=od (new:=j3) qu
   have vX:(w3.setRow g j3).heap[g]? =some (.cells j3 e (0,0)):=setRow_heap w3 _ _ _ _ _ qu
   generalize w3.setRow g j3=w4 at*
   have vW:Fr [g] w w4:=(f3.more (by simp)).trans wG
   refine aQ ?_
   refine aM ?_
   refine aL ?_
   refine aT (l:=[0,1,2,3,4]) rfl ?_
   refine aD ai [0,1] [(0,.slice (some ⟨g,0,none⟩) (xs.length+ys.length) c),(2,.slice (some ad) ys.length cu),(78,.slice (some ⟨g,0,none⟩) (xs.length+ys.length) c),(79,.int .i64 k)] rfl ⟨rfl,rfl,rfl,rfl,trivial⟩ ?_
   refine yl ai rfl rfl rfl rfl rfl rfl rfl rfl rfl rfl (by omega) (by omega) ?_
   rw[if_neg (by omega),Option.map_some,gT,Nat.zero_add]
   refine aD ai [3] [(0,.slice (some ⟨g,0,none⟩) (xs.length+ys.length) c),(80,.slice (some ⟨g,k*S,none⟩) (xs.length+ys.length-k) (c-k)),(81,.slice (some ad) ys.length cu)] rfl ⟨rfl,rfl,rfl,trivial⟩ ?_
   have aqt:j3.size=c*S:=by rw[<-Array.length_toList,wi];simp only[List.length_append,gx,hY,eU,Ck];omega
   refine MX ai rfl rfl rfl rfl rfl rfl rfl rfl rfl rfl vX (kV.keep (vW.block _ Jp (by simp[T0]))) eD gZ.one (by omega) (by omega) (λz=>?_)
   have e5:(j3.toList.take (k*S)++us++j3.toList.drop (k*S+us.length))=cs.take (k*S)++us++(cs.drop (k*S)++Z3):=by
    rw[wi,List.append_assoc (cs.take (k*S)++Y),List.append_assoc (cs.take (k*S)),List.take_left' gx,<-List.append_assoc (cs.take (k*S)),List.drop_left' (by rw[List.length_append,gx,hY,eD])]
   rw[e5]
   generalize UI:(cs.take (k*S)++us++(cs.drop (k*S)++Z3)).toArray=xV
   have TY:xV.toList=cs.take (k*S)++us++cs.drop (k*S)++Z3:=by rw[<-UI,<-List.append_assoc]
   clear UI
   have hf6:=od (new:=xV) vX
   have hG6:(w4.setRow g xV).heap[g]? =some (.cells xV e (0,0)):=setRow_heap w4 _ _ _ _ _ vX
   generalize w4.setRow g xV=w6 at*
   have TC:Fr [g] w w6:=vW.trans hf6
   refine aQ ?_
   refine aM ?_
   refine aL ?_
   refine aT (l:=[0,1]) rfl ?_
   refine aD ai [0,1] [(6,.slice (some ⟨g,0,none⟩) (xs.length+ys.length) c)] rfl ⟨rfl,trivial⟩ ?_
   refine aQ ?_
   refine aM ?_
   refine dJ ?_
   refine gm (eI rfl ⟨_,O,rfl,?_⟩)
   have gJ:(xs.take k++ys++xs.drop k).length=xs.length+ys.length:=by simp only[List.length_append,List.length_take,List.length_drop];omega
   have eO:Tr O w O w6:=TC.tr (kI gb)
   have:=M4 (T:=T) (e:=e) (B:=B) (n0:=xs.length) (zs:=xs.take k++ys++xs.drop k) (cap:=c) (cs:=cs.take (k*S)++us++cs.drop (k*S)) hO gb ir TC hG6 (by rw[hT,<-Array.length_toList,TY];simp only[List.length_append,gx,eD,eU,Ck];omega) qz (by omega)
    ((((eN.take k).app gZ).app (eN.drop k)).tr eO) (by rw[gJ,hT,TY];exact List.take_left' (by simp only[List.length_append,gx,eD,eU];omega))
   rw[gJ] at this
   exact this
def KH:jd SS:=xp KK 231 89 xn
theorem akh {R:Type} (xs:List (aE SS)) (h:AH SS) (k:Rs SS->AH SS->List Nat->Option R) (z:R) (hz:(KH).out xs h k=some z): ∃r h' dt,k r h' dt=some z/\gR KK Tryz.prog 231 xs h r h' dt:=
 KL (e:=89) (ins:=xn) er (dW bg Tryz.func231 rfl) (λO w v u xs ys zs j hO hv hu hp hz=>Du.1 hO (Nat.zero_le _) hv (ey.2 rfl) hu hp hz) xs h k z hz
def KI:jd SS:=xp KK 240 93 xo
theorem aki {R:Type} (xs:List (aE SS)) (h:AH SS) (k:Rs SS->AH SS->List Nat->Option R) (z:R) (hz:(KI).out xs h k=some z): ∃r h' dt,k r h' dt=some z/\gR KK Tryz.prog 240 xs h r h' dt:=
 KL (e:=93) (ins:=xo) er (dW bg Tryz.func240 rfl) (λO w v u xs ys zs j hO hv hu hp hz=>Du.2.1 hO (Nat.zero_le _) hv (ey.2 rfl) hu hp hz) xs h k z hz
def KJ:jd SS:=xp KK 256 69 sZ
theorem akj {R:Type} (xs:List (aE SS)) (h:AH SS) (k:Rs SS->AH SS->List Nat->Option R) (z:R) (hz:(KJ).out xs h k=some z): ∃r h' dt,k r h' dt=some z/\gR KK Tryz.prog 256 xs h r h' dt:=
 KL (e:=69) (ins:=sZ) er (dW bg Tryz.func256 rfl) (λO w v u xs ys zs j hO hv hu hp hz=>Du.2.2.1 hO (Nat.zero_le _) hv (ey.2 rfl) hu hp hz) xs h k z hz
theorem anU {O:List Nat} {w:World} (hO:OB O w) {B:Nat} (hB:B<=w.heap.size) {v:Value} {xs:List (Int×Value)} (hv:Go.Dc.Own (pF .u64) 82 B O w v xs) {v1:Value} {j:Int} (h1:(Ty.int .i64).is O w v1 j) {u:Value} {ys:List (Int×Value)} (hu:(Ty.slice (pF .u64)).is O w u ys) (hp:Plain w u) {zs:List (Int×Value)} (hz:Ej xs j ys=some zs):
 Calls Tryz.prog 169 #[v,v1,u] w (gE (pF .u64) 82 B O w v zs):=Du.2.2.2 hO hB hv h1 hu hp hz
set_option maxRecDepth 100000
noncomputable def EY:az SS:= { G4 with H:=KH::G4.H }
theorem abE:ab EY Tryz.prog:=ab.nA (c:=KH) abD akh
noncomputable def EZ:az SS:= { EY with H:=KI::EY.H }
theorem abF:ab EZ Tryz.prog:=ab.nA (c:=KI) abE aki
noncomputable def G5:az SS:= { EZ with H:=KJ::EZ.H }
theorem OZ:ab G5 Tryz.prog:=ab.nA (c:=KJ) abF akj
end Go.Proofs.YtdhaaaeffhaadaaGreatDoor
end
section

/- Words for the entries of aqD. -/
namespace Go.Vx
def vs {S:bL} (x:LV S):AV S:= .s (.one x)
def li {S:bL} (x:Int):LV S:= .v (.int .i64 x)
def lu {S:bL} (x:Int):LV S:= .v (.int .u64 x)
def vi {S:bL} (x:Int):AV S:= .s (.one (.v (.int .i64 x)))
def vu {S:bL} (x:Int):AV S:= .s (.one (.v (.int .u64 x)))
def vb {S:bL} (x:Bool):AV S:= .s (.one (.v (.bool x)))
def va {S:bL} (x y:Nat):AV S:= .s (.one (.br x y))
def vd {S:bL} (t:Nat) (x:S.El t):AV S:= .s (.one (.aP t x))
def vo {S:bL} (x:Nat):AV S:= .s (.one (.own x))
def vc {S:bL} (x:Nat):AV S:= .s (.one (.bM x))
def bX {S:bL} (t:Nat) (x:List (LV S)):Option (Ob S):=some (.box t x)
def rX {S:bL} (t:Nat) (x:List (S.El t)):Option (Ob S):=some (.row t x)
end Go.Vx
end
section
namespace Go.Proofs.YtdhaaaeffhaadaaGreatDoor
open Go.RowKit Go.Dc Go.Vx
set_option maxRecDepth 100000
set_option maxHeartbeats 4000000
noncomputable def RF (sh:Sh) (pid:Int):T (Int):=
 .ok (IntKind.i64.wrap (pid.tmod 64))
noncomputable def qo (sh:Sh) (pid:Int):Option (Int):=sh.s _ (RF sh pid).val
theorem apt {R:Type} (pid:Int) (k:Rs SS->Option R):bu G5 100 93 [KK.aa 28 pid] [] (bD KK [3] k)=(RF shut pid).run (λr=>k (.ret (.s (KK.aa 3 r)))):=by kernel_rfl
noncomputable def afj (sh:Sh):bq SS:=bw KK 93 [28] (λ{R} xs k=>match xs with| .cons pid .nil=>(qo sh pid).bind (λr=>k (.ret (.s (KK.aa 3 r)))))
noncomputable def mY (sh:Sh):az SS:= { G5 with C:=afj sh::G5.C }
theorem zI:ab (mY shut) Tryz.prog:=ab.bB OZ λxs k z _ hz=>bG (ab.all OZ rfl) (λ{R} xs k z h=>by
 match xs,h with
 | .cons pid .nil,h=>exact⟨100,(apt pid k).trans (bH h)⟩) hz
noncomputable def wj (U:List Int) (p1:List ah) (p2:Int):AS SS:=⟨[(0,(vs (.gV 0 0 16))),(1,(vs (.v (.func (.func 90) (.mk []) (.mk []))))),(7,(vi 16)),(8,(vi p2))],[(bX 25 [(.bR .i64 16 U),(.aP 23 p1)])],1,none,false,[],[]⟩
noncomputable def af9 (U:List Int) (p1:List ah) (a0:Int):AS SS:= { wj U p1 a0 with env:=[(4,(vi a0))] }
noncomputable def af_ (U:List Int) (p1:List ah) (a0:Bool) (a1:Int):AS SS:= { wj U p1 a1 with env:=[(9,(vb a0)),(0,(vs (.gV 0 0 16))),(1,(vs (.v (.func (.func 90) (.mk []) (.mk []))))),(7,(vi 16)),(8,(vi a1))] }
noncomputable def GJ (sh:Sh) (U:List Int) (p1:List ah) (a:Int):T (Int ⊕ Int ⊕ (Bool×Int)):=
 .bf (decide (a<16)) (
  .bd (fk a 16) λz0=>
   .bf (decide (aN U z0<0)) (
    .ok (.inr (.inl a)))<|
   .bf (decide (aN U z0>65536)) (
    .ok (.inr (.inl a)))<|
   .ok (.inl (IntKind.i64.wrap (a+1))))<|
 .ok (.inr (.inr ((decide (a<16)),a)))
noncomputable def F' (sh:Sh) (U:List Int) (p1:List ah) (p2:Int):Option (Int ⊕ (Bool×Int)):=cA sh (GJ sh U p1) 1000000 p2
noncomputable def ab' {R:Type} (k:AX->AS SS->Option R) (U:List Int) (p1:List ah) (x:Int ⊕ (Bool×Int)):Option R:=(λx=>Sum.rec (λv=>k .ret (af9 U p1 v)) (λv=>k (.exit 0) (af_ U p1 v.1 v.2)) x) x
noncomputable def Dz:bo SS:=bJ 3 (λst=>(fN (aZ st 0 0)).bind λU=>(bb 23 (aZ st 0 1)).bind λp1=>(bE (aS st 8 0)).bind λp2=>some (U,p1,p2)) (λp=>wj p.1 p.2.1 p.2.2) (λp=>F' shut p.1 p.2.1 p.2.2) (λk p=>ab' k p.1 p.2.1)
theorem Xq:aC KK Tryz.prog ⟨Tryz.f126,ax 126⟩ (bI (aU Tryz.f126) 3) Dz:=
 aC.cA (π:=List Int×List ah×Int) (σ:=Int) (ab.all zI rfl) (au.nil) rfl 60 (λp a=>wj p.1 p.2.1 a) (λp=>p.2.2) (St:=λp=>GJ shut p.1 p.2.1) (λp=>1000000) (λp=>rfl)
  (λm p a k=>by kernel_rfl)
noncomputable def IU (U:List Int) (p1:List ah) (p2 p3:Int):AS SS:=⟨[(0,(vs .dF)),(1,(va 4 0)),(9,(vi (↑p1.length:Int))),(10,(vi p3))],[(bX 142 [(.bR .i64 16 U),(.aP 23 p1)]),(bX 28 [(lu p2)]),(bX 143 [(.v (.pointer none))]),(some (.bM 127 [] [(.one (.br 4 0))])),(bX 140 [(.br 0 0)])],5,(some ⟨⟨Tryz.f89,ax 89⟩,[9,10],(gk (aU Tryz.f89) 4),(gl (aU Tryz.f89) 4),[(3,(va 1 0)),(4,(va 2 0)),(8,(vc 3))],none⟩),false,[],[]⟩
noncomputable def oa (U:List Int) (p1:List ah) (p2:Int):AS SS:=IU U p1 p2 0
noncomputable def agj (U:List Int) (p1:List ah) (p2:Int) (a0:ah):AS SS:=⟨[],[(bX 142 [(.bR .i64 16 U),(.aP 23 p1)]),(bX 28 [(lu p2)]),(bX 143 [(.ptr 69 a0 0)]),(some (.bM 127 [] [(.one (.br 4 0))])),(bX 140 [(.br 0 0)])],5,(some ⟨⟨Tryz.f89,ax 89⟩,[9,10],(gk (aU Tryz.f89) 4),(gl (aU Tryz.f89) 4),[(3,(va 1 0)),(4,(va 2 0)),(8,(vc 3))],(some .ret)⟩),false,[],[2]⟩
noncomputable def agk (U:List Int) (p1:List ah) (p2:Int) (a0:Bool) (a1:Int):AS SS:= { IU U p1 p2 p2 with env:=[(11,(vb a0)),(0,(vs .dF)),(1,(va 4 0)),(9,(vi (↑p1.length:Int))),(10,(vi a1))] }
noncomputable def Ag (sh:Sh) (U:List Int) (p1:List ah) (p2 p3:Int) (z0:ah) (a:Unit):T (Unit ⊕ ah ⊕ (Bool×Int)):=
 .bf (z0.ae==p2) (
  .ok (.inr (.inl z0)))<|
 .ok (.inl ())
noncomputable def yF (sh:Sh) (U:List Int) (p1:List ah) (p2 p3:Int) (a:Unit):T (ah ⊕ (Bool×Int)):=
 .ok (.inr ((decide (p3<(↑p1.length:Int))),p3))
noncomputable def mg (sh:Sh) (U:List Int) (p1:List ah) (p2:Int):Option (ah ⊕ (Bool×Int)):=cg sh (Ag sh U p1 p2) (yF sh U p1 p2) p1 ()
noncomputable def acg {R:Type} (k:AX->AS SS->Option R) (U:List Int) (p1:List ah) (p2:Int) (x:ah ⊕ (Bool×Int)):Option R:=(λx=>Sum.rec (λv=>k .ret (agj U p1 p2 v)) (λv=>k (.exit 0) (agk U p1 p2 v.1 v.2)) x) x
noncomputable def K1:bo SS:=bJ 2 (λst=>((dU st 3 127).bind λ_=>jB st 18 4).bind λ_=>(fN (aZ st 0 0)).bind λU=>(bb 23 (aZ st 0 1)).bind λp1=>(bE (aZ st 1 0)).bind λp2=>some (U,p1,p2)) (λp=>oa p.1 p.2.1 p.2.2) (λp=>mg shut p.1 p.2.1 p.2.2) (λk p=>acg k p.1 p.2.1 p.2.2)
noncomputable def aa':az SS:= { (mY shut) with T:=bl ((mY shut).T) 126 ⟨⟨Tryz.f126,ax 126⟩,[Dz]⟩ }
theorem Oe:aF aa' Tryz.prog:=(aF.bK (ab.all zI rfl) Tryz.func126 rfl bg λc hc=>by cases hc;exact au.cons (au.nil) (by kernel_rfl) Xq)
theorem Xs:aC KK Tryz.prog ⟨Tryz.f127,ax 127⟩ (bI (aU Tryz.f127) 2) K1:=
 aC.ck (π:=List Int×List ah×Int) (σ:=Unit) Oe (au.nil) rfl 60 (λp i a=>IU p.1 p.2.1 p.2.2 i) (λp=>p.2.1) (λp=>()) (St:=λp=>Ag shut p.1 p.2.1 p.2.2) (F:=λp=>yF shut p.1 p.2.1 p.2.2) (λp=>rfl)
  (λm p i a k=>by kernel_rfl) (by rintro p (x|x)<;>exact⟨_,_,λ_=>rfl⟩) (λp N C A O w a hr=>Ld hr (j:=0) (n:=1) (t:=23) rfl rfl λv h=>h)
noncomputable def IT (U:List Int) (p1:List ah) (p2:Int):AS SS:=⟨[(0,(vs .dF)),(1,(va 7 0)),(9,(vi (↑p1.length:Int))),(10,(vi p2))],[(bX 25 [(.bR .i64 16 U),(.aP 23 p1)]),(bX 40 [(li 0)]),(bX 138 [(.bM 3)]),(some (.bM 88 [] [(.one (.br 4 0))])),(bX 140 [(.br 5 0)]),(bX 142 [(.bR .i64 16 U),(.aP 23 p1)]),(some (.bM 127 [] [(.one (.br 7 0))])),(bX 140 [(.br 5 0)])],8,(some ⟨⟨Tryz.f46,ax 46⟩,[34,35],(gk (aU Tryz.f46) 10),(gl (aU Tryz.f46) 10),[(1,(va 0 0)),(2,(va 1 0)),(4,(va 2 0)),(33,(vc 6))],none⟩),false,[],[]⟩
noncomputable def Mp (U:List Int) (p1:List ah):AS SS:=IT U p1 0
noncomputable def agh (U:List Int) (p1:List ah):AS SS:=⟨[],[(bX 25 [(.bR .i64 16 U),(.aP 23 p1)]),(bX 40 [(li 320)]),(bX 138 [(.bM 3)]),(some (.bM 88 [] [(.one (.br 4 0))])),(bX 140 [(.br 5 0)]),(bX 142 [(.bR .i64 16 U),(.aP 23 p1)]),(some (.bM 127 [] [(.one (.br 7 0))])),(bX 140 [(.br 5 0)])],8,(some ⟨⟨Tryz.f46,ax 46⟩,[34,35],(gk (aU Tryz.f46) 10),(gl (aU Tryz.f46) 10),[(1,(va 0 0)),(2,(va 1 0)),(4,(va 2 0)),(33,(vc 6))],(some .ret)⟩),false,[],[1]⟩
noncomputable def agi (U:List Int) (p1:List ah) (a0:Bool) (a1:Int):AS SS:= { IT U p1 a1 with env:=[(11,(vb a0)),(0,(vs .dF)),(1,(va 7 0)),(9,(vi (↑p1.length:Int))),(10,(vi a1))] }
noncomputable def Af (sh:Sh) (U:List Int) (p1:List ah) (p2:Int) (z0:ah) (a:Unit):T (Unit ⊕ Unit ⊕ (Bool×Int)):=
 .bd (qo sh z0.ae) λy1=>
  .bf (decide (y1>=1)) (
   .bf (decide (y1<=16)) (
    .bf (p2==0) (
     .bd (fk (IntKind.i64.wrap (y1-1)) 16) λz2=>
      .bf (IntKind.u64.wrap (IntKind.u64.wrap (z0.ae.tdiv 64)+1) !=IntKind.u64.wrap (aN U z2)) (
       .ok (.inr (.inl ())))<|
      .bf (z0.bW) (
       .bf (z0.bn==0) (
        .ok (.inr (.inl ())))<|
       .bf (!z0.bW) (
        .bf (z0.cP !=0) (
         .ok (.inr (.inl ())))<|
        .bf (z0.bn !=0) (
         .bf (z0.bn==z0.ae) (
          .ok (.inr (.inl ())))<|
         .gd (oa U p1 z0.bn)<|
          .bd (mg sh U p1 z0.bn) λog=> .cs og (λy3=>
           .bf (!!y3.bW) (
            .ok (.inr (.inl ())))<|
           .ok (.inl ())) λy3=>
           .ok (.inr (.inl ())))<|
        .ok (.inl ()))<|
       .bf (z0.bn !=0) (
        .bf (z0.bn==z0.ae) (
         .ok (.inr (.inl ())))<|
        .gd (oa U p1 z0.bn)<|
         .bd (mg sh U p1 z0.bn) λyp=> .cs yp (λy3=>
          .bf (!!y3.bW) (
           .ok (.inr (.inl ())))<|
          .ok (.inl ())) λy3=>
          .ok (.inr (.inl ())))<|
       .ok (.inl ()))<|
      .bf (!z0.bW) (
       .bf (z0.cP !=0) (
        .ok (.inr (.inl ())))<|
       .bf (z0.bn !=0) (
        .bf (z0.bn==z0.ae) (
         .ok (.inr (.inl ())))<|
        .gd (oa U p1 z0.bn)<|
         .bd (mg sh U p1 z0.bn) λyp=> .cs yp (λy3=>
          .bf (!!y3.bW) (
           .ok (.inr (.inl ())))<|
          .ok (.inl ())) λy3=>
          .ok (.inr (.inl ())))<|
       .ok (.inl ()))<|
      .bf (z0.bn !=0) (
       .bf (z0.bn==z0.ae) (
        .ok (.inr (.inl ())))<|
       .gd (oa U p1 z0.bn)<|
        .bd (mg sh U p1 z0.bn) λx9=> .cs x9 (λy3=>
         .bf (!!y3.bW) (
          .ok (.inr (.inl ())))<|
         .ok (.inl ())) λy3=>
         .ok (.inr (.inl ())))<|
      .ok (.inl ()))<|
    .bd (idx p1 (IntKind.i64.wrap (p2-1))) λz2=>
     .bd (qo sh z2.ae) λy3=>
      .bf (!decide (y3<y1)) (
       .ok (.inr (.inl ())))<|
      .bd (fk (IntKind.i64.wrap (y1-1)) 16) λz4=>
       .bf (IntKind.u64.wrap (IntKind.u64.wrap (z0.ae.tdiv 64)+1) !=IntKind.u64.wrap (aN U z4)) (
        .ok (.inr (.inl ())))<|
       .bf (z0.bW) (
        .bf (z0.bn==0) (
         .ok (.inr (.inl ())))<|
        .bf (!z0.bW) (
         .bf (z0.cP !=0) (
          .ok (.inr (.inl ())))<|
         .bf (z0.bn !=0) (
          .bf (z0.bn==z0.ae) (
           .ok (.inr (.inl ())))<|
          .gd (oa U p1 z0.bn)<|
           .bd (mg sh U p1 z0.bn) λx12=> .cs x12 (λy5=>
            .bf (!!y5.bW) (
             .ok (.inr (.inl ())))<|
            .ok (.inl ())) λy5=>
            .ok (.inr (.inl ())))<|
         .ok (.inl ()))<|
        .bf (z0.bn !=0) (
         .bf (z0.bn==z0.ae) (
          .ok (.inr (.inl ())))<|
         .gd (oa U p1 z0.bn)<|
          .bd (mg sh U p1 z0.bn) λog=> .cs og (λy5=>
           .bf (!!y5.bW) (
            .ok (.inr (.inl ())))<|
           .ok (.inl ())) λy5=>
           .ok (.inr (.inl ())))<|
        .ok (.inl ()))<|
       .bf (!z0.bW) (
        .bf (z0.cP !=0) (
         .ok (.inr (.inl ())))<|
        .bf (z0.bn !=0) (
         .bf (z0.bn==z0.ae) (
          .ok (.inr (.inl ())))<|
         .gd (oa U p1 z0.bn)<|
          .bd (mg sh U p1 z0.bn) λog=> .cs og (λy5=>
           .bf (!!y5.bW) (
            .ok (.inr (.inl ())))<|
           .ok (.inl ())) λy5=>
           .ok (.inr (.inl ())))<|
        .ok (.inl ()))<|
       .bf (z0.bn !=0) (
        .bf (z0.bn==z0.ae) (
         .ok (.inr (.inl ())))<|
        .gd (oa U p1 z0.bn)<|
         .bd (mg sh U p1 z0.bn) λyp=> .cs yp (λy5=>
          .bf (!!y5.bW) (
           .ok (.inr (.inl ())))<|
          .ok (.inl ())) λy5=>
          .ok (.inr (.inl ())))<|
       .ok (.inl ()))<|
   .ok (.inr (.inl ())))<|
  .ok (.inr (.inl ()))
noncomputable def yE (sh:Sh) (U:List Int) (p1:List ah) (p2:Int) (a:Unit):T (Unit ⊕ (Bool×Int)):=
 .ok (.inr ((decide (p2<(↑p1.length:Int))),p2))
noncomputable def zN (sh:Sh) (U:List Int) (p1:List ah):Option (Unit ⊕ (Bool×Int)):=cg sh (Af sh U p1) (yE sh U p1) p1 ()
noncomputable def acf {R:Type} (k:AX->AS SS->Option R) (U:List Int) (p1:List ah) (x:Unit ⊕ (Bool×Int)):Option R:=(λx=>Sum.rec (λv=>k .ret (agh U p1)) (λv=>k (.exit 0) (agi U p1 v.1 v.2)) x) x
noncomputable def VC:bo SS:=bJ 2 (λst=>((dU st 3 88).bind λ_=>(dU st 6 127).bind λ_=>jB st 132 10).bind λ_=>(fN (aZ st 0 0)).bind λU=>(bb 23 (aZ st 0 1)).bind λp1=>some (U,p1)) (λp=>Mp p.1 p.2) (λp=>zN shut p.1 p.2) (λk p=>acf k p.1 p.2)
noncomputable def aba:az SS:= { (mY shut) with T:=bl (bl ((mY shut).T) 126 ⟨⟨Tryz.f126,ax 126⟩,[Dz]⟩) 127 ⟨⟨Tryz.f127,ax 127⟩,[K1]⟩ }
theorem abb:aF aba Tryz.prog:=(aF.bK Oe Tryz.func127 rfl bg λc hc=>by cases hc;exact au.cons (au.nil) (by kernel_rfl) Xs)
theorem ame:aC KK Tryz.prog ⟨Tryz.f127,ax 127⟩ (bI (aU Tryz.f127) 2) VC:=
 aC.ck (π:=List Int×List ah) (σ:=Unit) abb (au.nil) rfl 60 (λp i a=>IT p.1 p.2 i) (λp=>p.2) (λp=>()) (St:=λp=>Af shut p.1 p.2) (F:=λp=>yE shut p.1 p.2) (λp=>rfl)
  (λm p i a k=>by kernel_rfl) (by rintro p (x|x)<;>exact⟨_,_,λ_=>rfl⟩) (λp N C A O w a hr=>Ld hr (j:=0) (n:=1) (t:=23) rfl rfl λv h=>h)
noncomputable def Of:az SS:= { (mY shut) with T:=bl (bl ((mY shut).T) 126 ⟨⟨Tryz.f126,ax 126⟩,[Dz]⟩) 127 ⟨⟨Tryz.f127,ax 127⟩,[vk (λst=>(dU st 3 127).bind λ_=>jB st 18 4) K1 (VC)]⟩ }
theorem abc:aF Of Tryz.prog:=(aF.bK (aF.bK (ab.all zI rfl) Tryz.func126 rfl bg λc hc=>by cases hc;exact au.cons (au.nil) (by kernel_rfl) Xq) Tryz.func127 rfl bg λc hc=>by cases hc;exact au.cons (au.nil) (by kernel_rfl) (aC.alt Xs ame))
noncomputable def Ba (sh:Sh) (p:b_):T (Int):=
 .bf ((↑p.ao.length:Int)==0) (
  .ok 320)<|
 .bd (idx p.ao 0) λz0=>
  .bf (!iN z0 (ah.mk 1 0 false 0)) (
   .ok 320)<|
  .gd (wj p.aR p.ao 0)<|
   .bd (F' sh p.aR p.ao 0) λx4=> .cs x4 (λy1=>
    .bf (decide (y1>=0)) (
     .ok 320)<|
    .gd (Mp p.aR p.ao)<|
     .bd (zN sh p.aR p.ao) λx6=> .cs x6 (λ_=>
      .ok 320) λy2=>
      .ok 0) λy1=>
    .gd (Mp p.aR p.ao)<|
     .bd (zN sh p.aR p.ao) λx6=> .cs x6 (λ_=>
      .ok 320) λy2=>
      .ok 0
noncomputable def qn (sh:Sh) (p:b_):Option (Int):=sh.s _ (Ba sh p).val
theorem ao4 {R:Type} (p:b_) (k:Rs SS->Option R):bu Of 100 46 [KK.aa 25 p] [] (bD KK [40] k)=(Ba shut p).run (λr=>k (.ret (.s (KK.aa 40 r)))):=by kernel_rfl
noncomputable def aeS (sh:Sh):bq SS:=bw KK 46 [25] (λ{R} xs k=>match xs with| .cons p .nil=>(qn sh p).bind (λr=>k (.ret (.s (KK.aa 40 r)))))
noncomputable def zu (sh:Sh):az SS:= { (mY sh) with C:=aeS sh::(mY sh).C }
theorem Pr:ab (zu shut) Tryz.prog:=ab.bB zI λxs k z _ hz=>bG abc (λ{R} xs k z h=>by
 match xs,h with
 | .cons p .nil,h=>exact⟨100,(ao4 p k).trans (bH h)⟩) hz
noncomputable def Bw (sh:Sh) (d:aj):T (Bool):=
 .bf (decide (d.ae<4294967296)) (
  .bf (decide (d.cJ>=0)) (
   .ok (decide (d.cJ<8)))<|
  .ok false)<|
 .ok false
noncomputable def Iq (sh:Sh) (d:aj):Option (Bool):=sh.s _ (Bw sh d).val
theorem apu {R:Type} (d:aj) (k:Rs SS->Option R):bu (zu shut) 100 94 [KK.aa 89 d] [] (bD KK [4] k)=(Bw shut d).run (λr=>k (.ret (.s (KK.aa 4 r)))):=by kernel_rfl
noncomputable def afk (sh:Sh):bq SS:=bw KK 94 [89] (λ{R} xs k=>match xs with| .cons d .nil=>(Iq sh d).bind (λr=>k (.ret (.s (KK.aa 4 r)))))
noncomputable def zJ (sh:Sh):az SS:= { (zu sh) with C:=afk sh::(zu sh).C }
theorem PC:ab (zJ shut) Tryz.prog:=ab.bB Pr λxs k z _ hz=>bG (ab.all Pr rfl) (λ{R} xs k z h=>by
 match xs,h with
 | .cons d .nil,h=>exact⟨100,(apu d k).trans (bH h)⟩) hz
noncomputable def AM (sh:Sh) (x y:Int):T (Int):=
 .bf (x !=x) (
  .bf (y !=y) (
   .ok 0)<|
  .ok (-1))<|
 .bf (y !=y) (
  .ok 1)<|
 .bf (decide (x<y)) (
  .ok (-1))<|
 .bf (decide (x>y)) (
  .ok 1)<|
 .ok 0
noncomputable def lN (sh:Sh) (x y:Int):Option (Int):=sh.s _ (AM sh x y).val
theorem aoi {R:Type} (x y:Int) (k:Rs SS->Option R):bu (zJ shut) 100 129 [KK.aa 28 x,KK.aa 28 y] [] (bD KK [3] k)=(AM shut x y).run (λr=>k (.ret (.s (KK.aa 3 r)))):=by kernel_rfl
noncomputable def ad4 (sh:Sh):bq SS:=bw KK 129 [28,28] (λ{R} xs k=>match xs with| .cons x (.cons y .nil)=>(lN sh x y).bind (λr=>k (.ret (.s (KK.aa 3 r)))))
noncomputable def zd (sh:Sh):az SS:= { (zJ sh) with C:=ad4 sh::(zJ sh).C }
theorem O_:ab (zd shut) Tryz.prog:=ab.bB PC λxs k z _ hz=>bG (ab.all PC rfl) (λ{R} xs k z h=>by
 match xs,h with
 | .cons x (.cons y .nil),h=>exact⟨100,(aoi x y k).trans (bH h)⟩) hz
noncomputable def Q0 (sh:Sh) (x y:Int):T (Int):=
 .bf (x !=x) (
  .bf (y !=y) (
   .ok 0)<|
  .ok (-1))<|
 .bf (y !=y) (
  .ok 1)<|
 .bf (decide (x<y)) (
  .ok (-1))<|
 .bf (decide (x>y)) (
  .ok 1)<|
 .ok 0
noncomputable def HM (sh:Sh) (x y:Int):Option (Int):=sh.s _ (Q0 sh x y).val
theorem aok {R:Type} (x y:Int) (k:Rs SS->Option R):bu (zd shut) 100 130 [KK.aa 3 x,KK.aa 3 y] [] (bD KK [3] k)=(Q0 shut x y).run (λr=>k (.ret (.s (KK.aa 3 r)))):=by kernel_rfl
noncomputable def ad6 (sh:Sh):bq SS:=bw KK 130 [3,3] (λ{R} xs k=>match xs with| .cons x (.cons y .nil)=>(HM sh x y).bind (λr=>k (.ret (.s (KK.aa 3 r)))))
noncomputable def tX (sh:Sh):az SS:= { (zd sh) with C:=ad6 sh::(zd sh).C }
theorem Fc:ab (tX shut) Tryz.prog:=ab.bB O_ λxs k z _ hz=>bG (ab.all O_ rfl) (λ{R} xs k z h=>by
 match xs,h with
 | .cons x (.cons y .nil),h=>exact⟨100,(aok x y k).trans (bH h)⟩) hz
noncomputable def wk (U:List Int) (p1:Int):AS SS:=⟨[(3,(vi 0)),(6,(vo 0)),(7,(vi 2)),(8,(vi p1))],[(rX 3 U)],1,none,false,[],[]⟩
noncomputable def agn (U:List Int) (a0:Int):AS SS:= { wk U a0 with env:=[(2,(vi a0))] }
noncomputable def ago (U:List Int) (a0:Bool) (a1:Int):AS SS:= { wk U a1 with env:=[(9,(vb a0)),(3,(vi 0)),(6,(vo 0)),(7,(vi 2)),(8,(vi a1))] }
noncomputable def ov (sh:Sh) (U:List Int) (a:Int):T (Int ⊕ Int ⊕ (Bool×Int)):=
 .bf (decide (a<2)) (
  .bd (idx U a) λz0=>
   .bd (U[a.toNat]?) λz1=>
    .bf (z1 !=0) (
     .ok (.inr (.inl z1)))<|
    .ok (.inl (IntKind.i64.wrap (a+1))))<|
 .ok (.inr (.inr ((decide (a<2)),a)))
noncomputable def Gb (sh:Sh) (U:List Int) (p1:Int):Option (Int ⊕ (Bool×Int)):=cA sh (ov sh U) 1000000 p1
noncomputable def aci {R:Type} (k:AX->AS SS->Option R) (U:List Int) (x:Int ⊕ (Bool×Int)):Option R:=(λx=>Sum.rec (λv=>k .ret (agn U v)) (λv=>k (.exit 0) (ago U v.1 v.2)) x) x
noncomputable def VE:bo SS:=bJ 4 (λst=>(db st 0 3).bind λU=>(bE (aS st 8 0)).bind λp1=>some (U,p1)) (λp=>wk p.1 p.2) (λp=>Gb shut p.1 p.2) (λk p=>aci k p.1)
theorem amg:aC KK Tryz.prog ⟨Tryz.f128,ax 128⟩ (bI (aU Tryz.f128) 4) VE:=
 aC.cA (π:=List Int×Int) (σ:=Int) (ab.all Fc rfl) (au.nil) rfl 60 (λp a=>wk p.1 a) (λp=>p.2) (St:=λp=>ov shut p.1) (λp=>1000000) (λp=>rfl)
  (λm p a k=>by kernel_rfl)
noncomputable def Ox:az SS:= { (tX shut) with T:=bl ((tX shut).T) 128 ⟨⟨Tryz.f128,ax 128⟩,[VE]⟩ }
theorem abq:aF Ox Tryz.prog:=(aF.bK (ab.all Fc rfl) Tryz.func128 rfl bg λc hc=>by cases hc;exact au.cons (au.nil) (by kernel_rfl) amg)
noncomputable def Bx (sh:Sh) (a b:aj):T (Int):=
 .bd (lN sh a.ae b.ae) λy0=>
  .bd (HM sh a.cJ b.cJ) λy1=>
   .gd (wk [y0,y1] 0)<|
    .bd (Gb sh [y0,y1] 0) λx5=> .cs x5 (λy2=>
     .ok y2) λy2=>
     .ok 0
noncomputable def vH (sh:Sh) (a b:aj):Option (Int):=sh.s _ (Bx sh a b).val
theorem apv {R:Type} (a b:aj) (k:Rs SS->Option R):bu Ox 100 95 [KK.aa 89 a,KK.aa 89 b] [] (bD KK [3] k)=(Bx shut a b).run (λr=>k (.ret (.s (KK.aa 3 r)))):=by kernel_rfl
noncomputable def afl (sh:Sh):bq SS:=bw KK 95 [89,89] (λ{R} xs k=>match xs with| .cons a (.cons b .nil)=>(vH sh a b).bind (λr=>k (.ret (.s (KK.aa 3 r)))))
noncomputable def uT (sh:Sh):az SS:= { (tX sh) with C:=afl sh::(tX sh).C }
theorem F0:ab (uT shut) Tryz.prog:=ab.bB Fc λxs k z _ hz=>bG abq (λ{R} xs k z h=>by
 match xs,h with
 | .cons a (.cons b .nil),h=>exact⟨100,(apv a b k).trans (bH h)⟩) hz
noncomputable def CT (U:List aj) (p1:Int):AS SS:=⟨[(0,(vd 26 U)),(8,(vd 26 U)),(9,(vi (↑U.length:Int))),(10,(vi p1))],[],0,none,false,[],[]⟩
noncomputable def YQ (U:List aj):AS SS:=CT U 0
noncomputable def ahl (U:List aj):AS SS:= { CT U 0 with env:=[(2,(vi 330))] }
noncomputable def ahm (U:List aj) (a0:Bool) (a1:Int):AS SS:= { CT U a1 with env:=[(11,(vb a0)),(0,(vd 26 U)),(8,(vd 26 U)),(9,(vi (↑U.length:Int))),(10,(vi a1))] }
noncomputable def u7 (sh:Sh) (U:List aj) (p1:Int) (z0:aj) (a:Unit):T (Unit ⊕ Unit ⊕ (Bool×Int)):=
 .bd (Iq sh z0) λy1=>
  .bf (!y1) (
   .ok (.inr (.inl ())))<|
  .bf (decide (p1>0)) (
   .bd (idx U (IntKind.i64.wrap (p1-1))) λz2=>
    .bd (vH sh z2 z0) λy3=>
     .bf (decide (y3>=0)) (
      .ok (.inr (.inl ())))<|
     .ok (.inl ()))<|
  .ok (.inl ())
noncomputable def yN (sh:Sh) (U:List aj) (p1:Int) (a:Unit):T (Unit ⊕ (Bool×Int)):=
 .ok (.inr ((decide (p1<(↑U.length:Int))),p1))
noncomputable def Gs (sh:Sh) (U:List aj):Option (Unit ⊕ (Bool×Int)):=cg sh (u7 sh U) (yN sh U) U ()
noncomputable def acV {R:Type} (k:AX->AS SS->Option R) (U:List aj) (x:Unit ⊕ (Bool×Int)):Option R:=(λx=>Sum.rec (λv=>k .ret (ahl U)) (λv=>k (.exit 0) (ahm U v.1 v.2)) x) x
noncomputable def V8:bo SS:=bJ 5 (λst=>(bb 26 (aS st 0 0)).bind λU=>some U) (λp=>YQ p) (λp=>Gs shut p) (λk p=>acV k p)
theorem amN:aC KK Tryz.prog ⟨Tryz.f47,ax 47⟩ (bI (aU Tryz.f47) 5) V8:=
 aC.ck (π:=List aj) (σ:=Unit) (ab.all F0 rfl) (au.nil) rfl 60 (λp i a=>CT p i) (λp=>p) (λp=>()) (St:=λp=>u7 shut p) (F:=λp=>yN shut p) (λp=>rfl)
  (λm p i a k=>by kernel_rfl) (by rintro p (x|x)<;>exact⟨_,_,λ_=>rfl⟩) (λp N C A O w a hr=>cH hr (t:=26) (sl:=0) rfl λv h=>h)
noncomputable def Og:az SS:= { (uT shut) with T:=bl ((uT shut).T) 47 ⟨⟨Tryz.f47,ax 47⟩,[V8]⟩ }
theorem abd:aF Og Tryz.prog:=(aF.bK (ab.all F0 rfl) Tryz.func47 rfl bg λc hc=>by cases hc;exact au.cons (au.nil) (by kernel_rfl) amN)
noncomputable def Bb (sh:Sh) (l:List aj):T (Int):=
 .bf (decide ((↑l.length:Int)>64)) (
  .ok 330)<|
 .gd (YQ l)<|
  .bd (Gs sh l) λx3=> .cs x3 (λ_=>
   .ok 330) λy0=>
   .ok 0
noncomputable def ng (sh:Sh) (l:List aj):Option (Int):=sh.s _ (Bb sh l).val
theorem ao5 {R:Type} (l:List aj) (k:Rs SS->Option R):bu Og 100 47 [KK.aa 26 l] [] (bD KK [40] k)=(Bb shut l).run (λr=>k (.ret (.s (KK.aa 40 r)))):=by kernel_rfl
noncomputable def aeT (sh:Sh):bq SS:=bw KK 47 [26] (λ{R} xs k=>match xs with| .cons l .nil=>(ng sh l).bind (λr=>k (.ret (.s (KK.aa 40 r)))))
noncomputable def uC (sh:Sh):az SS:= { (uT sh) with C:=aeT sh::(uT sh).C }
theorem FL:ab (uC shut) Tryz.prog:=ab.bB F0 λxs k z _ hz=>bG abd (λ{R} xs k z h=>by
 match xs,h with
 | .cons l .nil,h=>exact⟨100,(ao5 l k).trans (bH h)⟩) hz
noncomputable def rW (sh:Sh) (p:Int):T (Bool):=
 .bf (decide (p>=1)) (
  .ok (decide (p<4294967296)))<|
 .ok false
noncomputable def ss (sh:Sh) (p:Int):Option (Bool):=sh.s _ (rW sh p).val
theorem Zr {R:Type} (p:Int) (k:Rs SS->Option R):bu (uC shut) 100 99 [KK.aa 28 p] [] (bD KK [4] k)=(rW shut p).run (λr=>k (.ret (.s (KK.aa 4 r)))):=by kernel_rfl
noncomputable def afo (sh:Sh):bq SS:=bw KK 99 [28] (λ{R} xs k=>match xs with| .cons p .nil=>(ss sh p).bind (λr=>k (.ret (.s (KK.aa 4 r)))))
noncomputable def uV (sh:Sh):az SS:= { (uC sh) with C:=afo sh::(uC sh).C }
theorem F2:ab (uV shut) Tryz.prog:=ab.bB FL λxs k z _ hz=>bG (ab.all FL rfl) (λ{R} xs k z h=>by
 match xs,h with
 | .cons p .nil,h=>exact⟨100,(Zr p k).trans (bH h)⟩) hz
noncomputable def wq (U:ByteArray) (p1:List Int) (p2 p3:Int):AS SS:=⟨[(0,(vs (.v (.string U)))),(5,(vu p2)),(14,(.s (.agg [(.bR .u8 8 p1)]))),(15,(vi p3))],[],0,none,false,[],[]⟩
noncomputable def ahP (U:ByteArray) (p1:List Int):AS SS:= { wq U p1 0 0 with env:=[(2,(vu 0)),(3,(vi 2))] }
noncomputable def ahQ (U:ByteArray) (p1:List Int) (a0:Bool) (a1 a2:Int):AS SS:= { wq U p1 a1 a1 with env:=[(16,(vb a0)),(0,(vs (.v (.string U)))),(5,(vu a1)),(14,(.s (.agg [(.bR .u8 8 p1)]))),(15,(vi a2))] }
noncomputable def u9 (sh:Sh) (U:ByteArray) (p1:List Int) (a:Int×Int):T ((Int×Int) ⊕ Unit ⊕ (Bool×Int×Int)):=
 .bf (decide (a.2<8)) (
  .bd (fk a.2 8) λz0=>
   .bf (aN p1 z0==0) (
    .bf (decide (a.2<(↑U.size:Int))) (
     .ok (.inr (.inl ())))<|
    .bd (ru IntKind.u64 (IntKind.u64.wrap (aN p1 z0)) (IntKind.i64.wrap (8*a.2))) λz1=>
     .ok (.inl ((bits BinOp.or IntKind.u64 a.1 z1),(IntKind.i64.wrap (a.2+1)))))<|
   .bd (ru IntKind.u64 (IntKind.u64.wrap (aN p1 z0)) (IntKind.i64.wrap (8*a.2))) λz1=>
    .ok (.inl ((bits BinOp.or IntKind.u64 a.1 z1),(IntKind.i64.wrap (a.2+1)))))<|
 .ok (.inr (.inr ((decide (a.2<8)),a.1,a.2)))
noncomputable def Gy (sh:Sh) (U:ByteArray) (p1:List Int) (p2 p3:Int):Option (Unit ⊕ (Bool×Int×Int)):=cA sh (u9 sh U p1) 1000000 (p2,p3)
noncomputable def ada {R:Type} (k:AX->AS SS->Option R) (U:ByteArray) (p1:List Int) (x:Unit ⊕ (Bool×Int×Int)):Option R:=(λx=>Sum.rec (λv=>k .ret (ahP U p1)) (λv=>k (.exit 0) (ahQ U p1 v.1 v.2.1 v.2.2)) x) x
noncomputable def Wj:bo SS:=bJ 8 (λst=>(nf (aS st 0 0)).bind λU=>(fN (aS st 14 0)).bind λp1=>(bE (aS st 5 0)).bind λp2=>(bE (aS st 15 0)).bind λp3=>some (U,p1,p2,p3)) (λp=>wq p.1 p.2.1 p.2.2.1 p.2.2.2) (λp=>Gy shut p.1 p.2.1 p.2.2.1 p.2.2.2) (λk p=>ada k p.1 p.2.1)
theorem am4:aC KK Tryz.prog ⟨Tryz.f79,ax 79⟩ (bI (aU Tryz.f79) 8) Wj:=
 aC.cA (π:=ByteArray×List Int×Int×Int) (σ:=Int×Int) (ab.all F2 rfl) (au.nil) rfl 60 (λp a=>wq p.1 p.2.1 a.1 a.2) (λp=>(p.2.2.1,p.2.2.2)) (St:=λp=>u9 shut p.1 p.2.1) (λp=>1000000) (λp=>rfl)
  (λm p a k=>by kernel_rfl)
noncomputable def Ov:az SS:= { (uV shut) with T:=bl ((uV shut).T) 79 ⟨⟨Tryz.f79,ax 79⟩,[Wj]⟩ }
theorem abo:aF Ov Tryz.prog:=(aF.bK (ab.all F2 rfl) Tryz.func79 rfl bg λc hc=>by cases hc;exact au.cons (au.nil) (by kernel_rfl) am4)
noncomputable def Bn (sh:Sh) (s:ByteArray):T (Int×Int):=
 .bf (decide ((↑s.size:Int)>8)) (
  .ok (0,111))<|
 .bd (Eo KK (aJ (fG (fG (fG (fG (fG (fG (fG (fG [] []++[]) []++[]) []++[]) []++[]) []++[]) []++[some (Ob.box 174 (List.map LV.v [Value.int IntKind.u8 0,Value.int IntKind.u8 0,Value.int IntKind.u8 0,Value.int IntKind.u8 0,Value.int IntKind.u8 0,Value.int IntKind.u8 0,Value.int IntKind.u8 0,Value.int IntKind.u8 0]))]) []++[]) []++[])) 5 IntKind.u8 8 (LV.v (Value.string s))) λz0=>
  .gd (wq s (cU [0,0,0,0,0,0,0,0] z0) 0 0)<|
   .bd (Gy sh s (cU [0,0,0,0,0,0,0,0] z0) 0 0) λx4=> .cs x4 (λ_=>
    .ok (0,2)) λy1=>
    .ok (y1.2.1,0)
noncomputable def vF (sh:Sh) (s:ByteArray):Option (Int×Int):=sh.s _ (Bn sh s).val
theorem apj {R:Type} (s:ByteArray) (k:Rs SS->Option R):bu Ov 100 79 [KK.aa 9 s] [] (bD KK [28,40] k)=(Bn shut s).run (λr=>k (.ret (.aY [KK.aa 28 r.1,KK.aa 40 r.2]))):=by kernel_rfl
noncomputable def ae_ (sh:Sh):bq SS:=bw KK 79 [9] (λ{R} xs k=>match xs with| .cons s .nil=>(vF sh s).bind (λr=>k (.ret (.aY [KK.aa 28 r.1,KK.aa 40 r.2]))))
noncomputable def uK (sh:Sh):az SS:= { (uV sh) with C:=ae_ sh::(uV sh).C }
theorem FU:ab (uK shut) Tryz.prog:=ab.bB F2 λxs k z _ hz=>bG abo (λ{R} xs k z h=>by
 match xs,h with
 | .cons s .nil,h=>exact⟨100,(apj s k).trans (bH h)⟩) hz
noncomputable def Cx (U p1:Int) (p2:List Int):AS SS:=⟨[(0,(vu U)),(4,(vo 0)),(5,(vu p1))],[(rX 5 p2)],0,none,false,[],[]⟩
noncomputable def agp (U:Int) (a0:Bool) (a1 a2:Int) (a3:List Int):AS SS:= { Cx U U a3 with env:=[(12,(vb a0)),(11,(vu a1)),(10,(vu a2)),(0,(vu U)),(4,(vo 0)),(5,(vu a2))] }
noncomputable def u5 (sh:Sh) (U:Int) (a:Int×List Int):T ((Int×List Int) ⊕ (Bool×Int×Int×List Int)):=
 .bf (bits BinOp.and IntKind.u64 a.1 255 !=0) (
  .bd (app 1 a.2 [IntKind.u8.wrap a.1]) λz0=>
   .ok (.inl ((a.1.fdiv 256),z0)))<|
 .ok (.inr ((bits BinOp.and IntKind.u64 a.1 255 !=0),(bits BinOp.and IntKind.u64 a.1 255),a.1,a.2))
noncomputable def Gc (sh:Sh) (U p1:Int) (p2:List Int):Option ((Bool×Int×Int×List Int)):=cA sh (u5 sh U) 1000000 (p1,p2)
noncomputable def acj {R:Type} (k:AX->AS SS->Option R) (U:Int) (x:(Bool×Int×Int×List Int)):Option R:=(λv=>k (.exit 0) (agp U v.1 v.2.1 v.2.2.1 v.2.2.2)) x
noncomputable def VF:bo SS:=bJ 4 (λst=>(bE (aS st 0 0)).bind λU=>(bE (aS st 5 0)).bind λp1=>(db st 0 5).bind λp2=>some (U,p1,p2)) (λp=>Cx p.1 p.2.1 p.2.2) (λp=>Gc shut p.1 p.2.1 p.2.2) (λk p=>acj k p.1)
theorem amh:aC KK Tryz.prog ⟨Tryz.f132,ax 132⟩ (bI (aU Tryz.f132) 4) VF:=
 aC.cA (π:=Int×Int×List Int) (σ:=Int×List Int) (ab.all FU rfl) (au.nil) rfl 60 (λp a=>Cx p.1 a.1 a.2) (λp=>(p.2.1,p.2.2)) (St:=λp=>u5 shut p.1) (λp=>1000000) (λp=>rfl)
  (λm p a k=>by kernel_rfl)
noncomputable def Nv:az SS:= { (uK shut) with T:=bl ((uK shut).T) 132 ⟨⟨Tryz.f132,ax 132⟩,[VF]⟩ }
theorem aam:aF Nv Tryz.prog:=(aF.bK (ab.all FU rfl) Tryz.func132 rfl bg λc hc=>by cases hc;exact au.cons (au.nil) (by kernel_rfl) amh)
noncomputable def AP (sh:Sh) (w:Int):T (ByteArray×Int):=
 .gd (Cx w w [])<|
  .bd (Gc sh w w []) λy0=>
   .bd (mF KK 5 IntKind.u8 y0.2.2.2) λz1=>
    .bd (vF sh (strOf z1)) λy2=>
     .bf (y2.2 !=0) (
      .ok ((ByteArray.mk #[]),2))<|
     .bf (y2.1 !=w) (
      .ok ((ByteArray.mk #[]),2))<|
     .ok ((strOf z1),0)
noncomputable def B0 (sh:Sh) (w:Int):Option (ByteArray×Int):=sh.s _ (AP sh w).val
theorem aom {R:Type} (w:Int) (k:Rs SS->Option R):bu Nv 100 132 [KK.aa 28 w] [] (bD KK [9,40] k)=(AP shut w).run (λr=>k (.ret (.aY [KK.aa 9 r.1,KK.aa 40 r.2]))):=by kernel_rfl
noncomputable def ad8 (sh:Sh):bq SS:=bw KK 132 [28] (λ{R} xs k=>match xs with| .cons w .nil=>(B0 sh w).bind (λr=>k (.ret (.aY [KK.aa 9 r.1,KK.aa 40 r.2]))))
noncomputable def tY (sh:Sh):az SS:= { (uK sh) with C:=ad8 sh::(uK sh).C }
theorem Fe:ab (tY shut) Tryz.prog:=ab.bB FU λxs k z _ hz=>bG aam (λ{R} xs k z h=>by
 match xs,h with
 | .cons w .nil,h=>exact⟨100,(aom w k).trans (bH h)⟩) hz
noncomputable def my (U:Bool) (p1:ByteArray) (p2:Nat):AS SS:=⟨[(5,(vb U)),(20,(vs (.dy 0)))],[(some (.dy p1 p2))],0,none,false,[],[]⟩
noncomputable def ahX (p1:ByteArray) (a0 a1:Bool) (a2:Int) (a3 a4 a5 a6:Bool) (a7:Int) (a8:Nat):AS SS:= { my a0 p1 a8 with env:=[(42,(vb a0)),(41,(vb a1)),(5,(vb a1)),(40,(vb a1)),(39,(vb a1)),(25,(vb true)),(38,(vb a1)),(32,(vb false)),(37,(vb a1)),(35,(vb true)),(36,(vs (.v (.int .i32 a2)))),(35,(vb true)),(35,(vb a3)),(32,(vb false)),(34,(vb a3)),(32,(vb false)),(33,(vs (.v (.int .i32 a2)))),(32,(vb false)),(32,(vb a4)),(25,(vb true)),(31,(vb a4)),(25,(vb true)),(30,(vb a4)),(28,(vb true)),(29,(vs (.v (.int .i32 a2)))),(28,(vb true)),(28,(vb a5)),(25,(vb true)),(27,(vb a5)),(25,(vb true)),(26,(vs (.v (.int .i32 a2)))),(25,(vb true)),(25,(vb a6)),(24,(vb a6)),(7,(vs (.v (.int .i32 a2)))),(23,(vs (.v (.int .i32 a2)))),(22,(vb true)),(21,(.aY [(.one (.v (.bool true))),(.one (li a7)),(.one (.v (.int .i32 a2)))])),(5,(vb a6)),(20,(vs (.dy 0)))] }
noncomputable def ahY (p1:ByteArray) (a0:Bool) (a1:Int) (a2 a3 a4:Bool) (a5:Int) (a6:Nat):AS SS:= { my a0 p1 a6 with env:=[(42,(vb true)),(41,(vb false)),(5,(vb false)),(40,(vb false)),(39,(vb false)),(25,(vb true)),(38,(vb false)),(32,(vb false)),(37,(.aY [])),(35,(vb false)),(36,(.aY [])),(35,(vb false)),(35,(vb a0)),(32,(vb false)),(34,(vb a0)),(32,(vb false)),(33,(vs (.v (.int .i32 a1)))),(32,(vb false)),(32,(vb a2)),(25,(vb true)),(31,(vb a2)),(25,(vb true)),(30,(vb a2)),(28,(vb true)),(29,(vs (.v (.int .i32 a1)))),(28,(vb true)),(28,(vb a3)),(25,(vb true)),(27,(vb a3)),(25,(vb true)),(26,(vs (.v (.int .i32 a1)))),(25,(vb true)),(25,(vb a4)),(24,(vb a4)),(7,(vs (.v (.int .i32 a1)))),(23,(vs (.v (.int .i32 a1)))),(22,(vb true)),(21,(.aY [(.one (.v (.bool true))),(.one (li a5)),(.one (.v (.int .i32 a1)))])),(5,(vb a4)),(20,(vs (.dy 0)))] }
noncomputable def ahZ (p1:ByteArray) (a0 a1:Bool) (a2:Int) (a3 a4 a5:Bool) (a6:Int) (a7:Nat):AS SS:= { my a0 p1 a7 with env:=[(42,(vb a0)),(41,(vb a1)),(5,(vb a1)),(40,(vb a1)),(39,(vb a1)),(25,(vb true)),(38,(vb a1)),(32,(vb false)),(37,(vb a1)),(35,(vb true)),(36,(vs (.v (.int .i32 a2)))),(35,(vb true)),(35,(vb a3)),(32,(vb false)),(34,(vb a3)),(32,(vb false)),(33,(vs (.v (.int .i32 a2)))),(32,(vb false)),(32,(vb false)),(25,(vb true)),(31,(vb false)),(25,(vb true)),(30,(.aY [])),(28,(vb false)),(29,(.aY [])),(28,(vb false)),(28,(vb a4)),(25,(vb true)),(27,(vb a4)),(25,(vb true)),(26,(vs (.v (.int .i32 a2)))),(25,(vb true)),(25,(vb a5)),(24,(vb a5)),(7,(vs (.v (.int .i32 a2)))),(23,(vs (.v (.int .i32 a2)))),(22,(vb true)),(21,(.aY [(.one (.v (.bool true))),(.one (li a6)),(.one (.v (.int .i32 a2)))])),(5,(vb a5)),(20,(vs (.dy 0)))] }
noncomputable def ah0 (p1:ByteArray) (a0:Bool) (a1:Int) (a2 a3:Bool) (a4:Int) (a5:Nat):AS SS:= { my a0 p1 a5 with env:=[(42,(vb true)),(41,(vb false)),(5,(vb false)),(40,(vb false)),(39,(vb false)),(25,(vb true)),(38,(vb false)),(32,(vb false)),(37,(.aY [])),(35,(vb false)),(36,(.aY [])),(35,(vb false)),(35,(vb a0)),(32,(vb false)),(34,(vb a0)),(32,(vb false)),(33,(vs (.v (.int .i32 a1)))),(32,(vb false)),(32,(vb false)),(25,(vb true)),(31,(vb false)),(25,(vb true)),(30,(.aY [])),(28,(vb false)),(29,(.aY [])),(28,(vb false)),(28,(vb a2)),(25,(vb true)),(27,(vb a2)),(25,(vb true)),(26,(vs (.v (.int .i32 a1)))),(25,(vb true)),(25,(vb a3)),(24,(vb a3)),(7,(vs (.v (.int .i32 a1)))),(23,(vs (.v (.int .i32 a1)))),(22,(vb true)),(21,(.aY [(.one (.v (.bool true))),(.one (li a4)),(.one (.v (.int .i32 a1)))])),(5,(vb a3)),(20,(vs (.dy 0)))] }
noncomputable def ah1 (p1:ByteArray) (a0:Bool) (a1 a2:Int) (a3:Nat):AS SS:= { my a0 p1 a3 with env:=[(42,(vb true)),(41,(vb false)),(5,(vb false)),(40,(vb false)),(39,(.aY [])),(25,(vb false)),(38,(.aY [])),(37,(.aY [])),(36,(.aY [])),(35,(.aY [])),(34,(.aY [])),(33,(.aY [])),(32,(.aY [])),(25,(vb false)),(31,(.aY [])),(25,(vb false)),(30,(.aY [])),(29,(.aY [])),(28,(.aY [])),(25,(vb false)),(27,(.aY [])),(25,(vb false)),(26,(.aY [])),(25,(vb false)),(25,(vb a0)),(24,(vb a0)),(7,(vs (.v (.int .i32 a1)))),(23,(vs (.v (.int .i32 a1)))),(22,(vb true)),(21,(.aY [(.one (.v (.bool true))),(.one (li a2)),(.one (.v (.int .i32 a1)))])),(5,(vb a0)),(20,(vs (.dy 0)))] }
noncomputable def ah2 (p1:ByteArray) (a0:Bool) (a1:Nat):AS SS:= { my a0 p1 a1 with env:=[(22,(vb false)),(21,(.aY [(.one (.v (.bool false)))])),(5,(vb a0)),(20,(vs (.dy 0)))] }
noncomputable def oz (sh:Sh) (p1:ByteArray) (a:Bool×Nat):T ((Bool×Nat) ⊕ (Bool×Bool×Int×Bool×Bool×Bool×Bool×Int×Nat) ⊕ (Bool×Int×Bool×Bool×Bool×Int×Nat) ⊕ (Bool×Bool×Int×Bool×Bool×Bool×Int×Nat) ⊕ (Bool×Int×Bool×Bool×Int×Nat) ⊕ (Bool×Int×Int×Nat) ⊕ (Bool×Nat)):=
 .bf (decide (a.2<p1.size)) (
  .bf (a.1) (
   .bf (decide ((↑(Utf8.decode p1 a.2).fst:Int)>=97)) (
    .bf (decide ((↑(Utf8.decode p1 a.2).fst:Int)<=122)) (
     .ok (.inl (true,(a.2+(Utf8.decode p1 a.2).snd))))<|
    .bf (decide ((↑(Utf8.decode p1 a.2).fst:Int)>=48)) (
     .bf (!decide ((↑(Utf8.decode p1 a.2).fst:Int)<=57)) (
      .ok (.inr (.inl ((!decide ((↑(Utf8.decode p1 a.2).fst:Int)<=57)),(decide ((↑(Utf8.decode p1 a.2).fst:Int)<=57)),((↑(Utf8.decode p1 a.2).fst:Int)),(decide ((↑(Utf8.decode p1 a.2).fst:Int)>=48)),(decide ((↑(Utf8.decode p1 a.2).fst:Int)<=122)),(decide ((↑(Utf8.decode p1 a.2).fst:Int)>=97)),a.1,(↑a.2:Int),(a.2+(Utf8.decode p1 a.2).snd)))))<|
     .ok (.inl ((decide ((↑(Utf8.decode p1 a.2).fst:Int)<=57)),(a.2+(Utf8.decode p1 a.2).snd))))<|
    .ok (.inr (.inr (.inl ((decide ((↑(Utf8.decode p1 a.2).fst:Int)>=48)),((↑(Utf8.decode p1 a.2).fst:Int)),(decide ((↑(Utf8.decode p1 a.2).fst:Int)<=122)),(decide ((↑(Utf8.decode p1 a.2).fst:Int)>=97)),a.1,(↑a.2:Int),(a.2+(Utf8.decode p1 a.2).snd))))))<|
   .bf (decide ((↑(Utf8.decode p1 a.2).fst:Int)>=48)) (
    .bf (!decide ((↑(Utf8.decode p1 a.2).fst:Int)<=57)) (
     .ok (.inr (.inr (.inr (.inl ((!decide ((↑(Utf8.decode p1 a.2).fst:Int)<=57)),(decide ((↑(Utf8.decode p1 a.2).fst:Int)<=57)),((↑(Utf8.decode p1 a.2).fst:Int)),(decide ((↑(Utf8.decode p1 a.2).fst:Int)>=48)),(decide ((↑(Utf8.decode p1 a.2).fst:Int)>=97)),a.1,(↑a.2:Int),(a.2+(Utf8.decode p1 a.2).snd)))))))<|
    .ok (.inl ((decide ((↑(Utf8.decode p1 a.2).fst:Int)<=57)),(a.2+(Utf8.decode p1 a.2).snd))))<|
   .ok (.inr (.inr (.inr (.inr (.inl ((decide ((↑(Utf8.decode p1 a.2).fst:Int)>=48)),((↑(Utf8.decode p1 a.2).fst:Int)),(decide ((↑(Utf8.decode p1 a.2).fst:Int)>=97)),a.1,(↑a.2:Int),(a.2+(Utf8.decode p1 a.2).snd))))))))<|
  .ok (.inr (.inr (.inr (.inr (.inr (.inl (a.1,((↑(Utf8.decode p1 a.2).fst:Int)),(↑a.2:Int),(a.2+(Utf8.decode p1 a.2).snd)))))))))<|
 .ok (.inr (.inr (.inr (.inr (.inr (.inr (a.1,a.2)))))))
noncomputable def uX (sh:Sh) (U:Bool) (p1:ByteArray) (p2:Nat):Option ((Bool×Bool×Int×Bool×Bool×Bool×Bool×Int×Nat) ⊕ (Bool×Int×Bool×Bool×Bool×Int×Nat) ⊕ (Bool×Bool×Int×Bool×Bool×Bool×Int×Nat) ⊕ (Bool×Int×Bool×Bool×Int×Nat) ⊕ (Bool×Int×Int×Nat) ⊕ (Bool×Nat)):=cA sh (oz sh p1) 1000000 (U,p2)
noncomputable def adj {R:Type} (k:AX->AS SS->Option R) (p1:ByteArray) (x:(Bool×Bool×Int×Bool×Bool×Bool×Bool×Int×Nat) ⊕ (Bool×Int×Bool×Bool×Bool×Int×Nat) ⊕ (Bool×Bool×Int×Bool×Bool×Bool×Int×Nat) ⊕ (Bool×Int×Bool×Bool×Int×Nat) ⊕ (Bool×Int×Int×Nat) ⊕ (Bool×Nat)):Option R:=(λx=>Sum.rec (λv=>k (.exit 0) (ahX p1 v.1 v.2.1 v.2.2.1 v.2.2.2.1 v.2.2.2.2.1 v.2.2.2.2.2.1 v.2.2.2.2.2.2.1 v.2.2.2.2.2.2.2.1 v.2.2.2.2.2.2.2.2)) (λx=>Sum.rec (λv=>k (.exit 0) (ahY p1 v.1 v.2.1 v.2.2.1 v.2.2.2.1 v.2.2.2.2.1 v.2.2.2.2.2.1 v.2.2.2.2.2.2)) (λx=>Sum.rec (λv=>k (.exit 0) (ahZ p1 v.1 v.2.1 v.2.2.1 v.2.2.2.1 v.2.2.2.2.1 v.2.2.2.2.2.1 v.2.2.2.2.2.2.1 v.2.2.2.2.2.2.2)) (λx=>Sum.rec (λv=>k (.exit 0) (ah0 p1 v.1 v.2.1 v.2.2.1 v.2.2.2.1 v.2.2.2.2.1 v.2.2.2.2.2)) (λx=>Sum.rec (λv=>k (.exit 0) (ah1 p1 v.1 v.2.1 v.2.2.1 v.2.2.2)) (λv=>k (.exit 0) (ah2 p1 v.1 v.2)) x) x) x) x) x) x
noncomputable def Wo:bo SS:=bJ 5 (λst=>(oJ (aS st 5 0)).bind λU=>(hpS st 0).bind λp1=>(UF st 0).bind λp2=>some (U,p1,p2)) (λp=>my p.1 p.2.1 p.2.2) (λp=>uX shut p.1 p.2.1 p.2.2) (λk p=>adj k p.2.1)
theorem am':aC KK Tryz.prog ⟨Tryz.f98,ax 98⟩ (bI (aU Tryz.f98) 5) Wo:=
 aC.cA (π:=Bool×ByteArray×Nat) (σ:=Bool×Nat) (ab.all Fe rfl) (au.nil) rfl 60 (λp a=>my a.1 p.2.1 a.2) (λp=>(p.1,p.2.2)) (St:=λp=>oz shut p.2.1) (λp=>1000000) (λp=>rfl)
  (λm p a k=>by kernel_rfl)
noncomputable def Oy:az SS:= { (tY shut) with T:=bl ((tY shut).T) 98 ⟨⟨Tryz.f98,ax 98⟩,[Wo]⟩ }
theorem abr:aF Oy Tryz.prog:=(aF.bK (ab.all Fe rfl) Tryz.func98 rfl bg λc hc=>by cases hc;exact au.cons (au.nil) (by kernel_rfl) am')
noncomputable def Bz (sh:Sh) (w:Int):T (Bool):=
 .bd (B0 sh w) λy0=>
  .bf (y0.2==0) (
   .gd (my (!y0.1.toList==(ByteArray.mk #[]).toList) y0.1 0)<|
    .bd (uX sh (!y0.1.toList==(ByteArray.mk #[]).toList) y0.1 0) λx5=> .cs x5 (λy1=>
     .ok y1.2.1) λM6=> .cs M6 (λy1=>
     .ok false) λM7=> .cs M7 (λy1=>
     .ok y1.2.1) λM8=> .cs M8 (λy1=>
     .ok false) λM9=> .cs M9 (λy1=>
     .ok false) λy1=>
     .ok y1.1)<|
  .gd (my false y0.1 0)<|
   .bd (uX sh false y0.1 0) λx4=> .cs x4 (λy1=>
    .ok y1.2.1) λx4c=> .cs x4c (λy1=>
    .ok false) λap2=> .cs ap2 (λy1=>
    .ok y1.2.1) λap3=> .cs ap3 (λy1=>
    .ok false) λap4=> .cs ap4 (λy1=>
    .ok false) λy1=>
    .ok y1.1
noncomputable def nh (sh:Sh) (w:Int):Option (Bool):=sh.s _ (Bz sh w).val
theorem apx {R:Type} (w:Int) (k:Rs SS->Option R):bu Oy 100 98 [KK.aa 28 w] [] (bD KK [4] k)=(Bz shut w).run (λr=>k (.ret (.s (KK.aa 4 r)))):=by kernel_rfl
noncomputable def afn (sh:Sh):bq SS:=bw KK 98 [28] (λ{R} xs k=>match xs with| .cons w .nil=>(nh sh w).bind (λr=>k (.ret (.s (KK.aa 4 r)))))
noncomputable def uU (sh:Sh):az SS:= { (tY sh) with C:=afn sh::(tY sh).C }
theorem zK:ab (uU shut) Tryz.prog:=ab.bB Fe λxs k z _ hz=>bG abr (λ{R} xs k z h=>by
 match xs,h with
 | .cons w .nil,h=>exact⟨100,(apx w k).trans (bH h)⟩) hz
noncomputable def I_ (U:List aw) (p1:List an) (p2:Int):AS SS:=⟨[(1,(va 0 0)),(12,(vd 31 U)),(13,(vi (↑U.length:Int))),(14,(vi p2))],[(bX 34 [(.aP 31 U),(.aP 32 p1)])],0,none,false,[],[]⟩
noncomputable def YT (U:List aw) (p1:List an):AS SS:=I_ U p1 0
noncomputable def ahr (U:List aw) (p1:List an):AS SS:=⟨[(2,(vi 350))],[],0,none,false,[],[]⟩
noncomputable def ahs (U:List aw) (p1:List an) (a0:Bool) (a1:Int):AS SS:= { I_ U p1 a1 with env:=[(15,(vb a0)),(1,(va 0 0)),(12,(vd 31 U)),(13,(vi (↑U.length:Int))),(14,(vi a1))] }
noncomputable def Aq (sh:Sh) (U:List aw) (p1:List an) (p2:Int) (z0:aw) (a:Unit):T (Unit ⊕ Unit ⊕ (Bool×Int)):=
 .bd (nh sh z0.cB) λy1=>
  .bf (!y1) (
   .ok (.inr (.inl ())))<|
  .bd (ss sh z0.ae) λy2=>
   .bf (!y2) (
    .ok (.inr (.inl ())))<|
   .bf (decide (p2>0)) (
    .bd (idx U (IntKind.i64.wrap (p2-1))) λz3=>
     .bf (decide (z3.cB>=z0.cB)) (
      .ok (.inr (.inl ())))<|
     .ok (.inl ()))<|
   .ok (.inl ())
noncomputable def yQ (sh:Sh) (U:List aw) (p1:List an) (p2:Int) (a:Unit):T (Unit ⊕ (Bool×Int)):=
 .ok (.inr ((decide (p2<(↑U.length:Int))),p2))
noncomputable def Gu (sh:Sh) (U:List aw) (p1:List an):Option (Unit ⊕ (Bool×Int)):=cg sh (Aq sh U p1) (yQ sh U p1) U ()
noncomputable def acY {R:Type} (k:AX->AS SS->Option R) (U:List aw) (p1:List an) (x:Unit ⊕ (Bool×Int)):Option R:=(λx=>Sum.rec (λv=>k .ret (ahr U p1)) (λv=>k (.exit 0) (ahs U p1 v.1 v.2)) x) x
noncomputable def V_:bo SS:=bJ 5 (λst=>(bb 31 (aS st 12 0)).bind λU=>(bb 32 (aZ st 0 1)).bind λp1=>some (U,p1)) (λp=>YT p.1 p.2) (λp=>Gu shut p.1 p.2) (λk p=>acY k p.1 p.2)
theorem amQ:aC KK Tryz.prog ⟨Tryz.f49,ax 49⟩ (bI (aU Tryz.f49) 5) V_:=
 aC.ck (π:=List aw×List an) (σ:=Unit) (ab.all zK rfl) (au.nil) rfl 60 (λp i a=>I_ p.1 p.2 i) (λp=>p.1) (λp=>()) (St:=λp=>Aq shut p.1 p.2) (F:=λp=>yQ shut p.1 p.2) (λp=>rfl)
  (λm p i a k=>by kernel_rfl) (by rintro p (x|x)<;>exact⟨_,_,λ_=>rfl⟩) (λp N C A O w a hr=>cH hr (t:=31) (sl:=12) rfl λv h=>h)
noncomputable def I9 (U:List an) (p1:List aw) (p2:Int):AS SS:=⟨[(1,(va 0 0)),(47,(vd 32 U)),(48,(vi (↑U.length:Int))),(49,(vi p2))],[(bX 34 [(.aP 31 p1),(.aP 32 U)])],0,none,false,[],[]⟩
noncomputable def YS (U:List an) (p1:List aw):AS SS:=I9 U p1 0
noncomputable def ahp (U:List an) (p1:List aw):AS SS:=⟨[(2,(vi 350))],[],0,none,false,[],[]⟩
noncomputable def ahq (U:List an) (p1:List aw) (a0:Bool) (a1:Int):AS SS:= { I9 U p1 a1 with env:=[(50,(vb a0)),(1,(va 0 0)),(47,(vd 32 U)),(48,(vi (↑U.length:Int))),(49,(vi a1))] }
noncomputable def Ap (sh:Sh) (U:List an) (p1:List aw) (p2:Int) (z0:an) (a:Unit):T (Unit ⊕ Unit ⊕ (Bool×Int)):=
 .bd (ss sh z0.ae) λy1=>
  .bf (!y1) (
   .ok (.inr (.inl ())))<|
  .bf (decide ((↑z0.a_.length:Int)<1)) (
   .ok (.inr (.inl ())))<|
  .bf (decide ((↑z0.a_.length:Int)>4)) (
   .ok (.inr (.inl ())))<|
  .bf (decide (p2>0)) (
   .bd (idx U (IntKind.i64.wrap (p2-1))) λz2=>
    .bf (decide (z2.ae>=z0.ae)) (
     .ok (.inr (.inl ())))<|
    .ok (.inl ()))<|
  .ok (.inl ())
noncomputable def yP (sh:Sh) (U:List an) (p1:List aw) (p2:Int) (a:Unit):T (Unit ⊕ (Bool×Int)):=
 .ok (.inr ((decide (p2<(↑U.length:Int))),p2))
noncomputable def Gt (sh:Sh) (U:List an) (p1:List aw):Option (Unit ⊕ (Bool×Int)):=cg sh (Ap sh U p1) (yP sh U p1) U ()
noncomputable def acX {R:Type} (k:AX->AS SS->Option R) (U:List an) (p1:List aw) (x:Unit ⊕ (Bool×Int)):Option R:=(λx=>Sum.rec (λv=>k .ret (ahp U p1)) (λv=>k (.exit 2) (ahq U p1 v.1 v.2)) x) x
noncomputable def V9:bo SS:=bJ 11 (λst=>(bb 32 (aS st 47 0)).bind λU=>(bb 31 (aZ st 0 0)).bind λp1=>some (U,p1)) (λp=>YS p.1 p.2) (λp=>Gt shut p.1 p.2) (λk p=>acX k p.1 p.2)
theorem amP:aC KK Tryz.prog ⟨Tryz.f49,ax 49⟩ (bI (aU Tryz.f49) 11) V9:=
 aC.ck (π:=List an×List aw) (σ:=Unit) (ab.all zK rfl) (au.nil) rfl 60 (λp i a=>I9 p.1 p.2 i) (λp=>p.1) (λp=>()) (St:=λp=>Ap shut p.1 p.2) (F:=λp=>yP shut p.1 p.2) (λp=>rfl)
  (λm p i a k=>by kernel_rfl) (by rintro p (x|x)<;>exact⟨_,_,λ_=>rfl⟩) (λp N C A O w a hr=>cH hr (t:=32) (sl:=47) rfl λv h=>h)
noncomputable def EJ:az SS:= { (uU shut) with T:=bl ((uU shut).T) 49 ⟨⟨Tryz.f49,ax 49⟩,[V_,V9]⟩ }
theorem Oj:aF EJ Tryz.prog:=(aF.bK (ab.all zK rfl) Tryz.func49 rfl bg λc hc=>by cases hc;exact au.cons (au.cons (au.nil) (by kernel_rfl) amP) (by kernel_rfl) amQ)
noncomputable def Bd (sh:Sh) (s:bh):T (Int):=
 .bf (decide ((↑s.aK.length:Int)>16)) (
  .ok 350)<|
 .gd (YT s.aK s.ay)<|
  .bd (Gu sh s.aK s.ay) λx3=> .cs x3 (λ_=>
   .ok 350) λy0=>
   .gd (YS s.ay s.aK)<|
    .bd (Gt sh s.ay s.aK) λx5=> .cs x5 (λ_=>
     .ok 350) λy1=>
     .ok 0
noncomputable def oL (sh:Sh) (s:bh):Option (Int):=sh.s _ (Bd sh s).val
theorem Zq {R:Type} (s:bh) (k:Rs SS->Option R):bu EJ 100 49 [KK.aa 34 s] [] (bD KK [40] k)=(Bd shut s).run (λr=>k (.ret (.s (KK.aa 40 r)))):=by kernel_rfl
noncomputable def aeV (sh:Sh):bq SS:=bw KK 49 [34] (λ{R} xs k=>match xs with| .cons s .nil=>(oL sh s).bind (λr=>k (.ret (.s (KK.aa 40 r)))))
noncomputable def uE (sh:Sh):az SS:= { (uU sh) with C:=aeV sh::(uU sh).C }
theorem FN:ab (uE shut) Tryz.prog:=ab.bB zK λxs k z _ hz=>bG Oj (λ{R} xs k z h=>by
 match xs,h with
 | .cons s .nil,h=>exact⟨100,(Zq s k).trans (bH h)⟩) hz
noncomputable def Cz (U:ByteArray) (p1:Nat):AS SS:=⟨[(0,(vs (.v (.string U)))),(6,(vs (.dy 0)))],[(some (.dy U p1))],0,none,false,[],[]⟩
noncomputable def agx (U:ByteArray):AS SS:=⟨[(2,(vb false))],[],0,none,false,[],[]⟩
noncomputable def agy (U:ByteArray) (a0:Nat):AS SS:= { Cz U a0 with env:=[(8,(vb false)),(7,(.aY [(.one (.v (.bool false)))])),(0,(vs (.v (.string U)))),(6,(vs (.dy 0)))] }
noncomputable def rR (sh:Sh) (U:ByteArray) (a:Nat):T (Nat ⊕ Unit ⊕ Nat):=
 .bf (decide (a<U.size)) (
  .bf (decide ((↑(Utf8.decode U a).fst:Int)>=97)) (
   .bf (decide ((↑(Utf8.decode U a).fst:Int)<=122)) (
    .ok (.inl (a+(Utf8.decode U a).snd)))<|
   .bf (decide ((↑(Utf8.decode U a).fst:Int)>=48)) (
    .bf (!decide ((↑(Utf8.decode U a).fst:Int)<=57)) (
     .ok (.inr (.inl ())))<|
    .ok (.inl (a+(Utf8.decode U a).snd)))<|
   .ok (.inr (.inl ())))<|
  .bf (decide ((↑(Utf8.decode U a).fst:Int)>=48)) (
   .bf (!decide ((↑(Utf8.decode U a).fst:Int)<=57)) (
    .ok (.inr (.inl ())))<|
   .ok (.inl (a+(Utf8.decode U a).snd)))<|
  .ok (.inr (.inl ())))<|
 .ok (.inr (.inr a))
noncomputable def Gi (sh:Sh) (U:ByteArray) (p1:Nat):Option (Unit ⊕ Nat):=cA sh (rR sh U) 1000000 p1
noncomputable def acp {R:Type} (k:AX->AS SS->Option R) (U:ByteArray) (x:Unit ⊕ Nat):Option R:=(λx=>Sum.rec (λv=>k .ret (agx U)) (λv=>k (.exit 0) (agy U v)) x) x
noncomputable def VK:bo SS:=bJ 3 (λst=>(nf (aS st 0 0)).bind λU=>(UF st 0).bind λp1=>some (U,p1)) (λp=>Cz p.1 p.2) (λp=>Gi shut p.1 p.2) (λk p=>acp k p.1)
theorem amm:aC KK Tryz.prog ⟨Tryz.f175,ax 175⟩ (bI (aU Tryz.f175) 3) VK:=
 aC.cA (π:=ByteArray×Nat) (σ:=Nat) (ab.all FN rfl) (au.nil) rfl 60 (λp a=>Cz p.1 a) (λp=>p.2) (St:=λp=>rR shut p.1) (λp=>1000000) (λp=>rfl)
  (λm p a k=>by kernel_rfl)
noncomputable def NA:az SS:= { (uE shut) with T:=bl ((uE shut).T) 175 ⟨⟨Tryz.f175,ax 175⟩,[VK]⟩ }
theorem aas:aF NA Tryz.prog:=(aF.bK (ab.all FN rfl) Tryz.func175 rfl bg λc hc=>by cases hc;exact au.cons (au.nil) (by kernel_rfl) amm)
noncomputable def AW (sh:Sh) (s:ByteArray):T (Bool):=
 .gd (Cz s 0)<|
  .bd (Gi sh s 0) λx3=> .cs x3 (λ_=>
   .ok false) λy0=>
   .ok (!s.toList==(ByteArray.mk #[]).toList)
noncomputable def vz (sh:Sh) (s:ByteArray):Option (Bool):=sh.s _ (AW sh s).val
theorem aov {R:Type} (s:ByteArray) (k:Rs SS->Option R):bu NA 100 175 [KK.aa 9 s] [] (bD KK [4] k)=(AW shut s).run (λr=>k (.ret (.s (KK.aa 4 r)))):=by kernel_rfl
noncomputable def aef (sh:Sh):bq SS:=bw KK 175 [9] (λ{R} xs k=>match xs with| .cons s .nil=>(vz sh s).bind (λr=>k (.ret (.s (KK.aa 4 r)))))
noncomputable def ud (sh:Sh):az SS:= { (uE sh) with C:=aef sh::(uE sh).C }
theorem Fk:ab (ud shut) Tryz.prog:=ab.bB FN λxs k z _ hz=>bG aas (λ{R} xs k z h=>by
 match xs,h with
 | .cons s .nil,h=>exact⟨100,(aov s k).trans (bH h)⟩) hz
noncomputable def CO (U:List ByteArray) (p1:Int):AS SS:=⟨[(0,(vd 185 U)),(1,(vc 0)),(7,(vi (↑U.length:Int))),(8,(vi p1))],[(some (.bM 250 [] [(.one (.br 1 0))])),(bX 178 [(.v (.func (.func 175) (.mk []) (.mk [])))])],2,none,false,[],[]⟩
noncomputable def YI (U:List ByteArray):AS SS:=CO U 0
noncomputable def ag3 (U:List ByteArray) (a0:Int):AS SS:= { CO U a0 with env:=[(4,(vi a0))] }
noncomputable def ag4 (U:List ByteArray) (a0:Bool) (a1:Int):AS SS:= { CO U a1 with env:=[(9,(vb a0)),(0,(vd 185 U)),(1,(vc 0)),(7,(vi (↑U.length:Int))),(8,(vi a1))] }
noncomputable def Ah (sh:Sh) (U:List ByteArray) (p1:Int) (z0:ByteArray) (a:Unit):T (Unit ⊕ Int ⊕ (Bool×Int)):=
 .bd (vz sh z0) λy1=>
  .bf (!y1) (
   .ok (.inr (.inl p1)))<|
  .ok (.inl ())
noncomputable def yG (sh:Sh) (U:List ByteArray) (p1:Int) (a:Unit):T (Int ⊕ (Bool×Int)):=
 .ok (.inr ((decide (p1<(↑U.length:Int))),p1))
noncomputable def Gj (sh:Sh) (U:List ByteArray):Option (Int ⊕ (Bool×Int)):=cg sh (Ah sh U) (yG sh U) U ()
noncomputable def acL {R:Type} (k:AX->AS SS->Option R) (U:List ByteArray) (x:Int ⊕ (Bool×Int)):Option R:=(λx=>Sum.rec (λv=>k .ret (ag3 U v)) (λv=>k (.exit 0) (ag4 U v.1 v.2)) x) x
noncomputable def VZ:bo SS:=bJ 3 (λst=>(dU st 0 250).bind λ_=>(bb 185 (aS st 0 0)).bind λU=>some U) (λp=>YI p) (λp=>Gj shut p) (λk p=>acL k p)
theorem amE:aC KK Tryz.prog ⟨Tryz.f270,ax 270⟩ (bI (aU Tryz.f270) 3) VZ:=
 aC.ck (π:=List ByteArray) (σ:=Unit) (ab.all Fk rfl) (au.nil) rfl 60 (λp i a=>CO p i) (λp=>p) (λp=>()) (St:=λp=>Ah shut p) (F:=λp=>yG shut p) (λp=>rfl)
  (λm p i a k=>by kernel_rfl) (by rintro p (x|x)<;>exact⟨_,_,λ_=>rfl⟩) (λp N C A O w a hr=>cH hr (t:=185) (sl:=0) rfl λv h=>h)
noncomputable def NB:az SS:= { (ud shut) with T:=bl ((ud shut).T) 270 ⟨⟨Tryz.f270,ax 270⟩,[VZ]⟩ }
theorem aat:aF NB Tryz.prog:=(aF.bK (ab.all Fk rfl) Tryz.func270 rfl bg λc hc=>by cases hc;exact au.cons (au.nil) (by kernel_rfl) amE)
noncomputable def AY (sh:Sh) (p:List ByteArray):T (Int×Bool):=
 .bf (decide (p.length<=140737488355328)&&decide ((kE p (ByteArray.mk #[47])).size<=140737488355328)) (
  .bd (oc (ByteArray.mk #[47]) (kE p (ByteArray.mk #[47]))) λz0=>
   .bd (vF sh z0) λy1=>
    .bf (y1.2==0) (
     .bf (decide ((↑p.length:Int)<=4)) (
      .gd (YI p)<|
       .bd (Gj sh p) λx8=> .cs x8 (λy2=>
        .ok (y1.1,(!decide (y2>=0)))) λy2=>
        .ok (y1.1,true))<|
     .ok (y1.1,false))<|
    .ok (y1.1,false))<|
 .no
noncomputable def oK (sh:Sh) (p:List ByteArray):Option (Int×Bool):=sh.s _ (AY sh p).val
theorem aow {R:Type} (p:List ByteArray) (k:Rs SS->Option R):bu NB 100 176 [KK.aa 186 p] [] (bD KK [28,4] k)=(AY shut p).run (λr=>k (.ret (.aY [KK.aa 28 r.1,KK.aa 4 r.2]))):=by kernel_rfl
noncomputable def aeg (sh:Sh):bq SS:=bw KK 176 [186] (λ{R} xs k=>match xs with| .cons p .nil=>(oK sh p).bind (λr=>k (.ret (.aY [KK.aa 28 r.1,KK.aa 4 r.2]))))
noncomputable def ue (sh:Sh):az SS:= { (ud sh) with C:=aeg sh::(ud sh).C }
theorem Fl:ab (ue shut) Tryz.prog:=ab.bB Fk λxs k z _ hz=>bG aat (λ{R} xs k z h=>by
 match xs,h with
 | .cons p .nil,h=>exact⟨100,(aow p k).trans (bH h)⟩) hz
noncomputable def CD (U:ByteArray) (p1:Int) (p2:Bool) (p3:ByteArray) (p4:List ByteArray):AS SS:=⟨[(0,(vs .dF)),(1,(va 5 0))],[(bX 188 [(.v (.slice none 0 0)),(lu 0)]),(bX 9 [(.v (.string U))]),(bX 188 [(.own 6),(lu p1)]),(bX 4 [(.v (.bool p2))]),(some (.bM 208 [] [(.one (.br 5 0))])),(bX 9 [(.v (.string p3))]),(rX 9 p4)],6,(some ⟨⟨Tryz.f131,ax 131⟩,[27],(gk (aU Tryz.f131) 9),(gl (aU Tryz.f131) 9),[(0,(vu p1)),(2,(va 0 0)),(4,(va 1 0)),(6,(va 2 0)),(7,(va 3 0)),(26,(vc 4))],none⟩),false,[],[3,2,5]⟩
noncomputable def agE (U:ByteArray) (p1:Int) (a0:Bool) (a1:ByteArray) (a2:List ByteArray):AS SS:=⟨[],[(bX 188 [(.v (.slice none 0 0)),(lu 0)]),(bX 9 [(.v (.string U))]),(bX 188 [(.own 6),(lu p1)]),(bX 4 [(.v (.bool a0))]),(some (.bM 208 [] [(.one (.br 5 0))])),(bX 9 [(.v (.string a1))]),(rX 9 a2)],6,(some ⟨⟨Tryz.f131,ax 131⟩,[27],(gk (aU Tryz.f131) 9),(gl (aU Tryz.f131) 9),[(0,(vu p1)),(2,(va 0 0)),(4,(va 1 0)),(6,(va 2 0)),(7,(va 3 0)),(26,(vc 4))],(some (.exit 0))⟩),false,[],[3,2,5]⟩
noncomputable def agF (U:ByteArray) (p1:Int) (a0:Bool) (a1:ByteArray) (a2:Bool) (a3:List ByteArray):AS SS:= { CD U p1 a2 a1 a3 with env:=[(5,(vb a0)),(4,(vs (.v (.string a1)))),(0,(vs .dF)),(1,(va 5 0))] }
noncomputable def jK (sh:Sh) (U:ByteArray) (p1:Int) (a:Bool×ByteArray×List ByteArray):T ((Bool×ByteArray×List ByteArray) ⊕ (Bool×ByteArray×List ByteArray) ⊕ (Bool×ByteArray×Bool×List ByteArray)):=
 .bf (decide ((↑a.2.1.size:Int)>=1)) (
  .bd (fM a.2.1 none (some 1)) λz0=>
   .bf (z0.toList==(ByteArray.mk #[47]).toList) (
    .bd (fM a.2.1 (some 1) none) λz1=>
     .bf (IntKind.i64.wrap (Lib.indexByte z1.data.toList (Nat.toUInt8 47)+1)==0) (
      .bd (fM a.2.1 (some 1) (some (↑a.2.1.size:Int))) λz2=>
       .bf (U.toList==(ByteArray.mk #[47]).toList) (
        .ok (.inr (.inl (a.1,a.2.1,a.2.2))))<|
       .bd (vz sh z2) λy3=>
        .bf (!y3) (
         .ok (.inr (.inl (y3,a.2.1,a.2.2))))<|
        .bd (app 16 a.2.2 [z2]) λz4=>
         .bd (fM a.2.1 (some (↑a.2.1.size:Int)) none) λz5=>
          .ok (.inl (y3,z5,z4)))<|
     .bd (fM a.2.1 (some 1) (some (IntKind.i64.wrap (Lib.indexByte z1.data.toList (Nat.toUInt8 47)+1)))) λz2=>
      .bf (U.toList==(ByteArray.mk #[47]).toList) (
       .ok (.inr (.inl (a.1,a.2.1,a.2.2))))<|
      .bd (vz sh z2) λy3=>
       .bf (!y3) (
        .ok (.inr (.inl (y3,a.2.1,a.2.2))))<|
       .bd (app 16 a.2.2 [z2]) λz4=>
        .bd (fM a.2.1 (some (IntKind.i64.wrap (Lib.indexByte z1.data.toList (Nat.toUInt8 47)+1))) none) λz5=>
         .ok (.inl (y3,z5,z4)))<|
   .ok (.inr (.inr ((z0.toList==(ByteArray.mk #[47]).toList),a.2.1,a.1,a.2.2))))<|
 .ok (.inr (.inr (false,a.2.1,a.1,a.2.2)))
noncomputable def rM (sh:Sh) (U:ByteArray) (p1:Int) (p2:Bool) (p3:ByteArray) (p4:List ByteArray):Option ((Bool×ByteArray×List ByteArray) ⊕ (Bool×ByteArray×Bool×List ByteArray)):=cA sh (jK sh U p1) 1000000 (p2,p3,p4)
noncomputable def acu {R:Type} (k:AX->AS SS->Option R) (U:ByteArray) (p1:Int) (x:(Bool×ByteArray×List ByteArray) ⊕ (Bool×ByteArray×Bool×List ByteArray)):Option R:=(λx=>Sum.rec (λv=>k .ret (agE U p1 v.1 v.2.1 v.2.2)) (λv=>k (.exit 0) (agF U p1 v.1 v.2.1 v.2.2.1 v.2.2.2)) x) x
noncomputable def VO:bo SS:=nT (λst=>gc (ax 208 1) (jq [3,2,5] (iE 2 0 9 (st))))<|bJ 1 (λst=>((dU st 4 208).bind λ_=>jB st 59 9).bind λ_=>(nf (aZ st 1 0)).bind λU=>(bE (aZ st 2 1)).bind λp1=>(oJ (aZ st 3 0)).bind λp2=>(nf (aZ st 5 0)).bind λp3=>(db st 6 9).bind λp4=>some (U,p1,p2,p3,p4)) (λp=>CD p.1 p.2.1 p.2.2.1 p.2.2.2.1 p.2.2.2.2) (λp=>rM shut p.1 p.2.1 p.2.2.1 p.2.2.2.1 p.2.2.2.2) (λk p=>acu k p.1 p.2.1)
theorem amq:aC KK Tryz.prog ⟨Tryz.f208,ax 208⟩ (bI (aU Tryz.f208) 1) VO:=aC.pre (c7.comp (c7.gc (ax 208 1)) (c7.comp (c7.jq [3,2,5]) (c7.iE 2 0 9)))<|
 aC.cA (π:=ByteArray×Int×Bool×ByteArray×List ByteArray) (σ:=Bool×ByteArray×List ByteArray) (ab.all Fl rfl) (au.nil) rfl 60 (λp a=>CD p.1 p.2.1 a.1 a.2.1 a.2.2) (λp=>(p.2.2.1,p.2.2.2.1,p.2.2.2.2)) (St:=λp=>jK shut p.1 p.2.1) (λp=>1000000) (λp=>rfl)
  (λm p a k=>by kernel_rfl)
noncomputable def Nu:az SS:= { (ue shut) with T:=bl ((ue shut).T) 208 ⟨⟨Tryz.f208,ax 208⟩,[VO]⟩ }
theorem aal:aF Nu Tryz.prog:=(aF.bK (ab.all Fl rfl) Tryz.func208 rfl bg λc hc=>by cases hc;exact au.cons (au.nil) (by kernel_rfl) amq)
noncomputable def AO (sh:Sh) (w:Int):T (mf×Bool):=
 .bd (B0 sh w) λy0=>
  .bf (y0.2 !=0) (
   .ok (⟨[],0⟩,false))<|
  .bf (y0.1.toList==(ByteArray.mk #[]).toList) (
   .ok (⟨[],0⟩,false))<|
  .gd (CD y0.1 w true y0.1 [])<|
   .bd (rM sh y0.1 w true y0.1 []) λx4=> .cs x4 (λy1=>
    .bd (oK sh y1.2.2) λy2=>
     .bf (!y1.1) (
      .ok (⟨[],0⟩,false))<|
     .bf (!y2.2) (
      .ok (⟨[],0⟩,false))<|
     .bf (y2.1 !=w) (
      .ok (⟨[],0⟩,false))<|
     .ok (⟨y1.2.2,w⟩,true)) λy1=>
    .bd (oK sh y1.2.2.2) λy2=>
     .bf (!y1.2.2.1) (
      .ok (⟨[],0⟩,false))<|
     .bf (!y2.2) (
      .ok (⟨[],0⟩,false))<|
     .bf (y2.1 !=w) (
      .ok (⟨[],0⟩,false))<|
     .ok (⟨y1.2.2.2,w⟩,true)
noncomputable def sq (sh:Sh) (w:Int):Option (mf×Bool):=sh.s _ (AO sh w).val
theorem aol {R:Type} (w:Int) (k:Rs SS->Option R):bu Nu 100 131 [KK.aa 28 w] [] (bD KK [188,4] k)=(AO shut w).run (λr=>k (.ret (.aY [KK.aa 188 r.1,KK.aa 4 r.2]))):=by kernel_rfl
noncomputable def ad7 (sh:Sh):bq SS:=bw KK 131 [28] (λ{R} xs k=>match xs with| .cons w .nil=>(sq sh w).bind (λr=>k (.ret (.aY [KK.aa 188 r.1,KK.aa 4 r.2]))))
noncomputable def ze (sh:Sh):az SS:= { (ue sh) with C:=ad7 sh::(ue sh).C }
theorem Pb:ab (ze shut) Tryz.prog:=ab.bB Fl λxs k z _ hz=>bG aal (λ{R} xs k z h=>by
 match xs,h with
 | .cons w .nil,h=>exact⟨100,(aol w k).trans (bH h)⟩) hz
noncomputable def By (sh:Sh) (w:Int):T (Int):=
 .bd (sq sh w) λy0=>
  .bf (!y0.2) (
   .ok 310)<|
  .ok 0
noncomputable def vI (sh:Sh) (w:Int):Option (Int):=sh.s _ (By sh w).val
theorem apw {R:Type} (w:Int) (k:Rs SS->Option R):bu (ze shut) 100 96 [KK.aa 28 w] [] (bD KK [40] k)=(By shut w).run (λr=>k (.ret (.s (KK.aa 40 r)))):=by kernel_rfl
noncomputable def afm (sh:Sh):bq SS:=bw KK 96 [28] (λ{R} xs k=>match xs with| .cons w .nil=>(vI sh w).bind (λr=>k (.ret (.s (KK.aa 40 r)))))
noncomputable def pW (sh:Sh):az SS:= { (ze sh) with C:=afm sh::(ze sh).C }
theorem F1:ab (pW shut) Tryz.prog:=ab.bB Pb λxs k z _ hz=>bG (ab.all Pb rfl) (λ{R} xs k z h=>by
 match xs,h with
 | .cons w .nil,h=>exact⟨100,(apw w k).trans (bH h)⟩) hz
noncomputable def I8 (U:List ar) (p1 p2 p3:Int):AS SS:=⟨[(1,(va 0 0)),(3,(vu p2)),(7,(vd 27 U)),(8,(vi (↑U.length:Int))),(9,(vi p3))],[(bX 30 [(.aP 27 U),(lu p1)])],0,none,false,[],[]⟩
noncomputable def YR (U:List ar) (p1 p2:Int):AS SS:=I8 U p1 p2 0
noncomputable def ahn (U:List ar) (p1:Int):AS SS:=⟨[(2,(vi 340))],[],0,none,false,[],[]⟩
noncomputable def aho (U:List ar) (p1:Int) (a0:Bool) (a1 a2:Int):AS SS:= { I8 U p1 p1 p1 with env:=[(10,(vb a0)),(1,(va 0 0)),(3,(vu a1)),(7,(vd 27 U)),(8,(vi (↑U.length:Int))),(9,(vi a2))] }
noncomputable def ow (sh:Sh) (U:List ar) (p1 p3:Int) (z0:ar) (a:Int):T (Int ⊕ Unit ⊕ (Bool×Int×Int)):=
 .bd (vI sh z0.bY) λy1=>
  .bf (y1 !=0) (
   .ok (.inr (.inl ())))<|
  .bf (decide (z0.bc<=a)) (
   .ok (.inr (.inl ())))<|
  .bf (decide (z0.bc>=p1)) (
   .ok (.inr (.inl ())))<|
  .ok (.inl z0.bc)
noncomputable def yO (sh:Sh) (U:List ar) (p1 p3 a:Int):T (Unit ⊕ (Bool×Int×Int)):=
 .ok (.inr ((decide (p3<(↑U.length:Int))),a,p3))
noncomputable def zP (sh:Sh) (U:List ar) (p1 p2:Int):Option (Unit ⊕ (Bool×Int×Int)):=cg sh (ow sh U p1) (yO sh U p1) U p2
noncomputable def acW {R:Type} (k:AX->AS SS->Option R) (U:List ar) (p1:Int) (x:Unit ⊕ (Bool×Int×Int)):Option R:=(λx=>Sum.rec (λv=>k .ret (ahn U p1)) (λv=>k (.exit 0) (aho U p1 v.1 v.2.1 v.2.2)) x) x
noncomputable def K8:bo SS:=bJ 4 (λst=>(bb 27 (aS st 7 0)).bind λU=>(bE (aZ st 0 1)).bind λp1=>(bE (aS st 3 0)).bind λp2=>some (U,p1,p2)) (λp=>YR p.1 p.2.1 p.2.2) (λp=>zP shut p.1 p.2.1 p.2.2) (λk p=>acW k p.1 p.2.1)
theorem amO:aC KK Tryz.prog ⟨Tryz.f48,ax 48⟩ (bI (aU Tryz.f48) 4) K8:=
 aC.ck (π:=List ar×Int×Int) (σ:=Int) (ab.all F1 rfl) (au.nil) rfl 60 (λp i a=>I8 p.1 p.2.1 a i) (λp=>p.1) (λp=>p.2.2) (St:=λp=>ow shut p.1 p.2.1) (F:=λp=>yO shut p.1 p.2.1) (λp=>rfl)
  (λm p i a k=>by kernel_rfl) (by rintro p (x|x)<;>exact⟨_,_,λ_=>rfl⟩) (λp N C A O w a hr=>cH hr (t:=27) (sl:=7) rfl λv h=>h)
noncomputable def Jn (U:List ar) (p1:Int) (p2:List (Int×Int)):AS SS:=⟨[(3,(vs (.mp 0))),(8,(vd 27 U)),(9,(vi (↑U.length:Int))),(10,(vi p1))],[(some (.map .u64 .u64 p2))],0,none,false,[],[]⟩
noncomputable def Y9 (U:List ar) (p2:List (Int×Int)):AS SS:=Jn U 0 p2
noncomputable def ahW (U:List ar) (a0:Bool) (a1:Int) (a2:List (Int×Int)):AS SS:= { Jn U a1 a2 with env:=[(11,(vb a0)),(3,(vs (.mp 0))),(8,(vd 27 U)),(9,(vi (↑U.length:Int))),(10,(vi a1))] }
noncomputable def GR (sh:Sh) (U:List ar) (p1:Int) (z0:ar) (a:(List (Int×Int))):T (((List (Int×Int))) ⊕ (Bool×Int×(List (Int×Int)))):=
 .ok (.inl (eW a z0.bY z0.bc))
noncomputable def yX (sh:Sh) (U:List ar) (p1:Int) (a:(List (Int×Int))):T ((Bool×Int×(List (Int×Int)))):=
 .ok ((decide (p1<(↑U.length:Int))),p1,a)
noncomputable def zR (sh:Sh) (U:List ar) (p2:List (Int×Int)):Option ((Bool×Int×(List (Int×Int)))):=cg sh (GR sh U) (yX sh U) U p2
noncomputable def adi {R:Type} (k:AX->AS SS->Option R) (U:List ar) (x:(Bool×Int×(List (Int×Int)))):Option R:=(λv=>k (.exit 0) (ahW U v.1 v.2.1 v.2.2)) x
noncomputable def Wn:bo SS:=bJ 4 (λst=>(bb 27 (aS st 8 0)).bind λU=>(ku st 0).bind λp2=>some (U,p2)) (λp=>Y9 p.1 p.2) (λp=>zR shut p.1 p.2) (λk p=>adi k p.1)
noncomputable def abe:az SS:= { (pW shut) with T:=bl ((pW shut).T) 48 ⟨⟨Tryz.f48,ax 48⟩,[K8]⟩ }
theorem Oh:aF abe Tryz.prog:=(aF.bK (ab.all F1 rfl) Tryz.func48 rfl bg λc hc=>by cases hc;exact au.cons (au.nil) (by kernel_rfl) amO)
theorem am_:aC KK Tryz.prog ⟨Tryz.f97,ax 97⟩ (bI (aU Tryz.f97) 4) Wn:=
 aC.ck (π:=List ar×(List (Int×Int))) (σ:=(List (Int×Int))) Oh (au.nil) rfl 60 (λp i a=>Jn p.1 i a) (λp=>p.1) (λp=>p.2) (St:=λp=>GR shut p.1) (F:=λp=>yX shut p.1) (λp=>rfl)
  (λm p i a k=>by kernel_rfl) (λp x=>⟨_,_,λ_=>rfl⟩) (λp N C A O w a hr=>cH hr (t:=27) (sl:=8) rfl λv h=>h)
noncomputable def Oi:az SS:= { (pW shut) with T:=bl (bl ((pW shut).T) 48 ⟨⟨Tryz.f48,ax 48⟩,[K8]⟩) 97 ⟨⟨Tryz.f97,ax 97⟩,[Wn]⟩ }
theorem abf:aF Oi Tryz.prog:=(aF.bK Oh Tryz.func97 rfl bg λc hc=>by cases hc;exact au.cons (au.nil) (by kernel_rfl) am_)
noncomputable def Bc (sh:Sh) (m:cz):T (Int):=
 .gd (YR m.ao m.bz 0)<|
  .bd (zP sh m.ao m.bz 0) λx3=> .cs x3 (λ_=>
   .ok 340) λy0=>
   .bf (decide ((↑m.ao.length:Int)>16)) (
    .ok 340)<|
   .gd (Y9 m.ao [])<|
    .bd (zR sh m.ao []) λy1=>
     .bf (decide ((↑y1.2.2.length:Int)<(↑m.ao.length:Int))) (
      .ok 340)<|
     .bf (decide (m.bz<1)) (
      .ok 340)<|
     .bf (decide (m.bz>1073741825)) (
      .ok 340)<|
     .ok 0
noncomputable def vE (sh:Sh) (m:cz):Option (Int):=sh.s _ (Bc sh m).val
theorem ao6 {R:Type} (m:cz) (k:Rs SS->Option R):bu Oi 100 48 [KK.aa 30 m] [] (bD KK [40] k)=(Bc shut m).run (λr=>k (.ret (.s (KK.aa 40 r)))):=by kernel_rfl
noncomputable def aeU (sh:Sh):bq SS:=bw KK 48 [30] (λ{R} xs k=>match xs with| .cons m .nil=>(vE sh m).bind (λr=>k (.ret (.s (KK.aa 40 r)))))
noncomputable def uD (sh:Sh):az SS:= { (pW sh) with C:=aeU sh::(pW sh).C }
theorem FM:ab (uD shut) Tryz.prog:=ab.bB F1 λxs k z _ hz=>bG abf (λ{R} xs k z h=>by
 match xs,h with
 | .cons m .nil,h=>exact⟨100,(ao6 m k).trans (bH h)⟩) hz
noncomputable def CU (U p1:List aj) (p2:Int):AS SS:=⟨[(0,(vd 26 U)),(1,(vd 26 p1)),(12,(vi (↑U.length:Int))),(13,(vi p2))],[],0,none,false,[],[]⟩
noncomputable def YV (U p1:List aj):AS SS:=CU U p1 0
noncomputable def ahz (U p1:List aj):AS SS:= { CU U p1 0 with env:=[(4,(vb false))] }
noncomputable def ahA (U p1:List aj) (a0:Bool) (a1:Int):AS SS:= { CU U p1 a1 with env:=[(14,(vb a0)),(0,(vd 26 U)),(1,(vd 26 p1)),(12,(vi (↑U.length:Int))),(13,(vi a1))] }
noncomputable def GM (sh:Sh) (U p1:List aj) (p2:Int) (z0:aj) (a:Unit):T (Unit ⊕ Unit ⊕ (Bool×Int)):=
 .bd (idx p1 p2) λz1=>
  .bf (!kQ z0 z1) (
   .ok (.inr (.inl ())))<|
  .ok (.inl ())
noncomputable def yR (sh:Sh) (U p1:List aj) (p2:Int) (a:Unit):T (Unit ⊕ (Bool×Int)):=
 .ok (.inr ((decide (p2<(↑U.length:Int))),p2))
noncomputable def Qa (sh:Sh) (U p1:List aj):Option (Unit ⊕ (Bool×Int)):=cg sh (GM sh U p1) (yR sh U p1) U ()
noncomputable def ac2 {R:Type} (k:AX->AS SS->Option R) (U p1:List aj) (x:Unit ⊕ (Bool×Int)):Option R:=(λx=>Sum.rec (λv=>k .ret (ahz U p1)) (λv=>k (.exit 0) (ahA U p1 v.1 v.2)) x) x
noncomputable def Wa:bo SS:=bJ 5 (λst=>(bb 26 (aS st 0 0)).bind λU=>(bb 26 (aS st 1 0)).bind λp1=>some (U,p1)) (λp=>YV p.1 p.2) (λp=>Qa shut p.1 p.2) (λk p=>ac2 k p.1 p.2)
theorem amU:aC KK Tryz.prog ⟨Tryz.f57,ax 57⟩ (bI (aU Tryz.f57) 5) Wa:=
 aC.ck (π:=List aj×List aj) (σ:=Unit) (ab.all FM rfl) (au.nil) rfl 60 (λp i a=>CU p.1 p.2 i) (λp=>p.1) (λp=>()) (St:=λp=>GM shut p.1 p.2) (F:=λp=>yR shut p.1 p.2) (λp=>rfl)
  (λm p i a k=>by kernel_rfl) (by rintro p (x|x)<;>exact⟨_,_,λ_=>rfl⟩) (λp N C A O w a hr=>cH hr (t:=26) (sl:=0) rfl λv h=>h)
noncomputable def Ok:az SS:= { (uD shut) with T:=bl ((uD shut).T) 57 ⟨⟨Tryz.f57,ax 57⟩,[Wa]⟩ }
theorem abg:aF Ok Tryz.prog:=(aF.bK (ab.all FM rfl) Tryz.func57 rfl bg λc hc=>by cases hc;exact au.cons (au.nil) (by kernel_rfl) amU)
noncomputable def Bf (sh:Sh) (a b:List aj):T (Bool):=
 .bf ((↑a.length:Int) !=(↑b.length:Int)) (
  .ok false)<|
 .gd (YV a b)<|
  .bd (Qa sh a b) λx3=> .cs x3 (λ_=>
   .ok false) λy0=>
   .ok true
noncomputable def Ib (sh:Sh) (a b:List aj):Option (Bool):=sh.s _ (Bf sh a b).val
theorem ao8 {R:Type} (a b:List aj) (k:Rs SS->Option R):bu Ok 100 57 [KK.aa 26 a,KK.aa 26 b] [] (bD KK [4] k)=(Bf shut a b).run (λr=>k (.ret (.s (KK.aa 4 r)))):=by kernel_rfl
noncomputable def aeX (sh:Sh):bq SS:=bw KK 57 [26,26] (λ{R} xs k=>match xs with| .cons a (.cons b .nil)=>(Ib sh a b).bind (λr=>k (.ret (.s (KK.aa 4 r)))))
noncomputable def uF (sh:Sh):az SS:= { (uD sh) with C:=aeX sh::(uD sh).C }
theorem FO:ab (uF shut) Tryz.prog:=ab.bB FM λxs k z _ hz=>bG abg (λ{R} xs k z h=>by
 match xs,h with
 | .cons a (.cons b .nil),h=>exact⟨100,(ao8 a b k).trans (bH h)⟩) hz
noncomputable def Cl (U p1:List ah) (p2:Int):AS SS:=⟨[(0,(vd 23 U)),(1,(vd 23 p1)),(12,(vi (↑U.length:Int))),(13,(vi p2))],[],0,none,false,[],[]⟩
noncomputable def Yf (U p1:List ah):AS SS:=Cl U p1 0
noncomputable def afF (U p1:List ah):AS SS:= { Cl U p1 0 with env:=[(4,(vb false))] }
noncomputable def afG (U p1:List ah) (a0:Bool) (a1:Int):AS SS:= { Cl U p1 a1 with env:=[(14,(vb a0)),(0,(vd 23 U)),(1,(vd 23 p1)),(12,(vi (↑U.length:Int))),(13,(vi a1))] }
noncomputable def GC (sh:Sh) (U p1:List ah) (p2:Int) (z0:ah) (a:Unit):T (Unit ⊕ Unit ⊕ (Bool×Int)):=
 .bd (idx p1 p2) λz1=>
  .bf (!iN z0 z1) (
   .ok (.inr (.inl ())))<|
  .ok (.inl ())
noncomputable def yr (sh:Sh) (U p1:List ah) (p2:Int) (a:Unit):T (Unit ⊕ (Bool×Int)):=
 .ok (.inr ((decide (p2<(↑U.length:Int))),p2))
noncomputable def PE (sh:Sh) (U p1:List ah):Option (Unit ⊕ (Bool×Int)):=cg sh (GC sh U p1) (yr sh U p1) U ()
noncomputable def abT {R:Type} (k:AX->AS SS->Option R) (U p1:List ah) (x:Unit ⊕ (Bool×Int)):Option R:=(λx=>Sum.rec (λv=>k .ret (afF U p1)) (λv=>k (.exit 0) (afG U p1 v.1 v.2)) x) x
noncomputable def Vm:bo SS:=bJ 5 (λst=>(bb 23 (aS st 0 0)).bind λU=>(bb 23 (aS st 1 0)).bind λp1=>some (U,p1)) (λp=>Yf p.1 p.2) (λp=>PE shut p.1 p.2) (λk p=>abT k p.1 p.2)
theorem alW:aC KK Tryz.prog ⟨Tryz.f100,ax 100⟩ (bI (aU Tryz.f100) 5) Vm:=
 aC.ck (π:=List ah×List ah) (σ:=Unit) (ab.all FO rfl) (au.nil) rfl 60 (λp i a=>Cl p.1 p.2 i) (λp=>p.1) (λp=>()) (St:=λp=>GC shut p.1 p.2) (F:=λp=>yr shut p.1 p.2) (λp=>rfl)
  (λm p i a k=>by kernel_rfl) (by rintro p (x|x)<;>exact⟨_,_,λ_=>rfl⟩) (λp N C A O w a hr=>cH hr (t:=23) (sl:=0) rfl λv h=>h)
noncomputable def Ng:az SS:= { (uF shut) with T:=bl ((uF shut).T) 100 ⟨⟨Tryz.f100,ax 100⟩,[Vm]⟩ }
theorem Z9:aF Ng Tryz.prog:=(aF.bK (ab.all FO rfl) Tryz.func100 rfl bg λc hc=>by cases hc;exact au.cons (au.nil) (by kernel_rfl) alW)
noncomputable def AA (sh:Sh) (a b:List ah):T (Bool):=
 .bf ((↑a.length:Int) !=(↑b.length:Int)) (
  .ok false)<|
 .gd (Yf a b)<|
  .bd (PE sh a b) λx3=> .cs x3 (λ_=>
   .ok false) λy0=>
   .ok true
noncomputable def HF (sh:Sh) (a b:List ah):Option (Bool):=sh.s _ (AA sh a b).val
theorem an_ {R:Type} (a b:List ah) (k:Rs SS->Option R):bu Ng 100 100 [KK.aa 23 a,KK.aa 23 b] [] (bD KK [4] k)=(AA shut a b).run (λr=>k (.ret (.s (KK.aa 4 r)))):=by kernel_rfl
noncomputable def adU (sh:Sh):bq SS:=bw KK 100 [23,23] (λ{R} xs k=>match xs with| .cons a (.cons b .nil)=>(HF sh a b).bind (λr=>k (.ret (.s (KK.aa 4 r)))))
noncomputable def tQ (sh:Sh):az SS:= { (uF sh) with C:=adU sh::(uF sh).C }
theorem E8:ab (tQ shut) Tryz.prog:=ab.bB FO λxs k z _ hz=>bG Z9 (λ{R} xs k z h=>by
 match xs,h with
 | .cons a (.cons b .nil),h=>exact⟨100,(an_ a b k).trans (bH h)⟩) hz
noncomputable def Cm (U p1:List ar) (p2:Int):AS SS:=⟨[(0,(vd 27 U)),(1,(vd 27 p1)),(12,(vi (↑U.length:Int))),(13,(vi p2))],[],0,none,false,[],[]⟩
noncomputable def Yg (U p1:List ar):AS SS:=Cm U p1 0
noncomputable def afH (U p1:List ar):AS SS:= { Cm U p1 0 with env:=[(4,(vb false))] }
noncomputable def afI (U p1:List ar) (a0:Bool) (a1:Int):AS SS:= { Cm U p1 a1 with env:=[(14,(vb a0)),(0,(vd 27 U)),(1,(vd 27 p1)),(12,(vi (↑U.length:Int))),(13,(vi a1))] }
noncomputable def GD (sh:Sh) (U p1:List ar) (p2:Int) (z0:ar) (a:Unit):T (Unit ⊕ Unit ⊕ (Bool×Int)):=
 .bd (idx p1 p2) λz1=>
  .bf (!lJ z0 z1) (
   .ok (.inr (.inl ())))<|
  .ok (.inl ())
noncomputable def yt (sh:Sh) (U p1:List ar) (p2:Int) (a:Unit):T (Unit ⊕ (Bool×Int)):=
 .ok (.inr ((decide (p2<(↑U.length:Int))),p2))
noncomputable def PF (sh:Sh) (U p1:List ar):Option (Unit ⊕ (Bool×Int)):=cg sh (GD sh U p1) (yt sh U p1) U ()
noncomputable def abU {R:Type} (k:AX->AS SS->Option R) (U p1:List ar) (x:Unit ⊕ (Bool×Int)):Option R:=(λx=>Sum.rec (λv=>k .ret (afH U p1)) (λv=>k (.exit 0) (afI U p1 v.1 v.2)) x) x
noncomputable def Vn:bo SS:=bJ 5 (λst=>(bb 27 (aS st 0 0)).bind λU=>(bb 27 (aS st 1 0)).bind λp1=>some (U,p1)) (λp=>Yg p.1 p.2) (λp=>PF shut p.1 p.2) (λk p=>abU k p.1 p.2)
theorem alX:aC KK Tryz.prog ⟨Tryz.f101,ax 101⟩ (bI (aU Tryz.f101) 5) Vn:=
 aC.ck (π:=List ar×List ar) (σ:=Unit) (ab.all E8 rfl) (au.nil) rfl 60 (λp i a=>Cm p.1 p.2 i) (λp=>p.1) (λp=>()) (St:=λp=>GD shut p.1 p.2) (F:=λp=>yt shut p.1 p.2) (λp=>rfl)
  (λm p i a k=>by kernel_rfl) (by rintro p (x|x)<;>exact⟨_,_,λ_=>rfl⟩) (λp N C A O w a hr=>cH hr (t:=27) (sl:=0) rfl λv h=>h)
noncomputable def Nh:az SS:= { (tQ shut) with T:=bl ((tQ shut).T) 101 ⟨⟨Tryz.f101,ax 101⟩,[Vn]⟩ }
theorem Z_:aF Nh Tryz.prog:=(aF.bK (ab.all E8 rfl) Tryz.func101 rfl bg λc hc=>by cases hc;exact au.cons (au.nil) (by kernel_rfl) alX)
noncomputable def AB (sh:Sh) (a b:List ar):T (Bool):=
 .bf ((↑a.length:Int) !=(↑b.length:Int)) (
  .ok false)<|
 .gd (Yg a b)<|
  .bd (PF sh a b) λx3=> .cs x3 (λ_=>
   .ok false) λy0=>
   .ok true
noncomputable def HG (sh:Sh) (a b:List ar):Option (Bool):=sh.s _ (AB sh a b).val
theorem an' {R:Type} (a b:List ar) (k:Rs SS->Option R):bu Nh 100 101 [KK.aa 27 a,KK.aa 27 b] [] (bD KK [4] k)=(AB shut a b).run (λr=>k (.ret (.s (KK.aa 4 r)))):=by kernel_rfl
noncomputable def adV (sh:Sh):bq SS:=bw KK 101 [27,27] (λ{R} xs k=>match xs with| .cons a (.cons b .nil)=>(HG sh a b).bind (λr=>k (.ret (.s (KK.aa 4 r)))))
noncomputable def tR (sh:Sh):az SS:= { (tQ sh) with C:=adV sh::(tQ sh).C }
theorem E9:ab (tR shut) Tryz.prog:=ab.bB E8 λxs k z _ hz=>bG Z_ (λ{R} xs k z h=>by
 match xs,h with
 | .cons a (.cons b .nil),h=>exact⟨100,(an' a b k).trans (bH h)⟩) hz
noncomputable def Cn (U p1:List aw) (p2:Int):AS SS:=⟨[(0,(vd 31 U)),(1,(vd 31 p1)),(12,(vi (↑U.length:Int))),(13,(vi p2))],[],0,none,false,[],[]⟩
noncomputable def Yh (U p1:List aw):AS SS:=Cn U p1 0
noncomputable def afJ (U p1:List aw):AS SS:= { Cn U p1 0 with env:=[(4,(vb false))] }
noncomputable def afK (U p1:List aw) (a0:Bool) (a1:Int):AS SS:= { Cn U p1 a1 with env:=[(14,(vb a0)),(0,(vd 31 U)),(1,(vd 31 p1)),(12,(vi (↑U.length:Int))),(13,(vi a1))] }
noncomputable def GF (sh:Sh) (U p1:List aw) (p2:Int) (z0:aw) (a:Unit):T (Unit ⊕ Unit ⊕ (Bool×Int)):=
 .bd (idx p1 p2) λz1=>
  .bf (!lK z0 z1) (
   .ok (.inr (.inl ())))<|
  .ok (.inl ())
noncomputable def yu (sh:Sh) (U p1:List aw) (p2:Int) (a:Unit):T (Unit ⊕ (Bool×Int)):=
 .ok (.inr ((decide (p2<(↑U.length:Int))),p2))
noncomputable def PG (sh:Sh) (U p1:List aw):Option (Unit ⊕ (Bool×Int)):=cg sh (GF sh U p1) (yu sh U p1) U ()
noncomputable def abV {R:Type} (k:AX->AS SS->Option R) (U p1:List aw) (x:Unit ⊕ (Bool×Int)):Option R:=(λx=>Sum.rec (λv=>k .ret (afJ U p1)) (λv=>k (.exit 0) (afK U p1 v.1 v.2)) x) x
noncomputable def Vo:bo SS:=bJ 5 (λst=>(bb 31 (aS st 0 0)).bind λU=>(bb 31 (aS st 1 0)).bind λp1=>some (U,p1)) (λp=>Yh p.1 p.2) (λp=>PG shut p.1 p.2) (λk p=>abV k p.1 p.2)
theorem alY:aC KK Tryz.prog ⟨Tryz.f102,ax 102⟩ (bI (aU Tryz.f102) 5) Vo:=
 aC.ck (π:=List aw×List aw) (σ:=Unit) (ab.all E9 rfl) (au.nil) rfl 60 (λp i a=>Cn p.1 p.2 i) (λp=>p.1) (λp=>()) (St:=λp=>GF shut p.1 p.2) (F:=λp=>yu shut p.1 p.2) (λp=>rfl)
  (λm p i a k=>by kernel_rfl) (by rintro p (x|x)<;>exact⟨_,_,λ_=>rfl⟩) (λp N C A O w a hr=>cH hr (t:=31) (sl:=0) rfl λv h=>h)
noncomputable def Ni:az SS:= { (tR shut) with T:=bl ((tR shut).T) 102 ⟨⟨Tryz.f102,ax 102⟩,[Vo]⟩ }
theorem aaa:aF Ni Tryz.prog:=(aF.bK (ab.all E9 rfl) Tryz.func102 rfl bg λc hc=>by cases hc;exact au.cons (au.nil) (by kernel_rfl) alY)
noncomputable def AD (sh:Sh) (a b:List aw):T (Bool):=
 .bf ((↑a.length:Int) !=(↑b.length:Int)) (
  .ok false)<|
 .gd (Yh a b)<|
  .bd (PG sh a b) λx3=> .cs x3 (λ_=>
   .ok false) λy0=>
   .ok true
noncomputable def HH (sh:Sh) (a b:List aw):Option (Bool):=sh.s _ (AD sh a b).val
theorem aoa {R:Type} (a b:List aw) (k:Rs SS->Option R):bu Ni 100 102 [KK.aa 31 a,KK.aa 31 b] [] (bD KK [4] k)=(AD shut a b).run (λr=>k (.ret (.s (KK.aa 4 r)))):=by kernel_rfl
noncomputable def adW (sh:Sh):bq SS:=bw KK 102 [31,31] (λ{R} xs k=>match xs with| .cons a (.cons b .nil)=>(HH sh a b).bind (λr=>k (.ret (.s (KK.aa 4 r)))))
noncomputable def tS (sh:Sh):az SS:= { (tR sh) with C:=adW sh::(tR sh).C }
theorem E_:ab (tS shut) Tryz.prog:=ab.bB E9 λxs k z _ hz=>bG aaa (λ{R} xs k z h=>by
 match xs,h with
 | .cons a (.cons b .nil),h=>exact⟨100,(aoa a b k).trans (bH h)⟩) hz
noncomputable def Cp (U p1:List Int) (p2:Int):AS SS:=⟨[(0,(vd 76 U)),(1,(vd 76 p1)),(12,(vi (↑U.length:Int))),(13,(vi p2))],[],0,none,false,[],[]⟩
noncomputable def Yj (U p1:List Int):AS SS:=Cp U p1 0
noncomputable def afN (U p1:List Int):AS SS:= { Cp U p1 0 with env:=[(4,(vb false))] }
noncomputable def afO (U p1:List Int) (a0:Bool) (a1:Int):AS SS:= { Cp U p1 a1 with env:=[(14,(vb a0)),(0,(vd 76 U)),(1,(vd 76 p1)),(12,(vi (↑U.length:Int))),(13,(vi a1))] }
noncomputable def GG (sh:Sh) (U p1:List Int) (p2 z0:Int) (a:Unit):T (Unit ⊕ Unit ⊕ (Bool×Int)):=
 .bd (idx p1 p2) λz1=>
  .bf (z0 !=z1) (
   .ok (.inr (.inl ())))<|
  .ok (.inl ())
noncomputable def yw (sh:Sh) (U p1:List Int) (p2:Int) (a:Unit):T (Unit ⊕ (Bool×Int)):=
 .ok (.inr ((decide (p2<(↑U.length:Int))),p2))
noncomputable def PH (sh:Sh) (U p1:List Int):Option (Unit ⊕ (Bool×Int)):=cg sh (GG sh U p1) (yw sh U p1) U ()
noncomputable def abX {R:Type} (k:AX->AS SS->Option R) (U p1:List Int) (x:Unit ⊕ (Bool×Int)):Option R:=(λx=>Sum.rec (λv=>k .ret (afN U p1)) (λv=>k (.exit 0) (afO U p1 v.1 v.2)) x) x
noncomputable def Vq:bo SS:=bJ 5 (λst=>(bb 76 (aS st 0 0)).bind λU=>(bb 76 (aS st 1 0)).bind λp1=>some (U,p1)) (λp=>Yj p.1 p.2) (λp=>PH shut p.1 p.2) (λk p=>abX k p.1 p.2)
theorem al0:aC KK Tryz.prog ⟨Tryz.f105,ax 105⟩ (bI (aU Tryz.f105) 5) Vq:=
 aC.ck (π:=List Int×List Int) (σ:=Unit) (ab.all E_ rfl) (au.nil) rfl 60 (λp i a=>Cp p.1 p.2 i) (λp=>p.1) (λp=>()) (St:=λp=>GG shut p.1 p.2) (F:=λp=>yw shut p.1 p.2) (λp=>rfl)
  (λm p i a k=>by kernel_rfl) (by rintro p (x|x)<;>exact⟨_,_,λ_=>rfl⟩) (λp N C A O w a hr=>cH hr (t:=76) (sl:=0) rfl λv h=>h)
noncomputable def Nj:az SS:= { (tS shut) with T:=bl ((tS shut).T) 105 ⟨⟨Tryz.f105,ax 105⟩,[Vq]⟩ }
theorem aab:aF Nj Tryz.prog:=(aF.bK (ab.all E_ rfl) Tryz.func105 rfl bg λc hc=>by cases hc;exact au.cons (au.nil) (by kernel_rfl) al0)
noncomputable def AE (sh:Sh) (a b:List Int):T (Bool):=
 .bf ((↑a.length:Int) !=(↑b.length:Int)) (
  .ok false)<|
 .gd (Yj a b)<|
  .bd (PH sh a b) λx3=> .cs x3 (λ_=>
   .ok false) λy0=>
   .ok true
noncomputable def HI (sh:Sh) (a b:List Int):Option (Bool):=sh.s _ (AE sh a b).val
theorem aob {R:Type} (a b:List Int) (k:Rs SS->Option R):bu Nj 100 105 [KK.aa 76 a,KK.aa 76 b] [] (bD KK [4] k)=(AE shut a b).run (λr=>k (.ret (.s (KK.aa 4 r)))):=by kernel_rfl
noncomputable def adX (sh:Sh):bq SS:=bw KK 105 [76,76] (λ{R} xs k=>match xs with| .cons a (.cons b .nil)=>(HI sh a b).bind (λr=>k (.ret (.s (KK.aa 4 r)))))
noncomputable def yZ (sh:Sh):az SS:= { (tS sh) with C:=adX sh::(tS sh).C }
theorem O6:ab (yZ shut) Tryz.prog:=ab.bB E_ λxs k z _ hz=>bG aab (λ{R} xs k z h=>by
 match xs,h with
 | .cons a (.cons b .nil),h=>exact⟨100,(aob a b k).trans (bH h)⟩) hz
noncomputable def Be (sh:Sh) (a b:b_):T (Bool):=
 .bf (a.aR==b.aR) (
  .bd (HF sh a.ao b.ao) λy0=>
   .ok y0)<|
 .ok false
noncomputable def Ia (sh:Sh) (a b:b_):Option (Bool):=sh.s _ (Be sh a b).val
theorem ao7 {R:Type} (a b:b_) (k:Rs SS->Option R):bu (yZ shut) 100 56 [KK.aa 25 a,KK.aa 25 b] [] (bD KK [4] k)=(Be shut a b).run (λr=>k (.ret (.s (KK.aa 4 r)))):=by kernel_rfl
noncomputable def aeW (sh:Sh):bq SS:=bw KK 56 [25,25] (λ{R} xs k=>match xs with| .cons a (.cons b .nil)=>(Ia sh a b).bind (λr=>k (.ret (.s (KK.aa 4 r)))))
noncomputable def zv (sh:Sh):az SS:= { (yZ sh) with C:=aeW sh::(yZ sh).C }
theorem Ps:ab (zv shut) Tryz.prog:=ab.bB O6 λxs k z _ hz=>bG (ab.all O6 rfl) (λ{R} xs k z h=>by
 match xs,h with
 | .cons a (.cons b .nil),h=>exact⟨100,(ao7 a b k).trans (bH h)⟩) hz
noncomputable def Bg (sh:Sh) (a b:cz):T (Bool):=
 .bf (a.bz==b.bz) (
  .bd (HG sh a.ao b.ao) λy0=>
   .ok y0)<|
 .ok false
noncomputable def Ic (sh:Sh) (a b:cz):Option (Bool):=sh.s _ (Bg sh a b).val
theorem ao9 {R:Type} (a b:cz) (k:Rs SS->Option R):bu (zv shut) 100 58 [KK.aa 30 a,KK.aa 30 b] [] (bD KK [4] k)=(Bg shut a b).run (λr=>k (.ret (.s (KK.aa 4 r)))):=by kernel_rfl
noncomputable def aeY (sh:Sh):bq SS:=bw KK 58 [30,30] (λ{R} xs k=>match xs with| .cons a (.cons b .nil)=>(Ic sh a b).bind (λr=>k (.ret (.s (KK.aa 4 r)))))
noncomputable def uG (sh:Sh):az SS:= { (zv sh) with C:=aeY sh::(zv sh).C }
theorem FP:ab (uG shut) Tryz.prog:=ab.bB Ps λxs k z _ hz=>bG (ab.all Ps rfl) (λ{R} xs k z h=>by
 match xs,h with
 | .cons a (.cons b .nil),h=>exact⟨100,(ao9 a b k).trans (bH h)⟩) hz
noncomputable def Co (U p1:List an) (p2:Int):AS SS:=⟨[(1,(vd 32 U)),(2,(vs (.v (.func (.func 104) (.mk []) (.mk []))))),(15,(vd 32 p1)),(16,(vi (↑p1.length:Int))),(17,(vi p2))],[],0,none,false,[],[]⟩
noncomputable def Yi (U p1:List an):AS SS:=Co U p1 0
noncomputable def afL (U p1:List an):AS SS:= { Co U p1 0 with env:=[(6,(vb false))] }
noncomputable def afM (U p1:List an) (a0:Bool) (a1:Int):AS SS:= { Co U p1 a1 with env:=[(18,(vb a0)),(1,(vd 32 U)),(2,(vs (.v (.func (.func 104) (.mk []) (.mk []))))),(15,(vd 32 p1)),(16,(vi (↑p1.length:Int))),(17,(vi a1))] }
noncomputable def zZ (sh:Sh) (U p1:List an) (p2:Int) (z0:an) (a:Unit):T (Unit ⊕ Unit ⊕ (Bool×Int)):=
 .bd (idx U p2) λz1=>
  .bf (z0.ae==z1.ae) (
   .bd (HI sh z0.a_ z1.a_) λy2=>
    .bf (!y2) (
     .ok (.inr (.inl ())))<|
    .ok (.inl ()))<|
  .ok (.inr (.inl ()))
noncomputable def yv (sh:Sh) (U p1:List an) (p2:Int) (a:Unit):T (Unit ⊕ (Bool×Int)):=
 .ok (.inr ((decide (p2<(↑p1.length:Int))),p2))
noncomputable def F4 (sh:Sh) (U p1:List an):Option (Unit ⊕ (Bool×Int)):=cg sh (zZ sh U p1) (yv sh U p1) p1 ()
noncomputable def abW {R:Type} (k:AX->AS SS->Option R) (U p1:List an) (x:Unit ⊕ (Bool×Int)):Option R:=(λx=>Sum.rec (λv=>k .ret (afL U p1)) (λv=>k (.exit 0) (afM U p1 v.1 v.2)) x) x
noncomputable def Vp:bo SS:=bJ 5 (λst=>(bb 32 (aS st 1 0)).bind λU=>(bb 32 (aS st 15 0)).bind λp1=>some (U,p1)) (λp=>Yi p.1 p.2) (λp=>F4 shut p.1 p.2) (λk p=>abW k p.1 p.2)
theorem alZ:aC KK Tryz.prog ⟨Tryz.f103,ax 103⟩ (bI (aU Tryz.f103) 5) Vp:=
 aC.ck (π:=List an×List an) (σ:=Unit) (ab.all FP rfl) (au.nil) rfl 60 (λp i a=>Co p.1 p.2 i) (λp=>p.2) (λp=>()) (St:=λp=>zZ shut p.1 p.2) (F:=λp=>yv shut p.1 p.2) (λp=>rfl)
  (λm p i a k=>by kernel_rfl) (by rintro p (x|x)<;>exact⟨_,_,λ_=>rfl⟩) (λp N C A O w a hr=>cH hr (t:=32) (sl:=15) rfl λv h=>h)
noncomputable def Ol:az SS:= { (uG shut) with T:=bl ((uG shut).T) 103 ⟨⟨Tryz.f103,ax 103⟩,[Vp]⟩ }
theorem abh:aF Ol Tryz.prog:=(aF.bK (ab.all FP rfl) Tryz.func103 rfl bg λc hc=>by cases hc;exact au.cons (au.nil) (by kernel_rfl) alZ)
noncomputable def Bh (sh:Sh) (a b:bh):T (Bool):=
 .bd (HH sh a.aK b.aK) λy0=>
  .bf (y0) (
   .bf ((↑a.ay.length:Int) !=(↑b.ay.length:Int)) (
    .ok false)<|
   .gd (Yi b.ay a.ay)<|
    .bd (F4 sh b.ay a.ay) λx5=> .cs x5 (λ_=>
     .ok false) λy1=>
     .ok true)<|
  .ok false
noncomputable def Ie (sh:Sh) (a b:bh):Option (Bool):=sh.s _ (Bh sh a b).val
theorem ao_ {R:Type} (a b:bh) (k:Rs SS->Option R):bu Ol 100 59 [KK.aa 34 a,KK.aa 34 b] [] (bD KK [4] k)=(Bh shut a b).run (λr=>k (.ret (.s (KK.aa 4 r)))):=by kernel_rfl
noncomputable def aeZ (sh:Sh):bq SS:=bw KK 59 [34,34] (λ{R} xs k=>match xs with| .cons a (.cons b .nil)=>(Ie sh a b).bind (λr=>k (.ret (.s (KK.aa 4 r)))))
noncomputable def zw (sh:Sh):az SS:= { (uG sh) with C:=aeZ sh::(uG sh).C }
theorem Pt:ab (zw shut) Tryz.prog:=ab.bB FP λxs k z _ hz=>bG abh (λ{R} xs k z h=>by
 match xs,h with
 | .cons a (.cons b .nil),h=>exact⟨100,(ao_ a b k).trans (bH h)⟩) hz
noncomputable def AI (sh:Sh) (a b:bF):T (Bool):=
 .bd (Ia sh a.aG b.aG) λy0=>
  .bf (y0) (
   .bd (Ib sh a.bj b.bj) λy1=>
    .bf (y1) (
     .bd (Ic sh a.aI b.aI) λy2=>
      .bf (y2) (
       .bd (Ie sh a.aA b.aA) λy3=>
        .ok y3)<|
      .ok false)<|
    .ok false)<|
  .ok false
noncomputable def qi (sh:Sh) (a b:bF):Option (Bool):=sh.s _ (AI sh a b).val
theorem aoe {R:Type} (a b:bF) (k:Rs SS->Option R):bu (zw shut) 100 12 [KK.aa 36 a,KK.aa 36 b] [] (bD KK [4] k)=(AI shut a b).run (λr=>k (.ret (.s (KK.aa 4 r)))):=by kernel_rfl
noncomputable def ad0 (sh:Sh):bq SS:=bw KK 12 [36,36] (λ{R} xs k=>match xs with| .cons a (.cons b .nil)=>(qi sh a b).bind (λr=>k (.ret (.s (KK.aa 4 r)))))
noncomputable def za (sh:Sh):az SS:= { (zw sh) with C:=ad0 sh::(zw sh).C }
theorem Pa:ab (za shut) Tryz.prog:=ab.bB Pt λxs k z _ hz=>bG (ab.all Pt rfl) (λ{R} xs k z h=>by
 match xs,h with
 | .cons a (.cons b .nil),h=>exact⟨100,(aoe a b k).trans (bH h)⟩) hz
noncomputable def Rx (sh:Sh):T (b_):=
 .ok (⟨[1,0,0,0,0,0,0,0,0,0,0,0,0,0,0,0],[ah.mk 1 0 false 0]⟩)
noncomputable def SQ (sh:Sh):Option (b_):=sh.s _ (Rx sh).val
theorem apd {R:Type} (k:Rs SS->Option R):bu (za shut) 100 64 [] [] (bD KK [25] k)=(Rx shut).run (λr=>k (.ret (.s (KK.aa 25 r)))):=by kernel_rfl
noncomputable def ae4 (sh:Sh):bq SS:=bw KK 64 [] (λ{R} xs k=>match xs with| .nil=>(SQ sh).bind (λr=>k (.ret (.s (KK.aa 25 r)))))
noncomputable def zy (sh:Sh):az SS:= { (za sh) with C:=ae4 sh::(za sh).C }
theorem Pv:ab (zy shut) Tryz.prog:=ab.bB Pa λxs k z _ hz=>bG (ab.all Pa rfl) (λ{R} xs k z h=>by
 match xs,h with
 | .nil,h=>exact⟨100,(apd k).trans (bH h)⟩) hz
noncomputable def Ry (sh:Sh):T (cz):=
 .ok (⟨[],1⟩)
noncomputable def SR (sh:Sh):Option (cz):=sh.s _ (Ry sh).val
theorem ape {R:Type} (k:Rs SS->Option R):bu (zy shut) 100 65 [] [] (bD KK [30] k)=(Ry shut).run (λr=>k (.ret (.s (KK.aa 30 r)))):=by kernel_rfl
noncomputable def ae5 (sh:Sh):bq SS:=bw KK 65 [] (λ{R} xs k=>match xs with| .nil=>(SR sh).bind (λr=>k (.ret (.s (KK.aa 30 r)))))
noncomputable def zz (sh:Sh):az SS:= { (zy sh) with C:=ae5 sh::(zy sh).C }
theorem Pw:ab (zz shut) Tryz.prog:=ab.bB Pv λxs k z _ hz=>bG (ab.all Pv rfl) (λ{R} xs k z h=>by
 match xs,h with
 | .nil,h=>exact⟨100,(ape k).trans (bH h)⟩) hz
noncomputable def Q1 (sh:Sh):T (bF):=
 .bd (SQ sh) λy0=>
  .bd (SR sh) λy1=>
   .ok (⟨y0,[],y1,⟨[],[]⟩⟩)
noncomputable def qk (sh:Sh):Option (bF):=sh.s _ (Q1 sh).val
theorem aop {R:Type} (k:Rs SS->Option R):bu (zz shut) 100 16 [] [] (bD KK [36] k)=(Q1 shut).run (λr=>k (.ret (.s (KK.aa 36 r)))):=by kernel_rfl
noncomputable def aea (sh:Sh):bq SS:=bw KK 16 [] (λ{R} xs k=>match xs with| .nil=>(qk sh).bind (λr=>k (.ret (.s (KK.aa 36 r)))))
noncomputable def zg (sh:Sh):az SS:= { (zz sh) with C:=aea sh::(zz sh).C }
theorem Pd:ab (zg shut) Tryz.prog:=ab.bB Pw λxs k z _ hz=>bG (ab.all Pw rfl) (λ{R} xs k z h=>by
 match xs,h with
 | .nil,h=>exact⟨100,(aop k).trans (bH h)⟩) hz
noncomputable def Rk (sh:Sh) (c:dh):T (Bool):=
 .bf (c.dG==9) (
  .ok true)<|
 .ok (c.dG==12)
noncomputable def SJ (sh:Sh) (c:dh):Option (Bool):=sh.s _ (Rk sh c).val
theorem aoN {R:Type} (c:dh) (k:Rs SS->Option R):bu (zg shut) 100 22 [KK.aa 50 c] [] (bD KK [4] k)=(Rk shut c).run (λr=>k (.ret (.s (KK.aa 4 r)))):=by kernel_rfl
noncomputable def aeA (sh:Sh):bq SS:=bw KK 22 [50] (λ{R} xs k=>match xs with| .cons c .nil=>(SJ sh c).bind (λr=>k (.ret (.s (KK.aa 4 r)))))
noncomputable def zm (sh:Sh):az SS:= { (zg sh) with C:=aeA sh::(zg sh).C }
theorem Pk:ab (zm shut) Tryz.prog:=ab.bB Pd λxs k z _ hz=>bG (ab.all Pd rfl) (λ{R} xs k z h=>by
 match xs,h with
 | .cons c .nil,h=>exact⟨100,(aoN c k).trans (bH h)⟩) hz
noncomputable def Rw (sh:Sh) (s:ByteArray):T (Int):=
 .bd (vF sh s) λy0=>
  .ok y0.1
noncomputable def B4 (sh:Sh) (s:ByteArray):Option (Int):=sh.s _ (Rw sh s).val
theorem aoX {R:Type} (s:ByteArray) (k:Rs SS->Option R):bu (zm shut) 100 34 [KK.aa 9 s] [] (bD KK [28] k)=(Rw shut s).run (λr=>k (.ret (.s (KK.aa 28 r)))):=by kernel_rfl
noncomputable def aeL (sh:Sh):bq SS:=bw KK 34 [9] (λ{R} xs k=>match xs with| .cons s .nil=>(B4 sh s).bind (λr=>k (.ret (.s (KK.aa 28 r)))))
noncomputable def uy (sh:Sh):az SS:= { (zm sh) with C:=aeL sh::(zm sh).C }
theorem FK:ab (uy shut) Tryz.prog:=ab.bB Pk λxs k z _ hz=>bG (ab.all Pk rfl) (λ{R} xs k z h=>by
 match xs,h with
 | .cons s .nil,h=>exact⟨100,(aoX s k).trans (bH h)⟩) hz
noncomputable def Jo (U:List an) (p1:List Int) (p2:Int) (p3:List an) (p4:List ah) (p5:List aj) (p6:List ar) (p7:List aw) (p8:Int) (p9:List an):AS SS:=⟨[(1,(va 0 0)),(2,(va 5 0)),(3,(vo 6)),(59,(vd 32 U)),(60,(vi (↑U.length:Int))),(61,(vi p8))],[(bX 36 [(.bR .i64 16 p1),(.own 1),(.own 2),(.own 3),(lu p2),(.own 4),(.aP 32 p3)]),(rX 69 p4),(rX 89 p5),(rX 71 p6),(rX 93 p7),(bX 36 [(li 0),(li 0),(li 0),(li 0),(li 0),(li 0),(li 0),(li 0),(li 0),(li 0),(li 0),(li 0),(li 0),(li 0),(li 0),(li 0),(.v (.slice none 0 0)),(.v (.slice none 0 0)),(.v (.slice none 0 0)),(lu 0),(.v (.slice none 0 0)),(.v (.slice none 0 0))]),(rX 82 p9)],0,none,false,[],[]⟩
noncomputable def Y_ (U:List an) (p1:List Int) (p2:Int) (p3:List an) (p4:List ah) (p5:List aj) (p6:List ar) (p7:List aw) (p9:List an):AS SS:=Jo U p1 p2 p3 p4 p5 p6 p7 0 p9
noncomputable def ah3 (U:List an) (p1:List Int) (p2:Int) (p3:List an) (p4:List ah) (p5:List aj) (p6:List ar) (p7:List aw) (a0:Bool) (a1:Int) (a2:List an):AS SS:= { Jo U p1 p2 p3 p4 p5 p6 p7 p2 a2 with env:=[(62,(vb a0)),(1,(va 0 0)),(2,(va 5 0)),(3,(vo 6)),(59,(vd 32 U)),(60,(vi (↑U.length:Int))),(61,(vi a1))] }
noncomputable def u_ (sh:Sh) (U:List an) (p1:List Int) (p2:Int) (p3:List an) (p4:List ah) (p5:List aj) (p6:List ar) (p7:List aw) (p8:Int) (z0:an) (a:List an):T (List an ⊕ (Bool×Int×List an)):=
 .bd (gq z0.a_ none (some (if 6<(↑z0.a_.length:Int) then 6 else(↑z0.a_.length:Int))) none) λz1=>
  .bd (app 8 [] z1) λz2=>
   .bd (app 32 a [an.mk z0.ae z2]) λz3=>
    .ok (.inl z3)
noncomputable def yY (sh:Sh) (U:List an) (p1:List Int) (p2:Int) (p3:List an) (p4:List ah) (p5:List aj) (p6:List ar) (p7:List aw) (p8:Int) (a:List an):T ((Bool×Int×List an)):=
 .ok ((decide (p8<(↑U.length:Int))),p8,a)
noncomputable def zS (sh:Sh) (U:List an) (p1:List Int) (p2:Int) (p3:List an) (p4:List ah) (p5:List aj) (p6:List ar) (p7:List aw) (p9:List an):Option ((Bool×Int×List an)):=cg sh (u_ sh U p1 p2 p3 p4 p5 p6 p7) (yY sh U p1 p2 p3 p4 p5 p6 p7) U p9
noncomputable def adk {R:Type} (k:AX->AS SS->Option R) (U:List an) (p1:List Int) (p2:Int) (p3:List an) (p4:List ah) (p5:List aj) (p6:List ar) (p7:List aw) (x:(Bool×Int×List an)):Option R:=(λv=>k (.exit 0) (ah3 U p1 p2 p3 p4 p5 p6 p7 v.1 v.2.1 v.2.2)) x
noncomputable def Wp:bo SS:=bJ 8 (λst=>(bb 32 (aS st 59 0)).bind λU=>(fN (aZ st 0 0)).bind λp1=>(bE (aZ st 0 4)).bind λp2=>(bb 32 (aZ st 0 6)).bind λp3=>(db st 1 69).bind λp4=>(db st 2 89).bind λp5=>(db st 3 71).bind λp6=>(db st 4 93).bind λp7=>(db st 6 82).bind λp9=>some (U,p1,p2,p3,p4,p5,p6,p7,p9)) (λp=>Y_ p.1 p.2.1 p.2.2.1 p.2.2.2.1 p.2.2.2.2.1 p.2.2.2.2.2.1 p.2.2.2.2.2.2.1 p.2.2.2.2.2.2.2.1 p.2.2.2.2.2.2.2.2) (λp=>zS shut p.1 p.2.1 p.2.2.1 p.2.2.2.1 p.2.2.2.2.1 p.2.2.2.2.2.1 p.2.2.2.2.2.2.1 p.2.2.2.2.2.2.2.1 p.2.2.2.2.2.2.2.2) (λk p=>adk k p.1 p.2.1 p.2.2.1 p.2.2.2.1 p.2.2.2.2.1 p.2.2.2.2.2.1 p.2.2.2.2.2.2.1 p.2.2.2.2.2.2.2.1)
theorem ana:aC KK Tryz.prog ⟨Tryz.f9,ax 9⟩ (bI (aU Tryz.f9) 8) Wp:=
 aC.ck (π:=List an×List Int×Int×List an×List ah×List aj×List ar×List aw×List an) (σ:=List an) (ab.all FK rfl) (au.nil) rfl 60 (λp i a=>Jo p.1 p.2.1 p.2.2.1 p.2.2.2.1 p.2.2.2.2.1 p.2.2.2.2.2.1 p.2.2.2.2.2.2.1 p.2.2.2.2.2.2.2.1 i a) (λp=>p.1) (λp=>p.2.2.2.2.2.2.2.2) (St:=λp=>u_ shut p.1 p.2.1 p.2.2.1 p.2.2.2.1 p.2.2.2.2.1 p.2.2.2.2.2.1 p.2.2.2.2.2.2.1 p.2.2.2.2.2.2.2.1) (F:=λp=>yY shut p.1 p.2.1 p.2.2.1 p.2.2.2.1 p.2.2.2.2.1 p.2.2.2.2.2.1 p.2.2.2.2.2.2.1 p.2.2.2.2.2.2.2.1) (λp=>rfl)
  (λm p i a k=>by kernel_rfl) (λp x=>⟨_,_,λ_=>rfl⟩) (λp N C A O w a hr=>cH hr (t:=32) (sl:=59) rfl λv h=>h)
noncomputable def Oz:az SS:= { (uy shut) with T:=bl ((uy shut).T) 9 ⟨⟨Tryz.f9,ax 9⟩,[Wp]⟩ }
theorem abt:aF Oz Tryz.prog:=(aF.bK (ab.all FK rfl) Tryz.func9 rfl bg λc hc=>by cases hc;exact au.cons (au.nil) (by kernel_rfl) ana)
noncomputable def Bv (sh:Sh) (s:bF):T (bF):=
 .bd (gq s.aG.ao none (some (if 18<(↑s.aG.ao.length:Int) then 18 else(↑s.aG.ao.length:Int))) none) λz0=>
  .bd (app 32 [] z0) λz1=>
   .bd (gq s.bj none (some (if 66<(↑s.bj.length:Int) then 66 else(↑s.bj.length:Int))) none) λz2=>
    .bd (app 24 [] z2) λz3=>
     .bd (gq s.aI.ao none (some (if 18<(↑s.aI.ao.length:Int) then 18 else(↑s.aI.ao.length:Int))) none) λz4=>
      .bd (app 16 [] z4) λz5=>
       .bd (gq s.aA.aK none (some (if 18<(↑s.aA.aK.length:Int) then 18 else(↑s.aA.aK.length:Int))) none) λz6=>
        .bd (app 16 [] z6) λz7=>
         .bd (gq s.aA.ay none (some (if 18<(↑s.aA.ay.length:Int) then 18 else(↑s.aA.ay.length:Int))) none) λz8=>
          .gd (Y_ z8 s.aG.aR s.aI.bz s.aA.ay z1 z3 z5 z7 [])<|
           .bd (zS sh z8 s.aG.aR s.aI.bz s.aA.ay z1 z3 z5 z7 []) λy9=>
            .ok (⟨⟨s.aG.aR,z1⟩,z3,⟨z5,s.aI.bz⟩,⟨z7,y9.2.2⟩⟩)
noncomputable def mu (sh:Sh) (s:bF):Option (bF):=sh.s _ (Bv sh s).val
theorem t_9 {R:Type} (s:bF) (k:Rs SS->Option R):bu Oz 100 9 [KK.aa 36 s] [] (bD KK [36] k)=(Bv shut s).run (λr=>k (.ret (.s (KK.aa 36 r)))):=by kernel_rfl
noncomputable def afi (sh:Sh):bq SS:=bw KK 9 [36] (λ{R} xs k=>match xs with| .cons s .nil=>(mu sh s).bind (λr=>k (.ret (.s (KK.aa 36 r)))))
noncomputable def uS (sh:Sh):az SS:= { (uy sh) with C:=afi sh::(uy sh).C }
theorem F3:ab (uS shut) Tryz.prog:=ab.bB FK λxs k z _ hz=>bG abt (λ{R} xs k z h=>by
 match xs,h with
 | .cons s .nil,h=>exact⟨100,(t_9 s k).trans (bH h)⟩) hz
noncomputable def CW (U:List an) (p1:List Int) (p2:Int) (p3:List ah) (p4:List aj) (p5:List ar) (p6:List aw) (p7 p8:Int) (p9:List an):AS SS:=⟨[(1,(va 0 0)),(2,(va 6 0)),(31,(vd 32 U)),(32,(vi p7)),(33,(vi p8))],[(bX 36 [(.bR .i64 16 p1),(.own 1),(.own 2),(.own 3),(lu p2),(.own 4),(.own 5)]),(rX 69 p3),(rX 89 p4),(rX 71 p5),(rX 93 p6),(rX 82 p9),(bX 36 [(li 0),(li 0),(li 0),(li 0),(li 0),(li 0),(li 0),(li 0),(li 0),(li 0),(li 0),(li 0),(li 0),(li 0),(li 0),(li 0),(.v (.slice none 0 0)),(.v (.slice none 0 0)),(.v (.slice none 0 0)),(lu 0),(.v (.slice none 0 0)),(.v (.slice none 0 0))])],0,none,false,[],[]⟩
noncomputable def ahL (U:List an) (p1:List Int) (p2:Int) (p3:List ah) (p4:List aj) (p5:List ar) (p6:List aw) (p7:Int) (a0:Bool) (a1:Int) (a2:List an):AS SS:= { CW U p1 p2 p3 p4 p5 p6 p7 p2 a2 with env:=[(34,(vb a0)),(1,(va 0 0)),(2,(va 6 0)),(31,(vd 32 U)),(32,(vi p7)),(33,(vi a1))] }
noncomputable def QS (sh:Sh) (U:List an) (p1:List Int) (p2:Int) (p3:List ah) (p4:List aj) (p5:List ar) (p6:List aw) (p7:Int) (a:Int×List an):T ((Int×List an) ⊕ (Bool×Int×List an)):=
 .bf (decide (a.1<p7)) (
  .bd (idx U a.1) λz0=>
   .bd (app 8 [] z0.a_) λz1=>
    .bd (app 32 a.2 [an.mk z0.ae z1]) λz2=>
     .ok (.inl ((IntKind.i64.wrap (a.1+1)),z2)))<|
 .ok (.inr ((decide (a.1<p7)),a.1,a.2))
noncomputable def Qe (sh:Sh) (U:List an) (p1:List Int) (p2:Int) (p3:List ah) (p4:List aj) (p5:List ar) (p6:List aw) (p7 p8:Int) (p9:List an):Option ((Bool×Int×List an)):=cA sh (QS sh U p1 p2 p3 p4 p5 p6 p7) 1000000 (p8,p9)
noncomputable def ac8 {R:Type} (k:AX->AS SS->Option R) (U:List an) (p1:List Int) (p2:Int) (p3:List ah) (p4:List aj) (p5:List ar) (p6:List aw) (p7:Int) (x:(Bool×Int×List an)):Option R:=(λv=>k (.exit 0) (ahL U p1 p2 p3 p4 p5 p6 p7 v.1 v.2.1 v.2.2)) x
noncomputable def Wg:bo SS:=nT (λst=>gc (ax 68 6) (iE 0 6 82 (st)))<|bJ 6 (λst=>(bb 32 (aS st 31 0)).bind λU=>(fN (aZ st 0 0)).bind λp1=>(bE (aZ st 0 4)).bind λp2=>(db st 1 69).bind λp3=>(db st 2 89).bind λp4=>(db st 3 71).bind λp5=>(db st 4 93).bind λp6=>(bE (aS st 32 0)).bind λp7=>(bE (aS st 33 0)).bind λp8=>(db st 5 82).bind λp9=>some (U,p1,p2,p3,p4,p5,p6,p7,p8,p9)) (λp=>CW p.1 p.2.1 p.2.2.1 p.2.2.2.1 p.2.2.2.2.1 p.2.2.2.2.2.1 p.2.2.2.2.2.2.1 p.2.2.2.2.2.2.2.1 p.2.2.2.2.2.2.2.2.1 p.2.2.2.2.2.2.2.2.2) (λp=>Qe shut p.1 p.2.1 p.2.2.1 p.2.2.2.1 p.2.2.2.2.1 p.2.2.2.2.2.1 p.2.2.2.2.2.2.1 p.2.2.2.2.2.2.2.1 p.2.2.2.2.2.2.2.2.1 p.2.2.2.2.2.2.2.2.2) (λk p=>ac8 k p.1 p.2.1 p.2.2.1 p.2.2.2.1 p.2.2.2.2.1 p.2.2.2.2.2.1 p.2.2.2.2.2.2.1 p.2.2.2.2.2.2.2.1)
theorem am0:aC KK Tryz.prog ⟨Tryz.f68,ax 68⟩ (bI (aU Tryz.f68) 6) Wg:=aC.pre (c7.comp (c7.gc (ax 68 6)) (c7.iE 0 6 82))<|
 aC.cA (π:=List an×List Int×Int×List ah×List aj×List ar×List aw×Int×Int×List an) (σ:=Int×List an) (ab.all F3 rfl) (au.nil) rfl 60 (λp a=>CW p.1 p.2.1 p.2.2.1 p.2.2.2.1 p.2.2.2.2.1 p.2.2.2.2.2.1 p.2.2.2.2.2.2.1 p.2.2.2.2.2.2.2.1 a.1 a.2) (λp=>(p.2.2.2.2.2.2.2.2.1,p.2.2.2.2.2.2.2.2.2)) (St:=λp=>QS shut p.1 p.2.1 p.2.2.1 p.2.2.2.1 p.2.2.2.2.1 p.2.2.2.2.2.1 p.2.2.2.2.2.2.1 p.2.2.2.2.2.2.2.1) (λp=>1000000) (λp=>rfl)
  (λm p a k=>by kernel_rfl)
noncomputable def Ot:az SS:= { (uS shut) with T:=bl ((uS shut).T) 68 ⟨⟨Tryz.f68,ax 68⟩,[Wg]⟩ }
theorem abm:aF Ot Tryz.prog:=(aF.bK (ab.all F3 rfl) Tryz.func68 rfl bg λc hc=>by cases hc;exact au.cons (au.nil) (by kernel_rfl) am0)
noncomputable def RB (sh:Sh) (s:bF):T (bF):=
 .bd (app 32 [] s.aG.ao) λz0=>
  .bd (app 24 [] s.bj) λz1=>
   .bd (app 16 [] s.aI.ao) λz2=>
    .bd (app 16 [] s.aA.aK) λz3=>
     .gd (CW s.aA.ay s.aG.aR s.aI.bz z0 z1 z2 z3 ((↑s.aA.ay.length:Int)) 0 [])<|
      .bd (Qe sh s.aA.ay s.aG.aR s.aI.bz z0 z1 z2 z3 ((↑s.aA.ay.length:Int)) 0 []) λy4=>
       .ok (⟨⟨s.aG.aR,z0⟩,z1,⟨z2,s.aI.bz⟩,⟨z3,y4.2.2⟩⟩)
noncomputable def Il (sh:Sh) (s:bF):Option (bF):=sh.s _ (RB sh s).val
theorem aph {R:Type} (s:bF) (k:Rs SS->Option R):bu Ot 100 68 [KK.aa 36 s] [] (bD KK [36] k)=(RB shut s).run (λr=>k (.ret (.s (KK.aa 36 r)))):=by kernel_rfl
noncomputable def ae8 (sh:Sh):bq SS:=bw KK 68 [36] (λ{R} xs k=>match xs with| .cons s .nil=>(Il sh s).bind (λr=>k (.ret (.s (KK.aa 36 r)))))
noncomputable def lH (sh:Sh):az SS:= { (uS sh) with C:=ae8 sh::(uS sh).C }
theorem zC:ab (lH shut) Tryz.prog:=ab.bB F3 λxs k z _ hz=>bG abm (λ{R} xs k z h=>by
 match xs,h with
 | .cons s .nil,h=>exact⟨100,(aph s k).trans (bH h)⟩) hz
noncomputable def IM (U:List ah) (p1:List Int) (p2:List aj) (p3:List ar) (p4:Int) (p5:List aw) (p6:List an) (p7:Int) (p8:List (Int×Int)):AS SS:=⟨[(1,(va 0 0)),(3,(va 1 0)),(4,(va 3 0)),(37,(vd 23 U)),(38,(vi (↑U.length:Int))),(39,(vi p7))],[(bX 36 [(.bR .i64 16 p1),(.aP 23 U),(.aP 26 p2),(.aP 27 p3),(lu p4),(.aP 31 p5),(.aP 32 p6)]),(bX 67 [(.mp 2)]),(some (.map .u64 .i64 p8)),(bX 67 [(.mp 4)]),(some (.map .u64 .i64 []))],0,none,false,[],[]⟩
noncomputable def Yq (U:List ah) (p1:List Int) (p2:List aj) (p3:List ar) (p4:Int) (p5:List aw) (p6:List an) (p8:List (Int×Int)):AS SS:=IM U p1 p2 p3 p4 p5 p6 0 p8
noncomputable def af1 (U:List ah) (p1:List Int) (p2:List aj) (p3:List ar) (p4:Int) (p5:List aw) (p6:List an) (a0:Bool) (a1:Int) (a2:List (Int×Int)):AS SS:= { IM U p1 p2 p3 p4 p5 p6 p4 a2 with env:=[(40,(vb a0)),(1,(va 0 0)),(3,(va 1 0)),(4,(va 3 0)),(37,(vd 23 U)),(38,(vi (↑U.length:Int))),(39,(vi a1))] }
noncomputable def uZ (sh:Sh) (U:List ah) (p1:List Int) (p2:List aj) (p3:List ar) (p4:Int) (p5:List aw) (p6:List an) (p7:Int) (z0:ah) (a:(List (Int×Int))):T (((List (Int×Int))) ⊕ (Bool×Int×(List (Int×Int)))):=
 .bf (!z0.bW) (
  .ok (.inl (eW a z0.ae 1)))<|
 .ok (.inl a)
noncomputable def yC (sh:Sh) (U:List ah) (p1:List Int) (p2:List aj) (p3:List ar) (p4:Int) (p5:List aw) (p6:List an) (p7:Int) (a:(List (Int×Int))):T ((Bool×Int×(List (Int×Int)))):=
 .ok ((decide (p7<(↑U.length:Int))),p7,a)
noncomputable def zM (sh:Sh) (U:List ah) (p1:List Int) (p2:List aj) (p3:List ar) (p4:Int) (p5:List aw) (p6:List an) (p8:List (Int×Int)):Option ((Bool×Int×(List (Int×Int)))):=cg sh (uZ sh U p1 p2 p3 p4 p5 p6) (yC sh U p1 p2 p3 p4 p5 p6) U p8
noncomputable def ab6 {R:Type} (k:AX->AS SS->Option R) (U:List ah) (p1:List Int) (p2:List aj) (p3:List ar) (p4:Int) (p5:List aw) (p6:List an) (x:(Bool×Int×(List (Int×Int)))):Option R:=(λv=>k (.exit 0) (af1 U p1 p2 p3 p4 p5 p6 v.1 v.2.1 v.2.2)) x
noncomputable def xt:bo SS:=bJ 6 (λst=>(bb 23 (aS st 37 0)).bind λU=>(fN (aZ st 0 0)).bind λp1=>(bb 26 (aZ st 0 2)).bind λp2=>(bb 27 (aZ st 0 3)).bind λp3=>(bE (aZ st 0 4)).bind λp4=>(bb 31 (aZ st 0 5)).bind λp5=>(bb 32 (aZ st 0 6)).bind λp6=>(ku st 2).bind λp8=>some (U,p1,p2,p3,p4,p5,p6,p8)) (λp=>Yq p.1 p.2.1 p.2.2.1 p.2.2.2.1 p.2.2.2.2.1 p.2.2.2.2.2.1 p.2.2.2.2.2.2.1 p.2.2.2.2.2.2.2) (λp=>zM shut p.1 p.2.1 p.2.2.1 p.2.2.2.1 p.2.2.2.2.1 p.2.2.2.2.2.1 p.2.2.2.2.2.2.1 p.2.2.2.2.2.2.2) (λk p=>ab6 k p.1 p.2.1 p.2.2.1 p.2.2.2.1 p.2.2.2.2.1 p.2.2.2.2.2.1 p.2.2.2.2.2.2.1)
theorem al9:aC KK Tryz.prog ⟨Tryz.f11,ax 11⟩ (bI (aU Tryz.f11) 6) xt:=
 aC.ck (π:=List ah×List Int×List aj×List ar×Int×List aw×List an×(List (Int×Int))) (σ:=(List (Int×Int))) (ab.all zC rfl) (au.nil) rfl 60 (λp i a=>IM p.1 p.2.1 p.2.2.1 p.2.2.2.1 p.2.2.2.2.1 p.2.2.2.2.2.1 p.2.2.2.2.2.2.1 i a) (λp=>p.1) (λp=>p.2.2.2.2.2.2.2) (St:=λp=>uZ shut p.1 p.2.1 p.2.2.1 p.2.2.2.1 p.2.2.2.2.1 p.2.2.2.2.2.1 p.2.2.2.2.2.2.1) (F:=λp=>yC shut p.1 p.2.1 p.2.2.1 p.2.2.2.1 p.2.2.2.2.1 p.2.2.2.2.2.1 p.2.2.2.2.2.2.1) (λp=>rfl)
  (λm p i a k=>by kernel_rfl) (λp x=>⟨_,_,λ_=>rfl⟩) (λp N C A O w a hr=>cH hr (t:=23) (sl:=37) rfl λv h=>h)
noncomputable def IL (U:List ar) (p1:List Int) (p2:List ah) (p3:List aj) (p4:Int) (p5:List aw) (p6:List an) (p7:List (Int×Int)) (p8:Int) (p9:List (Int×Int)):AS SS:=⟨[(1,(va 0 0)),(3,(va 1 0)),(4,(va 3 0)),(52,(vd 27 U)),(53,(vi (↑U.length:Int))),(54,(vi p8))],[(bX 36 [(.bR .i64 16 p1),(.aP 23 p2),(.aP 26 p3),(.aP 27 U),(lu p4),(.aP 31 p5),(.aP 32 p6)]),(bX 67 [(.mp 2)]),(some (.map .u64 .i64 p7)),(bX 67 [(.mp 4)]),(some (.map .u64 .i64 p9))],0,none,false,[],[]⟩
noncomputable def Yp (U:List ar) (p1:List Int) (p2:List ah) (p3:List aj) (p4:Int) (p5:List aw) (p6:List an) (p7 p9:List (Int×Int)):AS SS:=IL U p1 p2 p3 p4 p5 p6 p7 0 p9
noncomputable def af0 (U:List ar) (p1:List Int) (p2:List ah) (p3:List aj) (p4:Int) (p5:List aw) (p6:List an) (p7:List (Int×Int)) (a0:Bool) (a1:Int) (a2:List (Int×Int)):AS SS:= { IL U p1 p2 p3 p4 p5 p6 p7 p4 a2 with env:=[(55,(vb a0)),(1,(va 0 0)),(3,(va 1 0)),(4,(va 3 0)),(52,(vd 27 U)),(53,(vi (↑U.length:Int))),(54,(vi a1))] }
noncomputable def GI (sh:Sh) (U:List ar) (p1:List Int) (p2:List ah) (p3:List aj) (p4:Int) (p5:List aw) (p6:List an) (p7:List (Int×Int)) (p8:Int) (z0:ar) (a:(List (Int×Int))):T (((List (Int×Int))) ⊕ (Bool×Int×(List (Int×Int)))):=
 .ok (.inl (eW a z0.bc 1))
noncomputable def yB (sh:Sh) (U:List ar) (p1:List Int) (p2:List ah) (p3:List aj) (p4:Int) (p5:List aw) (p6:List an) (p7:List (Int×Int)) (p8:Int) (a:(List (Int×Int))):T ((Bool×Int×(List (Int×Int)))):=
 .ok ((decide (p8<(↑U.length:Int))),p8,a)
noncomputable def zL (sh:Sh) (U:List ar) (p1:List Int) (p2:List ah) (p3:List aj) (p4:Int) (p5:List aw) (p6:List an) (p7 p9:List (Int×Int)):Option ((Bool×Int×(List (Int×Int)))):=cg sh (GI sh U p1 p2 p3 p4 p5 p6 p7) (yB sh U p1 p2 p3 p4 p5 p6 p7) U p9
noncomputable def ab5 {R:Type} (k:AX->AS SS->Option R) (U:List ar) (p1:List Int) (p2:List ah) (p3:List aj) (p4:Int) (p5:List aw) (p6:List an) (p7:List (Int×Int)) (x:(Bool×Int×(List (Int×Int)))):Option R:=(λv=>k (.exit 2) (af0 U p1 p2 p3 p4 p5 p6 p7 v.1 v.2.1 v.2.2)) x
noncomputable def xr:bo SS:=bJ 12 (λst=>(bb 27 (aS st 52 0)).bind λU=>(fN (aZ st 0 0)).bind λp1=>(bb 23 (aZ st 0 1)).bind λp2=>(bb 26 (aZ st 0 2)).bind λp3=>(bE (aZ st 0 4)).bind λp4=>(bb 31 (aZ st 0 5)).bind λp5=>(bb 32 (aZ st 0 6)).bind λp6=>(ku st 2).bind λp7=>(ku st 4).bind λp9=>some (U,p1,p2,p3,p4,p5,p6,p7,p9)) (λp=>Yp p.1 p.2.1 p.2.2.1 p.2.2.2.1 p.2.2.2.2.1 p.2.2.2.2.2.1 p.2.2.2.2.2.2.1 p.2.2.2.2.2.2.2.1 p.2.2.2.2.2.2.2.2) (λp=>zL shut p.1 p.2.1 p.2.2.1 p.2.2.2.1 p.2.2.2.2.1 p.2.2.2.2.2.1 p.2.2.2.2.2.2.1 p.2.2.2.2.2.2.2.1 p.2.2.2.2.2.2.2.2) (λk p=>ab5 k p.1 p.2.1 p.2.2.1 p.2.2.2.1 p.2.2.2.2.1 p.2.2.2.2.2.1 p.2.2.2.2.2.2.1 p.2.2.2.2.2.2.2.1)
theorem al8:aC KK Tryz.prog ⟨Tryz.f11,ax 11⟩ (bI (aU Tryz.f11) 12) xr:=
 aC.ck (π:=List ar×List Int×List ah×List aj×Int×List aw×List an×(List (Int×Int))×(List (Int×Int))) (σ:=(List (Int×Int))) (ab.all zC rfl) (au.nil) rfl 60 (λp i a=>IL p.1 p.2.1 p.2.2.1 p.2.2.2.1 p.2.2.2.2.1 p.2.2.2.2.2.1 p.2.2.2.2.2.2.1 p.2.2.2.2.2.2.2.1 i a) (λp=>p.1) (λp=>p.2.2.2.2.2.2.2.2) (St:=λp=>GI shut p.1 p.2.1 p.2.2.1 p.2.2.2.1 p.2.2.2.2.1 p.2.2.2.2.2.1 p.2.2.2.2.2.2.1 p.2.2.2.2.2.2.2.1) (F:=λp=>yB shut p.1 p.2.1 p.2.2.1 p.2.2.2.1 p.2.2.2.2.1 p.2.2.2.2.2.1 p.2.2.2.2.2.2.1 p.2.2.2.2.2.2.2.1) (λp=>rfl)
  (λm p i a k=>by kernel_rfl) (λp x=>⟨_,_,λ_=>rfl⟩) (λp N C A O w a hr=>cH hr (t:=27) (sl:=52) rfl λv h=>h)
noncomputable def I' (U:List aj) (p1 p2:List (Int×Int)) (p3:Bool) (p4:Int):AS SS:=⟨[(1,(vc 0)),(5,(vb p3)),(8,(vd 26 U)),(9,(vi (↑U.length:Int))),(10,(vi p4))],[(some (.bM 51 [] [(.one (.br 1 0)),(.one (.br 3 0))])),(bX 67 [(.mp 2)]),(some (.map .u64 .i64 p1)),(bX 67 [(.mp 4)]),(some (.map .u64 .i64 p2))],5,none,false,[],[]⟩
noncomputable def YU (U:List aj) (p1 p2:List (Int×Int)) (p3:Bool):AS SS:=I' U p1 p2 p3 0
noncomputable def aht (U:List aj) (p1 p2:List (Int×Int)) (a0 a1:Bool) (a2 a3 a4:Int) (a5:aj) (a6 a7:Bool) (a8:Int):AS SS:=⟨[(18,(vb a0)),(17,(vb a1)),(5,(vb a1)),(16,(vb a1)),(15,(.s (.agg [(lu a2),(li a3),(lu a4)]))),(14,(vc 0)),(7,(va 5 0)),(13,(.s (.agg [(lu a2),(li a3),(lu a4)]))),(12,(vs (.ptr 89 a5 0))),(11,(vb a6)),(1,(vc 0)),(5,(vb a7)),(8,(vd 26 U)),(9,(vi (↑U.length:Int))),(10,(vi a8))],[(some (.bM 51 [] [(.one (.br 1 0)),(.one (.br 3 0))])),(bX 67 [(.mp 2)]),(some (.map .u64 .i64 p1)),(bX 67 [(.mp 4)]),(some (.map .u64 .i64 p2)),(bX 89 [(lu a2),(li a3),(lu a4)])],5,none,false,[],[]⟩
noncomputable def ahu (U:List aj) (p1 p2:List (Int×Int)) (a0 a1:Bool) (a2:Int):AS SS:= { I' U p1 p2 a0 a2 with env:=[(11,(vb a0)),(1,(vc 0)),(5,(vb a1)),(8,(vd 26 U)),(9,(vi (↑U.length:Int))),(10,(vi a2))] }
noncomputable def rS (sh:Sh) (U:List aj) (p1 p2:List (Int×Int)) (p4:Int) (z0:aj) (a:Bool):T (Bool ⊕ (Bool×Bool×Int×Int×Int×aj×Bool×Bool×Int) ⊕ (Bool×Bool×Int)):=
 .bf ((match cj p1 z0.ae with
 |some x=>x
 |none=>0)==
 1) (
  .bf (!(match cj p2 z0.c8 with
   |some x=>x
   |none=>0)==
   1) (
   .ok (.inr (.inl ((!(match cj p2 z0.c8 with
   |some x=>x
   |none=>0)==
   1),((match cj p2 z0.c8 with
 |some x=>x
 |none=>0)==
 1),z0.ae,z0.cJ,z0.c8,z0,(decide (p4<(↑U.length:Int))),a,p4))))<|
  .ok (.inl ((match cj p2 z0.c8 with
 |some x=>x
 |none=>0)==
 1)))<|
 .ok (.inr (.inl (true,false,z0.ae,z0.cJ,z0.c8,z0,(decide (p4<(↑U.length:Int))),a,p4)))
noncomputable def EO (sh:Sh) (U:List aj) (p1 p2:List (Int×Int)) (p4:Int) (a:Bool):T ((Bool×Bool×Int×Int×Int×aj×Bool×Bool×Int) ⊕ (Bool×Bool×Int)):=
 .ok (.inr ((decide (p4<(↑U.length:Int))),a,p4))
noncomputable def Gv (sh:Sh) (U:List aj) (p1 p2:List (Int×Int)) (p3:Bool):Option ((Bool×Bool×Int×Int×Int×aj×Bool×Bool×Int) ⊕ (Bool×Bool×Int)):=cg sh (rS sh U p1 p2) (EO sh U p1 p2) U p3
noncomputable def acZ {R:Type} (k:AX->AS SS->Option R) (U:List aj) (p1 p2:List (Int×Int)) (x:(Bool×Bool×Int×Int×Int×aj×Bool×Bool×Int) ⊕ (Bool×Bool×Int)):Option R:=(λx=>Sum.rec (λv=>k (.exit 0) (aht U p1 p2 v.1 v.2.1 v.2.2.1 v.2.2.2.1 v.2.2.2.2.1 v.2.2.2.2.2.1 v.2.2.2.2.2.2.1 v.2.2.2.2.2.2.2.1 v.2.2.2.2.2.2.2.2)) (λv=>k (.exit 0) (ahu U p1 p2 v.1 v.2.1 v.2.2)) x) x
noncomputable def DB:bo SS:=bJ 4 (λst=>(dU st 0 51).bind λ_=>(bb 26 (aS st 8 0)).bind λU=>(ku st 2).bind λp1=>(ku st 4).bind λp2=>(oJ (aS st 5 0)).bind λp3=>some (U,p1,p2,p3)) (λp=>YU p.1 p.2.1 p.2.2.1 p.2.2.2) (λp=>Gv shut p.1 p.2.1 p.2.2.1 p.2.2.2) (λk p=>acZ k p.1 p.2.1 p.2.2.1)
noncomputable def aae:az SS:= { (lH shut) with T:=bl ((lH shut).T) 11 ⟨⟨Tryz.f11,ax 11⟩,[xt,xr]⟩ }
theorem Nn:aF aae Tryz.prog:=(aF.bK (ab.all zC rfl) Tryz.func11 rfl bg λc hc=>by cases hc;exact au.cons (au.cons (au.nil) (by kernel_rfl) al8) (by kernel_rfl) al9)
theorem amR:aC KK Tryz.prog ⟨Tryz.f50,ax 50⟩ (bI (aU Tryz.f50) 4) DB:=
 aC.ck (π:=List aj×(List (Int×Int))×(List (Int×Int))×Bool) (σ:=Bool) Nn (au.nil) rfl 60 (λp i a=>I' p.1 p.2.1 p.2.2.1 a i) (λp=>p.1) (λp=>p.2.2.2) (St:=λp=>rS shut p.1 p.2.1 p.2.2.1) (F:=λp=>EO shut p.1 p.2.1 p.2.2.1) (λp=>rfl)
  (λm p i a k=>by kernel_rfl) (by rintro p (x|x)<;>exact⟨_,_,λ_=>rfl⟩) (λp N C A O w a hr=>cH hr (t:=26) (sl:=8) rfl λv h=>h)
noncomputable def Ja (U:List aw) (p1:List (Int×Int)) (p2:Bool) (p3:Int):AS SS:=⟨[(1,(vc 0)),(5,(vb p2)),(8,(vd 31 U)),(9,(vi (↑U.length:Int))),(10,(vi p3))],[(some (.bM 53 [] [(.one (.br 1 0))])),(bX 67 [(.mp 2)]),(some (.map .u64 .i64 p1))],3,none,false,[],[]⟩
noncomputable def Mr (U:List aw) (p1:List (Int×Int)) (p2:Bool):AS SS:=Ja U p1 p2 0
noncomputable def ahv (U:List aw) (p1:List (Int×Int)) (a0 a1:Bool) (a2 a3:Int) (a4:aw) (a5 a6:Bool) (a7:Int):AS SS:=⟨[(18,(vb a0)),(17,(vb a1)),(5,(vb a1)),(16,(vb a1)),(15,(.s (.agg [(lu a2),(lu a3)]))),(14,(vc 0)),(7,(va 3 0)),(13,(.s (.agg [(lu a2),(lu a3)]))),(12,(vs (.ptr 93 a4 0))),(11,(vb a5)),(1,(vc 0)),(5,(vb a6)),(8,(vd 31 U)),(9,(vi (↑U.length:Int))),(10,(vi a7))],[(some (.bM 53 [] [(.one (.br 1 0))])),(bX 67 [(.mp 2)]),(some (.map .u64 .i64 p1)),(bX 93 [(lu a2),(lu a3)])],3,none,false,[],[]⟩
noncomputable def ahw (U:List aw) (p1:List (Int×Int)) (a0 a1:Bool) (a2:Int):AS SS:= { Ja U p1 a0 a2 with env:=[(11,(vb a0)),(1,(vc 0)),(5,(vb a1)),(8,(vd 31 U)),(9,(vi (↑U.length:Int))),(10,(vi a2))] }
noncomputable def rT (sh:Sh) (U:List aw) (p1:List (Int×Int)) (p3:Int) (z0:aw) (a:Bool):T (Bool ⊕ (Bool×Bool×Int×Int×aw×Bool×Bool×Int) ⊕ (Bool×Bool×Int)):=
 .bf (!(match cj p1 z0.ae with
   |some x=>x
   |none=>0)==
   1) (
  .ok (.inr (.inl ((!(match cj p1 z0.ae with
   |some x=>x
   |none=>0)==
   1),((match cj p1 z0.ae with
 |some x=>x
 |none=>0)==
 1),z0.cB,z0.ae,z0,(decide (p3<(↑U.length:Int))),a,p3))))<|
 .ok (.inl ((match cj p1 z0.ae with
 |some x=>x
 |none=>0)==
 1))
noncomputable def EP (sh:Sh) (U:List aw) (p1:List (Int×Int)) (p3:Int) (a:Bool):T ((Bool×Bool×Int×Int×aw×Bool×Bool×Int) ⊕ (Bool×Bool×Int)):=
 .ok (.inr ((decide (p3<(↑U.length:Int))),a,p3))
noncomputable def zQ (sh:Sh) (U:List aw) (p1:List (Int×Int)) (p2:Bool):Option ((Bool×Bool×Int×Int×aw×Bool×Bool×Int) ⊕ (Bool×Bool×Int)):=cg sh (rT sh U p1) (EP sh U p1) U p2
noncomputable def ac0 {R:Type} (k:AX->AS SS->Option R) (U:List aw) (p1:List (Int×Int)) (x:(Bool×Bool×Int×Int×aw×Bool×Bool×Int) ⊕ (Bool×Bool×Int)):Option R:=(λx=>Sum.rec (λv=>k (.exit 0) (ahv U p1 v.1 v.2.1 v.2.2.1 v.2.2.2.1 v.2.2.2.2.1 v.2.2.2.2.2.1 v.2.2.2.2.2.2.1 v.2.2.2.2.2.2.2)) (λv=>k (.exit 0) (ahw U p1 v.1 v.2.1 v.2.2)) x) x
noncomputable def K9:bo SS:=bJ 4 (λst=>(dU st 0 53).bind λ_=>(bb 31 (aS st 8 0)).bind λU=>(ku st 2).bind λp1=>(oJ (aS st 5 0)).bind λp2=>some (U,p1,p2)) (λp=>Mr p.1 p.2.1 p.2.2) (λp=>zQ shut p.1 p.2.1 p.2.2) (λk p=>ac0 k p.1 p.2.1)
noncomputable def aaf:az SS:= { (lH shut) with T:=bl (bl ((lH shut).T) 11 ⟨⟨Tryz.f11,ax 11⟩,[xt,xr]⟩) 50 ⟨⟨Tryz.f50,ax 50⟩,[DB]⟩ }
theorem No:aF aaf Tryz.prog:=(aF.bK Nn Tryz.func50 rfl bg λc hc=>by cases hc;exact au.cons (au.nil) (by kernel_rfl) amR)
theorem amS:aC KK Tryz.prog ⟨Tryz.f52,ax 52⟩ (bI (aU Tryz.f52) 4) K9:=
 aC.ck (π:=List aw×(List (Int×Int))×Bool) (σ:=Bool) No (au.nil) rfl 60 (λp i a=>Ja p.1 p.2.1 a i) (λp=>p.1) (λp=>p.2.2) (St:=λp=>rT shut p.1 p.2.1) (F:=λp=>EP shut p.1 p.2.1) (λp=>rfl)
  (λm p i a k=>by kernel_rfl) (by rintro p (x|x)<;>exact⟨_,_,λ_=>rfl⟩) (λp N C A O w a hr=>cH hr (t:=31) (sl:=8) rfl λv h=>h)
noncomputable def Jb (U:List an) (p1:List (Int×Int)) (p2:Bool) (p3:Int):AS SS:=⟨[(1,(vc 0)),(5,(vb p2)),(8,(vd 32 U)),(9,(vi (↑U.length:Int))),(10,(vi p3))],[(some (.bM 55 [] [(.one (.br 1 0))])),(bX 67 [(.mp 2)]),(some (.map .u64 .i64 p1))],3,none,false,[],[]⟩
noncomputable def xY (U:List an) (p1:List (Int×Int)) (p2:Bool):AS SS:=Jb U p1 p2 0
noncomputable def ahx (U:List an) (p1:List (Int×Int)) (a0 a1:Bool) (a2:Int) (a3:List Int) (a4:an) (a5 a6:Bool) (a7:Int):AS SS:=⟨[(18,(vb a0)),(17,(vb a1)),(5,(vb a1)),(16,(vb a1)),(15,(.s (.agg [(lu a2),(.aP 76 a3)]))),(14,(vc 0)),(7,(va 3 0)),(13,(.s (.agg [(lu a2),(.aP 76 a3)]))),(12,(vs (.ptr 82 a4 0))),(11,(vb a5)),(1,(vc 0)),(5,(vb a6)),(8,(vd 32 U)),(9,(vi (↑U.length:Int))),(10,(vi a7))],[(some (.bM 55 [] [(.one (.br 1 0))])),(bX 67 [(.mp 2)]),(some (.map .u64 .i64 p1)),(bX 82 [(lu a2),(.aP 76 a3)])],3,none,false,[],[]⟩
noncomputable def ahy (U:List an) (p1:List (Int×Int)) (a0 a1:Bool) (a2:Int):AS SS:= { Jb U p1 a0 a2 with env:=[(11,(vb a0)),(1,(vc 0)),(5,(vb a1)),(8,(vd 32 U)),(9,(vi (↑U.length:Int))),(10,(vi a2))] }
noncomputable def rU (sh:Sh) (U:List an) (p1:List (Int×Int)) (p3:Int) (z0:an) (a:Bool):T (Bool ⊕ (Bool×Bool×Int×List Int×an×Bool×Bool×Int) ⊕ (Bool×Bool×Int)):=
 .bf (!(match cj p1 z0.ae with
   |some x=>x
   |none=>0)==
   1) (
  .ok (.inr (.inl ((!(match cj p1 z0.ae with
   |some x=>x
   |none=>0)==
   1),((match cj p1 z0.ae with
 |some x=>x
 |none=>0)==
 1),z0.ae,z0.a_,z0,(decide (p3<(↑U.length:Int))),a,p3))))<|
 .ok (.inl ((match cj p1 z0.ae with
 |some x=>x
 |none=>0)==
 1))
noncomputable def ER (sh:Sh) (U:List an) (p1:List (Int×Int)) (p3:Int) (a:Bool):T ((Bool×Bool×Int×List Int×an×Bool×Bool×Int) ⊕ (Bool×Bool×Int)):=
 .ok (.inr ((decide (p3<(↑U.length:Int))),a,p3))
noncomputable def rN (sh:Sh) (U:List an) (p1:List (Int×Int)) (p2:Bool):Option ((Bool×Bool×Int×List Int×an×Bool×Bool×Int) ⊕ (Bool×Bool×Int)):=cg sh (rU sh U p1) (ER sh U p1) U p2
noncomputable def ac1 {R:Type} (k:AX->AS SS->Option R) (U:List an) (p1:List (Int×Int)) (x:(Bool×Bool×Int×List Int×an×Bool×Bool×Int) ⊕ (Bool×Bool×Int)):Option R:=(λx=>Sum.rec (λv=>k (.exit 0) (ahx U p1 v.1 v.2.1 v.2.2.1 v.2.2.2.1 v.2.2.2.2.1 v.2.2.2.2.2.1 v.2.2.2.2.2.2.1 v.2.2.2.2.2.2.2)) (λv=>k (.exit 0) (ahy U p1 v.1 v.2.1 v.2.2)) x) x
noncomputable def V':bo SS:=bJ 4 (λst=>(dU st 0 55).bind λ_=>(bb 32 (aS st 8 0)).bind λU=>(ku st 2).bind λp1=>(oJ (aS st 5 0)).bind λp2=>some (U,p1,p2)) (λp=>xY p.1 p.2.1 p.2.2) (λp=>rN shut p.1 p.2.1 p.2.2) (λk p=>ac1 k p.1 p.2.1)
noncomputable def aag:az SS:= { (lH shut) with T:=bl (bl (bl ((lH shut).T) 11 ⟨⟨Tryz.f11,ax 11⟩,[xt,xr]⟩) 50 ⟨⟨Tryz.f50,ax 50⟩,[DB]⟩) 52 ⟨⟨Tryz.f52,ax 52⟩,[K9]⟩ }
theorem Np:aF aag Tryz.prog:=(aF.bK No Tryz.func52 rfl bg λc hc=>by cases hc;exact au.cons (au.nil) (by kernel_rfl) amS)
theorem amT:aC KK Tryz.prog ⟨Tryz.f54,ax 54⟩ (bI (aU Tryz.f54) 4) V':=
 aC.ck (π:=List an×(List (Int×Int))×Bool) (σ:=Bool) Np (au.nil) rfl 60 (λp i a=>Jb p.1 p.2.1 a i) (λp=>p.1) (λp=>p.2.2) (St:=λp=>rU shut p.1 p.2.1) (F:=λp=>ER shut p.1 p.2.1) (λp=>rfl)
  (λm p i a k=>by kernel_rfl) (by rintro p (x|x)<;>exact⟨_,_,λ_=>rfl⟩) (λp N C A O w a hr=>cH hr (t:=32) (sl:=8) rfl λv h=>h)
noncomputable def Nq:az SS:= { (lH shut) with T:=bl (bl (bl (bl ((lH shut).T) 11 ⟨⟨Tryz.f11,ax 11⟩,[xt,xr]⟩) 50 ⟨⟨Tryz.f50,ax 50⟩,[DB]⟩) 52 ⟨⟨Tryz.f52,ax 52⟩,[K9]⟩) 54 ⟨⟨Tryz.f54,ax 54⟩,[V']⟩ }
theorem aah:aF Nq Tryz.prog:=(aF.bK Np Tryz.func54 rfl bg λc hc=>by cases hc;exact au.cons (au.nil) (by kernel_rfl) amT)
noncomputable def AG (sh:Sh) (s:bF):T (Int):=
 .bd (qn sh s.aG) λy0=>
  .bf (y0 !=0) (
   .ok 360)<|
  .bd (ng sh s.bj) λy1=>
   .bf (y1 !=0) (
    .ok 360)<|
   .bd (vE sh s.aI) λy2=>
    .bf (y2 !=0) (
     .ok 360)<|
    .bd (oL sh s.aA) λy3=>
     .bf (y3 !=0) (
      .ok 360)<|
     .gd (Yq s.aG.ao s.aG.aR s.bj s.aI.ao s.aI.bz s.aA.aK s.aA.ay [])<|
      .bd (zM sh s.aG.ao s.aG.aR s.bj s.aI.ao s.aI.bz s.aA.aK s.aA.ay []) λy4=>
       .gd (Yp s.aI.ao s.aG.aR s.aG.ao s.bj s.aI.bz s.aA.aK s.aA.ay y4.2.2 [])<|
        .bd (zL sh s.aI.ao s.aG.aR s.aG.ao s.bj s.aI.bz s.aA.aK s.aA.ay y4.2.2 []) λy5=>
         .gd (YU s.bj y4.2.2 y5.2.2 true)<|
          .bd (Gv sh s.bj y4.2.2 y5.2.2 true) λog=> .cs og (λy6=>
           .gd (Mr s.aA.aK y4.2.2 true)<|
            .bd (zQ sh s.aA.aK y4.2.2 true) λM5=> .cs M5 (λy7=>
             .bf (!y6.2.1) (
              .ok 360)<|
             .bf (!y7.2.1) (
              .ok 360)<|
             .gd (xY s.aA.ay y4.2.2 true)<|
              .bd (rN sh s.aA.ay y4.2.2 true) λrD=> .cs rD (λy8=>
               .bf (!y8.2.1) (
                .ok 360)<|
               .ok 0) λy8=>
               .bf (!y8.2.1) (
                .ok 360)<|
               .ok 0) λy7=>
             .bf (!y6.2.1) (
              .ok 360)<|
             .bf (!y7.2.1) (
              .ok 360)<|
             .gd (xY s.aA.ay y4.2.2 true)<|
              .bd (rN sh s.aA.ay y4.2.2 true) λrD=> .cs rD (λy8=>
               .bf (!y8.2.1) (
                .ok 360)<|
               .ok 0) λy8=>
               .bf (!y8.2.1) (
                .ok 360)<|
               .ok 0) λy6=>
           .gd (Mr s.aA.aK y4.2.2 true)<|
            .bd (zQ sh s.aA.aK y4.2.2 true) λM5=> .cs M5 (λy7=>
             .bf (!y6.2.1) (
              .ok 360)<|
             .bf (!y7.2.1) (
              .ok 360)<|
             .gd (xY s.aA.ay y4.2.2 true)<|
              .bd (rN sh s.aA.ay y4.2.2 true) λrD=> .cs rD (λy8=>
               .bf (!y8.2.1) (
                .ok 360)<|
               .ok 0) λy8=>
               .bf (!y8.2.1) (
                .ok 360)<|
               .ok 0) λy7=>
             .bf (!y6.2.1) (
              .ok 360)<|
             .bf (!y7.2.1) (
              .ok 360)<|
             .gd (xY s.aA.ay y4.2.2 true)<|
              .bd (rN sh s.aA.ay y4.2.2 true) λrD=> .cs rD (λy8=>
               .bf (!y8.2.1) (
                .ok 360)<|
               .ok 0) λy8=>
               .bf (!y8.2.1) (
                .ok 360)<|
               .ok 0
noncomputable def qh (sh:Sh) (s:bF):Option (Int):=sh.s _ (AG sh s).val
theorem aod {R:Type} (s:bF) (k:Rs SS->Option R):bu Nq 100 11 [KK.aa 36 s] [] (bD KK [40] k)=(AG shut s).run (λr=>k (.ret (.s (KK.aa 40 r)))):=by kernel_rfl
noncomputable def adZ (sh:Sh):bq SS:=bw KK 11 [36] (λ{R} xs k=>match xs with| .cons s .nil=>(qh sh s).bind (λr=>k (.ret (.s (KK.aa 40 r)))))
noncomputable def tU (sh:Sh):az SS:= { (lH sh) with C:=adZ sh::(lH sh).C }
theorem Fa:ab (tU shut) Tryz.prog:=ab.bB zC λxs k z _ hz=>bG aah (λ{R} xs k z h=>by
 match xs,h with
 | .cons s .nil,h=>exact⟨100,(aod s k).trans (bH h)⟩) hz
noncomputable def IX (U:List an) (p1:List Int) (p2:List ah) (p3:List aj) (p4:List ar) (p5:Int) (p6:List aw) (p7 p8:Int):AS SS:=⟨[(1,(va 0 0)),(2,(va 1 0)),(3,(vi p7)),(12,(vd 32 U)),(13,(vi (↑U.length:Int))),(14,(vi p8))],[(bX 36 [(.bR .i64 16 p1),(.aP 23 p2),(.aP 26 p3),(.aP 27 p4),(lu p5),(.aP 31 p6),(.aP 32 U)]),(bX 43 [(li 0),(li 0),(li 0),(li 0),(li 0)])],0,none,false,[],[]⟩
noncomputable def Yx (U:List an) (p1:List Int) (p2:List ah) (p3:List aj) (p4:List ar) (p5:Int) (p6:List aw) (p7:Int):AS SS:=IX U p1 p2 p3 p4 p5 p6 p7 0
noncomputable def ags (U:List an) (p1:List Int) (p2:List ah) (p3:List aj) (p4:List ar) (p5:Int) (p6:List aw) (a0:Bool) (a1 a2:Int):AS SS:= { IX U p1 p2 p3 p4 p5 p6 p5 p5 with env:=[(15,(vb a0)),(1,(va 0 0)),(2,(va 1 0)),(3,(vi a1)),(12,(vd 32 U)),(13,(vi (↑U.length:Int))),(14,(vi a2))] }
noncomputable def GL (sh:Sh) (U:List an) (p1:List Int) (p2:List ah) (p3:List aj) (p4:List ar) (p5:Int) (p6:List aw) (p8:Int) (z0:an) (a:Int):T (Int ⊕ (Bool×Int×Int)):=
 .ok (.inl (IntKind.i64.wrap (a+(↑z0.a_.length:Int))))
noncomputable def EM (sh:Sh) (U:List an) (p1:List Int) (p2:List ah) (p3:List aj) (p4:List ar) (p5:Int) (p6:List aw) (p8 a:Int):T ((Bool×Int×Int)):=
 .ok ((decide (p8<(↑U.length:Int))),a,p8)
noncomputable def Ge (sh:Sh) (U:List an) (p1:List Int) (p2:List ah) (p3:List aj) (p4:List ar) (p5:Int) (p6:List aw) (p7:Int):Option ((Bool×Int×Int)):=cg sh (GL sh U p1 p2 p3 p4 p5 p6) (EM sh U p1 p2 p3 p4 p5 p6) U p7
noncomputable def acm {R:Type} (k:AX->AS SS->Option R) (U:List an) (p1:List Int) (p2:List ah) (p3:List aj) (p4:List ar) (p5:Int) (p6:List aw) (x:(Bool×Int×Int)):Option R:=(λv=>k (.exit 0) (ags U p1 p2 p3 p4 p5 p6 v.1 v.2.1 v.2.2)) x
noncomputable def VH:bo SS:=bJ 6 (λst=>(bb 32 (aS st 12 0)).bind λU=>(fN (aZ st 0 0)).bind λp1=>(bb 23 (aZ st 0 1)).bind λp2=>(bb 26 (aZ st 0 2)).bind λp3=>(bb 27 (aZ st 0 3)).bind λp4=>(bE (aZ st 0 4)).bind λp5=>(bb 31 (aZ st 0 5)).bind λp6=>(bE (aS st 3 0)).bind λp7=>some (U,p1,p2,p3,p4,p5,p6,p7)) (λp=>Yx p.1 p.2.1 p.2.2.1 p.2.2.2.1 p.2.2.2.2.1 p.2.2.2.2.2.1 p.2.2.2.2.2.2.1 p.2.2.2.2.2.2.2) (λp=>Ge shut p.1 p.2.1 p.2.2.1 p.2.2.2.1 p.2.2.2.2.1 p.2.2.2.2.2.1 p.2.2.2.2.2.2.1 p.2.2.2.2.2.2.2) (λk p=>acm k p.1 p.2.1 p.2.2.1 p.2.2.2.1 p.2.2.2.2.1 p.2.2.2.2.2.1 p.2.2.2.2.2.2.1)
theorem amj:aC KK Tryz.prog ⟨Tryz.f15,ax 15⟩ (bI (aU Tryz.f15) 6) VH:=
 aC.ck (π:=List an×List Int×List ah×List aj×List ar×Int×List aw×Int) (σ:=Int) (ab.all Fa rfl) (au.nil) rfl 60 (λp i a=>IX p.1 p.2.1 p.2.2.1 p.2.2.2.1 p.2.2.2.2.1 p.2.2.2.2.2.1 p.2.2.2.2.2.2.1 a i) (λp=>p.1) (λp=>p.2.2.2.2.2.2.2) (St:=λp=>GL shut p.1 p.2.1 p.2.2.1 p.2.2.2.1 p.2.2.2.2.1 p.2.2.2.2.2.1 p.2.2.2.2.2.2.1) (F:=λp=>EM shut p.1 p.2.1 p.2.2.1 p.2.2.2.1 p.2.2.2.2.1 p.2.2.2.2.2.1 p.2.2.2.2.2.2.1) (λp=>rfl)
  (λm p i a k=>by kernel_rfl) (λp x=>⟨_,_,λ_=>rfl⟩) (λp N C A O w a hr=>cH hr (t:=32) (sl:=12) rfl λv h=>h)
noncomputable def Nx:az SS:= { (tU shut) with T:=bl ((tU shut).T) 15 ⟨⟨Tryz.f15,ax 15⟩,[VH]⟩ }
theorem aao:aF Nx Tryz.prog:=(aF.bK (ab.all Fa rfl) Tryz.func15 rfl bg λc hc=>by cases hc;exact au.cons (au.nil) (by kernel_rfl) amj)
noncomputable def AR (sh:Sh) (s:bF):T (List Int):=
 .bd (qh sh s) λy0=>
  .bf (y0 !=0) (
   .ok ([0,0,0,0,0]))<|
  .gd (Yx s.aA.ay s.aG.aR s.aG.ao s.bj s.aI.ao s.aI.bz s.aA.aK 0)<|
   .bd (Ge sh s.aA.ay s.aG.aR s.aG.ao s.bj s.aI.ao s.aI.bz s.aA.aK 0) λy1=>
    .ok ([(↑s.aA.aK.length:Int),(↑s.aI.ao.length:Int),(↑s.aG.ao.length:Int),(↑s.bj.length:Int),y1.2.1])
noncomputable def qj (sh:Sh) (s:bF):Option (List Int):=sh.s _ (AR sh s).val
theorem aoo {R:Type} (s:bF) (k:Rs SS->Option R):bu Nx 100 15 [KK.aa 36 s] [] (bD KK [43] k)=(AR shut s).run (λr=>k (.ret (.s (KK.aa 43 r)))):=by kernel_rfl
noncomputable def ad_ (sh:Sh):bq SS:=bw KK 15 [36] (λ{R} xs k=>match xs with| .cons s .nil=>(qj sh s).bind (λr=>k (.ret (.s (KK.aa 43 r)))))
noncomputable def tZ (sh:Sh):az SS:= { (tU sh) with C:=ad_ sh::(tU sh).C }
theorem Fg:ab (tZ shut) Tryz.prog:=ab.bB Fa λxs k z _ hz=>bG aao (λ{R} xs k z h=>by
 match xs,h with
 | .cons s .nil,h=>exact⟨100,(aoo s k).trans (bH h)⟩) hz
end Go.Proofs.YtdhaaaeffhaadaaGreatDoor
end
