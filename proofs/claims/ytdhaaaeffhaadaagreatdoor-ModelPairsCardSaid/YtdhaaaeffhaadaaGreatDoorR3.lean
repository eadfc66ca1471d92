/- A part of the proof that ModelErrors, ModelNever and ModelPairs return true for every input: the machine of values, its soundness, the program as plain functions, the laws. Conditions: those of the given rows. -/
import Derived.Test.YtdhaaaeffhaadaaGreatDoorR2
import Derived.Test.YtdhaaaeffhaadaaGreatDoorProg
import Derived.Lib.Bytealg
import Derived.Shelf.Strings.OnBuilder
set_option linter.unusedVariables false
set_option linter.unusedSimpArgs false
noncomputable section
section
namespace Go.Vx
open Go.RowKit Go.Dc
section
variable {S:bO} {K:bS S} {P:Program} {N:Nat} {B:dR} {A A':Pl} {O:List Nat} {w:World} {st:AS S} {a:Act}
def jk (j c e:Nat) (st:AS S):AS S:=match aP st.h j with
 |some (.box t cs)=>(match cs[c]? with
  |some (.v (.slice none 0 0))=> { st with h:=st.h.set j (some (.box t (cs.set c (.own st.h.length))))++[some (.row e [])] }
  |_=>st)
 |_=>st
theorem X8 {n:Nat} (hA:A.le A') (hn:A'.pl n=some (.slice none 0 0)): ∀ {ls:List (LV S)} {xs:List Value} {c:Nat},bV A O w ls xs->ls[c]? =some (.v (.slice none 0 0))->bV A' O w (ls.set c (.own n)) xs
 |[],_,c,_,h=>by simp at h
 |l::ls,xs,0,⟨ys,zs,U,h2,h3⟩,h=>by
  have h:l= .v (.slice none 0 0):=by simpa using h
  subst h
  exact⟨ys,zs,U,⟨_,hn,h2.1,rfl⟩,rD (Tr.refl O w) hA h3⟩
 |l::ls,xs,c+1,⟨ys,zs,U,h2,h3⟩,h=>⟨ys,zs,U,h2.tr (Tr.refl O w) hA,X8 hA hn h3 (by simpa using h)⟩
theorem bF.jk (j c e:Nat) (h:bF K P N B A O w st a): ∃A',bF K P N B A' O w (Vx.jk j c e st) a:=by
 unfold Vx.jk
 split
 rotate_left
 ·exact⟨A,h⟩
 rename_i t cs hj
 split
 rotate_left
 ·exact⟨A,h⟩
 rename_i hc
 have jb:=iP hj
 obtain⟨A',dB⟩: ∃A',A'=A.put st.h.length (.slice none 0 0):=⟨_,rfl⟩
 have cB:=h.free st.h.length (Nat.le_refl _)
 have hle:A.le A':=by rw[dB];exact Pl.vW cB
 have gY:A'.pl st.h.length=some (.slice none 0 0):=by rw[dB];exact Pl.lX _ _ _
 have fa: ∀i,i≠st.h.length->A'.pl i=A.pl i:=λi hi=>by rw[dB];exact Pl.ou (λe=>hi e.symm)
 have hlen:(st.h.set j (some (.box t (cs.set c (.own st.h.length))))).length=st.h.length:=List.length_set
 have iJ: ∀ {i:Nat} {X:Ob S},aP (st.h.set j (some (.box t (cs.set c (.own st.h.length))))++[some (.row e [])]) i=some X->(i=st.h.length/\X= .row e [])\/(i=j/\X= .box t (cs.set c (.own st.h.length)))\/(i≠j/\aP st.h i=some X):=by
  intro i X hi
  rcases rq hi with U|⟨U,h2⟩
  ·right
   rw[og,List.getElem?_set] at U
   split at U
   ·rename_i he
    simp only[Option.some.injEq] at U
    exact .inl ⟨he.symm,U.symm⟩
   ·rename_i he
    exact .inr ⟨λx=>he x.symm,og.2 U⟩
  ·exact .inl ⟨U.trans hlen,h2⟩
 have hold: ∀ {i:Nat} {X:Ob S} {p:Value} {b:Nat},aP (st.h.set j (some (.box t (cs.set c (.own st.h.length))))++[some (.row e [])]) i=some X->A'.pl i=some p->cC p=some b-> ∃Y,aP st.h i=some Y/\A.pl i=some p:=by
  intro i X p b hi hp hb
  rcases iJ hi with⟨rfl,_⟩|⟨rfl,_⟩|⟨_,U⟩
  ·rw[gY] at hp;cases hp;cases hb
  ·exact⟨_,hj,by rw[<-fa i (by omega)];exact hp⟩
  ·have:=iP U
   exact⟨_,U,by rw[<-fa i (by omega)];exact hp⟩
 refine⟨A',h.size,h.env.tr (Tr.refl O w) hle,⟨?_,?_⟩,h.ob,h.eD,?_,h.nb,?_,h.tr,?_,by rw[dB];exact h.ls,?_,?_,?_,h.lp,h.dl,h.hi,h.o0,h.rr⟩
 ·intro i X hi
  rcases iJ hi with⟨rfl,rfl⟩|⟨rfl,rfl⟩|⟨aU,U⟩
  ·exact⟨_,gY,Own.lU,λb hb=>by cases hb⟩
  ·obtain⟨p,hp,⟨b,vs,h2,h3,h4⟩,hb⟩:=h.rel.al i _ hj
   exact⟨p,by rw[fa i (by omega)];exact hp,⟨b,vs,h2,h3,X8 hle gY h4 hc⟩,hb⟩
  ·obtain⟨p,hp,hR,hb⟩:=h.rel.al i X U
   have:=iP U
   exact⟨p,by rw[fa i (by omega)];exact hp,hR.keep (Tr.refl O w) hle λb b_=>⟨rfl,hb b b_⟩,hb⟩
 ·intro i i' X Y p q b aU hi jA hp hq b_ eX
  obtain⟨X0,U,h2⟩:=hold hi hp b_
  obtain⟨Y0,h3,h4⟩:=hold jA hq eX
  exact h.rel.dj i i' X0 Y0 p q b aU U h3 h2 h4 b_ eX
 ·intro i hi
  simp at hi
  rw[fa i (by omega)]
  exact h.free i (by omega)
 ·show B.nb<=(st.h.set j _++[_]).length
  have:=h.le
  simp
  omega
 ·intro i hi
  have:=h.le
  rw[fa i (by omega)]
  exact h.pl i hi
 ·intro i X hi hX
  have:=h.le
  rcases iJ hX with⟨rfl,_⟩|⟨rfl,_⟩|⟨_,U⟩
  ·omega
  ·exact h.lv i _ hi hj
  ·exact h.lv i X hi U
 ·intro b hb hx bU
  obtain⟨c1,c2,c3⟩:=h.cl b hb hx bU
  refine⟨c1,c2,λi X p hi hX hp b_=>?_⟩
  obtain⟨Y,U,h2⟩:=hold hX hp b_
  exact c3 i Y p hi U h2 b_
 ·exact eA.AI hle.at_ (λD hD=>hD) h.df
def ka (l:List Nat) (st:AS S):AS S:= { st with dt:=l++st.dt }
theorem bF.ka (l:List Nat) (h:bF K P N B A O w st a):bF K P N B A O w (Vx.ka l st) a:=
 ⟨h.size,h.env,h.rel,h.ob,h.eD,h.free,h.nb,h.le,h.tr,h.pl,h.ls,h.lv,λb hb hx hc=>h.cl b hb hx λi hi=>hc i (List.mem_append_right _ hi),h.df,h.lp,h.dl,h.hi,h.o0,h.rr⟩
theorem bF.seen {j:Nat} {X X':Ob S} (h:bF K P N B A O w st a) (hj:aP st.h j=some X) (hR: ∀p,iU A O w X p->iU A O w X' p):bF K P N B A O w { st with h:=st.h.set j (some X') } a:=by
 have jb:=iP hj
 have iJ: ∀ {i:Nat} {Y:Ob S},aP (st.h.set j (some X')) i=some Y->(i=j/\Y=X')\/(i≠j/\aP st.h i=some Y):=by
  intro i Y hi
  rw[og,List.getElem?_set] at hi
  split at hi
  ·rename_i he
   simp only[Option.some.injEq] at hi
   exact .inl ⟨he.symm,hi.symm⟩
  ·rename_i he
   exact .inr ⟨λx=>he x.symm,og.2 hi⟩
 have hold: ∀ {i:Nat} {Y:Ob S},aP (st.h.set j (some X')) i=some Y-> ∃Z,aP st.h i=some Z:=by
  intro i Y hi
  rcases iJ hi with⟨rfl,_⟩|⟨_,U⟩
  ·exact⟨_,hj⟩
  ·exact⟨_,U⟩
 refine⟨h.size,h.env,⟨?_,?_⟩,h.ob,h.eD,?_,h.nb,?_,h.tr,h.pl,h.ls,?_,?_,h.df,h.lp,h.dl,h.hi,h.o0,h.rr⟩
 ·intro i Y hi
  rcases iJ hi with⟨rfl,rfl⟩|⟨_,U⟩
  ·obtain⟨p,hp,h2,hb⟩:=h.rel.al i _ hj
   exact⟨p,hp,hR p h2,hb⟩
  ·exact h.rel.al i Y U
 ·intro i i' Y Z p q b aU hi jA hp hq b_ eX
  obtain⟨Y0,U⟩:=hold hi
  obtain⟨Z0,h2⟩:=hold jA
  exact h.rel.dj i i' Y0 Z0 p q b aU U h2 hp hq b_ eX
 ·intro i hi
  exact h.free i (by simpa using hi)
 ·show B.nb<=(st.h.set j _).length
  have:=h.le
  simp
  omega
 ·intro i Y hi hY
  obtain⟨Z,U⟩:=hold hY
  exact h.lv i Z hi U
 ·intro b hb hx bU
  obtain⟨c1,c2,c3⟩:=h.cl b hb hx bU
  refine⟨c1,c2,λi Y p hi hY hp b_=>?_⟩
  obtain⟨Z,U⟩:=hold hY
  exact c3 i Z p hi U hp b_
def Jz (cs:List (LV S)):List (LV S):=match ui cs with
 |some bs=>[.er bs.length bs]
 |none=>(match oa cs with|some (k,gs)=>[.bQ k gs.length gs]|none=>cs)
theorem adp {cs:List (LV S)} {xs:List Value} (h:bV A O w cs xs):bV A O w (Jz cs) xs:=by
 unfold Jz
 split
 ·rename_i bs hb
  exact⟨xs,[],by simp,⟨rfl,JF hb h⟩,rfl⟩
 ·split
  ·rename_i k gs hg
   exact⟨xs,[],by simp,⟨rfl,MK hg h⟩,rfl⟩
  ·exact h
def qy (j:Nat) (st:AS S):AS S:=match aP st.h j with
 |some (.box t cs)=> { st with h:=st.h.set j (some (.box t (Jz cs))) }
 |_=>st
theorem bF.qy (j:Nat) (h:bF K P N B A O w st a):bF K P N B A O w (Vx.qy j st) a:=by
 unfold Vx.qy
 split
 ·rename_i t cs hj
  refine h.seen hj ?_
  rintro p ⟨b,vs,U,h2,h3⟩
  exact⟨b,vs,U,h2,adp h3⟩
 ·exact h
def SX:Option (LV S)->Option (List Bool)
 |some (.er _ x)=>some x
 |_=>none
def pS (pre:AS S->AS S) (lc:bM S):bM S:=⟨lc.id,λst k=>lc.out (pre st) k⟩
def du (K:bS S) (P:Program) (pre:AS S->AS S):Prop:= ∀ {N:Nat} {B:dR} {A:Pl} {O:List Nat} {w:World} {st:AS S} {a:Act},bF K P N B A O w st a-> ∃A',bF K P N B A' O w (pre st) a
theorem du.gc (sl:List Nat):du K P (Vx.gc sl):=λh=>h.gc
theorem du.jk (j c e:Nat):du K P (Vx.jk j c e):=λh=>h.jk j c e
theorem du.ka (l:List Nat):du K P (Vx.ka l):=λh=>⟨_,h.ka l⟩
theorem du.qy (j:Nat):du K P (Vx.qy j):=λh=>⟨_,h.qy j⟩
theorem du.comp {f g:AS S->AS S} (hf:du K P f) (hg:du K P g):du K P (λst=>f (g st)):=λh=>
 let⟨_,U⟩:=hg h
 hf U
theorem aO.pre {J:rS} {x:Code} {lc:bM S} {pre:AS S->AS S} (hp:du K P pre) (h:aO K P J x lc):aO K P J x (pS pre lc):=by
 intro R st k z hz
 obtain⟨e,bt,U,h2⟩:=h (pre st) k z hz
 refine⟨e,bt,U,λC A O w a hr=>?_⟩
 obtain⟨A',dy⟩:=hp hr
 exact h2 C A' O w a dy
end
section
variable {S:bO} {K:bS S} {P:Program}
def zE (K:bS S) (f e:Nat) (ins:List (S.El e)->Int->List (S.El e)->Option (List (S.El e))):jQ S:=⟨f,λap2 h k=>match ap2 with
 |[.one (.own r),.one (.v (.int .i64 j)),.one (.own r2)]=>bif Nat.beq r r2 then none else(match fN K (aP h) e (.own r),fN K (aP h) e (.own r2) with
  |some xs,some ys=>(ins xs j ys).bind λzs=>k (.ret (.s (.one (.own h.length)))) ((h.set r none).set r2 none++[some (.row e zs)]) [r,r2]
  |_,_=>none)
 |_=>none⟩
theorem J2 {g:Nat->Option (Ob S)} {e r:Nat} {xs:List (S.El e)} (h:fN K g e (.own r)=some xs):g r=some (.row e xs):=by
 simp only[fN] at h
 split at h
 ·rename_i e' ys hg
  split at h
  ·rename_i p _
   subst p
   cases h
   exact hg
  ·cases h
 ·cases h
theorem NF {h:AH S} {r i:Nat} {X:Ob S} (hi:aP (h.set r none) i=some X):i≠r/\aP h i=some X:=by
 rw[og] at hi
 rw[List.getElem?_set] at hi
 split at hi
 ·split at hi<;>simp at hi
 ·rename_i aU
  exact⟨λe=>aU e.symm,og.2 hi⟩
theorem MH (hK:cQ K P) {f e:Nat} {ins:List (S.El e)->Int->List (S.El e)->Option (List (S.El e))} (gU:gm P f)
  (hC: ∀(O:List Nat) (w:World) (v u:Value) (xs ys zs:List (S.El e)) (j:Int),OB O w->Dc.Own (S.ty e) e 0 O w v xs->(S.ty e).slice.is O w u ys->Plain w u->ins xs j ys=some zs->Calls P f #[v,.int .i64 j,u] w (ia (S.ty e) e 0 O w v zs))
  {R:Type} (ap2:List (aG S)) (h:AH S) (k:Rs S->AH S->List Nat->Option R) (z:R) (hz:(zE K f e ins).out ap2 h k=some z): ∃r h' dt,k r h' dt=some z/\iB K P f ap2 h r h' dt:=by
 simp only[zE] at hz
 split at hz
 rotate_left
 ·cases hz
 rename_i r j r2
 cases aU:Nat.beq r r2<;>rw[aU] at hz
 rotate_left
 ·cases hz
 simp only[cond_false] at hz
 split at hz
 rotate_left
 ·cases hz
 rename_i xs ys fe dU
 obtain⟨zs,gy,hk⟩:=bind_some hz
 have aU:r≠r2:=λe=>by subst e;rw[Nat.beq_refl] at aU;cases aU
 have n5:=J2 fe
 have Fb:=J2 dU
 refine⟨_,_,_,hk,gU,λA O w vs hv hg hO hG cB=>?_⟩
 obtain⟨v,_,rfl,zx,v1,_,rfl,⟨Mm,_⟩,u,rest,rfl,jD,zr⟩:=hv
 rw[show rest=[] from zr]
 obtain rfl:v1= .int .i64 j:=by simpa using Mm
 have uW:=oT hK hg dU jD
 obtain⟨_,n8,iL,_⟩:=zx
 cases iL
 obtain⟨_,q9,huu,_⟩:=jD
 cases huu
 obtain⟨v0,zv,jC,Uy⟩:=hg.al r _ n5
 rw[n8] at zv;cases zv
 obtain⟨u0,Fi,ai2,hbu⟩:=hg.al r2 _ Fb
 rw[q9] at Fi;cases Fi
 obtain⟨O1,pf⟩: ∃O1,O1=gA A [r2] O:=⟨_,rfl⟩
 have uW:(S.ty e).slice.is O1 w u ys:=by rw[pf];exact uW
 have jY:Dc.Sub O1 O:=by rw[pf];exact jE
 have ajm: ∀g,cC v=some g->g∈O1:=by
  intro g m5
  rw[pf,oc]
  refine⟨Uy g m5,λr' dy p hp=>?_⟩
  have:r'=r2:=by simpa using dy
  subst this
  exact hg.dj r r' _ _ v p g aU n5 Fb n8 hp m5
 have ai3:Dc.Own (S.ty e) e 0 O1 w v xs:=by
  have jC:Dc.Own (S.ty e) e 0 O w v xs:=jC
  obtain⟨cs,U,h2⟩:=jC.ex
  exact⟨⟨cs,U,h2.tr (Tr.less jY)⟩,λg m5=>ajm g (mT m5)⟩
 refine(hC O1 w v u xs ys zs j (λb hb=>hO b (jY b hb)) ai3 uW (Dc.Own.plain ai2) gy).mono ?_
 rintro en w' ⟨v',O2,rfl,ha⟩
 obtain⟨A',dB⟩: ∃A':Pl,A'=⟨λi=>bif Nat.beq i h.length then some v' else A.pl i,A.ls⟩:=⟨_,rfl⟩
 have fa: ∀i,i≠h.length->A'.pl i=A.pl i:=λi hi=>by
  rw[dB]
  have:Nat.beq i h.length=false:=by
   cases hb:Nat.beq i h.length with
   |false=>rfl
   |true=>exact absurd (Nat.eq_of_beq_eq_true hb) hi
  simp only[this,cond_false]
 have gY:A'.pl h.length=some v':=by rw[dB];simp
 have hle:A.le A':=⟨λi p hp=>by
  rw[fa i (λe=>by subst e;rw[cB _ (Nat.le_refl _)] at hp;cases hp)];exact hp,by rw[dB]⟩
 have gJ: ∀b,cC v≠some b->v.ownBlock≠some b:=λb hb hv=>hb (mT hv)
 have fQ: ∀b,b<w.heap.size->cC v≠some b->w'.heap[b]? =w.heap[b]? :=λb hb hn=>ha.fr b hb (gJ b hn)
 have dq: ∀b,b∈O->cC u≠some b->b∈O2:=λb hb hn=>ha.sub b (by
  rw[pf,oc]
  refine⟨hb,λr' dy p hp=>?_⟩
  have:r'=r2:=by simpa using dy
  subst this
  rw[q9] at hp;cases hp
  exact hn)
 have fq:Tr O w O2 w':=(Tr.less jY).trans ha.tr
 have dJ: ∀b,cC v'=some b->v'.ownBlock=some b/\b∈O2:=by
  intro b hb
  have gJ:v'.ownBlock=some b:=by
   rcases nk ha.own with⟨e1,_⟩|⟨b',c,e1⟩
   ·rw[e1] at hb;cases hb
   ·rw[e1] at hb ⊢;cases hb;rfl
  exact⟨gJ,ha.own.mem b gJ⟩
 have pK: ∀b,b<w.heap.size->cC v≠some b->cC v'≠some b:=λb hb hn h'=>ha.ne b hb (gJ b hn) (dJ b h').1
 have nZ:v'.oneCell'=true:=by
  rcases nk ha.own with⟨e1,_⟩|⟨b',c,e1⟩<;>rw[e1]<;>rfl
 have hlen:((h.set r none).set r2 none).length=h.length:=by simp
 have m_: ∀ {i:Nat} {X:Ob S},aP ((h.set r none).set r2 none++[some (.row e zs)]) i=some X->(i≠r/\i≠r2/\aP h i=some X)\/(i=h.length/\X= .row e zs):=by
  intro i X hi
  rcases rq hi with U|⟨U,h2⟩
  ·obtain⟨h3,h4⟩:=NF U
   obtain⟨h5,h6⟩:=NF h4
   exact .inl ⟨h5,h3,h6⟩
  ·exact .inr ⟨U.trans hlen,h2⟩
 refine⟨A',O2,⟨v',rfl,⟨v',gY,rfl,nZ⟩⟩,⟨⟨?_,?_⟩,ha.ob,fq,λi hi=>fa i (by omega),(λj hj=>?_),by rw[dB],by simp,?_,?_⟩⟩
 ·intro i X hi
  rcases m_ hi with⟨pF,aiP,U⟩|⟨rfl,rfl⟩
  ·obtain⟨p,hp,hR,hb⟩:=hg.al i X U
   have aH:=iP U
   have UM: ∀b,cC p=some b->b∈O2:=λb b_=>dq b (hb b b_) (λhub=>hg.dj i r2 _ _ p u b aiP U Fb hp q9 b_ hub)
   exact⟨p,by rw[fa i (by omega)];exact hp,hR.keep fq hle λb b_=>⟨fQ b (hO b (hb b b_)) (λgJ=>hg.dj i r _ _ p v b pF U n5 hp n8 b_ gJ),UM b b_⟩,UM⟩
  ·exact⟨v',gY,ha.own,λb hb=>(dJ b hb).2⟩
 ·intro i j X Y p q b dC hi hj hp hq b_ eX
  have gi: ∀ {i:Nat} {X:Ob S} {p:Value},i≠r->aP h i=some X->A'.pl i=some p->cC p=some b->b<w.heap.size/\A.pl i=some p/\cC v≠some b:=by
   intro i X p h0 U h2 h3
   have aH:=iP U
   rw[fa i (by omega)] at h2
   obtain⟨p',dx,_,hb⟩:=hg.al i X U
   rw[h2] at dx;cases dx
   exact⟨hO b (hb b h3),h2,λgJ=>hg.dj i r _ _ p v b h0 U n5 h2 n8 h3 gJ⟩
  rcases m_ hi with⟨pF,_,U⟩|⟨rfl,rfl⟩
  ·rcases m_ hj with⟨sF,_,h2⟩|⟨rfl,rfl⟩
   ·exact hg.dj i j X Y p q b dC U h2 (gi pF U hp b_).2.1 (gi sF h2 hq eX).2.1 b_ eX
   ·rw[gY] at hq;cases hq
    have h3:=gi pF U hp b_
    exact pK b h3.1 h3.2.2 eX
  ·rcases m_ hj with⟨sF,_,h2⟩|⟨rfl,rfl⟩
   ·rw[gY] at hp;cases hp
    have h3:=gi sF h2 hq eX
    exact pK b h3.1 h3.2.2 b_
   ·exact absurd rfl dC
 ·have:j=r\/j=r2:=by simpa using hj
  rcases this with rfl|rfl
  ·exact iP n5
  ·exact iP Fb
 ·intro i hi
  simp at hi
  rw[fa i (by omega)]
  exact cB i (by omega)
 ·intro b hb hn
  have mn:=hn r (by simp) v n8
  have hnu:=hn r2 (by simp) u q9
  refine⟨fQ b (hO b hb) mn,dq b hb hnu,λi X p hi hX hp b_=>?_⟩
  rcases m_ hX with⟨_,_,U⟩|⟨rfl,rfl⟩
  ·have:=iP U;omega
  ·rw[gY] at hp;cases hp
   exact pK b (hO b hb) mn b_
end
end Go.Vx
end
section
namespace Go.Proofs.YtdhaaaeffhaadaaGreatDoor
open Go.Dc
structure ae where
 aa:Int
 ba:Int
 bC:Bool
 cJ:Int
 deriving DecidableEq
structure br where
 aJ:List Int
 ab:List ae
 deriving DecidableEq
structure ai where
 aa:Int
 bL:Int
 cK:Int
 deriving DecidableEq
structure az where
 bp:Int
 aZ:Int
 deriving DecidableEq
structure bG where
 ab:List az
 aN:Int
 deriving DecidableEq
structure aA where
 bl:Int
 aa:Int
 deriving DecidableEq
structure ao where
 aa:Int
 bg:List Int
 deriving DecidableEq
structure aL where
 aB:List aA
 ax:List ao
 deriving DecidableEq
structure aM where
 ar:br
 aI:List ai
 ay:bG
 aq:aL
 deriving DecidableEq
structure aW where
 bJ:Int
 fArgs:List Int
 deriving DecidableEq
structure cH where
 cD:Int
 dd:Int
 deriving DecidableEq
structure nA where
 kP:List ByteArray
 yp:Int
 deriving DecidableEq
def uL:ae:=⟨1,0,false,0⟩
def uy (x y:cH):Bool:=(x.cD==y.cD)&&(x.dd==y.dd)
def jU (x y:ae):Bool:=(x.aa==y.aa)&&(x.ba==y.ba)&&(x.bC==y.bC)&&(x.cJ==y.cJ)
def me (x y:ai):Bool:=(x.aa==y.aa)&&(x.bL==y.bL)&&(x.cK==y.cK)
def oU (x y:az):Bool:=(x.bp==y.bp)&&(x.aZ==y.aZ)
def oV (x y:aA):Bool:=(x.bl==y.bl)&&(x.aa==y.aa)
end Go.Proofs.YtdhaaaeffhaadaaGreatDoor
end
section
namespace Go.Proofs.YtdhaaaeffhaadaaGreatDoor
open Go.RowKit Go.Dc Go.Vx
set_option maxRecDepth 100000
set_option maxHeartbeats 4000000
def Θ:dG:=[(2,⟨2,3,0,[],1,8,.int .i64 0⟩),
 (3,⟨2,3,0,[],1,8,.int .i64 0⟩),
 (4,⟨1,0,0,[],1,1,.bool false⟩),
 (5,⟨2,4,0,[],1,1,.int .u8 0⟩),
 (6,⟨2,4,0,[],1,1,.int .u8 0⟩),
 (7,⟨8,0,0,[(2,0),(3,1),(4,2),(6,3)],4,24,.agg #[.int .i64 0,.int .i64 0,.bool false,.int .u8 0]⟩),
 (8,⟨8,0,0,[(2,0),(3,1),(4,2),(6,3)],4,24,.agg #[.int .i64 0,.int .i64 0,.bool false,.int .u8 0]⟩),
 (9,⟨3,0,0,[],1,16,.string ByteArray.empty⟩),
 (10,⟨3,0,0,[],1,16,.string ByteArray.empty⟩),
 (11,⟨3,0,0,[],1,16,.string ByteArray.empty⟩),
 (12,⟨2,7,0,[],1,8,.int .u64 0⟩),
 (13,⟨8,0,0,[(9,0),(12,1)],2,24,.agg #[.string ByteArray.empty,.int .u64 0]⟩),
 (14,⟨8,0,0,[(9,0),(12,1)],2,24,.agg #[.string ByteArray.empty,.int .u64 0]⟩),
 (15,⟨4,0,310,[],1,8,.pointer none⟩),
 (16,⟨4,0,313,[],1,8,.pointer none⟩),
 (17,⟨4,0,321,[],1,8,.pointer none⟩),
 (18,⟨8,0,0,[(17,0)],1,8,.agg #[.pointer none]⟩),
 (19,⟨8,0,0,[(17,0)],1,8,.agg #[.pointer none]⟩),
 (20,⟨10,0,0,[],1,16,.nilIface⟩),
 (21,⟨2,2,0,[],1,4,.int .i32 0⟩),
 (22,⟨6,16,3,[],16,128,.agg #[.int .i64 0,.int .i64 0,.int .i64 0,.int .i64 0,.int .i64 0,.int .i64 0,.int .i64 0,.int .i64 0,.int .i64 0,.int .i64 0,.int .i64 0,.int .i64 0,.int .i64 0,.int .i64 0,.int .i64 0,.int .i64 0]⟩),
 (23,⟨5,0,69,[],1,24,.slice none 0 0⟩),
 (24,⟨8,0,0,[(22,0),(23,16)],17,152,.agg #[.int .i64 0,.int .i64 0,.int .i64 0,.int .i64 0,.int .i64 0,.int .i64 0,.int .i64 0,.int .i64 0,.int .i64 0,.int .i64 0,.int .i64 0,.int .i64 0,.int .i64 0,.int .i64 0,.int .i64 0,.int .i64 0,.slice none 0 0]⟩),
 (25,⟨8,0,0,[(22,0),(23,16)],17,152,.agg #[.int .i64 0,.int .i64 0,.int .i64 0,.int .i64 0,.int .i64 0,.int .i64 0,.int .i64 0,.int .i64 0,.int .i64 0,.int .i64 0,.int .i64 0,.int .i64 0,.int .i64 0,.int .i64 0,.int .i64 0,.int .i64 0,.slice none 0 0]⟩),
 (26,⟨5,0,89,[],1,24,.slice none 0 0⟩),
 (27,⟨5,0,71,[],1,24,.slice none 0 0⟩),
 (28,⟨2,7,0,[],1,8,.int .u64 0⟩),
 (29,⟨8,0,0,[(27,0),(28,1)],2,32,.agg #[.slice none 0 0,.int .u64 0]⟩),
 (30,⟨8,0,0,[(27,0),(28,1)],2,32,.agg #[.slice none 0 0,.int .u64 0]⟩),
 (31,⟨5,0,93,[],1,24,.slice none 0 0⟩),
 (32,⟨5,0,82,[],1,24,.slice none 0 0⟩),
 (33,⟨8,0,0,[(31,0),(32,1)],2,48,.agg #[.slice none 0 0,.slice none 0 0]⟩),
 (34,⟨8,0,0,[(31,0),(32,1)],2,48,.agg #[.slice none 0 0,.slice none 0 0]⟩),
 (35,⟨8,0,0,[(25,0),(26,17),(30,18),(34,20)],22,256,.agg #[.int .i64 0,.int .i64 0,.int .i64 0,.int .i64 0,.int .i64 0,.int .i64 0,.int .i64 0,.int .i64 0,.int .i64 0,.int .i64 0,.int .i64 0,.int .i64 0,.int .i64 0,.int .i64 0,.int .i64 0,.int .i64 0,.slice none 0 0,.slice none 0 0,.slice none 0 0,.int .u64 0,.slice none 0 0,.slice none 0 0]⟩),
 (36,⟨8,0,0,[(25,0),(26,17),(30,18),(34,20)],22,256,.agg #[.int .i64 0,.int .i64 0,.int .i64 0,.int .i64 0,.int .i64 0,.int .i64 0,.int .i64 0,.int .i64 0,.int .i64 0,.int .i64 0,.int .i64 0,.int .i64 0,.int .i64 0,.int .i64 0,.int .i64 0,.int .i64 0,.slice none 0 0,.slice none 0 0,.slice none 0 0,.int .u64 0,.slice none 0 0,.slice none 0 0]⟩),
 (40,⟨2,3,0,[],1,8,.int .i64 0⟩),
 (43,⟨6,5,3,[],5,40,.agg #[.int .i64 0,.int .i64 0,.int .i64 0,.int .i64 0,.int .i64 0]⟩),
 (46,⟨5,0,50,[],1,24,.slice none 0 0⟩),
 (48,⟨6,4,28,[],4,32,.agg #[.int .u64 0,.int .u64 0,.int .u64 0,.int .u64 0]⟩),
 (49,⟨8,0,0,[(28,0),(48,1)],5,40,.agg #[.int .u64 0,.int .u64 0,.int .u64 0,.int .u64 0,.int .u64 0]⟩),
 (50,⟨8,0,0,[(28,0),(48,1)],5,40,.agg #[.int .u64 0,.int .u64 0,.int .u64 0,.int .u64 0,.int .u64 0]⟩),
 (51,⟨5,0,53,[],1,24,.slice none 0 0⟩),
 (52,⟨8,0,0,[(40,0),(28,1)],2,16,.agg #[.int .i64 0,.int .u64 0]⟩),
 (53,⟨8,0,0,[(40,0),(28,1)],2,16,.agg #[.int .i64 0,.int .u64 0]⟩),
 (67,⟨7,28,3,[],1,8,.map none⟩),
 (68,⟨8,0,0,[(28,0),(28,1),(4,2),(28,3)],4,32,.agg #[.int .u64 0,.int .u64 0,.bool false,.int .u64 0]⟩),
 (69,⟨8,0,0,[(28,0),(28,1),(4,2),(28,3)],4,32,.agg #[.int .u64 0,.int .u64 0,.bool false,.int .u64 0]⟩),
 (70,⟨8,0,0,[(28,0),(28,1)],2,16,.agg #[.int .u64 0,.int .u64 0]⟩),
 (71,⟨8,0,0,[(28,0),(28,1)],2,16,.agg #[.int .u64 0,.int .u64 0]⟩),
 (76,⟨5,0,28,[],1,24,.slice none 0 0⟩),
 (78,⟨6,5,28,[],5,40,.agg #[.int .u64 0,.int .u64 0,.int .u64 0,.int .u64 0,.int .u64 0]⟩),
 (79,⟨2,7,0,[],1,8,.int .u64 0⟩),
 (81,⟨8,0,0,[(28,0),(76,1)],2,32,.agg #[.int .u64 0,.slice none 0 0]⟩),
 (82,⟨8,0,0,[(28,0),(76,1)],2,32,.agg #[.int .u64 0,.slice none 0 0]⟩),
 (83,⟨9,0,0,[],1,8,.nilFunc⟩),
 (88,⟨8,0,0,[(28,0),(3,1),(28,2)],3,24,.agg #[.int .u64 0,.int .i64 0,.int .u64 0]⟩),
 (89,⟨8,0,0,[(28,0),(3,1),(28,2)],3,24,.agg #[.int .u64 0,.int .i64 0,.int .u64 0]⟩),
 (92,⟨8,0,0,[(28,0),(28,1)],2,16,.agg #[.int .u64 0,.int .u64 0]⟩),
 (93,⟨8,0,0,[(28,0),(28,1)],2,16,.agg #[.int .u64 0,.int .u64 0]⟩),
 (105,⟨9,0,0,[],1,8,.nilFunc⟩),
 (107,⟨9,0,0,[],1,8,.nilFunc⟩),
 (117,⟨9,0,0,[],1,8,.nilFunc⟩),
 (118,⟨9,0,0,[],1,8,.nilFunc⟩),
 (120,⟨4,0,36,[],1,8,.pointer none⟩),
 (124,⟨4,0,128,[],1,8,.pointer none⟩),
 (127,⟨8,0,0,[(34,0)],2,48,.agg #[.slice none 0 0,.slice none 0 0]⟩),
 (128,⟨8,0,0,[(34,0)],2,48,.agg #[.slice none 0 0,.slice none 0 0]⟩),
 (129,⟨9,0,0,[],1,8,.nilFunc⟩),
 (130,⟨9,0,0,[],1,8,.nilFunc⟩),
 (138,⟨9,0,0,[],1,8,.nilFunc⟩),
 (140,⟨4,0,142,[],1,8,.pointer none⟩),
 (141,⟨8,0,0,[(25,0)],17,152,.agg #[.int .i64 0,.int .i64 0,.int .i64 0,.int .i64 0,.int .i64 0,.int .i64 0,.int .i64 0,.int .i64 0,.int .i64 0,.int .i64 0,.int .i64 0,.int .i64 0,.int .i64 0,.int .i64 0,.int .i64 0,.int .i64 0,.slice none 0 0]⟩),
 (142,⟨8,0,0,[(25,0)],17,152,.agg #[.int .i64 0,.int .i64 0,.int .i64 0,.int .i64 0,.int .i64 0,.int .i64 0,.int .i64 0,.int .i64 0,.int .i64 0,.int .i64 0,.int .i64 0,.int .i64 0,.int .i64 0,.int .i64 0,.int .i64 0,.int .i64 0,.slice none 0 0]⟩),
 (143,⟨4,0,69,[],1,8,.pointer none⟩),
 (145,⟨9,0,0,[],1,8,.nilFunc⟩),
 (147,⟨5,0,3,[],1,24,.slice none 0 0⟩),
 (148,⟨9,0,0,[],1,8,.nilFunc⟩),
 (149,⟨9,0,0,[],1,8,.nilFunc⟩),
 (151,⟨9,0,0,[],1,8,.nilFunc⟩),
 (153,⟨7,28,28,[],1,8,.map none⟩),
 (160,⟨9,0,0,[],1,8,.nilFunc⟩),
 (163,⟨4,0,165,[],1,8,.pointer none⟩),
 (164,⟨8,0,0,[(36,0),(48,22)],26,288,.agg #[.int .i64 0,.int .i64 0,.int .i64 0,.int .i64 0,.int .i64 0,.int .i64 0,.int .i64 0,.int .i64 0,.int .i64 0,.int .i64 0,.int .i64 0,.int .i64 0,.int .i64 0,.int .i64 0,.int .i64 0,.int .i64 0,.slice none 0 0,.slice none 0 0,.slice none 0 0,.int .u64 0,.slice none 0 0,.slice none 0 0,.int .u64 0,.int .u64 0,.int .u64 0,.int .u64 0]⟩),
 (165,⟨8,0,0,[(36,0),(48,22)],26,288,.agg #[.int .i64 0,.int .i64 0,.int .i64 0,.int .i64 0,.int .i64 0,.int .i64 0,.int .i64 0,.int .i64 0,.int .i64 0,.int .i64 0,.int .i64 0,.int .i64 0,.int .i64 0,.int .i64 0,.int .i64 0,.int .i64 0,.slice none 0 0,.slice none 0 0,.slice none 0 0,.int .u64 0,.slice none 0 0,.slice none 0 0,.int .u64 0,.int .u64 0,.int .u64 0,.int .u64 0]⟩),
 (166,⟨9,0,0,[],1,8,.nilFunc⟩),
 (167,⟨6,15,166,[],15,120,.agg #[.nilFunc,.nilFunc,.nilFunc,.nilFunc,.nilFunc,.nilFunc,.nilFunc,.nilFunc,.nilFunc,.nilFunc,.nilFunc,.nilFunc,.nilFunc,.nilFunc,.nilFunc]⟩),
 (170,⟨9,0,0,[],1,8,.nilFunc⟩),
 (174,⟨6,8,5,[],8,8,.agg #[.int .u8 0,.int .u8 0,.int .u8 0,.int .u8 0,.int .u8 0,.int .u8 0,.int .u8 0,.int .u8 0]⟩),
 (175,⟨5,0,5,[],1,24,.slice none 0 0⟩),
 (178,⟨9,0,0,[],1,8,.nilFunc⟩),
 (181,⟨9,0,0,[],1,8,.nilFunc⟩),
 (185,⟨5,0,9,[],1,24,.slice none 0 0⟩),
 (186,⟨5,0,9,[],1,24,.slice none 0 0⟩),
 (187,⟨8,0,0,[(186,0),(28,1)],2,32,.agg #[.slice none 0 0,.int .u64 0]⟩),
 (188,⟨8,0,0,[(186,0),(28,1)],2,32,.agg #[.slice none 0 0,.int .u64 0]⟩),
 (220,⟨9,0,0,[],1,8,.nilFunc⟩),
 (223,⟨9,0,0,[],1,8,.nilFunc⟩),
 (224,⟨9,0,0,[],1,8,.nilFunc⟩),
 (244,⟨9,0,0,[],1,8,.nilFunc⟩),
 (254,⟨9,0,0,[],1,8,.nilFunc⟩),
 (256,⟨9,0,0,[],1,8,.nilFunc⟩),
 (261,⟨6,8,4,[],8,8,.agg #[.bool false,.bool false,.bool false,.bool false,.bool false,.bool false,.bool false,.bool false]⟩),
 (262,⟨9,0,0,[],1,8,.nilFunc⟩),
 (263,⟨9,0,0,[],1,8,.nilFunc⟩),
 (266,⟨5,0,4,[],1,24,.slice none 0 0⟩),
 (270,⟨9,0,0,[],1,8,.nilFunc⟩),
 (271,⟨9,0,0,[],1,8,.nilFunc⟩),
 (274,⟨9,0,0,[],1,8,.nilFunc⟩),
 (276,⟨9,0,0,[],1,8,.nilFunc⟩),
 (281,⟨4,0,283,[],1,8,.pointer none⟩),
 (282,⟨8,0,0,[(281,0),(175,1)],2,32,.agg #[.pointer none,.slice none 0 0]⟩),
 (283,⟨8,0,0,[(281,0),(175,1)],2,32,.agg #[.pointer none,.slice none 0 0]⟩),
 (285,⟨10,0,0,[],1,16,.nilIface⟩),
 (286,⟨10,0,0,[],1,16,.nilIface⟩),
 (295,⟨9,0,0,[],1,8,.nilFunc⟩),
 (298,⟨4,0,5,[],1,8,.pointer none⟩),
 (302,⟨0,0,0,[],1,8,.pointer none⟩),
 (309,⟨8,0,0,[(17,0),(17,1),(17,2),(9,3)],4,40,.agg #[.pointer none,.pointer none,.pointer none,.string ByteArray.empty]⟩),
 (310,⟨8,0,0,[(17,0),(17,1),(17,2),(9,3)],4,40,.agg #[.pointer none,.pointer none,.pointer none,.string ByteArray.empty]⟩),
 (311,⟨6,0,16,[],0,0,.agg #[]⟩),
 (312,⟨8,0,0,[(311,0)],0,0,.agg #[]⟩),
 (313,⟨8,0,0,[(311,0)],0,0,.agg #[]⟩),
 (314,⟨2,6,0,[],1,4,.int .u32 0⟩),
 (315,⟨2,4,0,[],1,1,.int .u8 0⟩),
 (316,⟨2,4,0,[],1,1,.int .u8 0⟩),
 (317,⟨9,0,0,[],1,8,.nilFunc⟩),
 (318,⟨2,2,0,[],1,4,.int .i32 0⟩),
 (319,⟨2,2,0,[],1,4,.int .i32 0⟩),
 (320,⟨8,0,0,[(12,0),(12,1),(314,2),(315,3),(5,4),(5,5),(316,6),(317,7),(298,8),(318,9),(319,10)],11,48,.agg #[.int .u64 0,.int .u64 0,.int .u32 0,.int .u8 0,.int .u8 0,.int .u8 0,.int .u8 0,.nilFunc,.pointer none,.int .i32 0,.int .i32 0]⟩),
 (321,⟨8,0,0,[(12,0),(12,1),(314,2),(315,3),(5,4),(5,5),(316,6),(317,7),(298,8),(318,9),(319,10)],11,48,.agg #[.int .u64 0,.int .u64 0,.int .u32 0,.int .u8 0,.int .u8 0,.int .u8 0,.int .u8 0,.nilFunc,.pointer none,.int .i32 0,.int .i32 0]⟩)]
theorem ak:Θ.ok Tryz.prog:=⟨⟨by kernel_rfl,by kernel_rfl⟩,⟨by kernel_rfl,by kernel_rfl⟩,⟨by kernel_rfl,by kernel_rfl⟩,⟨by kernel_rfl,by kernel_rfl⟩,⟨by kernel_rfl,by kernel_rfl⟩,⟨by kernel_rfl,by kernel_rfl⟩,⟨by kernel_rfl,by kernel_rfl⟩,⟨by kernel_rfl,by kernel_rfl⟩,⟨by kernel_rfl,by kernel_rfl⟩,⟨by kernel_rfl,by kernel_rfl⟩,⟨by kernel_rfl,by kernel_rfl⟩,⟨by kernel_rfl,by kernel_rfl⟩,⟨by kernel_rfl,by kernel_rfl⟩,⟨by kernel_rfl,by kernel_rfl⟩,⟨by kernel_rfl,by kernel_rfl⟩,⟨by kernel_rfl,by kernel_rfl⟩,⟨by kernel_rfl,by kernel_rfl⟩,⟨by kernel_rfl,by kernel_rfl⟩,⟨by kernel_rfl,by kernel_rfl⟩,⟨by kernel_rfl,by kernel_rfl⟩,⟨by kernel_rfl,by kernel_rfl⟩,⟨by kernel_rfl,by kernel_rfl⟩,⟨by kernel_rfl,by kernel_rfl⟩,⟨by kernel_rfl,by kernel_rfl⟩,⟨by kernel_rfl,by kernel_rfl⟩,⟨by kernel_rfl,by kernel_rfl⟩,⟨by kernel_rfl,by kernel_rfl⟩,⟨by kernel_rfl,by kernel_rfl⟩,⟨by kernel_rfl,by kernel_rfl⟩,⟨by kernel_rfl,by kernel_rfl⟩,⟨by kernel_rfl,by kernel_rfl⟩,⟨by kernel_rfl,by kernel_rfl⟩,⟨by kernel_rfl,by kernel_rfl⟩,⟨by kernel_rfl,by kernel_rfl⟩,⟨by kernel_rfl,by kernel_rfl⟩,⟨by kernel_rfl,by kernel_rfl⟩,⟨by kernel_rfl,by kernel_rfl⟩,⟨by kernel_rfl,by kernel_rfl⟩,⟨by kernel_rfl,by kernel_rfl⟩,⟨by kernel_rfl,by kernel_rfl⟩,⟨by kernel_rfl,by kernel_rfl⟩,⟨by kernel_rfl,by kernel_rfl⟩,⟨by kernel_rfl,by kernel_rfl⟩,⟨by kernel_rfl,by kernel_rfl⟩,⟨by kernel_rfl,by kernel_rfl⟩,⟨by kernel_rfl,by kernel_rfl⟩,⟨by kernel_rfl,by kernel_rfl⟩,⟨by kernel_rfl,by kernel_rfl⟩,⟨by kernel_rfl,by kernel_rfl⟩,⟨by kernel_rfl,by kernel_rfl⟩,⟨by kernel_rfl,by kernel_rfl⟩,⟨by kernel_rfl,by kernel_rfl⟩,⟨by kernel_rfl,by kernel_rfl⟩,⟨by kernel_rfl,by kernel_rfl⟩,⟨by kernel_rfl,by kernel_rfl⟩,⟨by kernel_rfl,by kernel_rfl⟩,⟨by kernel_rfl,by kernel_rfl⟩,⟨by kernel_rfl,by kernel_rfl⟩,⟨by kernel_rfl,by kernel_rfl⟩,⟨by kernel_rfl,by kernel_rfl⟩,⟨by kernel_rfl,by kernel_rfl⟩,⟨by kernel_rfl,by kernel_rfl⟩,⟨by kernel_rfl,by kernel_rfl⟩,⟨by kernel_rfl,by kernel_rfl⟩,⟨by kernel_rfl,by kernel_rfl⟩,⟨by kernel_rfl,by kernel_rfl⟩,⟨by kernel_rfl,by kernel_rfl⟩,⟨by kernel_rfl,by kernel_rfl⟩,⟨by kernel_rfl,by kernel_rfl⟩,⟨by kernel_rfl,by kernel_rfl⟩,⟨by kernel_rfl,by kernel_rfl⟩,⟨by kernel_rfl,by kernel_rfl⟩,⟨by kernel_rfl,by kernel_rfl⟩,⟨by kernel_rfl,by kernel_rfl⟩,⟨by kernel_rfl,by kernel_rfl⟩,⟨by kernel_rfl,by kernel_rfl⟩,⟨by kernel_rfl,by kernel_rfl⟩,⟨by kernel_rfl,by kernel_rfl⟩,⟨by kernel_rfl,by kernel_rfl⟩,⟨by kernel_rfl,by kernel_rfl⟩,⟨by kernel_rfl,by kernel_rfl⟩,⟨by kernel_rfl,by kernel_rfl⟩,⟨by kernel_rfl,by kernel_rfl⟩,⟨by kernel_rfl,by kernel_rfl⟩,⟨by kernel_rfl,by kernel_rfl⟩,⟨by kernel_rfl,by kernel_rfl⟩,⟨by kernel_rfl,by kernel_rfl⟩,⟨by kernel_rfl,by kernel_rfl⟩,⟨by kernel_rfl,by kernel_rfl⟩,⟨by kernel_rfl,by kernel_rfl⟩,⟨by kernel_rfl,by kernel_rfl⟩,⟨by kernel_rfl,by kernel_rfl⟩,⟨by kernel_rfl,by kernel_rfl⟩,⟨by kernel_rfl,by kernel_rfl⟩,⟨by kernel_rfl,by kernel_rfl⟩,⟨by kernel_rfl,by kernel_rfl⟩,⟨by kernel_rfl,by kernel_rfl⟩,⟨by kernel_rfl,by kernel_rfl⟩,⟨by kernel_rfl,by kernel_rfl⟩,⟨by kernel_rfl,by kernel_rfl⟩,⟨by kernel_rfl,by kernel_rfl⟩,⟨by kernel_rfl,by kernel_rfl⟩,⟨by kernel_rfl,by kernel_rfl⟩,⟨by kernel_rfl,by kernel_rfl⟩,⟨by kernel_rfl,by kernel_rfl⟩,⟨by kernel_rfl,by kernel_rfl⟩,⟨by kernel_rfl,by kernel_rfl⟩,⟨by kernel_rfl,by kernel_rfl⟩,⟨by kernel_rfl,by kernel_rfl⟩,⟨by kernel_rfl,by kernel_rfl⟩,⟨by kernel_rfl,by kernel_rfl⟩,⟨by kernel_rfl,by kernel_rfl⟩,⟨by kernel_rfl,by kernel_rfl⟩,⟨by kernel_rfl,by kernel_rfl⟩,⟨by kernel_rfl,by kernel_rfl⟩,⟨by kernel_rfl,by kernel_rfl⟩,⟨by kernel_rfl,by kernel_rfl⟩,⟨by kernel_rfl,by kernel_rfl⟩,⟨by kernel_rfl,by kernel_rfl⟩,⟨by kernel_rfl,by kernel_rfl⟩,⟨by kernel_rfl,by kernel_rfl⟩,⟨by kernel_rfl,by kernel_rfl⟩,⟨by kernel_rfl,by kernel_rfl⟩,⟨by kernel_rfl,by kernel_rfl⟩,⟨by kernel_rfl,by kernel_rfl⟩,⟨by kernel_rfl,by kernel_rfl⟩,⟨by kernel_rfl,by kernel_rfl⟩,⟨by kernel_rfl,by kernel_rfl⟩,⟨by kernel_rfl,by kernel_rfl⟩,⟨by kernel_rfl,by kernel_rfl⟩,trivial⟩
theorem mixed:Tryz.prog.follows .mixedOrders=true:=by kernel_rfl
def jM:Ty ae:=(Ty.pair (Ty.int .u64) (Ty.pair (Ty.int .u64) (Ty.pair Ty.bool (Ty.int .u64)))).j2 λd=>(d.aa,d.ba,d.bC,d.cJ)
def AE:Ty br:=(Ty.pair (l_ .i64 16) (Ty.slice jM)).j2 λd=>(d.aJ,d.ab)
def lZ:Ty ai:=(Ty.pair (Ty.int .u64) (Ty.pair (Ty.int .i64) (Ty.int .u64))).j2 λd=>(d.aa,d.bL,d.cK)
def oC:Ty az:=(Ty.pair (Ty.int .u64) (Ty.int .u64)).j2 λd=>(d.bp,d.aZ)
def AD:Ty bG:=(Ty.pair (Ty.slice oC) (Ty.int .u64)).j2 λd=>(d.ab,d.aN)
def fu:Ty aA:=(Ty.pair (Ty.int .u64) (Ty.int .u64)).j2 λd=>(d.bl,d.aa)
def mJ:Ty ao:=(Ty.pair (Ty.int .u64) (Ty.slice (Ty.int .u64))).j2 λd=>(d.aa,d.bg)
def jL:Ty aL:=(Ty.pair (Ty.slice fu) (Ty.slice mJ)).j2 λd=>(d.aB,d.ax)
def tE:Ty aM:=(Ty.pair AE (Ty.pair (Ty.slice lZ) (Ty.pair AD jL))).j2 λd=>(d.ar,d.aI,d.ay,d.aq)
def rL:Ty aW:=(Ty.pair (Ty.int .u64) (l_ .u64 4)).j2 λd=>(d.bJ,d.fArgs)
def Gz:Ty cH:=(Ty.pair (Ty.int .i64) (Ty.int .u64)).j2 λd=>(d.cD,d.dd)
def Pd:Ty nA:=(Ty.pair (Ty.slice Ty.str) (Ty.int .u64)).j2 λd=>(d.kP,d.yp)
def Nk:Ty Unit:= { agg:=false,n:=1,rep:=λ_ _ _ _=>False,tr:=λ_ h=>h,len:=λh=>h.elim,one:=λh=>h.elim,jK:=λ_=>rfl }
def AA (t:Nat):(α:Type)×Ty α:=match t with
 |3=>⟨Int,(Ty.int .i64)⟩
 |4=>⟨Bool,Ty.bool⟩
 |5=>⟨Int,(Ty.int .u8)⟩
 |9=>⟨ByteArray,Ty.str⟩
 |21=>⟨Int,(Ty.int .i32)⟩
 |22=>⟨List Int,(l_ .i64 16)⟩
 |23=>⟨List ae,(Ty.slice jM)⟩
 |25=>⟨br,AE⟩
 |26=>⟨List ai,(Ty.slice lZ)⟩
 |27=>⟨List az,(Ty.slice oC)⟩
 |28=>⟨Int,(Ty.int .u64)⟩
 |30=>⟨bG,AD⟩
 |31=>⟨List aA,(Ty.slice fu)⟩
 |32=>⟨List ao,(Ty.slice mJ)⟩
 |34=>⟨aL,jL⟩
 |36=>⟨aM,tE⟩
 |40=>⟨Int,(Ty.int .i64)⟩
 |43=>⟨List Int,(l_ .i64 5)⟩
 |46=>⟨List aW,(Ty.slice rL)⟩
 |48=>⟨List Int,(l_ .u64 4)⟩
 |50=>⟨aW,rL⟩
 |51=>⟨List cH,(Ty.slice Gz)⟩
 |53=>⟨cH,Gz⟩
 |69=>⟨ae,jM⟩
 |71=>⟨az,oC⟩
 |76=>⟨List Int,(Ty.slice (Ty.int .u64))⟩
 |82=>⟨ao,mJ⟩
 |89=>⟨ai,lZ⟩
 |93=>⟨aA,fu⟩
 |147=>⟨List Int,(Ty.slice (Ty.int .i64))⟩
 |185=>⟨List ByteArray,(Ty.slice Ty.str)⟩
 |186=>⟨List ByteArray,(Ty.slice Ty.str)⟩
 |188=>⟨nA,Pd⟩
 |_=>⟨Unit,Nk⟩
abbrev SS:bO:=⟨λt=>(AA t).1,λt=>(AA t).2⟩
def OX (t:Nat):Option (Cr SS t):=match t with
 |23=>some ⟨69,id,id⟩
 |26=>some ⟨89,id,id⟩
 |27=>some ⟨71,id,id⟩
 |31=>some ⟨93,id,id⟩
 |32=>some ⟨82,id,id⟩
 |46=>some ⟨50,id,id⟩
 |51=>some ⟨53,id,id⟩
 |76=>some ⟨28,id,id⟩
 |147=>some ⟨3,id,id⟩
 |185=>some ⟨9,id,id⟩
 |186=>some ⟨9,id,id⟩
 |_=>none
def OH (e:Nat):Option (B6 SS e):=match e with
 |69=>some ⟨23,id⟩
 |89=>some ⟨26,id⟩
 |71=>some ⟨27,id⟩
 |93=>some ⟨31,id⟩
 |82=>some ⟨32,id⟩
 |50=>some ⟨46,id⟩
 |53=>some ⟨51,id⟩
 |28=>some ⟨76,id⟩
 |3=>some ⟨147,id⟩
 |9=>some ⟨185,id⟩
 |_=>none
def Xm:(t:Nat)->SS.El t->aG SS:=λt=>match t with
 |3=>λx=> .one (.v (.int .i64 x))
 |4=>λx=> .one (.v (.bool x))
 |5=>λx=> .one (.v (.int .u8 x))
 |9=>λx=> .one (.v (.string x))
 |21=>λx=> .one (.v (.int .i32 x))
 |22=>λx=> .agg [.bQ .i64 16 x]
 |23=>λx=> .one (.aV 23 x)
 |25=>λx=> .agg [.bQ .i64 16 x.aJ,.aV 23 x.ab]
 |26=>λx=> .one (.aV 26 x)
 |27=>λx=> .one (.aV 27 x)
 |28=>λx=> .one (.v (.int .u64 x))
 |30=>λx=> .agg [.aV 27 x.ab,.v (.int .u64 x.aN)]
 |31=>λx=> .one (.aV 31 x)
 |32=>λx=> .one (.aV 32 x)
 |34=>λx=> .agg [.aV 31 x.aB,.aV 32 x.ax]
 |36=>λx=> .agg [.bQ .i64 16 x.ar.aJ,.aV 23 x.ar.ab,.aV 26 x.aI,.aV 27 x.ay.ab,.v (.int .u64 x.ay.aN),.aV 31 x.aq.aB,.aV 32 x.aq.ax]
 |40=>λx=> .one (.v (.int .i64 x))
 |43=>λx=> .agg [.bQ .i64 5 x]
 |46=>λx=> .one (.aV 46 x)
 |48=>λx=> .agg [.bQ .u64 4 x]
 |50=>λx=> .agg [.v (.int .u64 x.bJ),.bQ .u64 4 x.fArgs]
 |51=>λx=> .one (.aV 51 x)
 |53=>λx=> .agg [.v (.int .i64 x.cD),.v (.int .u64 x.dd)]
 |69=>λx=> .agg [.v (.int .u64 x.aa),.v (.int .u64 x.ba),.v (.bool x.bC),.v (.int .u64 x.cJ)]
 |71=>λx=> .agg [.v (.int .u64 x.bp),.v (.int .u64 x.aZ)]
 |76=>λx=> .one (.aV 76 x)
 |82=>λx=> .agg [.v (.int .u64 x.aa),.aV 76 x.bg]
 |89=>λx=> .agg [.v (.int .u64 x.aa),.v (.int .i64 x.bL),.v (.int .u64 x.cK)]
 |93=>λx=> .agg [.v (.int .u64 x.bl),.v (.int .u64 x.aa)]
 |147=>λx=> .one (.aV 147 x)
 |185=>λx=> .one (.aV 185 x)
 |186=>λx=> .one (.aV 185 x)
 |188=>λx=> .agg [.aV 185 x.kP,.v (.int .u64 x.yp)]
 |t=>λx=> .one (.aV t x)
theorem akz:gE (S:=SS) jM λx=>[.v (.int .u64 x.aa),.v (.int .u64 x.ba),.v (.bool x.bC),.v (.int .u64 x.cJ)]:=mC (jG hJ (jG hJ (jG Xi hJ)))
def Gf:List (LV SS)->Option (ae×List (LV SS)):=kY (rdPair (gB .u64) (rdPair (gB .u64) (rdPair Gb (gB .u64)))) (λ(a0,a1,a2,a3)=>⟨a0,a1,a2,a3⟩)
theorem Ou:gn (S:=SS) jM Gf:=mF (jJ hQ (jJ hQ (jJ XY hQ))) λ_=>rfl
theorem Xh:gE (S:=SS) AE λx=>[.bQ .i64 16 x.aJ,.aV 23 x.ab]:=mC (jG zX (jn (S:=SS) (t:=23) rfl))
def Ok:List (LV SS)->Option (br×List (LV SS)):=kY (rdPair (nn .i64 16) (iv (S:=SS) 23 (some ([]:List ae)))) (λ(a0,a1)=>⟨a0,a1⟩)
theorem XX:gn (S:=SS) AE Ok:=mF (jJ pV (js (S:=SS) (t:=23) λx hx O w=>by cases hx;exact jl O w)) λ_=>rfl
theorem akv:gE (S:=SS) lZ λx=>[.v (.int .u64 x.aa),.v (.int .i64 x.bL),.v (.int .u64 x.cK)]:=mC (jG hJ (jG hJ hJ))
def Gc:List (LV SS)->Option (ai×List (LV SS)):=kY (rdPair (gB .u64) (rdPair (gB .i64) (gB .u64))) (λ(a0,a1,a2)=>⟨a0,a1,a2⟩)
theorem Oo:gn (S:=SS) lZ Gc:=mF (jJ hQ (jJ hQ hQ)) λ_=>rfl
theorem akw:gE (S:=SS) oC λx=>[.v (.int .u64 x.bp),.v (.int .u64 x.aZ)]:=mC (jG hJ hJ)
def Gd:List (LV SS)->Option (az×List (LV SS)):=kY (rdPair (gB .u64) (gB .u64)) (λ(a0,a1)=>⟨a0,a1⟩)
theorem Oq:gn (S:=SS) oC Gd:=mF (jJ hQ hQ) λ_=>rfl
theorem Xg:gE (S:=SS) AD λx=>[.aV 27 x.ab,.v (.int .u64 x.aN)]:=mC (jG (jn (S:=SS) (t:=27) rfl) hJ)
def Oj:List (LV SS)->Option (bG×List (LV SS)):=kY (rdPair (iv (S:=SS) 27 (some ([]:List az))) (gB .u64)) (λ(a0,a1)=>⟨a0,a1⟩)
theorem XW:gn (S:=SS) AD Oj:=mF (jJ (js (S:=SS) (t:=27) λx hx O w=>by cases hx;exact jl O w) hQ) λ_=>rfl
theorem akx:gE (S:=SS) fu λx=>[.v (.int .u64 x.bl),.v (.int .u64 x.aa)]:=mC (jG hJ hJ)
def Ge:List (LV SS)->Option (aA×List (LV SS)):=kY (rdPair (gB .u64) (gB .u64)) (λ(a0,a1)=>⟨a0,a1⟩)
theorem Ot:gn (S:=SS) fu Ge:=mF (jJ hQ hQ) λ_=>rfl
theorem akt:gE (S:=SS) mJ λx=>[.v (.int .u64 x.aa),.aV 76 x.bg]:=mC (jG hJ (jn (S:=SS) (t:=76) rfl))
def XR:List (LV SS)->Option (ao×List (LV SS)):=kY (rdPair (gB .u64) (iv (S:=SS) 76 (some ([]:List Int)))) (λ(a0,a1)=>⟨a0,a1⟩)
theorem amn:gn (S:=SS) mJ XR:=mF (jJ hQ (js (S:=SS) (t:=76) λx hx O w=>by cases hx;exact jl O w)) λ_=>rfl
theorem Xf:gE (S:=SS) jL λx=>[.aV 31 x.aB,.aV 32 x.ax]:=mC (jG (jn (S:=SS) (t:=31) rfl) (jn (S:=SS) (t:=32) rfl))
def Oi:List (LV SS)->Option (aL×List (LV SS)):=kY (rdPair (iv (S:=SS) 31 (some ([]:List aA))) (iv (S:=SS) 32 (some ([]:List ao)))) (λ(a0,a1)=>⟨a0,a1⟩)
theorem XV:gn (S:=SS) jL Oi:=mF (jJ (js (S:=SS) (t:=31) λx hx O w=>by cases hx;exact jl O w) (js (S:=SS) (t:=32) λx hx O w=>by cases hx;exact jl O w)) λ_=>rfl
theorem akB:gE (S:=SS) tE λx=>[.bQ .i64 16 x.ar.aJ,.aV 23 x.ar.ab,.aV 26 x.aI,.aV 27 x.ay.ab,.v (.int .u64 x.ay.aN),.aV 31 x.aq.aB,.aV 32 x.aq.ax]:=mC (jG Xh (jG (jn (S:=SS) (t:=26) rfl) (jG Xg Xf)))
def XU:List (LV SS)->Option (aM×List (LV SS)):=kY (rdPair Ok (rdPair (iv (S:=SS) 26 (some ([]:List ai))) (rdPair Oj Oi))) (λ(a0,a1,a2,a3)=>⟨a0,a1,a2,a3⟩)
theorem amq:gn (S:=SS) tE XU:=mF (jJ XX (jJ (js (S:=SS) (t:=26) λx hx O w=>by cases hx;exact jl O w) (jJ XW XV))) λ_=>rfl
theorem aku:gE (S:=SS) rL λx=>[.v (.int .u64 x.bJ),.bQ .u64 4 x.fArgs]:=mC (jG hJ zX)
def XS:List (LV SS)->Option (aW×List (LV SS)):=kY (rdPair (gB .u64) (nn .u64 4)) (λ(a0,a1)=>⟨a0,a1⟩)
theorem amo:gn (S:=SS) rL XS:=mF (jJ hQ pV) λ_=>rfl
theorem akA:gE (S:=SS) Gz λx=>[.v (.int .i64 x.cD),.v (.int .u64 x.dd)]:=mC (jG hJ hJ)
def Gg:List (LV SS)->Option (cH×List (LV SS)):=kY (rdPair (gB .i64) (gB .u64)) (λ(a0,a1)=>⟨a0,a1⟩)
theorem Ov:gn (S:=SS) Gz Gg:=mF (jJ hQ hQ) λ_=>rfl
theorem aky:gE (S:=SS) Pd λx=>[.aV 185 x.kP,.v (.int .u64 x.yp)]:=mC (jG (jn (S:=SS) (t:=185) rfl) hJ)
def XT:List (LV SS)->Option (nA×List (LV SS)):=kY (rdPair (iv (S:=SS) 185 (some ([]:List ByteArray))) (gB .u64)) (λ(a0,a1)=>⟨a0,a1⟩)
theorem amp:gn (S:=SS) Pd XT:=mF (jJ (js (S:=SS) (t:=185) λx hx O w=>by cases hx;exact jl O w) hQ) λ_=>rfl
def JR:(t:Nat)->List (LV SS)->Option (SS.El t):=λt=>match t with
 |3=>λr=>c9 ((gB .i64) r)
 |4=>λr=>c9 (Gb r)
 |5=>λr=>c9 ((gB .u8) r)
 |9=>λr=>c9 (Om r)
 |21=>λr=>c9 ((gB .i32) r)
 |22=>λr=>c9 ((nn .i64 16) r)
 |23=>λr=>c9 ((iv (S:=SS) 23 (some ([]:List ae))) r)
 |25=>λr=>c9 (Ok r)
 |26=>λr=>c9 ((iv (S:=SS) 26 (some ([]:List ai))) r)
 |27=>λr=>c9 ((iv (S:=SS) 27 (some ([]:List az))) r)
 |28=>λr=>c9 ((gB .u64) r)
 |30=>λr=>c9 (Oj r)
 |31=>λr=>c9 ((iv (S:=SS) 31 (some ([]:List aA))) r)
 |32=>λr=>c9 ((iv (S:=SS) 32 (some ([]:List ao))) r)
 |34=>λr=>c9 (Oi r)
 |36=>λr=>c9 (XU r)
 |40=>λr=>c9 ((gB .i64) r)
 |43=>λr=>c9 ((nn .i64 5) r)
 |46=>λr=>c9 ((iv (S:=SS) 46 (some ([]:List aW))) r)
 |48=>λr=>c9 ((nn .u64 4) r)
 |50=>λr=>c9 (XS r)
 |51=>λr=>c9 ((iv (S:=SS) 51 (some ([]:List cH))) r)
 |53=>λr=>c9 (Gg r)
 |69=>λr=>c9 (Gf r)
 |71=>λr=>c9 (Gd r)
 |76=>λr=>c9 ((iv (S:=SS) 76 (some ([]:List Int))) r)
 |82=>λr=>c9 (XR r)
 |89=>λr=>c9 (Gc r)
 |93=>λr=>c9 (Ge r)
 |147=>λr=>c9 ((iv (S:=SS) 147 (some ([]:List Int))) r)
 |185=>λr=>c9 ((iv (S:=SS) 185 (some ([]:List ByteArray))) r)
 |186=>λr=>c9 ((iv (S:=SS) 185 (some ([]:List ByteArray))) r)
 |188=>λr=>c9 (XT r)
 |t=>λr=>none
theorem SM (d:Nat) (w:World) (x y:cH):(Op.equalIn (d+2) 53 (.agg #[.int .i64 x.cD,.int .u64 x.dd]) (.agg #[.int .i64 y.cD,.int .u64 y.dd])).run Tryz.prog w= .ok (uy x y) w:=by
 have hS:Tryz.prog.underlying 53=some (.struct (Tryz.prog.fieldsOf 53)):=by kernel_rfl
 have hp:Tryz.prog.stoodInHeld 53=false:=by kernel_rfl
 rw[show d+2=(d+1)+1 from rfl,run_equalIn_agg w _ 53 _ _ hS hp]
 simp only[Program.fieldsOf,Tryz.underlying53]
 unfold uy
 go_simp
 by_cases h0:x.cD=y.cD<;>by_cases U:x.dd=y.dd<;>simp_all
theorem ahj {ox oy:Operand} {w:World} (x y:cH):(do eqGuard .eql 53 ox oy (.agg #[.int .i64 x.cD,.int .u64 x.dd]) (.agg #[.int .i64 y.cD,.int .u64 y.dd]);binOp .eql 53 (.agg #[.int .i64 x.cD,.int .u64 x.dd]) (.agg #[.int .i64 y.cD,.int .u64 y.dd]):Sem Value).run Tryz.prog w= .ok (.bool (uy x y)) w:=by
 simp only[Sem.run_bind]
 rw[run_eqGuard_agg w .eql 53 ox oy _ _ (by kernel_rfl)]
 simp only[Result.andThen_ok]
 rw[run_eql_struct,show(10000:Nat)=9998+2 from rfl,SM]
 rfl
theorem aj_ {ox oy:Operand} {w:World} (x y:cH):(do eqGuard .neq 53 ox oy (.agg #[.int .i64 x.cD,.int .u64 x.dd]) (.agg #[.int .i64 y.cD,.int .u64 y.dd]);binOp .neq 53 (.agg #[.int .i64 x.cD,.int .u64 x.dd]) (.agg #[.int .i64 y.cD,.int .u64 y.dd]):Sem Value).run Tryz.prog w= .ok (.bool (!uy x y)) w:=by
 simp only[Sem.run_bind]
 rw[run_eqGuard_agg w .neq 53 ox oy _ _ (by kernel_rfl)]
 simp only[Result.andThen_ok]
 rw[run_neq_struct,show(10000:Nat)=9998+2 from rfl,SM]
 rfl
theorem SN (d:Nat) (w:World) (x y:ae):(Op.equalIn (d+2) 69 (.agg #[.int .u64 x.aa,.int .u64 x.ba,.bool x.bC,.int .u64 x.cJ]) (.agg #[.int .u64 y.aa,.int .u64 y.ba,.bool y.bC,.int .u64 y.cJ])).run Tryz.prog w= .ok (jU x y) w:=by
 have hS:Tryz.prog.underlying 69=some (.struct (Tryz.prog.fieldsOf 69)):=by kernel_rfl
 have hp:Tryz.prog.stoodInHeld 69=false:=by kernel_rfl
 rw[show d+2=(d+1)+1 from rfl,run_equalIn_agg w _ 69 _ _ hS hp]
 simp only[Program.fieldsOf,Tryz.underlying69]
 unfold jU
 go_simp
 by_cases h0:x.aa=y.aa<;>by_cases U:x.ba=y.ba<;>by_cases h2:x.bC=y.bC<;>by_cases h3:x.cJ=y.cJ<;>simp_all
theorem ahk {ox oy:Operand} {w:World} (x y:ae):(do eqGuard .eql 69 ox oy (.agg #[.int .u64 x.aa,.int .u64 x.ba,.bool x.bC,.int .u64 x.cJ]) (.agg #[.int .u64 y.aa,.int .u64 y.ba,.bool y.bC,.int .u64 y.cJ]);binOp .eql 69 (.agg #[.int .u64 x.aa,.int .u64 x.ba,.bool x.bC,.int .u64 x.cJ]) (.agg #[.int .u64 y.aa,.int .u64 y.ba,.bool y.bC,.int .u64 y.cJ]):Sem Value).run Tryz.prog w= .ok (.bool (jU x y)) w:=by
 simp only[Sem.run_bind]
 rw[run_eqGuard_agg w .eql 69 ox oy _ _ (by kernel_rfl)]
 simp only[Result.andThen_ok]
 rw[run_eql_struct,show(10000:Nat)=9998+2 from rfl,SN]
 rfl
theorem aj' {ox oy:Operand} {w:World} (x y:ae):(do eqGuard .neq 69 ox oy (.agg #[.int .u64 x.aa,.int .u64 x.ba,.bool x.bC,.int .u64 x.cJ]) (.agg #[.int .u64 y.aa,.int .u64 y.ba,.bool y.bC,.int .u64 y.cJ]);binOp .neq 69 (.agg #[.int .u64 x.aa,.int .u64 x.ba,.bool x.bC,.int .u64 x.cJ]) (.agg #[.int .u64 y.aa,.int .u64 y.ba,.bool y.bC,.int .u64 y.cJ]):Sem Value).run Tryz.prog w= .ok (.bool (!jU x y)) w:=by
 simp only[Sem.run_bind]
 rw[run_eqGuard_agg w .neq 69 ox oy _ _ (by kernel_rfl)]
 simp only[Result.andThen_ok]
 rw[run_neq_struct,show(10000:Nat)=9998+2 from rfl,SN]
 rfl
theorem SQ (d:Nat) (w:World) (x y:ai):(Op.equalIn (d+2) 89 (.agg #[.int .u64 x.aa,.int .i64 x.bL,.int .u64 x.cK]) (.agg #[.int .u64 y.aa,.int .i64 y.bL,.int .u64 y.cK])).run Tryz.prog w= .ok (me x y) w:=by
 have hS:Tryz.prog.underlying 89=some (.struct (Tryz.prog.fieldsOf 89)):=by kernel_rfl
 have hp:Tryz.prog.stoodInHeld 89=false:=by kernel_rfl
 rw[show d+2=(d+1)+1 from rfl,run_equalIn_agg w _ 89 _ _ hS hp]
 simp only[Program.fieldsOf,Tryz.underlying89]
 unfold me
 go_simp
 by_cases h0:x.aa=y.aa<;>by_cases U:x.bL=y.bL<;>by_cases h2:x.cK=y.cK<;>simp_all
theorem ahm {ox oy:Operand} {w:World} (x y:ai):(do eqGuard .eql 89 ox oy (.agg #[.int .u64 x.aa,.int .i64 x.bL,.int .u64 x.cK]) (.agg #[.int .u64 y.aa,.int .i64 y.bL,.int .u64 y.cK]);binOp .eql 89 (.agg #[.int .u64 x.aa,.int .i64 x.bL,.int .u64 x.cK]) (.agg #[.int .u64 y.aa,.int .i64 y.bL,.int .u64 y.cK]):Sem Value).run Tryz.prog w= .ok (.bool (me x y)) w:=by
 simp only[Sem.run_bind]
 rw[run_eqGuard_agg w .eql 89 ox oy _ _ (by kernel_rfl)]
 simp only[Result.andThen_ok]
 rw[run_eql_struct,show(10000:Nat)=9998+2 from rfl,SQ]
 rfl
theorem akb {ox oy:Operand} {w:World} (x y:ai):(do eqGuard .neq 89 ox oy (.agg #[.int .u64 x.aa,.int .i64 x.bL,.int .u64 x.cK]) (.agg #[.int .u64 y.aa,.int .i64 y.bL,.int .u64 y.cK]);binOp .neq 89 (.agg #[.int .u64 x.aa,.int .i64 x.bL,.int .u64 x.cK]) (.agg #[.int .u64 y.aa,.int .i64 y.bL,.int .u64 y.cK]):Sem Value).run Tryz.prog w= .ok (.bool (!me x y)) w:=by
 simp only[Sem.run_bind]
 rw[run_eqGuard_agg w .neq 89 ox oy _ _ (by kernel_rfl)]
 simp only[Result.andThen_ok]
 rw[run_neq_struct,show(10000:Nat)=9998+2 from rfl,SQ]
 rfl
theorem SO (d:Nat) (w:World) (x y:az):(Op.equalIn (d+2) 71 (.agg #[.int .u64 x.bp,.int .u64 x.aZ]) (.agg #[.int .u64 y.bp,.int .u64 y.aZ])).run Tryz.prog w= .ok (oU x y) w:=by
 have hS:Tryz.prog.underlying 71=some (.struct (Tryz.prog.fieldsOf 71)):=by kernel_rfl
 have hp:Tryz.prog.stoodInHeld 71=false:=by kernel_rfl
 rw[show d+2=(d+1)+1 from rfl,run_equalIn_agg w _ 71 _ _ hS hp]
 simp only[Program.fieldsOf,Tryz.underlying71]
 unfold oU
 go_simp
 by_cases h0:x.bp=y.bp<;>by_cases U:x.aZ=y.aZ<;>simp_all
theorem ahl {ox oy:Operand} {w:World} (x y:az):(do eqGuard .eql 71 ox oy (.agg #[.int .u64 x.bp,.int .u64 x.aZ]) (.agg #[.int .u64 y.bp,.int .u64 y.aZ]);binOp .eql 71 (.agg #[.int .u64 x.bp,.int .u64 x.aZ]) (.agg #[.int .u64 y.bp,.int .u64 y.aZ]):Sem Value).run Tryz.prog w= .ok (.bool (oU x y)) w:=by
 simp only[Sem.run_bind]
 rw[run_eqGuard_agg w .eql 71 ox oy _ _ (by kernel_rfl)]
 simp only[Result.andThen_ok]
 rw[run_eql_struct,show(10000:Nat)=9998+2 from rfl,SO]
 rfl
theorem aka {ox oy:Operand} {w:World} (x y:az):(do eqGuard .neq 71 ox oy (.agg #[.int .u64 x.bp,.int .u64 x.aZ]) (.agg #[.int .u64 y.bp,.int .u64 y.aZ]);binOp .neq 71 (.agg #[.int .u64 x.bp,.int .u64 x.aZ]) (.agg #[.int .u64 y.bp,.int .u64 y.aZ]):Sem Value).run Tryz.prog w= .ok (.bool (!oU x y)) w:=by
 simp only[Sem.run_bind]
 rw[run_eqGuard_agg w .neq 71 ox oy _ _ (by kernel_rfl)]
 simp only[Result.andThen_ok]
 rw[run_neq_struct,show(10000:Nat)=9998+2 from rfl,SO]
 rfl
theorem SR (d:Nat) (w:World) (x y:aA):(Op.equalIn (d+2) 93 (.agg #[.int .u64 x.bl,.int .u64 x.aa]) (.agg #[.int .u64 y.bl,.int .u64 y.aa])).run Tryz.prog w= .ok (oV x y) w:=by
 have hS:Tryz.prog.underlying 93=some (.struct (Tryz.prog.fieldsOf 93)):=by kernel_rfl
 have hp:Tryz.prog.stoodInHeld 93=false:=by kernel_rfl
 rw[show d+2=(d+1)+1 from rfl,run_equalIn_agg w _ 93 _ _ hS hp]
 simp only[Program.fieldsOf,Tryz.underlying93]
 unfold oV
 go_simp
 by_cases h0:x.bl=y.bl<;>by_cases U:x.aa=y.aa<;>simp_all
theorem ahn {ox oy:Operand} {w:World} (x y:aA):(do eqGuard .eql 93 ox oy (.agg #[.int .u64 x.bl,.int .u64 x.aa]) (.agg #[.int .u64 y.bl,.int .u64 y.aa]);binOp .eql 93 (.agg #[.int .u64 x.bl,.int .u64 x.aa]) (.agg #[.int .u64 y.bl,.int .u64 y.aa]):Sem Value).run Tryz.prog w= .ok (.bool (oV x y)) w:=by
 simp only[Sem.run_bind]
 rw[run_eqGuard_agg w .eql 93 ox oy _ _ (by kernel_rfl)]
 simp only[Result.andThen_ok]
 rw[run_eql_struct,show(10000:Nat)=9998+2 from rfl,SR]
 rfl
theorem akc {ox oy:Operand} {w:World} (x y:aA):(do eqGuard .neq 93 ox oy (.agg #[.int .u64 x.bl,.int .u64 x.aa]) (.agg #[.int .u64 y.bl,.int .u64 y.aa]);binOp .neq 93 (.agg #[.int .u64 x.bl,.int .u64 x.aa]) (.agg #[.int .u64 y.bl,.int .u64 y.aa]):Sem Value).run Tryz.prog w= .ok (.bool (!oV x y)) w:=by
 simp only[Sem.run_bind]
 rw[run_eqGuard_agg w .neq 93 ox oy _ _ (by kernel_rfl)]
 simp only[Result.andThen_ok]
 rw[run_neq_struct,show(10000:Nat)=9998+2 from rfl,SR]
 rfl
def J9 (t:Nat) (ls ms:List (LV SS)):Option Bool:=match t with
 |43=>(match c9 ((nn .i64 5) ls),c9 ((nn .i64 5) ms) with|some x,some y=>some (x==y)|_,_=>none)
 |53=>(match c9 (Gg ls),c9 (Gg ms) with|some x,some y=>some (uy x y)|_,_=>none)
 |69=>(match c9 (Gf ls),c9 (Gf ms) with|some x,some y=>some (jU x y)|_,_=>none)
 |22=>(match c9 ((nn .i64 16) ls),c9 ((nn .i64 16) ms) with|some x,some y=>some (x==y)|_,_=>none)
 |89=>(match c9 (Gc ls),c9 (Gc ms) with|some x,some y=>some (me x y)|_,_=>none)
 |71=>(match c9 (Gd ls),c9 (Gd ms) with|some x,some y=>some (oU x y)|_,_=>none)
 |93=>(match c9 (Ge ls),c9 (Ge ms) with|some x,some y=>some (oV x y)|_,_=>none)
 |_=>none
def Kx (g:Nat):Option ((t:Nat)×SS.El t):=match g with
 |0=>some ⟨69,uL⟩
 |_=>none
def KK:bS SS:=⟨Θ,OX,OH,Xm,JR,Kx,J9⟩
theorem anh {t:Nat} (h:t∉([3,4,5,9,21,22,23,25,26,27,28,30,31,32,34,36,40,43,46,48,50,51,53,69,71,76,82,89,93,147,185,186,188]:List Nat)):AA t=⟨Unit,Nk⟩:=by
 unfold AA
 split<;>first|rfl|(exfalso;exact h (by decide))
theorem akh {t:Nat} (h:t∉([3,4,5,9,21,22,23,25,26,27,28,30,31,32,34,36,40,43,46,48,50,51,53,69,71,76,82,89,93,147,185,186,188]:List Nat)) {O:List Nat} {w:World} {cs:List Value} {x:SS.El t}: ¬(SS.ty t).rep O w cs x:=by
 have key: ∀(p:(α:Type)×Ty α) (_:p=⟨Unit,Nk⟩) (x:p.1),¬p.2.rep O w cs x:=by
  rintro _ rfl x hx;exact hx
 exact key (AA t) (anh h) x
theorem WL {t:Nat} {p:Prop} (h:t∈([3,4,5,9,21,22,23,25,26,27,28,30,31,32,34,36,40,43,46,48,50,51,53,69,71,76,82,89,93,147,185,186,188]:List Nat)) (h3:t=3->p) (h4:t=4->p) (h5:t=5->p) (h9:t=9->p) (h21:t=21->p) (h22:t=22->p) (h23:t=23->p) (h25:t=25->p) (h26:t=26->p) (h27:t=27->p) (h28:t=28->p) (h30:t=30->p) (h31:t=31->p) (h32:t=32->p) (h34:t=34->p) (h36:t=36->p) (h40:t=40->p) (h43:t=43->p) (h46:t=46->p) (h48:t=48->p) (h50:t=50->p) (h51:t=51->p) (h53:t=53->p) (h69:t=69->p) (h71:t=71->p) (h76:t=76->p) (h82:t=82->p) (h89:t=89->p) (h93:t=93->p) (aia:t=147->p) (aib:t=185->p) (aic:t=186->p) (aid:t=188->p):p:=by
 simp only[List.mem_cons,List.not_mem_nil,or_false] at h
 rcases h with h|h|h|h|h|h|h|h|h|h|h|h|h|h|h|h|h|h|h|h|h|h|h|h|h|h|h|h|h|h|h|h|h
 ·exact h3 h
 ·exact h4 h
 ·exact h5 h
 ·exact h9 h
 ·exact h21 h
 ·exact h22 h
 ·exact h23 h
 ·exact h25 h
 ·exact h26 h
 ·exact h27 h
 ·exact h28 h
 ·exact h30 h
 ·exact h31 h
 ·exact h32 h
 ·exact h34 h
 ·exact h36 h
 ·exact h40 h
 ·exact h43 h
 ·exact h46 h
 ·exact h48 h
 ·exact h50 h
 ·exact h51 h
 ·exact h53 h
 ·exact h69 h
 ·exact h71 h
 ·exact h76 h
 ·exact h82 h
 ·exact h89 h
 ·exact h93 h
 ·exact aia h
 ·exact aib h
 ·exact aic h
 ·exact aid h
theorem ak0 (A:Pl) (O:List Nat) (w:World) (t:Nat) (x:SS.El t) (cs:List Value) (h:(SS.ty t).rep O w cs x):bV A O w (Xm t x).cells cs:=by
 by_cases hm:t∈([3,4,5,9,21,22,23,25,26,27,28,30,31,32,34,36,40,43,46,48,50,51,53,69,71,76,82,89,93,147,185,186,188]:List Nat)
 ·refine WL hm ?_ ?_ ?_ ?_ ?_ ?_ ?_ ?_ ?_ ?_ ?_ ?_ ?_ ?_ ?_ ?_ ?_ ?_ ?_ ?_ ?_ ?_ ?_ ?_ ?_ ?_ ?_ ?_ ?_ ?_ ?_ ?_ ?_
  ·intro e;subst e;exact hJ A O w x cs h
  ·intro e;subst e;exact Xi A O w x cs h
  ·intro e;subst e;exact hJ A O w x cs h
  ·intro e;subst e;exact akH A O w x cs h
  ·intro e;subst e;exact hJ A O w x cs h
  ·intro e;subst e;exact zX A O w x cs h
  ·intro e;subst e;exact(jn (S:=SS) (t:=23) rfl) A O w x cs h
  ·intro e;subst e;exact Xh A O w x cs h
  ·intro e;subst e;exact(jn (S:=SS) (t:=26) rfl) A O w x cs h
  ·intro e;subst e;exact(jn (S:=SS) (t:=27) rfl) A O w x cs h
  ·intro e;subst e;exact hJ A O w x cs h
  ·intro e;subst e;exact Xg A O w x cs h
  ·intro e;subst e;exact(jn (S:=SS) (t:=31) rfl) A O w x cs h
  ·intro e;subst e;exact(jn (S:=SS) (t:=32) rfl) A O w x cs h
  ·intro e;subst e;exact Xf A O w x cs h
  ·intro e;subst e;exact akB A O w x cs h
  ·intro e;subst e;exact hJ A O w x cs h
  ·intro e;subst e;exact zX A O w x cs h
  ·intro e;subst e;exact(jn (S:=SS) (t:=46) rfl) A O w x cs h
  ·intro e;subst e;exact zX A O w x cs h
  ·intro e;subst e;exact aku A O w x cs h
  ·intro e;subst e;exact(jn (S:=SS) (t:=51) rfl) A O w x cs h
  ·intro e;subst e;exact akA A O w x cs h
  ·intro e;subst e;exact akz A O w x cs h
  ·intro e;subst e;exact akw A O w x cs h
  ·intro e;subst e;exact(jn (S:=SS) (t:=76) rfl) A O w x cs h
  ·intro e;subst e;exact akt A O w x cs h
  ·intro e;subst e;exact akv A O w x cs h
  ·intro e;subst e;exact akx A O w x cs h
  ·intro e;subst e;exact(jn (S:=SS) (t:=147) rfl) A O w x cs h
  ·intro e;subst e;exact(jn (S:=SS) (t:=185) rfl) A O w x cs h
  ·intro e;subst e;exact(jn (S:=SS) (t:=185) rfl) A O w x cs h
  ·intro e;subst e;exact aky A O w x cs h
 ·exact absurd h (akh hm)
theorem adR (A:Pl) (O:List Nat) (w:World) (t:Nat) (ls:List (LV SS)) (x:SS.El t) (cs:List Value) (hc:JR t ls=some x) (h:bV A O w ls cs):(SS.ty t).rep O w cs x:=by
 by_cases hm:t∈([3,4,5,9,21,22,23,25,26,27,28,30,31,32,34,36,40,43,46,48,50,51,53,69,71,76,82,89,93,147,185,186,188]:List Nat)
 ·refine WL hm ?_ ?_ ?_ ?_ ?_ ?_ ?_ ?_ ?_ ?_ ?_ ?_ ?_ ?_ ?_ ?_ ?_ ?_ ?_ ?_ ?_ ?_ ?_ ?_ ?_ ?_ ?_ ?_ ?_ ?_ ?_ ?_ ?_
  ·intro e;subst e;exact dk (S:=SS) hQ hc h
  ·intro e;subst e;exact dk (S:=SS) XY hc h
  ·intro e;subst e;exact dk (S:=SS) hQ hc h
  ·intro e;subst e;exact dk (S:=SS) amr hc h
  ·intro e;subst e;exact dk (S:=SS) hQ hc h
  ·intro e;subst e;exact dk (S:=SS) pV hc h
  ·intro e;subst e;exact dk (S:=SS) (js (S:=SS) (t:=23) λx hx O w=>by cases hx;exact jl O w) hc h
  ·intro e;subst e;exact dk (S:=SS) XX hc h
  ·intro e;subst e;exact dk (S:=SS) (js (S:=SS) (t:=26) λx hx O w=>by cases hx;exact jl O w) hc h
  ·intro e;subst e;exact dk (S:=SS) (js (S:=SS) (t:=27) λx hx O w=>by cases hx;exact jl O w) hc h
  ·intro e;subst e;exact dk (S:=SS) hQ hc h
  ·intro e;subst e;exact dk (S:=SS) XW hc h
  ·intro e;subst e;exact dk (S:=SS) (js (S:=SS) (t:=31) λx hx O w=>by cases hx;exact jl O w) hc h
  ·intro e;subst e;exact dk (S:=SS) (js (S:=SS) (t:=32) λx hx O w=>by cases hx;exact jl O w) hc h
  ·intro e;subst e;exact dk (S:=SS) XV hc h
  ·intro e;subst e;exact dk (S:=SS) amq hc h
  ·intro e;subst e;exact dk (S:=SS) hQ hc h
  ·intro e;subst e;exact dk (S:=SS) pV hc h
  ·intro e;subst e;exact dk (S:=SS) (js (S:=SS) (t:=46) λx hx O w=>by cases hx;exact jl O w) hc h
  ·intro e;subst e;exact dk (S:=SS) pV hc h
  ·intro e;subst e;exact dk (S:=SS) amo hc h
  ·intro e;subst e;exact dk (S:=SS) (js (S:=SS) (t:=51) λx hx O w=>by cases hx;exact jl O w) hc h
  ·intro e;subst e;exact dk (S:=SS) Ov hc h
  ·intro e;subst e;exact dk (S:=SS) Ou hc h
  ·intro e;subst e;exact dk (S:=SS) Oq hc h
  ·intro e;subst e;exact dk (S:=SS) (js (S:=SS) (t:=76) λx hx O w=>by cases hx;exact jl O w) hc h
  ·intro e;subst e;exact dk (S:=SS) amn hc h
  ·intro e;subst e;exact dk (S:=SS) Oo hc h
  ·intro e;subst e;exact dk (S:=SS) Ot hc h
  ·intro e;subst e;exact dk (S:=SS) (js (S:=SS) (t:=147) λx hx O w=>by cases hx;exact jl O w) hc h
  ·intro e;subst e;exact dk (S:=SS) (js (S:=SS) (t:=185) λx hx O w=>by cases hx;exact jl O w) hc h
  ·intro e;subst e;exact dk (S:=SS) (js (S:=SS) (t:=185) λx hx O w=>by cases hx;exact jl O w) hc h
  ·intro e;subst e;exact dk (S:=SS) amp hc h
 ·unfold JR at hc
  split at hc<;>first|cases hc|(exfalso;exact hm (by decide))
theorem ane (t:Nat) (I:Cr SS t) (h:OX t=some I):(SS.ty t).agg=false/\(∀(O:List Nat) (w:World) (v:Value) (x:SS.El t),(SS.ty t).is O w v x->(SS.ty I.e).slice.is O w v (I.to x))/\ ∀(O:List Nat) (w:World) (v:Value) (xs:List (SS.El I.e)),(SS.ty I.e).slice.is O w v xs->(SS.ty t).is O w v (I.of xs):=by
 unfold OX at h
 split at h<;>first|(cases h;exact⟨rfl,λ_ _ _ _ h=>h,λ_ _ _ _ h=>h⟩)|cases h
theorem amF (e:Nat) (I:B6 SS e) (h:OH e=some I):(SS.ty I.t).agg=false/\ ∀(O:List Nat) (w:World) (v:Value) (xs:List (SS.El e)),(SS.ty e).slice.is O w v xs->(SS.ty I.t).is O w v (I.of xs):=by
 unfold OH at h
 split at h<;>first|(cases h;exact⟨rfl,λ_ _ _ _ h=>h⟩)|cases h
theorem ahr (A:Pl) (O:List Nat) (w:World) (t:Nat) (ls ms:List (LV SS)) (b:Bool) (xs ys:List Value) (ox oy:Operand) (h:J9 t ls ms=some b) (hx:bV A O w ls xs) (hy:bV A O w ms ys):
  (do eqGuard .eql t ox oy (.agg xs.toArray) (.agg ys.toArray);binOp .eql t (.agg xs.toArray) (.agg ys.toArray):Sem Value).run Tryz.prog w= .ok (.bool b) w/\
  (do eqGuard .neq t ox oy (.agg xs.toArray) (.agg ys.toArray);binOp .neq t (.agg xs.toArray) (.agg ys.toArray):Sem Value).run Tryz.prog w= .ok (.bool (!b)) w:=by
 unfold J9 at h
 split at h
 ·split at h
  ·rename_i x y U h2
   cases h
   have q1:=dk (S:=SS) pV U hx
   have q2:=dk (S:=SS) pV h2 hy
   obtain⟨l1,rfl⟩:=q1
   obtain⟨l2,rfl⟩:=q2
   exact Yy w 43 3 5 .i64 .i64 Tryz.underlying43 Tryz.underlying3 (λw=>by go_simp) (by kernel_rfl) x y l1 l2 ox oy
  ·cases h
 ·split at h
  ·rename_i x y U h2
   cases h
   have q1:=dk (S:=SS) Ov U hx
   have q2:=dk (S:=SS) Ov h2 hy
   obtain⟨_,_,rfl,rfl,rfl⟩:=q1
   obtain⟨_,_,rfl,rfl,rfl⟩:=q2
   exact⟨ahj x y,aj_ x y⟩
  ·cases h
 ·split at h
  ·rename_i x y U h2
   cases h
   have q1:=dk (S:=SS) Ou U hx
   have q2:=dk (S:=SS) Ou h2 hy
   obtain⟨_,_,rfl,rfl,⟨_,_,rfl,rfl,⟨_,_,rfl,rfl,rfl⟩⟩⟩:=q1
   obtain⟨_,_,rfl,rfl,⟨_,_,rfl,rfl,⟨_,_,rfl,rfl,rfl⟩⟩⟩:=q2
   exact⟨ahk x y,aj' x y⟩
  ·cases h
 ·split at h
  ·rename_i x y U h2
   cases h
   have q1:=dk (S:=SS) pV U hx
   have q2:=dk (S:=SS) pV h2 hy
   obtain⟨l1,rfl⟩:=q1
   obtain⟨l2,rfl⟩:=q2
   exact Yy w 22 3 16 .i64 .i64 Tryz.underlying22 Tryz.underlying3 (λw=>by go_simp) (by kernel_rfl) x y l1 l2 ox oy
  ·cases h
 ·split at h
  ·rename_i x y U h2
   cases h
   have q1:=dk (S:=SS) Oo U hx
   have q2:=dk (S:=SS) Oo h2 hy
   obtain⟨_,_,rfl,rfl,⟨_,_,rfl,rfl,rfl⟩⟩:=q1
   obtain⟨_,_,rfl,rfl,⟨_,_,rfl,rfl,rfl⟩⟩:=q2
   exact⟨ahm x y,akb x y⟩
  ·cases h
 ·split at h
  ·rename_i x y U h2
   cases h
   have q1:=dk (S:=SS) Oq U hx
   have q2:=dk (S:=SS) Oq h2 hy
   obtain⟨_,_,rfl,rfl,rfl⟩:=q1
   obtain⟨_,_,rfl,rfl,rfl⟩:=q2
   exact⟨ahl x y,aka x y⟩
  ·cases h
 ·split at h
  ·rename_i x y U h2
   cases h
   have q1:=dk (S:=SS) Ot U hx
   have q2:=dk (S:=SS) Ot h2 hy
   obtain⟨_,_,rfl,rfl,rfl⟩:=q1
   obtain⟨_,_,rfl,rfl,rfl⟩:=q2
   exact⟨ahn x y,akc x y⟩
  ·cases h
 ·cases h
theorem ep:cQ KK Tryz.prog:=⟨ak,ane,amF,ak0,adR,ahr⟩
theorem bA:B2 Tryz.prog:=by
 have h:Tryz.prog.funcs.toList.all (λfn=>fn.name != "runtime.NumGoroutine" ||fn.body.isNone)=true:=by kernel_rfl
 intro f fn hf hb
 rw[List.all_eq_true] at h
 have:=h fn (by rw[Array.mem_toList_iff];exact Array.mem_of_getElem? hf)
 cases Uu:fn.body with
 |none=>rw[Uu] at hb;cases hb
 |some c=>rw[Uu] at this;simpa using this
def aE (f k:Nat):List Nat:=match f with
 |3=>(match k with|1000000=>[4]|_=>[])
 |4=>(match k with|10=>[1,2,5,6,7,8,37,38,39]|1000000=>[4]|1000001=>[1,2,6,7,8]|1000002=>[1,2,5,6,7,8,37,38,39]|_=>[])
 |5=>(match k with|8=>[5,23,24,25]|1000000=>[4]|1000001=>[]|1000002=>[5,23,24,25]|_=>[])
 |6=>(match k with|9=>[1,5,6,7,38,39,40]|14=>[1,5,6,7,50,51,52]|19=>[5,6,7,60,61,62]|1000000=>[4]|1000001=>[1,5,6,7]|1000002=>[1,5,6,7,38,39,40]|1000003=>[1,5,6,7]|1000004=>[1,5,6,7,50,51,52]|1000005=>[]|1000006=>[5,6,7,60,61,62]|1000007=>[5,6,7,60,61,62]|_=>[])
 |7=>(match k with|1000000=>[6]|1000001=>[4,7,8,9,10,11,14]|_=>[])
 |8=>(match k with|1000000=>[0]|_=>[])
 |9=>(match k with|8=>[1,2,3,59,60,61]|1000000=>[2]|1000001=>[1,2,3]|1000002=>[1,2,3,59,60,61]|_=>[])
 |10=>(match k with|5=>[1,32,33,34]|11=>[1,53,54,55]|17=>[1,67,68,69]|1000000=>[2]|1000001=>[1]|1000002=>[1,32,33,34]|1000003=>[1]|1000004=>[1,53,54,55]|1000005=>[]|1000006=>[1,67,68,69]|_=>[])
 |11=>(match k with|6=>[1,3,4,37,38,39]|12=>[1,3,4,52,53,54]|1000000=>[2]|1000001=>[1,3,4]|1000002=>[1,3,4,37,38,39]|1000003=>[1,3,4]|1000004=>[1,3,4,52,53,54]|_=>[])
 |12=>(match k with|1000000=>[4]|_=>[])
 |13=>(match k with|1000000=>[4]|_=>[])
 |14=>(match k with|4=>[1,2,3,8,9,10]|1000000=>[2]|1000001=>[1,2,3]|1000002=>[1,2,3,8,9,10]|_=>[])
 |15=>(match k with|6=>[1,2,3,12,13,14]|1000000=>[2]|1000001=>[1,2,3]|1000002=>[1,2,3,12,13,14]|_=>[])
 |16=>(match k with|1000000=>[0]|_=>[])
 |17=>(match k with|1000000=>[0]|_=>[])
 |18=>(match k with|1000000=>[2]|_=>[])
 |19=>(match k with|1000000=>[4,5,6]|_=>[])
 |20=>(match k with|1000000=>[4,5]|1000001=>[2,3,4,5]|_=>[])
 |21=>(match k with|1000000=>[4]|_=>[])
 |22=>(match k with|1000000=>[2]|_=>[])
 |23=>(match k with|1000000=>[2]|_=>[])
 |24=>(match k with|3=>[1,12,13]|8=>[1,29,30]|13=>[1,46,47]|18=>[1,64,65]|23=>[81,82,83]|26=>[7,81,82,83,89,90]|1000001=>[1]|1000002=>[1,12,13]|1000003=>[1]|1000004=>[1,29,30]|1000005=>[1]|1000006=>[1,46,47]|1000007=>[1]|1000008=>[1,64,65]|1000009=>[]|1000010=>[81,82,83]|1000011=>[81,82,83]|1000012=>[7,81,82,83,89,90]|_=>[])
 |25=>(match k with|1000000=>[4,5,6]|_=>[])
 |26=>(match k with|5=>[0,1,12,13]|1000000=>[4]|1000001=>[]|1000002=>[0,1,12,13]|_=>[])
 |27=>(match k with|1000000=>[4]|_=>[])
 |28=>(match k with|1000000=>[4]|_=>[])
 |29=>(match k with|1000000=>[4,5]|_=>[])
 |30=>(match k with|1000000=>[4,5,6]|_=>[])
 |31=>(match k with|1000000=>[4]|1000001=>[5]|1000002=>[5]|2000008=>[5,12]|_=>[])
 |32=>(match k with|1000000=>[4]|_=>[])
 |33=>(match k with|1000000=>[3]|_=>[])
 |34=>(match k with|1000000=>[2]|_=>[])
 |35=>(match k with|1000000=>[2]|_=>[])
 |36=>(match k with|1000000=>[2]|_=>[])
 |37=>(match k with|1000000=>[2]|_=>[])
 |38=>(match k with|1000000=>[2]|_=>[])
 |39=>(match k with|1000000=>[2]|_=>[])
 |40=>(match k with|3=>[1,8,9]|9=>[1,20,21,22]|1000000=>[2]|1000001=>[1]|1000002=>[1,8,9]|1000003=>[1]|1000004=>[1,20,21,22]|_=>[])
 |41=>(match k with|3=>[0,5,6,7]|1000000=>[2]|1000001=>[0]|1000002=>[0,5,6,7]|_=>[])
 |42=>(match k with|3=>[1,8,9,10]|8=>[1,4,8,9,10,50,51,52]|1000000=>[2]|1000001=>[1]|1000002=>[1,8,9,10]|1000003=>[1,8,9,10]|1000004=>[1,4,8,9,10,50,51,52]|_=>[])
 |43=>(match k with|3=>[1,8,9,10]|9=>[1,43,44,45]|1000000=>[2]|1000001=>[1]|1000002=>[1,8,9,10]|1000003=>[1]|1000004=>[1,43,44,45]|_=>[])
 |44=>(match k with|1000000=>[4]|_=>[])
 |45=>(match k with|3=>[1,9,10,11]|1000000=>[4]|1000001=>[]|1000002=>[1,9,10,11]|_=>[])
 |46=>(match k with|1000000=>[2]|1000001=>[2]|1000002=>[1,2,4]|2000011=>[1,2,4,33]|_=>[])
 |47=>(match k with|5=>[0,8,9,10]|1000000=>[2]|1000001=>[]|1000002=>[0,8,9,10]|_=>[])
 |48=>(match k with|4=>[1,3,7,8,9]|1000000=>[2]|1000001=>[1]|1000002=>[1,3,7,8,9]|_=>[])
 |49=>(match k with|5=>[1,12,13,14]|11=>[1,47,48,49]|1000000=>[2]|1000001=>[1]|1000002=>[1,12,13,14]|1000003=>[]|1000004=>[1,47,48,49]|_=>[])
 |50=>(match k with|4=>[1,5,8,9,10]|1000000=>[4]|1000001=>[5]|1000002=>[1,5,8,9,10]|_=>[])
 |51=>(match k with|1000000=>[4]|_=>[])
 |52=>(match k with|4=>[1,5,8,9,10]|1000000=>[4]|1000001=>[5]|1000002=>[1,5,8,9,10]|_=>[])
 |53=>(match k with|1000000=>[3]|_=>[])
 |54=>(match k with|4=>[1,5,8,9,10]|1000000=>[4]|1000001=>[5]|1000002=>[1,5,8,9,10]|_=>[])
 |55=>(match k with|1000000=>[3]|_=>[])
 |56=>(match k with|1000000=>[4]|_=>[])
 |57=>(match k with|5=>[0,1,12,13]|1000000=>[4]|1000001=>[]|1000002=>[0,1,12,13]|_=>[])
 |58=>(match k with|1000000=>[4]|_=>[])
 |59=>(match k with|1000000=>[4]|_=>[])
 |60=>(match k with|5=>[3,22,23,24]|1000000=>[4]|1000001=>[]|1000002=>[3,22,23,24]|_=>[])
 |61=>(match k with|5=>[1,12,13,14]|1000000=>[4]|1000001=>[]|1000002=>[1,12,13,14]|_=>[])
 |62=>(match k with|5=>[3,22,23,24]|1000000=>[4]|1000001=>[]|1000002=>[3,22,23,24]|_=>[])
 |63=>(match k with|5=>[2,3,26,27,28]|11=>[3,42,43,44]|1000000=>[4]|1000001=>[2,3]|1000002=>[2,3,26,27,28]|1000003=>[]|1000004=>[3,42,43,44]|_=>[])
 |64=>(match k with|1000000=>[0]|_=>[])
 |65=>(match k with|1000000=>[0]|_=>[])
 |66=>(match k with|1000000=>[0]|_=>[])
 |67=>(match k with|1000000=>[4,5]|_=>[])
 |68=>(match k with|6=>[1,2,31,32,33]|1000000=>[2]|1000001=>[1,2]|1000002=>[1,2,31,32,33]|_=>[])
 |69=>(match k with|1000000=>[4,5,6]|1000001=>[2,3,4]|_=>[])
 |70=>(match k with|1000000=>[2]|_=>[])
 |71=>(match k with|1000000=>[4]|_=>[])
 |72=>(match k with|1000000=>[4,5]|_=>[])
 |73=>(match k with|4=>[1,5,8,9,10]|1000000=>[4]|1000001=>[5]|1000002=>[1,5,8,9,10]|_=>[])
 |74=>(match k with|1000000=>[3]|_=>[])
 |75=>(match k with|1000000=>[4,5,6]|1000001=>[1,7]|_=>[])
 |77=>(match k with|1000000=>[4]|_=>[])
 |78=>(match k with|3=>[0,1,7,8]|1000000=>[4]|1000001=>[]|1000002=>[0,1,7,8]|_=>[])
 |79=>(match k with|8=>[0,5,14,15]|1000000=>[2,3]|1000001=>[5]|1000002=>[0,5,14,15]|_=>[])
 |80=>(match k with|1000000=>[4]|_=>[])
 |81=>(match k with|1000000=>[2]|_=>[])
 |82=>(match k with|1000000=>[2]|_=>[])
 |83=>(match k with|1000000=>[4]|_=>[])
 |84=>(match k with|1000000=>[2]|_=>[])
 |85=>(match k with|4=>[3,4,12,13]|1000000=>[2]|1000001=>[3,4]|1000002=>[3,4,12,13]|_=>[])
 |86=>(match k with|1000000=>[2]|_=>[])
 |87=>(match k with|1000000=>[4]|_=>[])
 |88=>(match k with|1000000=>[3]|_=>[])
 |89=>(match k with|1000000=>[4]|1000001=>[4]|1000002=>[3,4]|2000005=>[3,4,8]|_=>[])
 |90=>(match k with|1000000=>[2]|_=>[])
 |91=>(match k with|1000000=>[4]|_=>[])
 |92=>(match k with|1000000=>[2]|_=>[])
 |93=>(match k with|1000000=>[2]|_=>[])
 |94=>(match k with|1000000=>[2]|_=>[])
 |95=>(match k with|1000000=>[4]|_=>[])
 |96=>(match k with|1000000=>[2]|_=>[])
 |97=>(match k with|4=>[3,8,9,10]|1000000=>[2]|1000001=>[3]|1000002=>[3,8,9,10]|_=>[])
 |98=>(match k with|5=>[5,20]|1000000=>[2]|1000001=>[5]|1000002=>[5,20]|_=>[])
 |99=>(match k with|1000000=>[2]|_=>[])
 |100=>(match k with|5=>[0,1,12,13]|1000000=>[4]|1000001=>[]|1000002=>[0,1,12,13]|_=>[])
 |101=>(match k with|5=>[0,1,12,13]|1000000=>[4]|1000001=>[]|1000002=>[0,1,12,13]|_=>[])
 |102=>(match k with|5=>[0,1,12,13]|1000000=>[4]|1000001=>[]|1000002=>[0,1,12,13]|_=>[])
 |103=>(match k with|5=>[1,2,15,16,17]|1000000=>[6]|1000001=>[]|1000002=>[1,2,15,16,17]|_=>[])
 |104=>(match k with|1000000=>[4]|_=>[])
 |105=>(match k with|5=>[0,1,12,13]|1000000=>[4]|1000001=>[]|1000002=>[0,1,12,13]|_=>[])
 |106=>(match k with|5=>[1,12,13,14]|1000000=>[4]|1000001=>[]|1000002=>[1,12,13,14]|_=>[])
 |109=>(match k with|1000000=>[2]|_=>[])
 |110=>(match k with|1000000=>[0]|_=>[])
 |111=>(match k with|1000000=>[4,5,6]|1000001=>[2,3,4,7]|_=>[])
 |112=>(match k with|1000000=>[4,5,6]|_=>[])
 |113=>(match k with|1000000=>[4,5,6]|1000001=>[2,4,7]|_=>[])
 |114=>(match k with|1000000=>[4,5,6]|1000001=>[2,4,8]|_=>[])
 |115=>(match k with|1000000=>[4,5,6]|_=>[])
 |116=>(match k with|1000000=>[4]|1000001=>[2]|1000002=>[2]|2000005=>[2,6]|_=>[])
 |117=>(match k with|2=>[0,2,8,9,10]|1000001=>[]|1000002=>[0,2,8,9,10]|_=>[])
 |118=>(match k with|7=>[5,20,21,22]|1000000=>[2,3]|1000001=>[5]|1000002=>[5,20,21,22]|_=>[])
 |119=>(match k with|1000000=>[4]|_=>[])
 |120=>(match k with|6=>[0,1,5,6]|1000000=>[4]|1000001=>[0,5]|1000002=>[0,1,5,6]|_=>[])
 |121=>(match k with|1000000=>[2]|_=>[])
 |122=>(match k with|2=>[0,2,7,8,9]|1000001=>[]|1000002=>[0,2,7,8,9]|_=>[])
 |123=>(match k with|3=>[0,4]|1000000=>[2,3]|1000001=>[4]|1000002=>[0,4]|_=>[])
 |124=>(match k with|6=>[0,3,10,11,12]|1000000=>[2]|1000001=>[0,3]|1000002=>[0,3,10,11,12]|_=>[])
 |125=>(match k with|3=>[1,4,8,9,10]|1000000=>[4,5]|1000001=>[4]|1000002=>[1,4,8,9,10]|_=>[])
 |126=>(match k with|3=>[0,1,7,8]|1000000=>[4]|1000001=>[]|1000002=>[0,1,7,8]|_=>[])
 |127=>(match k with|2=>[0,1,9,10]|1000001=>[]|1000002=>[0,1,9,10]|_=>[])
 |128=>(match k with|4=>[3,6,7,8]|1000000=>[2]|1000001=>[3]|1000002=>[3,6,7,8]|_=>[])
 |129=>(match k with|1000000=>[4]|_=>[])
 |130=>(match k with|1000000=>[4]|_=>[])
 |131=>(match k with|1000000=>[2,3]|1000001=>[0,2,6,7]|1000002=>[0,2,4,6,7]|2000010=>[0,2,4,6,7,26]|_=>[])
 |132=>(match k with|4=>[0,4,5]|1000000=>[2,3]|1000001=>[0,4]|1000002=>[0,4,5]|_=>[])
 |133=>(match k with|1000000=>[2]|_=>[])
 |134=>(match k with|1000000=>[2]|_=>[])
 |135=>(match k with|1000000=>[2]|_=>[])
 |136=>(match k with|1000000=>[2]|_=>[])
 |137=>(match k with|1000000=>[2]|_=>[])
 |138=>(match k with|1000000=>[2]|_=>[])
 |139=>(match k with|1000000=>[2]|_=>[])
 |140=>(match k with|1000000=>[2]|_=>[])
 |141=>(match k with|1000000=>[2]|_=>[])
 |142=>(match k with|1000000=>[2]|_=>[])
 |143=>(match k with|1000000=>[2]|_=>[])
 |144=>(match k with|1000000=>[2]|_=>[])
 |145=>(match k with|1000000=>[2]|_=>[])
 |146=>(match k with|1000000=>[2]|_=>[])
 |147=>(match k with|5=>[1,2,4,15]|1000000=>[4,5,6]|1000001=>[4]|1000002=>[1,2,4,15]|_=>[])
 |148=>(match k with|11=>[2,3,6,9,11,41,42,43]|1000000=>[6,7,8]|1000001=>[3,6,9,11]|1000002=>[2,3,6,9,11,41,42,43]|_=>[])
 |149=>(match k with|8=>[1,2,3,6,8,21,22,23]|1000000=>[6,7]|1000001=>[3,6,8]|1000002=>[1,2,3,6,8,21,22,23]|1000003=>[1,2,3,6,8,21,22,23]|_=>[])
 |150=>(match k with|4=>[1,5,9,10,11]|1000000=>[4]|1000001=>[5]|1000002=>[1,5,9,10,11]|_=>[])
 |151=>(match k with|4=>[1,5,8,9,10]|1000000=>[4]|1000001=>[5]|1000002=>[1,5,8,9,10]|_=>[])
 |152=>(match k with|4=>[1,2,3,6,7,16,17,18]|12=>[1,6,7,45,46,47]|1000000=>[6]|1000001=>[1,2,3,6,7]|1000002=>[1,2,3,6,7,16,17,18]|1000003=>[6,7]|1000004=>[1,6,7,45,46,47]|_=>[])
 |153=>(match k with|4=>[1,5,6,10,11,12]|1000000=>[4]|1000001=>[5]|1000002=>[1,5,6,10,11,12]|_=>[])
 |154=>(match k with|5=>[0,1,2,9]|12=>[0,9,10,11,36,37,38]|19=>[9,10,11,54,55,56]|1000000=>[6,7,8]|1000001=>[0,1,2,9]|1000002=>[0,1,2,9]|1000003=>[0,9,10,11]|1000004=>[0,9,10,11,36,37,38]|1000005=>[9,11]|1000006=>[9,10,11,54,55,56]|_=>[])
 |155=>(match k with|3=>[1,2,9,10,11]|1000000=>[6]|1000001=>[]|1000002=>[1,2,9,10,11]|_=>[])
 |156=>(match k with|1000000=>[2]|_=>[])
 |157=>(match k with|3=>[0,1,11,12,13]|1000000=>[6,7]|1000001=>[0]|1000002=>[0,1,11,12,13]|_=>[])
 |158=>(match k with|1000000=>[6,7,8]|_=>[])
 |159=>(match k with|1000000=>[4,5,6]|_=>[])
 |160=>(match k with|8=>[1,4,6,24,25,26]|1000000=>[4,5]|1000001=>[4,6]|1000002=>[1,4,6,24,25,26]|_=>[])
 |161=>(match k with|4=>[1,5,8,9,10]|1000000=>[4]|1000001=>[5]|1000002=>[1,5,8,9,10]|_=>[])
 |162=>(match k with|3=>[1,8,9,10]|1000000=>[4]|1000001=>[]|1000002=>[1,8,9,10]|_=>[])
 |163=>(match k with|3=>[1,9,10,11]|1000000=>[4,5]|1000001=>[]|1000002=>[1,9,10,11]|_=>[])
 |164=>(match k with|13=>[1,2,3,6,10,40,41,42]|20=>[1,6,10,66,67,68]|1000000=>[6,7]|1000001=>[1,2,3,6,10]|1000002=>[1,2,3,6,10,40,41,42]|1000003=>[6,10]|1000004=>[1,6,10,66,67,68]|_=>[])
 |165=>(match k with|9=>[1,4,8,28,29,30]|1000000=>[4,5]|1000001=>[4,8]|1000002=>[1,4,8,28,29,30]|_=>[])
 |166=>(match k with|3=>[1,8,9,10]|1000000=>[4]|1000001=>[]|1000002=>[1,8,9,10]|_=>[])
 |167=>(match k with|1000000=>[6,7]|_=>[])
 |168=>(match k with|1000000=>[2]|_=>[])
 |169=>(match k with|1000000=>[6]|_=>[])
 |170=>(match k with|4=>[0,3,6,7]|1000000=>[2]|1000001=>[3]|1000002=>[0,3,6,7]|_=>[])
 |171=>(match k with|3=>[0,5,6]|1000000=>[2]|1000001=>[0]|1000002=>[0,5,6]|_=>[])
 |172=>(match k with|1000000=>[2]|_=>[])
 |173=>(match k with|1000000=>[2]|_=>[])
 |174=>(match k with|1000000=>[2]|_=>[])
 |175=>(match k with|3=>[0,6]|1000000=>[2]|1000001=>[0]|1000002=>[0,6]|_=>[])
 |176=>(match k with|1000000=>[2,3]|_=>[])
 |177=>(match k with|1000000=>[4,5,6]|_=>[])
 |178=>(match k with|1000000=>[4]|_=>[])
 |179=>(match k with|1000000=>[6,7]|_=>[])
 |180=>(match k with|1000000=>[4]|_=>[])
 |181=>(match k with|1000000=>[6,7,8]|_=>[])
 |182=>(match k with|1000000=>[4]|_=>[])
 |183=>(match k with|10=>[10,11,28,29,30]|1000000=>[4,5]|1000001=>[11]|1000002=>[10,11,28,29,30]|_=>[])
 |184=>(match k with|1000000=>[6,7,8]|1000001=>[0,1,2]|1000002=>[0,1,2,9]|1000003=>[9]|2000010=>[0,1,2,9,25]|_=>[])
 |185=>(match k with|1000000=>[4]|_=>[])
 |186=>(match k with|8=>[1,9,10,23,24,25]|1000000=>[6,7]|1000001=>[9,10]|1000002=>[1,9,10,23,24,25]|_=>[])
 |187=>(match k with|1000000=>[2]|_=>[])
 |188=>(match k with|1000000=>[6,7,8]|1000001=>[0,1,2]|_=>[])
 |189=>(match k with|1000000=>[4,5,6]|1000001=>[1,2,4]|_=>[])
 |190=>(match k with|1000000=>[4]|_=>[])
 |191=>(match k with|1000000=>[4,5]|_=>[])
 |192=>(match k with|1000000=>[4]|_=>[])
 |193=>(match k with|1000000=>[4,5]|1000001=>[2,3,4,5]|1000002=>[4,5]|2000010=>[2,3,4,5,28]|_=>[])
 |194=>(match k with|1000000=>[6,7]|1000001=>[1,2,6,8]|1000002=>[1,2,6,8,10]|_=>[])
 |195=>(match k with|1000000=>[4,5]|1000001=>[1,4,6]|_=>[])
 |196=>(match k with|1000000=>[4,5]|1000001=>[1,2]|_=>[])
 |197=>(match k with|1000000=>[6,7]|_=>[])
 |198=>(match k with|1000000=>[4,5,6]|_=>[])
 |199=>(match k with|3=>[1,7,8,9]|1000000=>[4]|1000001=>[]|1000002=>[1,7,8,9]|_=>[])
 |200=>(match k with|4=>[0,3,5,10,11,12]|11=>[3,5,32,33,34]|1000000=>[4]|1000001=>[0,3,5]|1000002=>[0,3,5,10,11,12]|1000003=>[5]|1000004=>[3,5,32,33,34]|_=>[])
 |201=>(match k with|6=>[6,21,22,23]|1000000=>[4]|1000001=>[]|1000002=>[6,21,22,23]|_=>[])
 |202=>(match k with|1000000=>[2]|_=>[])
 |203=>(match k with|4=>[1,5,9,10,11]|1000000=>[4]|1000001=>[5]|1000002=>[1,5,9,10,11]|_=>[])
 |204=>(match k with|4=>[0,1,2,8,9,10]|1000000=>[6,7]|1000001=>[0,1,2,8,9]|1000002=>[0,1,2,8,9,10]|_=>[])
 |205=>(match k with|1000000=>[5]|_=>[])
 |208=>(match k with|1=>[0,1]|1000001=>[]|1000002=>[0,1]|_=>[])
 |209=>(match k with|1000000=>[4]|_=>[])
 |210=>(match k with|1000000=>[4]|_=>[])
 |211=>(match k with|1000000=>[2]|_=>[])
 |212=>(match k with|13=>[0,1,5,39,40,41]|23=>[1,8,63,64,65]|1000000=>[4]|1000001=>[0,1]|1000002=>[0,1,5]|1000003=>[0,1,5,39,40,41]|1000004=>[8]|1000005=>[1,8,63,64,65]|_=>[])
 |213=>(match k with|1000000=>[4]|_=>[])
 |214=>(match k with|1000000=>[4,5]|_=>[])
 |216=>(match k with|1000000=>[4]|_=>[])
 |217=>(match k with|3=>[0,3]|1000000=>[2]|1000001=>[3]|1000002=>[0,3]|_=>[])
 |219=>(match k with|1000001=>[]|1000002=>[1]|2000009=>[1,40]|_=>[])
 |221=>(match k with|4=>[1,5,8,9,10]|1000000=>[4]|1000001=>[5]|1000002=>[1,5,8,9,10]|_=>[])
 |222=>(match k with|1000000=>[4]|_=>[])
 |224=>(match k with|1000000=>[3]|_=>[])
 |225=>(match k with|1000000=>[4]|_=>[])
 |226=>(match k with|7=>[4,6,7]|1000000=>[2,3]|1000001=>[6]|1000002=>[4,6,7]|_=>[])
 |227=>(match k with|1000000=>[3]|_=>[])
 |228=>(match k with|1000000=>[4]|_=>[])
 |229=>(match k with|3=>[0,1,7,8]|1000000=>[4]|1000001=>[]|1000002=>[0,1,7,8]|_=>[])
 |230=>(match k with|4=>[0,2,4,8,9,10]|1000000=>[6,7]|1000001=>[0,2,4,8,9]|1000002=>[0,2,4,8,9,10]|_=>[])
 |231=>(match k with|1000000=>[6]|_=>[])
 |232=>(match k with|1000000=>[6,7]|1000001=>[6,7]|1000002=>[5,6,7]|2000007=>[5,6,7,14]|_=>[])
 |233=>(match k with|1000000=>[3]|_=>[])
 |234=>(match k with|1000000=>[3]|_=>[])
 |235=>(match k with|1000000=>[4]|_=>[])
 |236=>(match k with|4=>[1,5,8,9,10]|1000000=>[4]|1000001=>[5]|1000002=>[1,5,8,9,10]|_=>[])
 |237=>(match k with|1000000=>[3]|_=>[])
 |238=>(match k with|1000000=>[6,7]|_=>[])
 |239=>(match k with|1000000=>[2]|_=>[])
 |240=>(match k with|1000000=>[6]|_=>[])
 |241=>(match k with|1000000=>[6]|_=>[])
 |242=>(match k with|1000000=>[2]|_=>[])
 |244=>(match k with|1000000=>[4]|_=>[])
 |245=>(match k with|1000000=>[4]|_=>[])
 |247=>(match k with|1000000=>[4,5]|_=>[])
 |248=>(match k with|1000000=>[2]|_=>[])
 |249=>(match k with|1000000=>[4]|_=>[])
 |250=>(match k with|1000000=>[3]|_=>[])
 |252=>(match k with|1000000=>[4]|_=>[])
 |253=>(match k with|1000000=>[3]|_=>[])
 |254=>(match k with|3=>[0,1,7,8]|1000000=>[4]|1000001=>[]|1000002=>[0,1,7,8]|_=>[])
 |255=>(match k with|1000000=>[3]|_=>[])
 |256=>(match k with|1000000=>[6]|_=>[])
 |257=>(match k with|2=>[0,2,6,7,8]|1000001=>[]|1000002=>[0,2,6,7,8]|_=>[])
 |260=>(match k with|2=>[0,2,7,8,9]|1000001=>[]|1000002=>[0,2,7,8,9]|_=>[])
 |261=>(match k with|1000000=>[4]|_=>[])
 |262=>(match k with|4=>[0,1,2,8,9,10]|1000000=>[6,7]|1000001=>[0,1,2,8,9]|1000002=>[0,1,2,8,9,10]|_=>[])
 |263=>(match k with|1000000=>[5]|_=>[])
 |266=>(match k with|2=>[0,2,3]|1000001=>[]|1000002=>[0,2,3]|_=>[])
 |270=>(match k with|3=>[0,1,7,8]|1000000=>[4]|1000001=>[]|1000002=>[0,1,7,8]|_=>[])
 |274=>(match k with|1000000=>[4]|_=>[])
 |279=>(match k with|2=>[0,2,3]|1000001=>[]|1000002=>[0,2,3]|_=>[])
 |280=>(match k with|5=>[0,1,12,13]|1000000=>[4]|1000001=>[]|1000002=>[0,1,12,13]|_=>[])
 |281=>(match k with|2=>[0,2,3]|1000001=>[]|1000002=>[0,2,3]|_=>[])
 |282=>(match k with|2=>[0,2,3]|1000001=>[]|1000002=>[0,2,3]|_=>[])
 |_=>[]
noncomputable def G0:aK SS:=⟨KK,[],[],[],AF Tryz.prog aE⟩
theorem abB:aw G0 Tryz.prog:=⟨ep,⟨λf cn h=>by cases h⟩,(λf hc h=>by cases h),(λg dc h=>by cases h),mixed,bA⟩
end Go.Proofs.YtdhaaaeffhaadaaGreatDoor
end
section
namespace Go.Proofs.YtdhaaaeffhaadaaGreatDoor
open Go.RowKit Go.Dc Go.Vx
set_option maxRecDepth 100000 in
set_option maxHeartbeats 4000000 in
theorem adI {O:List Nat} {w:World} (hO:OB O w) {v0:Value} {x0:List ae} (h0:(Ty.slice jM).is O w v0 x0) {r:List ae} (h:app 32 [] x0=some r):Calls Tryz.prog 35 #[v0] w (ia jM 69 w.heap.size O w (.slice none 0 0) r):=by
 have hF:=Fr.refl [] w
 have jy:=hO
 have hS:=Dc.Sub.refl O
 have hB:=Nat.le_refl w.heap.size
 refine iW (args:=[v0]) (N:=8) Tryz.func35 rfl rfl rfl ?_
 refine aQ ?_
 refine aY (l:=[0]) rfl ?_
 refine aF ak [0] [(0,v0)] rfl ⟨rfl,trivial⟩ ?_
 refine aX ?_
 refine aR ?_
 refine aQ ?_
 refine aQ ?_
 refine aY (l:=[0,1]) rfl ?_
 refine aF ak [0] [(0,v0),(3,v0)] rfl ⟨rfl,rfl,trivial⟩ ?_
 obtain⟨A2,c3,rfl,zg,zj⟩:=fT h0
 refine aF ak [1] [(0,(.slice A2 x0.length c3)),(4,(.bool A2.isNone))] rfl ⟨rfl,rfl,trivial⟩ ?_
 refine aX ?_
 refine aR ?_
 rcases A2 with _|oN
 ·obtain rfl:=rK h0
  simp[app] at h
  subst h
  refine oE rfl ?_
  refine aQ ?_
  refine aY (l:=[0]) rfl ?_
  refine aF ak [0] [(2,(.slice none 0 0))] rfl ⟨rfl,trivial⟩ ?_
  refine aX ?_
  refine aR ?_
  refine ed ?_
  exact gQ (fh rfl (nS Own.lU hS hF jy hB))
 refine mM rfl ?_
 refine fC ?_
 refine aR ?_
 refine aQ ?_
 refine aY (l:=[0,1,2,3]) rfl ?_
 refine wk ak rfl rfl rfl rfl rfl rfl rfl rfl rfl rfl (T:=jM) (xs:=([]:List ae)) (vs:=[]) rfl trivial rfl rfl rfl hO (λb4 w5 q6=>?_)
 obtain⟨_,iN,_⟩:=q6.new
 have h7:=q6.own hF.size
 have h0:=h0.tr iN.tr
 have hO:=iN.ob
 have hF:=hF.trans iN.fr
 have hS:=Sub.cons hS b4
 generalize (Value.slice (some ⟨b4,0,none⟩) 0 0)=v8 at*
 refine aF ak [1] [(5,v8),(6,(.slice (some oN) x0.length c3))] rfl ⟨rfl,rfl,trivial⟩ ?_
 refine wi ak rfl rfl rfl rfl rfl rfl rfl rfl rfl rfl rfl rfl rfl rfl hF hO h7 h0 h (λv11 GK B3 fZ=>?_)
 have hF:=fZ.cL h7 hF
 have hS:=Sub.trans hS fZ.sub
 have hO:=fZ.ob
 have o_:=fZ.own
 refine aF ak [3] [(2,v11)] rfl ⟨rfl,trivial⟩ ?_
 refine aX ?_
 refine aR ?_
 refine ed ?_
 exact fh rfl (nS o_ hS hF jy hB)
def JL:jQ SS:=s7 KK 35 69 (λxs=>app 32 [] xs)
theorem adJ {R:Type} (xs:List (aG SS)) (h:AH SS) (k:Rs SS->AH SS->List Nat->Option R) (z:R) (hz:(JL).out xs h k=some z): ∃r h' dt,k r h' dt=some z/\iB KK Tryz.prog 35 xs h r h' dt:=
 zQ (e:=69) (cl:=λxs=>app 32 [] xs) ep (eI bA Tryz.func35 rfl) (λ_ _ _ _ _ _ h=>h) (λO w v xs zs hO hv hz=>adI hO hv hz) xs h k z hz
set_option maxRecDepth 100000 in
set_option maxHeartbeats 4000000 in
theorem adK {O:List Nat} {w:World} (hO:OB O w) {v0:Value} {x0:List ai} (h0:(Ty.slice lZ).is O w v0 x0) {r:List ai} (h:app 24 [] x0=some r):Calls Tryz.prog 36 #[v0] w (ia lZ 89 w.heap.size O w (.slice none 0 0) r):=by
 have hF:=Fr.refl [] w
 have jy:=hO
 have hS:=Dc.Sub.refl O
 have hB:=Nat.le_refl w.heap.size
 refine iW (args:=[v0]) (N:=8) Tryz.func36 rfl rfl rfl ?_
 refine aQ ?_
 refine aY (l:=[0]) rfl ?_
 refine aF ak [0] [(0,v0)] rfl ⟨rfl,trivial⟩ ?_
 refine aX ?_
 refine aR ?_
 refine aQ ?_
 refine aQ ?_
 refine aY (l:=[0,1]) rfl ?_
 refine aF ak [0] [(0,v0),(3,v0)] rfl ⟨rfl,rfl,trivial⟩ ?_
 obtain⟨A2,c3,rfl,zg,zj⟩:=fT h0
 refine aF ak [1] [(0,(.slice A2 x0.length c3)),(4,(.bool A2.isNone))] rfl ⟨rfl,rfl,trivial⟩ ?_
 refine aX ?_
 refine aR ?_
 rcases A2 with _|oN
 ·obtain rfl:=rK h0
  simp[app] at h
  subst h
  refine oE rfl ?_
  refine aQ ?_
  refine aY (l:=[0]) rfl ?_
  refine aF ak [0] [(2,(.slice none 0 0))] rfl ⟨rfl,trivial⟩ ?_
  refine aX ?_
  refine aR ?_
  refine ed ?_
  exact gQ (fh rfl (nS Own.lU hS hF jy hB))
 refine mM rfl ?_
 refine fC ?_
 refine aR ?_
 refine aQ ?_
 refine aY (l:=[0,1,2,3]) rfl ?_
 refine wk ak rfl rfl rfl rfl rfl rfl rfl rfl rfl rfl (T:=lZ) (xs:=([]:List ai)) (vs:=[]) rfl trivial rfl rfl rfl hO (λb4 w5 q6=>?_)
 obtain⟨_,iN,_⟩:=q6.new
 have h7:=q6.own hF.size
 have h0:=h0.tr iN.tr
 have hO:=iN.ob
 have hF:=hF.trans iN.fr
 have hS:=Sub.cons hS b4
 generalize (Value.slice (some ⟨b4,0,none⟩) 0 0)=v8 at*
 refine aF ak [1] [(5,v8),(6,(.slice (some oN) x0.length c3))] rfl ⟨rfl,rfl,trivial⟩ ?_
 refine wi ak rfl rfl rfl rfl rfl rfl rfl rfl rfl rfl rfl rfl rfl rfl hF hO h7 h0 h (λv11 GK B3 fZ=>?_)
 have hF:=fZ.cL h7 hF
 have hS:=Sub.trans hS fZ.sub
 have hO:=fZ.ob
 have o_:=fZ.own
 refine aF ak [3] [(2,v11)] rfl ⟨rfl,trivial⟩ ?_
 refine aX ?_
 refine aR ?_
 refine ed ?_
 exact fh rfl (nS o_ hS hF jy hB)
def JM:jQ SS:=s7 KK 36 89 (λxs=>app 24 [] xs)
theorem adL {R:Type} (xs:List (aG SS)) (h:AH SS) (k:Rs SS->AH SS->List Nat->Option R) (z:R) (hz:(JM).out xs h k=some z): ∃r h' dt,k r h' dt=some z/\iB KK Tryz.prog 36 xs h r h' dt:=
 zQ (e:=89) (cl:=λxs=>app 24 [] xs) ep (eI bA Tryz.func36 rfl) (λ_ _ _ _ _ _ h=>h) (λO w v xs zs hO hv hz=>adK hO hv hz) xs h k z hz
set_option maxRecDepth 100000 in
set_option maxHeartbeats 4000000 in
theorem adM {O:List Nat} {w:World} (hO:OB O w) {v0:Value} {x0:List az} (h0:(Ty.slice oC).is O w v0 x0) {r:List az} (h:app 16 [] x0=some r):Calls Tryz.prog 37 #[v0] w (ia oC 71 w.heap.size O w (.slice none 0 0) r):=by
 have hF:=Fr.refl [] w
 have jy:=hO
 have hS:=Dc.Sub.refl O
 have hB:=Nat.le_refl w.heap.size
 refine iW (args:=[v0]) (N:=8) Tryz.func37 rfl rfl rfl ?_
 refine aQ ?_
 refine aY (l:=[0]) rfl ?_
 refine aF ak [0] [(0,v0)] rfl ⟨rfl,trivial⟩ ?_
 refine aX ?_
 refine aR ?_
 refine aQ ?_
 refine aQ ?_
 refine aY (l:=[0,1]) rfl ?_
 refine aF ak [0] [(0,v0),(3,v0)] rfl ⟨rfl,rfl,trivial⟩ ?_
 obtain⟨A2,c3,rfl,zg,zj⟩:=fT h0
 refine aF ak [1] [(0,(.slice A2 x0.length c3)),(4,(.bool A2.isNone))] rfl ⟨rfl,rfl,trivial⟩ ?_
 refine aX ?_
 refine aR ?_
 rcases A2 with _|oN
 ·obtain rfl:=rK h0
  simp[app] at h
  subst h
  refine oE rfl ?_
  refine aQ ?_
  refine aY (l:=[0]) rfl ?_
  refine aF ak [0] [(2,(.slice none 0 0))] rfl ⟨rfl,trivial⟩ ?_
  refine aX ?_
  refine aR ?_
  refine ed ?_
  exact gQ (fh rfl (nS Own.lU hS hF jy hB))
 refine mM rfl ?_
 refine fC ?_
 refine aR ?_
 refine aQ ?_
 refine aY (l:=[0,1,2,3]) rfl ?_
 refine wk ak rfl rfl rfl rfl rfl rfl rfl rfl rfl rfl (T:=oC) (xs:=([]:List az)) (vs:=[]) rfl trivial rfl rfl rfl hO (λb4 w5 q6=>?_)
 obtain⟨_,iN,_⟩:=q6.new
 have h7:=q6.own hF.size
 have h0:=h0.tr iN.tr
 have hO:=iN.ob
 have hF:=hF.trans iN.fr
 have hS:=Sub.cons hS b4
 generalize (Value.slice (some ⟨b4,0,none⟩) 0 0)=v8 at*
 refine aF ak [1] [(5,v8),(6,(.slice (some oN) x0.length c3))] rfl ⟨rfl,rfl,trivial⟩ ?_
 refine wi ak rfl rfl rfl rfl rfl rfl rfl rfl rfl rfl rfl rfl rfl rfl hF hO h7 h0 h (λv11 GK B3 fZ=>?_)
 have hF:=fZ.cL h7 hF
 have hS:=Sub.trans hS fZ.sub
 have hO:=fZ.ob
 have o_:=fZ.own
 refine aF ak [3] [(2,v11)] rfl ⟨rfl,trivial⟩ ?_
 refine aX ?_
 refine aR ?_
 refine ed ?_
 exact fh rfl (nS o_ hS hF jy hB)
def JN:jQ SS:=s7 KK 37 71 (λxs=>app 16 [] xs)
theorem adN {R:Type} (xs:List (aG SS)) (h:AH SS) (k:Rs SS->AH SS->List Nat->Option R) (z:R) (hz:(JN).out xs h k=some z): ∃r h' dt,k r h' dt=some z/\iB KK Tryz.prog 37 xs h r h' dt:=
 zQ (e:=71) (cl:=λxs=>app 16 [] xs) ep (eI bA Tryz.func37 rfl) (λ_ _ _ _ _ _ h=>h) (λO w v xs zs hO hv hz=>adM hO hv hz) xs h k z hz
set_option maxRecDepth 100000 in
set_option maxHeartbeats 4000000 in
theorem Sl {O:List Nat} {w:World} (hO:OB O w) {v0:Value} {x0:List aA} (h0:(Ty.slice fu).is O w v0 x0) {r:List aA} (h:app 16 [] x0=some r):Calls Tryz.prog 38 #[v0] w (ia fu 93 w.heap.size O w (.slice none 0 0) r):=by
 have hF:=Fr.refl [] w
 have jy:=hO
 have hS:=Dc.Sub.refl O
 have hB:=Nat.le_refl w.heap.size
 refine iW (args:=[v0]) (N:=8) Tryz.func38 rfl rfl rfl ?_
 refine aQ ?_
 refine aY (l:=[0]) rfl ?_
 refine aF ak [0] [(0,v0)] rfl ⟨rfl,trivial⟩ ?_
 refine aX ?_
 refine aR ?_
 refine aQ ?_
 refine aQ ?_
 refine aY (l:=[0,1]) rfl ?_
 refine aF ak [0] [(0,v0),(3,v0)] rfl ⟨rfl,rfl,trivial⟩ ?_
 obtain⟨A2,c3,rfl,zg,zj⟩:=fT h0
 refine aF ak [1] [(0,(.slice A2 x0.length c3)),(4,(.bool A2.isNone))] rfl ⟨rfl,rfl,trivial⟩ ?_
 refine aX ?_
 refine aR ?_
 rcases A2 with _|oN
 ·obtain rfl:=rK h0
  simp[app] at h
  subst h
  refine oE rfl ?_
  refine aQ ?_
  refine aY (l:=[0]) rfl ?_
  refine aF ak [0] [(2,(.slice none 0 0))] rfl ⟨rfl,trivial⟩ ?_
  refine aX ?_
  refine aR ?_
  refine ed ?_
  exact gQ (fh rfl (nS Own.lU hS hF jy hB))
 refine mM rfl ?_
 refine fC ?_
 refine aR ?_
 refine aQ ?_
 refine aY (l:=[0,1,2,3]) rfl ?_
 refine wk ak rfl rfl rfl rfl rfl rfl rfl rfl rfl rfl (T:=fu) (xs:=([]:List aA)) (vs:=[]) rfl trivial rfl rfl rfl hO (λb4 w5 q6=>?_)
 obtain⟨_,iN,_⟩:=q6.new
 have h7:=q6.own hF.size
 have h0:=h0.tr iN.tr
 have hO:=iN.ob
 have hF:=hF.trans iN.fr
 have hS:=Sub.cons hS b4
 generalize (Value.slice (some ⟨b4,0,none⟩) 0 0)=v8 at*
 refine aF ak [1] [(5,v8),(6,(.slice (some oN) x0.length c3))] rfl ⟨rfl,rfl,trivial⟩ ?_
 refine wi ak rfl rfl rfl rfl rfl rfl rfl rfl rfl rfl rfl rfl rfl rfl hF hO h7 h0 h (λv11 GK B3 fZ=>?_)
 have hF:=fZ.cL h7 hF
 have hS:=Sub.trans hS fZ.sub
 have hO:=fZ.ob
 have o_:=fZ.own
 refine aF ak [3] [(2,v11)] rfl ⟨rfl,trivial⟩ ?_
 refine aX ?_
 refine aR ?_
 refine ed ?_
 exact fh rfl (nS o_ hS hF jy hB)
def JO:jQ SS:=s7 KK 38 93 (λxs=>app 16 [] xs)
theorem adO {R:Type} (xs:List (aG SS)) (h:AH SS) (k:Rs SS->AH SS->List Nat->Option R) (z:R) (hz:(JO).out xs h k=some z): ∃r h' dt,k r h' dt=some z/\iB KK Tryz.prog 38 xs h r h' dt:=
 zQ (e:=93) (cl:=λxs=>app 16 [] xs) ep (eI bA Tryz.func38 rfl) (λ_ _ _ _ _ _ h=>h) (λO w v xs zs hO hv hz=>Sl hO hv hz) xs h k z hz
set_option maxRecDepth 100000 in
set_option maxHeartbeats 4000000 in
theorem Sm {O:List Nat} {w:World} (hO:OB O w) {v0:Value} {x0:List Int} (h0:(Ty.slice (Ty.int .u64)).is O w v0 x0) {r:List Int} (h:app 8 [] x0=some r):Calls Tryz.prog 39 #[v0] w (ia (Ty.int .u64) 28 w.heap.size O w (.slice none 0 0) r):=by
 have hF:=Fr.refl [] w
 have jy:=hO
 have hS:=Dc.Sub.refl O
 have hB:=Nat.le_refl w.heap.size
 refine iW (args:=[v0]) (N:=8) Tryz.func39 rfl rfl rfl ?_
 refine aQ ?_
 refine aY (l:=[0]) rfl ?_
 refine aF ak [0] [(0,v0)] rfl ⟨rfl,trivial⟩ ?_
 refine aX ?_
 refine aR ?_
 refine aQ ?_
 refine aQ ?_
 refine aY (l:=[0,1]) rfl ?_
 refine aF ak [0] [(0,v0),(3,v0)] rfl ⟨rfl,rfl,trivial⟩ ?_
 obtain⟨A2,c3,rfl,zg,zj⟩:=fT h0
 refine aF ak [1] [(0,(.slice A2 x0.length c3)),(4,(.bool A2.isNone))] rfl ⟨rfl,rfl,trivial⟩ ?_
 refine aX ?_
 refine aR ?_
 rcases A2 with _|oN
 ·obtain rfl:=rK h0
  simp[app] at h
  subst h
  refine oE rfl ?_
  refine aQ ?_
  refine aY (l:=[0]) rfl ?_
  refine aF ak [0] [(2,(.slice none 0 0))] rfl ⟨rfl,trivial⟩ ?_
  refine aX ?_
  refine aR ?_
  refine ed ?_
  exact gQ (fh rfl (nS Own.lU hS hF jy hB))
 refine mM rfl ?_
 refine fC ?_
 refine aR ?_
 refine aQ ?_
 refine aY (l:=[0,1,2,3]) rfl ?_
 refine wk ak rfl rfl rfl rfl rfl rfl rfl rfl rfl rfl (T:=(Ty.int .u64)) (xs:=([]:List Int)) (vs:=[]) rfl trivial rfl rfl rfl hO (λb4 w5 q6=>?_)
 obtain⟨_,iN,_⟩:=q6.new
 have h7:=q6.own hF.size
 have h0:=h0.tr iN.tr
 have hO:=iN.ob
 have hF:=hF.trans iN.fr
 have hS:=Sub.cons hS b4
 generalize (Value.slice (some ⟨b4,0,none⟩) 0 0)=v8 at*
 refine aF ak [1] [(5,v8),(6,(.slice (some oN) x0.length c3))] rfl ⟨rfl,rfl,trivial⟩ ?_
 refine wi ak rfl rfl rfl rfl rfl rfl rfl rfl rfl rfl rfl rfl rfl rfl hF hO h7 h0 h (λv11 GK B3 fZ=>?_)
 have hF:=fZ.cL h7 hF
 have hS:=Sub.trans hS fZ.sub
 have hO:=fZ.ob
 have o_:=fZ.own
 refine aF ak [3] [(2,v11)] rfl ⟨rfl,trivial⟩ ?_
 refine aX ?_
 refine aR ?_
 refine ed ?_
 exact fh rfl (nS o_ hS hF jy hB)
def JP:jQ SS:=s7 KK 39 28 (λxs=>app 8 [] xs)
theorem adP {R:Type} (xs:List (aG SS)) (h:AH SS) (k:Rs SS->AH SS->List Nat->Option R) (z:R) (hz:(JP).out xs h k=some z): ∃r h' dt,k r h' dt=some z/\iB KK Tryz.prog 39 xs h r h' dt:=
 zQ (e:=28) (cl:=λxs=>app 8 [] xs) ep (eI bA Tryz.func39 rfl) (λ_ _ _ _ _ _ h=>h) (λO w v xs zs hO hv hz=>Sm hO hv hz) xs h k z hz
set_option maxRecDepth 100000
noncomputable def Hq:aK SS:= { G0 with H:=JL::G0.H }
theorem abx:aw Hq Tryz.prog:=aw.pq (c:=JL) abB adJ
noncomputable def Hr:aK SS:= { Hq with H:=JM::Hq.H }
theorem aby:aw Hr Tryz.prog:=aw.pq (c:=JM) abx adL
noncomputable def Hs:aK SS:= { Hr with H:=JN::Hr.H }
theorem abz:aw Hs Tryz.prog:=aw.pq (c:=JN) aby adN
noncomputable def Ht:aK SS:= { Hs with H:=JO::Hs.H }
theorem abA:aw Ht Tryz.prog:=aw.pq (c:=JO) abz adO
noncomputable def G1:aK SS:= { Ht with H:=JP::Ht.H }
theorem abC:aw G1 Tryz.prog:=aw.pq (c:=JP) abA adP
end Go.Proofs.YtdhaaaeffhaadaaGreatDoor
end
section
namespace Go.Proofs.YtdhaaaeffhaadaaGreatDoor
open Go.RowKit Go.Dc Go.Vx
set_option maxRecDepth 100000 in
set_option maxHeartbeats 4000000 in
theorem ajx {w:World} (s:ByteArray) (c:Int):Calls Tryz.prog 245 #[.string s,.int .u8 c] w (λe w'=>e= .returned (.int .i64 (Lib.indexByte s.data.toList c.toNat.toUInt8))/\Fr [] w w'):=by
 have hF:=Fr.refl [] w
 refine iW (args:=[.string s,.int .u8 c]) (N:=8) Tryz.func245 rfl rfl rfl ?_
 refine aQ ?_
 refine aY (l:=[0]) rfl ?_
 refine aF ak [0] [(0,.string s),(1,.int .u8 c)] rfl ⟨rfl,rfl,trivial⟩ ?_
 refine aX ?_
 refine aR ?_
 refine aQ ?_
 refine aY (l:=[0,1,2,3]) rfl ?_
 refine aF ak [0,1] [(5,.string s),(6,.int .u8 c)] rfl ⟨rfl,rfl,trivial⟩ ?_
 have fO:(callFunc 267 #[.string s,.int .u8 c]).run Tryz.prog w= .ok (.value (.int .i64 (Lib.indexByte s.data.toList c.toNat.toUInt8))) w:=by
  rw[run_callFunc_extern Tryz.func267 rfl rfl rfl rfl,Lib.run_indexByteString];rfl
 refine fW rfl rfl rfl rfl (by intro c h;cases h) (λa hA=>?_) (v:= .int .i64 (Lib.indexByte s.data.toList c.toNat.toUInt8)) (w':=w) (d:=7) ?_
 ·have U:=hA.get 5 _ rfl
  have h2:=hA.get 6 _ rfl
  simp only[execOp,Sem.run_bind,resolve,Act.eval,Deferred.ofValue,Sem.run_pure,Result.andThen_ok,invoke]
  simpa[Act.eval,U,h2] using fO
 refine aF ak [3] [(4,.int .i64 (Lib.indexByte s.data.toList c.toNat.toUInt8))] rfl ⟨rfl,trivial⟩ ?_
 refine aX ?_
 refine aR ?_
 refine ed ?_
 exact fh rfl ⟨rfl,hF⟩
def Fq:b6 SS:=⟨245,λxs k=>match xs with
 |[.one (.v (.string s)),.one (.v (.int .u8 c))]=>k (.ret (.s (.one (.v (.int .i64 (Lib.indexByte s.data.toList c.toNat.toUInt8))))))
 |_=>none⟩
theorem ajy {R:Type} (xs:List (aG SS)) (k:Rs SS->Option R) (z:R) (_:xs.all aG.pure=true) (hz:Fq.out xs k=some z): ∃r,k r=some z/\fY KK Tryz.prog 245 xs r:=by
 simp only[Fq] at hz
 split at hz
 ·rename_i s c h0
  refine⟨_,hz,eI bA Tryz.func245 rfl,λA O w vs hv hO hG=>?_⟩
  obtain⟨y,ys,rfl,⟨U,_⟩,y2,nu,rfl,⟨h2,_⟩,h3⟩:=hv
  cases U;cases h2
  rw[show nu=[] from h3]
  refine(ajx s c).mono ?_
  rintro e w' ⟨rfl,hF⟩
  exact⟨⟨_,rfl,rfl,rfl⟩,hF⟩
 ·cases hz
set_option maxRecDepth 100000
noncomputable def G2:aK SS:= { G1 with C:=Fq::G1.C }
theorem abD:aw G2 Tryz.prog:=aw.cm (c:=Fq) abC ajy
end Go.Proofs.YtdhaaaeffhaadaaGreatDoor
end
section
namespace Go.Proofs.YtdhaaaeffhaadaaGreatDoor
open Go.RowKit Go.Dc Go.Vx
set_option maxRecDepth 100000
theorem ZC (e:Int) (w:World):(Instr.typeAssert (.iface 40 (.int .i64 e)) 20 40 true).run Tryz.prog w= .ok (.tuple #[.int .i64 e,.bool true]) w:=by
 simp[Instr.typeAssert,run_underlying Tryz.underlying40]
theorem WU (e:Int) (w:World) (ox oy:Operand):(do eqGuard .neq 20 ox oy (.iface 40 (.int .i64 e)) .nilIface;binOp .neq 20 (.iface 40 (.int .i64 e)) .nilIface:Sem Value).run Tryz.prog w= .ok (.bool true) w:=by
 simp[go_sem]
theorem WW (w:World) (ox:Operand):(do eqGuard .neq 20 ox (.const .nilIface) .nilIface .nilIface;binOp .neq 20 .nilIface .nilIface:Sem Value).run Tryz.prog w= .ok (.bool false) w:=by
 simp[go_sem,eqGuard]
set_option maxHeartbeats 4000000 in
theorem ae5 {w:World} {p1 p2:Value}:
  CallsDIn (fw none) 0 Tryz.prog 251 #[p1,p2] .returning w (λe' u' w'=>(∃v,e'= .returned v)/\u'= .returning/\w'=w):=by
 refine callsDIn_of_wpSIn Tryz.func251 rfl (by simp[fw]) λJW cs hu=>?_
 apply wpSIn_seq
 apply wpSIn_region
 simp[wpOpsSIn,go_sem,recoverD,hu,Tryz.ntmps251,Exit.thenS]
 refine wpSIn_of_wpIn rfl ?_
 obtain⟨E0,mZ⟩: ∃E0:Env,E0=[(0,p1),(1,p2),(2,.nilIface)]:=⟨_,rfl⟩
 refine(show WC Tryz.prog none 18 _ _ E0 [] w from ?_) _ ⟨by simp,rfl,cE (by subst mZ;refine⟨?_,?_,?_,trivial⟩<;>simp)⟩
 subst mZ
 refine aQ ?_
 refine aY (l:=[0,1]) rfl ?_
 refine aF ak [0] [(6,.nilIface)] rfl ⟨rfl,trivial⟩ ?_
 refine fW (d:=7) rfl rfl rfl rfl (by intro c h;cases h) (λa hA=>?_) (v:= .bool false) (w':=w) ?_
 ·have h:=hA.get 6 _ rfl
  show(do let v<-(do eqGuard .neq 20 (.tmp 6) (.const .nilIface) (a.tmps.getD 6 undef) .nilIface;binOp .neq 20 (a.tmps.getD 6 undef) .nilIface:Sem Value);pure (Next.value v):Sem Next).run _ w=_
  rw[Sem.run_bind,h,WW];rfl
 refine aX ?_
 refine aR ?_
 refine mM rfl ?_
 refine fC λa ha=>?_
 have fA:(results Tryz.f251 a.tmps).run Tryz.prog w= .ok (.tuple #[]) w:=by simp[results,Tryz.results251]
 simp only[bodyPostS]
 refine⟨ha.defers,.returning,?_,.tuple #[],fA,?_⟩
 ·rw[<-hu]
 ·simp
set_option maxHeartbeats 4000000 in
theorem ae7 {w:World} {b1 b2:Nat} {j_ jT:List Value} (e:Int) (U:ck w b1 25 j_) (h2:ck w b2 40 jT) (qY:j_.length=17) (gW:jT.length=1) (aU:b1≠b2):
  CallsDIn (fw none) 0 Tryz.prog 251 #[.pointer (some ⟨b1,0,none⟩),.pointer (some ⟨b2,0,none⟩)] (.panicking [{ v:= .iface 40 (.int .i64 e),recovered:=false }]) w
   (λe' u' w'=>(∃v,e'= .returned v)/\settle u'= .returning/\ ∃w1,Fr [b1] w w1/\ck w1 b1 25 (List.replicate 16 (.int .i64 0)++[.slice none 0 0])/\Fr [b2] w1 w'/\ck w' b2 40 [.int .i64 e]):=by
 refine callsDIn_of_wpSIn Tryz.func251 rfl (by simp[fw]) λJW cs hu=>?_
 apply wpSIn_seq
 apply wpSIn_region
 simp[wpOpsSIn,go_sem,recoverD,hu,Tryz.ntmps251,Exit.thenS]
 refine wpSIn_of_wpIn rfl ?_
 obtain⟨E0,mZ⟩: ∃E0:Env,E0=[(0,.pointer (some ⟨b1,0,none⟩)),(1,.pointer (some ⟨b2,0,none⟩)),(2,.iface 40 (.int .i64 e))]:=⟨_,rfl⟩
 refine(show WC Tryz.prog none 18 _ _ E0 [] w from ?_) _ ⟨by simp,rfl,cE (by subst mZ;refine⟨?_,?_,?_,trivial⟩<;>simp)⟩
 subst mZ
 refine aQ ?_
 refine aY (l:=[0,1]) rfl ?_
 refine aF ak [0] [(0,.pointer (some ⟨b1,0,none⟩)),(1,.pointer (some ⟨b2,0,none⟩)),(2,.iface 40 (.int .i64 e)),(6,.iface 40 (.int .i64 e))] rfl ⟨rfl,rfl,rfl,rfl,trivial⟩ ?_
 refine fW (d:=7) rfl rfl rfl rfl (by intro c h;cases h) (λa hA=>?_) (v:= .bool true) (w':=w) ?_
 ·have h:=hA.get 6 _ rfl
  show(do let v<-(do eqGuard .neq 20 (.tmp 6) (.const .nilIface) (a.tmps.getD 6 undef) .nilIface;binOp .neq 20 (a.tmps.getD 6 undef) .nilIface:Sem Value);pure (Next.value v):Sem Next).run _ w=_
  rw[Sem.run_bind,h,WU];rfl
 refine aX ?_
 refine aR ?_
 refine oE rfl ?_
 refine aQ ?_
 refine aY (l:=[0,1,2,3,4,5,6]) rfl ?_
 refine aF ak [0] [(0,.pointer (some ⟨b1,0,none⟩)),(1,.pointer (some ⟨b2,0,none⟩)),(9,.iface 40 (.int .i64 e))] rfl ⟨rfl,rfl,rfl,trivial⟩ ?_
 refine fW (d:=10) rfl rfl rfl rfl (by intro c h;cases h) (λa hA=>?_) (v:= .tuple #[.int .i64 e,.bool true]) (w':=w) ?_
 ·have h:=hA.get 9 _ rfl
  show(do let v<-Instr.typeAssert (a.tmps.getD 9 undef) 20 40 true;pure (Next.value v):Sem Next).run _ w=_
  rw[Sem.run_bind,h,ZC];rfl
 refine aF ak [2,3,4,5,6] [(0,.pointer (some ⟨b1,0,none⟩)),(1,.pointer (some ⟨b2,0,none⟩)),(3,.int .i64 e),(4,.bool true)] rfl ⟨rfl,rfl,rfl,rfl,trivial⟩ ?_
 refine aX ?_
 refine aR ?_
 refine aQ ?_
 refine aQ ?_
 refine aY (l:=[0,1]) rfl ?_
 refine aF ak [0,1] [(0,.pointer (some ⟨b1,0,none⟩)),(1,.pointer (some ⟨b2,0,none⟩)),(3,.int .i64 e),(14,.bool false)] rfl ⟨rfl,rfl,rfl,rfl,trivial⟩ ?_
 refine aX ?_
 refine aR ?_
 refine mM rfl ?_
 refine fC ?_
 refine aR ?_
 refine aY (l:=[0,1,2,3]) rfl ?_
 refine aF ak [0,1] [(0,.pointer (some ⟨b1,0,none⟩)),(1,.pointer (some ⟨b2,0,none⟩)),(16,.agg (List.replicate 16 (Value.int .i64 0)++[Value.slice none 0 0]).toArray),(17,.int .i64 e)] rfl ⟨rfl,rfl,rfl,rfl,trivial⟩ ?_
 refine h_ ak rfl rfl rfl rfl rfl rfl rfl U (List.replicate 16 (.int .i64 0)++[.slice none 0 0]) rfl rfl (by simp[List.replicate,Value.oneCell']) (by rw[qY];rfl) (List.replicate 16 (.int .i64 0)++[.slice none 0 0]) (by unfold putAt;rw[List.drop_eq_nil_of_le (by simp[qY,gW])];rfl) (λw1 k1 f1=>?_)
 have h2:=h2.fr f1 (by simpa using aU.symm)
 refine h_ ak rfl rfl rfl rfl rfl rfl rfl h2 [.int .i64 e] rfl rfl (by simp[Value.oneCell']) (by rw[gW];rfl) [.int .i64 e] (by unfold putAt;rw[List.drop_eq_nil_of_le (by simp[qY,gW])];rfl) (λw2 k2 f2=>?_)
 refine aX λa ha=>?_
 have fA:(results Tryz.f251 a.tmps).run Tryz.prog w2= .ok (.tuple #[]) w2:=by simp[results,Tryz.results251]
 simp only[bodyPostS]
 refine⟨ha.defers,.panicking [{ v:= .iface 40 (.int .i64 e),recovered:=true }],rfl,.tuple #[],fA,⟨.tuple #[],rfl⟩,rfl,w1,f1,k1,f2,k2⟩
def GS:List Value:=List.replicate 16 (.int .i64 0)++[.slice none 0 0]
def DD:tQ SS:=⟨251,λcs p eL k=>match cs with
 |[.one (.bu i 0),.one (.bu j 0)]=>(match p with
  |none=>k none []
  |some (.iface 40 (.int .i64 e))=>(match eL i,eL j with
   |some (.box 25 j_),some (.box 40 jT)=>bif !(Nat.beq i j)&&(Nat.beq (fB j_) 17&&Nat.beq (fB jT) 1) then k none [(i,some (.box 25 (GS.map .v))),(j,some (.box 40 [.v (.int .i64 e)]))] else none
   |_,_=>none)
  |_=>none)
 |_=>none⟩
theorem WT {i j:Nat} (h:(!(Nat.beq i j))=true):i≠j:=λe=>by subst e;simp at h
theorem ae6 {R:Type} (cs:List (aG SS)) (p:Option Value) (eL:Nat->Option (Ob SS)) (k:Option Value->Up SS->Option R) (z:R) (hz:DD.out cs p eL k=some z): ∃q up,k q up=some z/\tR KK Tryz.prog 251 cs p eL q up:=by
 simp only[DD] at hz
 split at hz
 rotate_left
 ·cases hz
 rename_i i j
 split at hz
 ·refine⟨_,_,hz,eI bA Tryz.func251 rfl,λA O w xs u hx hg hO hG hm=>?_⟩
  obtain⟨x1,ys,rfl,⟨b1,_,e1⟩,x2,nu,rfl,⟨b2,_,e2⟩,e3⟩:=hx
  cases e1;cases e2
  rw[show nu=[] from e3,show u=_ from hm]
  refine ae5.mono ?_
  rintro e u' w' ⟨U,rfl,rfl⟩
  exact⟨U,rfl,A,O,cY.none hO⟩
 ·rename_i e
  split at hz
  rotate_left
  ·cases hz
  rename_i j_ jT U h2
  cases hb:(!(Nat.beq i j)&&(Nat.beq (fB j_) 17&&Nat.beq (fB jT) 1))<;>rw[hb] at hz
  ·cases hz
  simp only[Bool.and_eq_true] at hb
  obtain⟨dC,eF,ko⟩:=hb
  have dC:=WT dC
  refine⟨_,_,hz,eI bA Tryz.func251 rfl,λA O w xs u hx hg hO hG hm=>?_⟩
  obtain⟨b1,GJ,p1,k1,r1,o1⟩:=zW hg U
  obtain⟨b2,Z5,p2,k2,r2,o2⟩:=zW hg h2
  obtain⟨x1,ys,rfl,⟨b1',q1,e1⟩,x2,nu,rfl,⟨b2',q2,e2⟩,e3⟩:=hx
  rw[p1] at q1;rw[p2] at q2
  cases q1;cases q2
  cases e1;cases e2
  rw[show nu=[] from e3,show u=_ from hm]
  have aU:b1≠b2:=λe=>hg.dj i j _ _ _ _ b1 dC U h2 p1 p2 rfl (by rw[e];rfl)
  refine(ae7 e k1 k2 ((kZ r1).trans (Nat.eq_of_beq_eq_true eF)) ((kZ r2).trans (Nat.eq_of_beq_eq_true ko)) aU).mono ?_
  rintro en u' w' ⟨h3,h4,w1,f1,m1,f2,m2⟩
  have E1:cY A O w eL [(i,some (.box 25 (GS.map .v)))] A O w1:=DI hg hO U p1 f1 m1 (X9 (by decide))
  have u5:=hg.c6 hO E1
  have uS:cT eL [(i,some (.box 25 (GS.map LV.v)))] j=some (.box 40 jT):=by
   rw[iz (λV hV=>dC (by simp at hV;exact hV.1.symm))];exact h2
  have E2:cY A O w1 (cT eL [(i,some (.box 25 (GS.map .v)))]) [(j,some (.box 40 [.v (.int .i64 e)]))] A O w':=DI u5 E1.ob uS p2 f2 m2 ⟨[.int .i64 e],[],rfl,⟨rfl,rfl⟩,rfl⟩
  exact⟨h3,h4,A,O,cY.two hg dC E1 E2 hO⟩
 ·cases hz
set_option maxHeartbeats 4000000 in
theorem ae2 {w:World} {p1 p2 p3:Value}:
  CallsDIn (fw none) 0 Tryz.prog 107 #[p1,p2,p3] .returning w (λe' u' w'=>(∃v,e'= .returned v)/\u'= .returning/\w'=w):=by
 refine callsDIn_of_wpSIn Tryz.func107 rfl (by simp[fw]) λJW cs hu=>?_
 apply wpSIn_seq
 apply wpSIn_region
 simp[wpOpsSIn,go_sem,recoverD,hu,Tryz.ntmps107,Exit.thenS]
 refine wpSIn_of_wpIn rfl ?_
 obtain⟨E0,mZ⟩: ∃E0:Env,E0=[(0,p1),(1,p2),(2,p3),(3,.nilIface)]:=⟨_,rfl⟩
 refine(show WC Tryz.prog none 20 _ _ E0 [] w from ?_) _ ⟨by simp,rfl,cE (by subst mZ;refine⟨?_,?_,?_,?_,trivial⟩<;>simp)⟩
 subst mZ
 refine aQ ?_
 refine aY (l:=[0,1]) rfl ?_
 refine aF ak [0] [(7,.nilIface)] rfl ⟨rfl,trivial⟩ ?_
 refine fW (d:=8) rfl rfl rfl rfl (by intro c h;cases h) (λa hA=>?_) (v:= .bool false) (w':=w) ?_
 ·have h:=hA.get 7 _ rfl
  show(do let v<-(do eqGuard .neq 20 (.tmp 7) (.const .nilIface) (a.tmps.getD 7 undef) .nilIface;binOp .neq 20 (a.tmps.getD 7 undef) .nilIface:Sem Value);pure (Next.value v):Sem Next).run _ w=_
  rw[Sem.run_bind,h,WW];rfl
 refine aX ?_
 refine aR ?_
 refine mM rfl ?_
 refine fC λa ha=>?_
 have fA:(results Tryz.f107 a.tmps).run Tryz.prog w= .ok (.tuple #[]) w:=by simp[results,Tryz.results107]
 simp only[bodyPostS]
 refine⟨ha.defers,.returning,?_,.tuple #[],fA,?_⟩
 ·rw[<-hu]
 ·simp
set_option maxHeartbeats 4000000 in
theorem ae4 {w:World} {b0 b1 b2:Nat} {jx j_ jT:List Value} (e:Int) (h0:ck w b0 36 jx) (U:ck w b1 36 j_) (h2:ck w b2 53 jT) (nX:jx.length=22) (qY:j_.length=22) (gW:jT.length=2) (ho: ∀u∈jx,u.oneCell'=true) (aU:b1≠b2):
  CallsDIn (fw none) 0 Tryz.prog 107 #[.pointer (some ⟨b0,0,none⟩),.pointer (some ⟨b1,0,none⟩),.pointer (some ⟨b2,0,none⟩)] (.panicking [{ v:= .iface 40 (.int .i64 e),recovered:=false }]) w
   (λe' u' w'=>(∃v,e'= .returned v)/\settle u'= .returning/\ ∃w1,Fr [b1] w w1/\ck w1 b1 36 jx/\Fr [b2] w1 w'/\ck w' b2 53 [.int .i64 e,.int .u64 0]):=by
 refine callsDIn_of_wpSIn Tryz.func107 rfl (by simp[fw]) λJW cs hu=>?_
 apply wpSIn_seq
 apply wpSIn_region
 simp[wpOpsSIn,go_sem,recoverD,hu,Tryz.ntmps107,Exit.thenS]
 refine wpSIn_of_wpIn rfl ?_
 obtain⟨E0,mZ⟩: ∃E0:Env,E0=[(0,.pointer (some ⟨b0,0,none⟩)),(1,.pointer (some ⟨b1,0,none⟩)),(2,.pointer (some ⟨b2,0,none⟩)),(3,.iface 40 (.int .i64 e))]:=⟨_,rfl⟩
 refine(show WC Tryz.prog none 20 _ _ E0 [] w from ?_) _ ⟨by simp,rfl,cE (by subst mZ;refine⟨?_,?_,?_,?_,trivial⟩<;>simp)⟩
 subst mZ
 refine aQ ?_
 refine aY (l:=[0,1]) rfl ?_
 refine aF ak [0] [(0,.pointer (some ⟨b0,0,none⟩)),(1,.pointer (some ⟨b1,0,none⟩)),(2,.pointer (some ⟨b2,0,none⟩)),(3,.iface 40 (.int .i64 e)),(7,.iface 40 (.int .i64 e))] rfl ⟨rfl,rfl,rfl,rfl,rfl,trivial⟩ ?_
 refine fW (d:=8) rfl rfl rfl rfl (by intro c h;cases h) (λa hA=>?_) (v:= .bool true) (w':=w) ?_
 ·have h:=hA.get 7 _ rfl
  show(do let v<-(do eqGuard .neq 20 (.tmp 7) (.const .nilIface) (a.tmps.getD 7 undef) .nilIface;binOp .neq 20 (a.tmps.getD 7 undef) .nilIface:Sem Value);pure (Next.value v):Sem Next).run _ w=_
  rw[Sem.run_bind,h,WU];rfl
 refine aX ?_
 refine aR ?_
 refine oE rfl ?_
 refine aQ ?_
 refine aY (l:=[0,1,2,3,4,5,6]) rfl ?_
 refine aF ak [0] [(0,.pointer (some ⟨b0,0,none⟩)),(1,.pointer (some ⟨b1,0,none⟩)),(2,.pointer (some ⟨b2,0,none⟩)),(10,.iface 40 (.int .i64 e))] rfl ⟨rfl,rfl,rfl,rfl,trivial⟩ ?_
 refine fW (d:=11) rfl rfl rfl rfl (by intro c h;cases h) (λa hA=>?_) (v:= .tuple #[.int .i64 e,.bool true]) (w':=w) ?_
 ·have h:=hA.get 10 _ rfl
  show(do let v<-Instr.typeAssert (a.tmps.getD 10 undef) 20 40 true;pure (Next.value v):Sem Next).run _ w=_
  rw[Sem.run_bind,h,ZC];rfl
 refine aF ak [2,3,4,5,6] [(0,.pointer (some ⟨b0,0,none⟩)),(1,.pointer (some ⟨b1,0,none⟩)),(2,.pointer (some ⟨b2,0,none⟩)),(4,.int .i64 e),(5,.bool true)] rfl ⟨rfl,rfl,rfl,rfl,rfl,trivial⟩ ?_
 refine aX ?_
 refine aR ?_
 refine aQ ?_
 refine aQ ?_
 refine aY (l:=[0,1]) rfl ?_
 refine aF ak [0,1] [(0,.pointer (some ⟨b0,0,none⟩)),(1,.pointer (some ⟨b1,0,none⟩)),(2,.pointer (some ⟨b2,0,none⟩)),(4,.int .i64 e),(15,.bool false)] rfl ⟨rfl,rfl,rfl,rfl,rfl,trivial⟩ ?_
 refine aX ?_
 refine aR ?_
 refine mM rfl ?_
 refine fC ?_
 refine aR ?_
 refine aY (l:=[0,1,2,3,4]) rfl ?_
 refine fD ak rfl rfl rfl rfl rfl rfl rfl h0 jx (by rw[List.drop_zero];exact List.take_of_length_le (by rw[nX];decide)) nX (.inl rfl) (.agg jx.toArray) rfl ?_
 refine aF ak [1,2] [(1,.pointer (some ⟨b1,0,none⟩)),(2,.pointer (some ⟨b2,0,none⟩)),(17,.agg jx.toArray),(19,.agg #[.int .i64 e,.int .u64 0])] rfl ⟨rfl,rfl,rfl,rfl,trivial⟩ ?_
 refine h_ ak rfl rfl rfl rfl rfl rfl rfl U jx rfl nX ho (by rw[qY];rfl) jx (by unfold putAt;rw[List.drop_eq_nil_of_le (by simp[qY,nX]),List.append_nil];rfl) (λw1 k1 f1=>?_)
 have h2:=h2.fr f1 (by simpa using aU.symm)
 refine h_ ak rfl rfl rfl rfl rfl rfl rfl h2 [.int .i64 e,.int .u64 0] rfl rfl (by simp[Value.oneCell']) (by rw[gW];rfl) [.int .i64 e,.int .u64 0] (by unfold putAt;rw[List.drop_eq_nil_of_le (by simp[gW])];rfl) (λw2 k2 f2=>?_)
 refine aX λa ha=>?_
 have fA:(results Tryz.f107 a.tmps).run Tryz.prog w2= .ok (.tuple #[]) w2:=by simp[results,Tryz.results107]
 simp only[bodyPostS]
 refine⟨ha.defers,.panicking [{ v:= .iface 40 (.int .i64 e),recovered:=true }],rfl,.tuple #[],fA,⟨.tuple #[],rfl⟩,rfl,w1,f1,k1,f2,k2⟩
def DC:tQ SS:=⟨107,λcs p eL k=>match cs with
 |[.one (.bu h 0),.one (.bu i 0),.one (.bu j 0)]=>(match p with
  |none=>k none []
  |some (.iface 40 (.int .i64 e))=>(match eL h,eL i,eL j with
   |some (.box 36 jx),some (.box 36 j_),some (.box 53 jT)=>bif !(Nat.beq i j)&&(Nat.beq (fB jx) 22&&(Nat.beq (fB j_) 22&&Nat.beq (fB jT) 2)) then k none [(i,some (.box 36 jx)),(j,some (.box 53 [.v (.int .i64 e),.v (.int .u64 0)]))] else none
   |_,_,_=>none)
  |_=>none)
 |_=>none⟩
theorem ae3 {R:Type} (cs:List (aG SS)) (p:Option Value) (eL:Nat->Option (Ob SS)) (k:Option Value->Up SS->Option R) (z:R) (hz:DC.out cs p eL k=some z): ∃q up,k q up=some z/\tR KK Tryz.prog 107 cs p eL q up:=by
 simp only[DC] at hz
 split at hz
 rotate_left
 ·cases hz
 rename_i h i j
 split at hz
 ·refine⟨_,_,hz,eI bA Tryz.func107 rfl,λA O w xs u hx hg hO hG hm=>?_⟩
  obtain⟨x0,ys0,rfl,⟨b0,_,e0⟩,x1,ys,rfl,⟨b1,_,e1⟩,x2,nu,rfl,⟨b2,_,e2⟩,e3⟩:=hx
  cases e0;cases e1;cases e2
  rw[show nu=[] from e3,show u=_ from hm]
  refine ae2.mono ?_
  rintro e u' w' ⟨U,rfl,rfl⟩
  exact⟨U,rfl,A,O,cY.none hO⟩
 ·rename_i e
  split at hz
  rotate_left
  ·cases hz
  rename_i jx j_ jT h0 U h2
  cases hb:(!(Nat.beq i j)&&(Nat.beq (fB jx) 22&&(Nat.beq (fB j_) 22&&Nat.beq (fB jT) 2)))<;>rw[hb] at hz
  ·cases hz
  simp only[Bool.and_eq_true] at hb
  obtain⟨dC,hs0,eF,ko⟩:=hb
  have dC:=WT dC
  refine⟨_,_,hz,eI bA Tryz.func107 rfl,λA O w xs u hx hg hO hG hm=>?_⟩
  obtain⟨b0,AN,p0,k0,r0,o0⟩:=zW hg h0
  obtain⟨b1,GJ,p1,k1,r1,o1⟩:=zW hg U
  obtain⟨b2,Z5,p2,k2,r2,o2⟩:=zW hg h2
  obtain⟨x0,ys0,rfl,⟨b0',q0,e0⟩,x1,ys,rfl,⟨b1',q1,e1⟩,x2,nu,rfl,⟨b2',q2,e2⟩,e3⟩:=hx
  rw[p0] at q0;rw[p1] at q1;rw[p2] at q2
  cases q0;cases q1;cases q2
  cases e0;cases e1;cases e2
  rw[show nu=[] from e3,show u=_ from hm]
  have aU:b1≠b2:=λe=>hg.dj i j _ _ _ _ b1 dC U h2 p1 p2 rfl (by rw[e];rfl)
  refine(ae4 e k0 k1 k2 ((kZ r0).trans (Nat.eq_of_beq_eq_true hs0)) ((kZ r1).trans (Nat.eq_of_beq_eq_true eF)) ((kZ r2).trans (Nat.eq_of_beq_eq_true ko)) (X7 r0) aU).mono ?_
  rintro en u' w' ⟨h3,h4,w1,f1,m1,f2,m2⟩
  have E1:cY A O w eL [(i,some (.box 36 jx))] A O w1:=DI hg hO U p1 f1 m1 (rD (f1.tr (lV o1)) (Pl.le.refl A) r0)
  have u5:=hg.c6 hO E1
  have uS:cT eL [(i,some (.box 36 jx))] j=some (.box 53 jT):=by
   rw[iz (λV hV=>dC (by simp at hV;exact hV.1.symm))];exact h2
  have E2:cY A O w1 (cT eL [(i,some (.box 36 jx))]) [(j,some (.box 53 [.v (.int .i64 e),.v (.int .u64 0)]))] A O w':=DI u5 E1.ob uS p2 f2 m2 ⟨[.int .i64 e],[.int .u64 0],rfl,⟨rfl,rfl⟩,[.int .u64 0],[],rfl,⟨rfl,rfl⟩,rfl⟩
  exact⟨h3,h4,A,O,cY.two hg dC E1 E2 hO⟩
 ·cases hz
noncomputable def Hu:aK SS:= { G2 with D:=DD::G2.D }
theorem abF:aw Hu Tryz.prog:=aw.Sx (c:=DD) abD ae6
noncomputable def G3:aK SS:= { Hu with D:=DC::Hu.D }
theorem abE:aw G3 Tryz.prog:=aw.Sx (c:=DC) abF ae3
end Go.Proofs.YtdhaaaeffhaadaaGreatDoor
end
section
namespace Go.Proofs
open Go.Shelf
def Tryz.VL:Go.Shelf.Ren:=⟨λ|156=>212|165=>246|166=>247|169=>248|240=>268|241=>269|276=>276|277=>277|n=>n,λ|31=>185|9=>9|3=>3|4=>4|0=>0|20=>20|72=>283|76=>287|70=>281|37=>175|75=>286|127=>298|164=>302|5=>5|80=>289|n=>n,λ|n=>n⟩
theorem Tryz.VK:Go.Proofs.Lays.n156 Tryz.prog Tryz.VL:= {
 mixed:=by kernel_rfl
 f156:=Tryz.func212.trans (congrArg some (by kernel_rfl))
 f165:=Tryz.func246.trans (congrArg some (by kernel_rfl))
 f166:=Tryz.func247.trans (congrArg some (by kernel_rfl))
 f169:=Tryz.func248.trans (congrArg some (by kernel_rfl))
 f240:=Tryz.func268.trans (congrArg some (by kernel_rfl))
 f241:=Tryz.func269.trans (congrArg some (by kernel_rfl))
 f276:=Tryz.func276.trans (congrArg some (by kernel_rfl))
 f277:=Tryz.func277.trans (congrArg some (by kernel_rfl))
 t0:=Tryz.underlying0
 a0:=Tryz.isAgg0
 z0:=Tryz.sizeOf0
 v0:=Tryz.zeroValue0
 t3:=Tryz.underlying3
 a3:=Tryz.isAgg3
 z3:=Tryz.sizeOf3
 v3:=Tryz.zeroValue3
 t4:=Tryz.underlying4
 a4:=Tryz.isAgg4
 z4:=Tryz.sizeOf4
 v4:=Tryz.zeroValue4
 t9:=Tryz.underlying9
 a9:=Tryz.isAgg9
 z9:=Tryz.sizeOf9
 v9:=Tryz.zeroValue9
 t20:=Tryz.underlying20
 a20:=Tryz.isAgg20
 z20:=Tryz.sizeOf20
 v20:=Tryz.zeroValue20
 t31:=Tryz.underlying185
 a31:=Tryz.isAgg185
 z31:=Tryz.sizeOf185
 v31:=Tryz.zeroValue185
 t37:=Tryz.underlying175
 a37:=Tryz.isAgg175
 z37:=Tryz.sizeOf175
 v37:=Tryz.zeroValue175
 t70:=Tryz.underlying281
 a70:=Tryz.isAgg281
 z70:=Tryz.sizeOf281
 v70:=Tryz.zeroValue281
 t72:=Tryz.underlying283
 a72:=Tryz.isAgg283
 z72:=Tryz.sizeOf283
 v72:=Tryz.zeroValue283
 t75:=Tryz.underlying286
 a75:=Tryz.isAgg286
 z75:=Tryz.sizeOf286
 v75:=Tryz.zeroValue286
 t76:=Tryz.underlying287
 a76:=Tryz.isAgg287
 z76:=Tryz.sizeOf287
 v76:=Tryz.zeroValue287
 t127:=Tryz.underlying298
 a127:=Tryz.isAgg298
 z127:=Tryz.sizeOf298
 v127:=Tryz.zeroValue298
 t164:=Tryz.underlying302
 a164:=Tryz.isAgg302
 z164:=Tryz.sizeOf302
 v164:=Tryz.zeroValue302 }
theorem Tryz.PS:Builder.Extra Tryz.prog Tryz.VL:= {
 sizeBuilder:=by kernel_rfl
 liesBuilder:=by kernel_rfl
 t5:=Tryz.underlying5
 a5:=Tryz.isAgg5
 z5:=Tryz.sizeOf5
 v5:=Tryz.zeroValue5
 infoByte:=by kernel_rfl
 cellsByte:=by kernel_rfl
 sizeByte:=by kernel_rfl
 neB5:=by decide }
open Go.RowKit in
theorem Tryz.strings_Join_none (a:Option Addr) (c:Nat) (sep:ByteArray) (w:World):
 Calls Tryz.prog 212 #[.slice a 0 c,.string sep] w λe w'=>e= .returned (.string ⟨#[]⟩)/\w'=w:=Any.strings_Join_none Tryz.VK Tryz.PS a c sep w
open Go.RowKit in
theorem Tryz.strings_Join (bk o c:Nat) (xs:List ByteArray) (sep:ByteArray) (w:World) (po: ∀(j:Nat) x,xs[j]? =some x->w.cell? ⟨bk,o+j,none⟩=some (.string x)) (Ll:bk<w.heap.size) (hN:xs.length<=140737488355328) (yT:xs.length<=c) (hlen:(Lib.join (xs.map (·.data.toList)) sep.data.toList).length<=140737488355328):
 Calls Tryz.prog 212 #[.slice (some ⟨bk,o,none⟩) xs.length c,.string sep] w λe w'=>e= .returned (.string ⟨(Lib.join (xs.map (·.data.toList)) sep.data.toList).toArray⟩)/\Below w.heap.size w w':=Any.strings_Join Tryz.VK Tryz.PS bk o c xs sep w po Ll hN yT hlen
end Go.Proofs
end
section
namespace Go.Proofs.YtdhaaaeffhaadaaGreatDoor
open Go.RowKit Go.Dc Go.Vx
set_option maxRecDepth 100000
def lR (es:List ByteArray) (sep:ByteArray):ByteArray:=⟨(Lib.join (es.map (·.data.toList)) sep.data.toList).toArray⟩
theorem ank {w:World} {ad:Addr} {v:Value} (h:w.cell? ad=some v):ad.spot=none:=by
 unfold World.cell? at h
 split at h
 ·split at h
  ·cases h
  ·rename_i hs;simpa using hs
 ·cases h
theorem ajK {O:List Nat} {w:World} {v:Value} {es:List ByteArray} (sep:ByteArray) (hv:(Ty.slice Ty.str).is O w v es) (hN:es.length<=140737488355328) (hlen:(lR es sep).size<=140737488355328):
  Calls Tryz.prog 212 #[v,.string sep] w (λe w'=>e= .returned (.string (lR es sep))/\Fr [] w w'):=by
 obtain⟨cs,⟨A,c,hc,hl,hx⟩,jh⟩:=hv
 subst hc
 have jh:v= .slice A es.length c:=jh
 subst jh
 cases es with
 |nil=>
  refine(Tryz.strings_Join_none A c sep w).mono ?_
  rintro e w' ⟨rfl,rfl⟩
  exact⟨rfl,Fr.refl _ _⟩
 |cons e0 es=>
  obtain⟨ad,u,hA,hb,ho,hr,he⟩:=hx 0 e0 rfl
  subst hA
  have hr:u=[.string e0]:=hr
  subst hr
  have h0:(ad.add (0*Ty.str.n)).add 0=ad:=by simp[Addr.add]
  have U:=he.1 0 (.string e0) rfl
  rw[h0] at U
  have hs:=ank U
  obtain⟨b,o,sp⟩:=ad
  have hs:sp=none:=hs
  subst hs
  refine(Tryz.strings_Join b o c (e0::es) sep w (λj x hj=>?_) hb hN hl.1 (by simpa[lR,ByteArray.size] using hlen)).mono ?_
  ·obtain⟨Dp,u,hA,_,_,hr,he⟩:=hx j x hj
   cases hA
   have hr:u=[.string x]:=hr
   subst hr
   have h2:=he.1 0 (.string x) rfl
   have e1:((⟨b,o,none⟩:Addr).add (j*Ty.str.n)).add 0=⟨b,o+j,none⟩:=by
    rw[add_add,show j*Ty.str.n+0=j by show j*1+0=j;omega]
    unfold Addr.add
    split<;>simp_all
   rw[e1] at h2
   exact h2
  ·rintro e w' ⟨rfl,hB⟩
   exact⟨rfl,hB.os,hB.tape,hB.output,hB.size,λk hk _=>hB.block k hk⟩
def Fx:b6 SS:=⟨212,λxs k=>match xs with
 |[.one l,.one (.v (.string sep))]=>(match fN KK (λ_=>none) 9 l with
  |some es=>bif decide (List.length (α:=ByteArray) es<=140737488355328)&&decide ((lR es sep).size<=140737488355328) then k (.ret (.s (.one (.v (.string (lR es sep)))))) else none
  |none=>none)
 |_=>none⟩
theorem ajL {R:Type} (xs:List (aG SS)) (k:Rs SS->Option R) (z:R) (q9:xs.all aG.pure=true) (hz:Fx.out xs k=some z): ∃r,k r=some z/\fY KK Tryz.prog 212 xs r:=by
 clear q9
 simp only[Fx] at hz
 split at hz
 rotate_left
 ·cases hz
 rename_i l sep
 split at hz
 rotate_left
 ·cases hz
 rename_i es LG
 rcases nK hz with⟨hc,hz⟩|⟨_,hz⟩
 rotate_left
 ·cases hz
 simp only[Bool.and_eq_true,decide_eq_true_eq] at hc
 refine⟨_,hz,eI bA Tryz.func212 rfl,λA O w vs hv hO hG=>?_⟩
 obtain⟨y,ys,rfl,U,y2,nu,rfl,⟨h2,_⟩,h3⟩:=hv
 cases h2
 rw[show nu=[] from h3]
 have hg:cI A O w (λ_=>(none:Option (Ob SS))):=⟨(λi X h=>nomatch h),(λi j X Y p q b _ h=>nomatch h)⟩
 have hd:=oT ep hg LG U
 refine(ajK sep hd hc.1 hc.2).mono ?_
 rintro e w' ⟨rfl,hF⟩
 exact⟨⟨_,rfl,rfl,rfl⟩,hF⟩
noncomputable def G4:aK SS:= { G3 with C:=Fx::G3.C }
theorem abG:aw G4 Tryz.prog:=aw.cm (c:=Fx) abE ajL
end Go.Proofs.YtdhaaaeffhaadaaGreatDoor
end
section
namespace Go.Dc
open Go.RowKit
def rB (k:IntKind):Ty (Int×Value) where
 agg:=true
 n:=2
 rep _ _ cs x:=cs=[.int k x.1,x.2]/\ ∃A n c,x.2= .slice A n c
 tr _ h:=h
 len:=λ⟨h,_⟩=>by rw[h];rfl
 one:=λ⟨h,A,n,c,h2⟩ u hu=>by
  rw[h,h2] at hu
  simp only[List.mem_cons,List.not_mem_nil,or_false] at hu
  rcases hu with rfl|rfl<;>rfl
 jK h:=by cases h
theorem Oe (k:IntKind):(rB k).Flat:=λh=>h
structure ee {α:Type} (T:Ty α) (e B:Nat) (w:World) (v:Value) (xs:List α):Prop where
 ex: ∃cs,w.ownsRow B e T.n v xs.length cs/\cq T [] w cs xs
section
variable {α:Type} {T:Ty α} {e B:Nat} {O O':List Nat} {w w':World} {v:Value} {xs:List α}
theorem Own.nR (h:Own T e B O w v xs):ee T e B w v xs:=by
 obtain⟨cs,U,h2⟩:=h.ex
 exact⟨cs,U,h2.tr (Tr.less (anu _))⟩
theorem ee.own (hT:T.Flat) (h:ee T e B w v xs) (hO: ∀g,v.ownBlock=some g->g∈O):Own T e B O w v xs:=by
 obtain⟨cs,U,h2⟩:=h.ex
 exact⟨⟨cs,U,Gl hT h2⟩,hO⟩
theorem ee.lt (h:ee T e B w v xs): ∀g,v.ownBlock=some g->B<=g/\g<w.heap.size:=by
 obtain⟨cs,U,_⟩:=h.ex
 exact U.lt
theorem ee.keep (hT:T.Flat) (h:ee T e B w v xs) (hk: ∀g,v.ownBlock=some g->w'.heap[g]? =w.heap[g]?):ee T e B w' v xs:=by
 obtain⟨cs,⟨h0,U⟩,h2⟩:=h.ex
 refine⟨cs,⟨h0,?_⟩,Gl hT h2⟩
 rcases U with U|⟨g,cap,cur,hv,hg,hh,r⟩
 ·exact .inl U
 ·refine .inr ⟨g,cap,cur,hv,hg,?_,r⟩
  rw[hk g (by rw[hv];rfl)];exact hh
theorem ee.cL (hT:T.Flat) (h:ee T e B w v xs) (hf:Fr [] w w'):ee T e B w' v xs:=h.keep hT λg hg=>hf.block g (h.lt g hg).2 (by simp)
theorem ee.less {B':Nat} (h:ee T e B w v xs) (hb:B'<=B):ee T e B' w v xs:=by
 obtain⟨cs,⟨h0,U⟩,h2⟩:=h.ex
 refine⟨cs,⟨h0,?_⟩,h2⟩
 rcases U with U|⟨g,cap,cur,hv,hg,r⟩
 ·exact .inl U
 ·exact .inr ⟨g,cap,cur,hv,Nat.le_trans hb hg,r⟩
theorem ee.form (h:ee T e B w v xs): ∃A c,v= .slice A xs.length c/\xs.length<=c/\c<=maxLen:=by
 obtain⟨cs,⟨_,U⟩,_⟩:=h.ex
 rcases U with⟨rfl,h2⟩|⟨g,cap,cur,rfl,_,_,h3,h4,_⟩
 ·exact⟨none,0,by rw[h2],by omega,by unfold maxLen;omega⟩
 ·exact⟨_,cap,rfl,h3,h4⟩
theorem ee.data (hT:T.Flat) (h:ee T e B w v xs) (hn: ∀g,v.ownBlock=some g->g∉O):T.slice.is O w v xs:=by
 obtain⟨cs,⟨h0,U⟩,h2⟩:=h.ex
 rcases U with⟨rfl,hl⟩|⟨g,cap,cur,rfl,hg,hh,h3,h4,h5,h6⟩
 ·have:xs=[]:=List.eq_nil_of_length_eq_zero hl
  subst this
  exact ld _ _ _
 ·have uS:cq T O w cs xs:=Gl hT h2
  exact O6 hh (hn g rfl) uS (by rw[uS.len];exact h6) h3 h4
theorem ee.lU:ee T e B w (.slice none 0 0) []:=⟨[],World.ownsRow_nil w B e T.n,rfl⟩
end
def SP.nR {α:Type} (T:Ty α) (hT:T.Flat) (e B:Nat) (xs:List α):SP:=⟨λw v=>ee T e B w v xs,λhf h=>h.cL hT hf⟩
theorem TO {α:Type} {T:Ty α} {e B:Nat} {O:List Nat} {w w':World} {zs:List α} {en:Ending} (hB:w.heap.size=B) (h:ia T e B O w (.slice none 0 0) zs en w'):jP (λ_ w v zs=>ee T e B w v zs) O w zs en w':=by
 subst hB
 obtain⟨v',O',he,ap⟩:=h
 exact⟨v',he,ap.own.nR,ap.cL Own.lU (Fr.refl [] w)⟩
def eo {β:Type} (T:Ty β) (e B:Nat) (w:World):List Nat->List (Int×Value)->List (Int×List β)->Prop
 |S,[],[]=>S=[]
 |S,x::r,y::r'=> ∃S2,x.1=y.1/\S=x.2.ownBlock.toList++S2/\ee T e B w x.2 y.2/\eo T e B w S2 r r'
 |_,_,_=>False
section
variable {β:Type} {T:Ty β} {e B:Nat} {w w':World}
theorem eo.keep (hT:T.Flat): ∀ {S:List Nat} {rs:List (Int×Value)} {xs:List (Int×List β)},eo T e B w S rs xs->(∀g∈S,w'.heap[g]? =w.heap[g]?)->eo T e B w' S rs xs
 |_,[],[],h,_=>h
 |_,_::_,_::_,⟨S2,U,h2,h3,h4⟩,hk=>by
  subst h2
  exact⟨S2,U,rfl,h3.keep hT λg hg=>hk g (List.mem_append_left _ (by rw[hg];simp)),eo.keep hT h4 λg hg=>hk g (List.mem_append_right _ hg)⟩
 |_,[],_::_,h,_=>h.elim
 |_,_::_,[],h,_=>h.elim
theorem eo.lt: ∀ {S:List Nat} {rs:List (Int×Value)} {xs:List (Int×List β)},eo T e B w S rs xs-> ∀g∈S,B<=g/\g<w.heap.size
 |_,[],[],h,g,hg=>by rw[show _=[] from h] at hg;cases hg
 |_,_::_,_::_,⟨S2,U,h2,h3,h4⟩,g,hg=>by
  subst h2
  rcases List.mem_append.1 hg with hg|hg
  ·exact h3.lt g (by simpa using hg)
  ·exact eo.lt h4 g hg
 |_,[],_::_,h,_,_=>h.elim
 |_,_::_,[],h,_,_=>h.elim
theorem eo.cL (hT:T.Flat) {S:List Nat} {rs:List (Int×Value)} {xs:List (Int×List β)} (h:eo T e B w S rs xs) (hf:Fr [] w w'):eo T e B w' S rs xs:=h.keep hT λg hg=>hf.block g (h.lt g hg).2 (by simp)
theorem eo.len: ∀ {S:List Nat} {rs:List (Int×Value)} {xs:List (Int×List β)},eo T e B w S rs xs->rs.length=xs.length
 |_,[],[],_=>rfl
 |_,_::_,_::_,⟨_,_,_,_,h4⟩=>by simp[eo.len h4]
 |_,[],_::_,h=>h.elim
 |_,_::_,[],h=>h.elim
theorem eo.app: ∀ {S S':List Nat} {rs tz:List (Int×Value)} {xs j5:List (Int×List β)},eo T e B w S rs xs->eo T e B w S' tz j5->eo T e B w (S++S') (rs++tz) (xs++j5)
 |_,_,[],_,[],_,h,k=>by rw[show _=[] from h];exact k
 |_,_,_::_,_,_::_,_,⟨S2,U,h2,h3,h4⟩,k=>by subst h2;exact⟨S2++_,U,by simp,h3,eo.app h4 k⟩
 |_,_,[],_,_::_,_,h,_=>h.elim
 |_,_,_::_,_,[],_,h,_=>h.elim
theorem eo.at_: ∀ {S:List Nat} {rs:List (Int×Value)} {xs:List (Int×List β)} {j:Nat} {x:Int×List β},eo T e B w S rs xs->xs[j]? =some x->
  ∃v S1 S2,rs[j]? =some (x.1,v)/\S=S1++v.ownBlock.toList++S2/\ee T e B w v x.2/\
   ∀ {w':World} {v':Value} {ys:List β},(∀g∈S1++S2,w'.heap[g]? =w.heap[g]?)->T.Flat->ee T e B w' v' ys->eo T e B w' (S1++v'.ownBlock.toList++S2) (rs.set j (x.1,v')) (xs.set j (x.1,ys))
 |_,[],[],_,_,_,hj=>by simp at hj
 |_,r::rs,y::xs,0,x,⟨S2,U,h2,h3,h4⟩,hj=>by
  simp at hj
  subst hj
  refine⟨r.2,[],S2,by simp[<-U],by simpa using h2,h3,λ{w' v' ys} hk hT hf=>?_⟩
  exact⟨S2,rfl,by simp,hf,h4.keep hT λg hg=>hk g (by simpa using hg)⟩
 |_,r::rs,y::xs,j+1,x,⟨S2,U,h2,h3,h4⟩,hj=>by
  obtain⟨v,U1,U2,e1,e2,e3,e4⟩:=eo.at_ h4 (by simpa using hj)
  refine⟨v,r.2.ownBlock.toList++U1,U2,by simpa using e1,by rw[h2,e2];simp,e3,λ{w' v' ys} hk hT hf=>?_⟩
  exact⟨U1++v'.ownBlock.toList++U2,U,by simp,h3.keep hT λg hg=>hk g (by simp[hg]),e4 (λg hg=>hk g (by simp at hg ⊢;exact .inr hg)) hT hf⟩
 |_,[],_::_,_,_,h,_=>h.elim
 |_,_::_,[],_,_,_,hj=>by simp at hj
theorem eo.ins: ∀ {S:List Nat} {rs:List (Int×Value)} {xs:List (Int×List β)} (j:Nat) (p:Int),j<=rs.length->eo T e B w S rs xs->eo T e B w S (rs.take j++[(p,.slice none 0 0)]++rs.drop j) (xs.take j++[(p,[])]++xs.drop j)
 |S,rs,xs,0,p,_,h=>by
  simp only[List.take_zero,List.nil_append,List.drop_zero,List.singleton_append]
  exact⟨S,rfl,rfl,ee.lU,h⟩
 |_,r::rs,y::xs,j+1,p,hj,⟨S2,U,h2,h3,h4⟩=>by
  simp only[List.take_succ_cons,List.drop_succ_cons,List.cons_append]
  exact⟨S2,U,h2,h3,eo.ins j p (by simpa using hj) h4⟩
 |_,[],_,j+1,p,hj,_=>by simp at hj
 |_,_::_,[],j+1,p,_,h=>h.elim
end
end Go.Dc
end
section
namespace Go.Proofs.YtdhaaaeffhaadaaGreatDoor
open Go.RowKit Go.Dc Go.Vx
def vp (xs:List ai) (j:Int) (ys:List ai):Option (List ai):=mv 24 xs j ys
def vq (xs:List aA) (j:Int) (ys:List aA):Option (List aA):=mv 16 xs j ys
def sY (xs:List ae) (j:Int) (ys:List ae):Option (List ae):=mv 32 xs j ys
def Gu (xs:List (Int×Value)) (j:Int) (ys:List (Int×Value)):Option (List (Int×Value)):=mv 32 xs j ys
set_option maxRecDepth 100000 in
set_option maxHeartbeats 12000000 in
theorem Fv:(∀ {O:List Nat} {w:World},OB O w-> ∀ {B:Nat},B<=w.heap.size-> ∀ {v:Value} {xs:List ai},Go.Dc.Own lZ 89 B O w v xs-> ∀ {v1:Value} {j:Int},(Ty.int .i64).is O w v1 j-> ∀ {u:Value} {ys:List ai},(Ty.slice lZ).is O w u ys->Plain w u-> ∀ {zs:List ai},vp xs j ys=some zs->let T:Ty ai:=lZ;let e:Nat:=89;let S:Nat:=3;Calls Tryz.prog 231 #[v,v1,u] w (ia T e B O w v zs))/\(∀ {O:List Nat} {w:World},OB O w-> ∀ {B:Nat},B<=w.heap.size-> ∀ {v:Value} {xs:List aA},Go.Dc.Own fu 93 B O w v xs-> ∀ {v1:Value} {j:Int},(Ty.int .i64).is O w v1 j-> ∀ {u:Value} {ys:List aA},(Ty.slice fu).is O w u ys->Plain w u-> ∀ {zs:List aA},vq xs j ys=some zs->let T:Ty aA:=fu;let e:Nat:=93;let S:Nat:=2;Calls Tryz.prog 240 #[v,v1,u] w (ia T e B O w v zs))/\(∀ {O:List Nat} {w:World},OB O w-> ∀ {B:Nat},B<=w.heap.size-> ∀ {v:Value} {xs:List ae},Go.Dc.Own jM 69 B O w v xs-> ∀ {v1:Value} {j:Int},(Ty.int .i64).is O w v1 j-> ∀ {u:Value} {ys:List ae},(Ty.slice jM).is O w u ys->Plain w u-> ∀ {zs:List ae},sY xs j ys=some zs->let T:Ty ae:=jM;let e:Nat:=69;let S:Nat:=4;Calls Tryz.prog 256 #[v,v1,u] w (ia T e B O w v zs))/\(∀ {O:List Nat} {w:World},OB O w-> ∀ {B:Nat},B<=w.heap.size-> ∀ {v:Value} {xs:List (Int×Value)},Go.Dc.Own (rB .u64) 82 B O w v xs-> ∀ {v1:Value} {j:Int},(Ty.int .i64).is O w v1 j-> ∀ {u:Value} {ys:List (Int×Value)},(Ty.slice (rB .u64)).is O w u ys->Plain w u-> ∀ {zs:List (Int×Value)},Gu xs j ys=some zs->let T:Ty (Int×Value):=(rB .u64);let e:Nat:=82;let S:Nat:=2;Calls Tryz.prog 169 #[v,v1,u] w (ia T e B O w v zs)):=by
 refine⟨?_,?_,?_,?_⟩
 all_goals
  intro O w hO B hB v xs hv v1 j U u ys hu hp zs hz T e S
  obtain rfl:=eY.1 U
  obtain⟨hj0,hj1,bz,rfl⟩:=Vu hz
  obtain⟨k,rfl⟩: ∃k:Nat,j=k:=⟨j.toNat,by omega⟩
  simp only[Int.toNat_natCast] at*
  have sG:k<=xs.length:=by omega
  obtain⟨A,c,rfl,fl,mg⟩:=hv.form
  obtain⟨Au,cu,rfl,UY,hmm⟩:=fT hu
  refine iW (args:=[.slice A xs.length c,.int .i64 k,.slice Au ys.length cu]) (N:=95) (by first|exact Tryz.func231|exact Tryz.func240|exact Tryz.func256|exact Tryz.func169) rfl rfl rfl ?_
  refine aQ ?_
  refine aY (l:=[0]) rfl ?_
  refine aF ak [0] [(0,.slice A xs.length c),(1,.int .i64 k),(2,.slice Au ys.length cu)] rfl ⟨rfl,rfl,rfl,trivial⟩ ?_
  refine aX ?_
  refine aR ?_
  refine aQ ?_
  refine aY (l:=[0,1,2]) rfl ?_
  refine aF ak [0,1] [(0,.slice A xs.length c),(1,.int .i64 k),(2,.slice Au ys.length cu),(10,.slice A xs.length c),(11,.int .i64 k)] rfl ⟨rfl,rfl,rfl,rfl,rfl,trivial⟩ ?_
  refine AP ak rfl rfl rfl rfl rfl rfl rfl rfl rfl rfl fl sG ?_
  refine aX ?_
  refine aR ?_
  refine aQ ?_
  refine aY (l:=[0,1,2]) rfl ?_
  refine aF ak [0,1,2] [(0,.slice A xs.length c),(1,.int .i64 k),(2,.slice Au ys.length cu),(7,.int .i64 (ys.length:Int))] rfl ⟨rfl,rfl,rfl,rfl,trivial⟩ ?_
  refine aX ?_
  refine aR ?_
  refine aQ ?_
  refine aQ ?_
  refine aY (l:=[0,1]) rfl ?_
  refine aF ak [0,1] [(0,.slice A xs.length c),(1,.int .i64 k),(2,.slice Au ys.length cu),(7,.int .i64 (ys.length:Int)),(16,.bool ((ys.length:Int)==0))] rfl ⟨rfl,rfl,rfl,rfl,rfl,trivial⟩ ?_
  refine aX ?_
  refine aR ?_
  by_cases L2:ys.length=0
  ·have dU:ys=[]:=List.eq_nil_of_length_eq_zero L2
   refine jv rfl (by simp[L2]) ?_
   refine aQ ?_
   refine aY (l:=[0,1]) rfl ?_
   refine aF ak [0,1] [(6,.slice A xs.length c)] rfl ⟨rfl,trivial⟩ ?_
   refine aX ?_
   refine aR ?_
   refine ed ?_
   refine gQ (fh rfl ⟨_,O,rfl,?_⟩)
   have e:xs.take k++ys++xs.drop k=xs:=by rw[dU];simp
   rw[e]
   exact⟨hv,Tr.refl _ _,hO,Sub.refl _,λ_ _ _=>rfl,λ_ _ h=>h⟩
  refine jO rfl (beq_eq_false_iff_ne.2 (by omega)) ?_
  refine fC ?_
  refine aR ?_
  refine aQ ?_
  refine aY (l:=[0,1,2]) rfl ?_
  refine aF ak [0,1,2] [(0,.slice A xs.length c),(1,.int .i64 k),(2,.slice Au ys.length cu),(7,.int .i64 (ys.length:Int)),(8,.int .i64 (xs.length:Int))] rfl ⟨rfl,rfl,rfl,rfl,rfl,trivial⟩ ?_
  refine aX ?_
  refine aR ?_
  refine aQ ?_
  refine aQ ?_
  refine aY (l:=[0,1,2]) rfl ?_
  refine aF ak [0,1,2] [(0,.slice A xs.length c),(1,.int .i64 k),(2,.slice Au ys.length cu),(7,.int .i64 (ys.length:Int)),(8,.int .i64 (xs.length:Int)),(22,.bool ((k:Int)==(xs.length:Int)))] rfl ⟨rfl,rfl,rfl,rfl,rfl,rfl,trivial⟩ ?_
  refine aX ?_
  refine aR ?_
  by_cases UQ:k=xs.length
  ·refine jv rfl (by simp[UQ]) ?_
   refine aQ ?_
   refine aY (l:=[0,1,2,3]) rfl ?_
   refine aF ak [0,1] [(23,.slice A xs.length c),(24,.slice Au ys.length cu)] rfl ⟨rfl,rfl,trivial⟩ ?_
   refine aad ak rfl rfl rfl rfl rfl rfl rfl rfl rfl (by decide) rfl (by decide) rfl rfl hB hO hv hu (by simp only[Nat.reduceMul] at bz ⊢;omega) (λv' w' O' iZ=>?_)
   refine aF ak [3] [(6,v')] rfl ⟨rfl,trivial⟩ ?_
   refine aX ?_
   refine aR ?_
   refine ed ?_
   refine gQ (fh rfl ⟨_,O',rfl,?_⟩)
   have e:xs.take k++ys++xs.drop k=xs++ys:=by subst UQ;simp
   rw[e]
   exact iZ
  refine jO rfl (by simp;omega) ?_
  refine fC ?_
  refine aR ?_
  obtain⟨cs,⟨bU,iL⟩,fp⟩:=hv.ex
  rcases iL with⟨_,nX⟩|⟨g,c2,cur,iL,iY,hh,lM,sx,eW,kT⟩
  ·omega
  injection iL with hA sJ jz
  subst hA;subst jz
  have gI:=hv.mem g rfl
  cases Au with
  |none=>exact absurd (rK hu) (λh=>L2 (by rw[h];rfl))
  |some ad=>
  obtain⟨apT,cu',tu,LQ⟩:=hp ad _ _ rfl
  obtain⟨_,us,iK,mh⟩:=Az hu
  have fc:us.length=ys.length*S:=iK.len
  have bU:cs.length=xs.length*S:=bU
  have hT:T.n=S:=rfl
  rw[hT] at eW kT
  have Un:ad.block≠g:=by
   intro e
   obtain⟨y,hy⟩: ∃y,ys[0]? =some y:=⟨_,List.getElem?_eq_getElem (by omega)⟩
   obtain⟨Dp,e',sK⟩:=OZ hu hy
   cases e'
   obtain⟨_,⟨_,_,Ln,_,iI,_⟩,jz⟩:=sK
   subst Ln
   have jz:Value.pointer (some (ad.add (0*T.n)))= .pointer (some _):=jz
   injection jz with jz
   injection jz with jz
   rw[<-jz,l7,e] at iI
   exact iI gI
  have po: ∀j,w.cell? ⟨g,j,none⟩=cur[j]? :=λj=>cell_of_row w g j cur e (0,0) hh
  have aiB: ∀j x,cs[j]? =some x->cur.toList[j]? =some x:=λj x hx=>by
   rw[<-kT,List.getElem?_take] at hx
   split at hx
   ·exact hx
   ·cases hx
  have Ls: ∀q,fG w ⟨g,q,none⟩ (cs.drop q):=λq j x hx=>by
   rw[iD,po,<-Array.getElem?_toList]
   rw[List.getElem?_drop] at hx
   exact aiB _ x hx
  have hkS:k*S<=xs.length*S:=Nat.mul_le_mul_right _ sG
  have apr:xs.length*S<=c*S:=Nat.mul_le_mul_right _ lM
  have nZ: ∀x∈cs,x.oneCell'=true:=fp.one
  refine aQ ?_
  refine aQ ?_
  refine aY (l:=[0,1,2,3,4,5]) rfl ?_
  have Mq:IntKind.i64.wrap ((xs.length:Int)+(ys.length:Int))=((xs.length+ys.length:Nat):Int):=by
   rw[IntKind.wrap_i64];unfold maxLen at*;omega
  refine aF ak [0,1,2,3,4,5] [(0,.slice (some ⟨g,0,none⟩) xs.length c),(1,.int .i64 k),(2,.slice (some ad) ys.length cu),(7,.int .i64 (ys.length:Int)),(8,.int .i64 (xs.length:Int)),(31,.bool (decide (IntKind.i64.wrap ((xs.length:Int)+(ys.length:Int))>(c:Int))))] rfl ⟨rfl,rfl,rfl,rfl,rfl,rfl,trivial⟩ ?_
  refine aX ?_
  refine aR ?_
  rw[Mq]
  by_cases apv:c<xs.length+ys.length
  ·refine jv rfl (by simp;omega) ?_
   refine aQ ?_
   refine aY (l:=[0,1,2,3,4,5,6,7,8,9]) rfl ?_
   refine aF ak [0,1] [(0,.slice (some ⟨g,0,none⟩) xs.length c),(1,.int .i64 k),(2,.slice (some ad) ys.length cu),(7,.int .i64 (ys.length:Int)),(8,.int .i64 (xs.length:Int)),(32,.slice (some ⟨g,0,none⟩) xs.length c),(33,.int .i64 k)] rfl ⟨rfl,rfl,rfl,rfl,rfl,rfl,rfl,trivial⟩ ?_
   refine PB ak rfl rfl rfl rfl rfl rfl rfl rfl rfl rfl lM (by omega) ?_
   refine aF ak [3,4,5,6,7] [(0,.slice (some ⟨g,0,none⟩) xs.length c),(1,.int .i64 k),(2,.slice (some ad) ys.length cu),(7,.int .i64 (ys.length:Int)),(34,.slice (some ⟨g,0,none⟩) k c),(39,.int .i64 (IntKind.i64.wrap (IntKind.i64.wrap ((xs.length:Int)+(ys.length:Int))-(k:Int))))] rfl ⟨rfl,rfl,rfl,rfl,rfl,rfl,trivial⟩ ?_
   have lQ:IntKind.i64.wrap (IntKind.i64.wrap ((xs.length:Int)+(ys.length:Int))-(k:Int))=((xs.length+ys.length-k:Nat):Int):=by
    rw[Mq,IntKind.wrap_i64];unfold maxLen at*;omega
   rw[lQ]
   have gX:(cs.take (k*S)).length=k*S:=by rw[List.length_take];omega
   refine ao9 ak rfl rfl rfl rfl rfl rfl rfl rfl rfl rfl rfl rfl rfl (us:=cs.take (k*S)) (λj x hx=>by
    rw[List.getElem?_take] at hx
    split at hx
    ·have:=Ls 0 j x (by simpa using hx);exact this
    ·cases hx) gX (by omega) (by omega) (by simp only[Nat.reduceMul] at bz ⊢;omega) rfl ?_
   have U5:k+(xs.length+ys.length-k)=xs.length+ys.length:=by omega
   rw[U5]
   generalize hC:grownCap w (xs.length+ys.length) c e=C
   have KC:xs.length+ys.length<=C:=by rw[<-hC];exact grownCap_ge _ _ _ _
   have hCm:C<=maxLen:=by rw[<-hC];exact grownCap_le_maxLen _ _ _ _ (by unfold maxLen at*;omega)
   have hCS:(xs.length+ys.length)*S<=C*S:=Nat.mul_le_mul_right _ KC
   refine aF ak [9] [(0,.slice (some ⟨g,0,none⟩) xs.length c),(1,.int .i64 k),(2,.slice (some ad) ys.length cu),(7,.int .i64 (ys.length:Int)),(9,.slice (some ⟨w.heap.size,0,none⟩) (xs.length+ys.length) C)] rfl ⟨rfl,rfl,rfl,rfl,rfl,trivial⟩ ?_
   refine aX ?_
   refine aR ?_
   obtain⟨Z,Ui,KI⟩:=amG (cs:=cs.take (k*S)) (xs.length+ys.length-k) (C-(xs.length+ys.length)) (by first|exact(show(Value.cells (.agg #[(.int .u64 0),(.int .i64 0),(.int .u64 0)])).size=S from(λ(_:e=89)=>rfl) rfl)|exact(show(Value.cells (.agg #[(.int .u64 0),(.int .u64 0)])).size=S from(λ(_:e=93)=>rfl) rfl)|exact(show(Value.cells (.agg #[(.int .u64 0),(.int .u64 0),(.bool false),(.int .u64 0)])).size=S from(λ(_:e=69)=>rfl) rfl)|exact(show(Value.cells (.agg #[.int .u64 0,.slice none 0 0])).size=S from(λ(_:e=82)=>rfl) rfl))
   rw[show xs.length+ys.length-k+(C-(xs.length+ys.length))=C-k by omega] at KI
   generalize (cs.take (k*S)).toArray++Builtin.zeroCells _ (xs.length+ys.length-k)++Builtin.zeroCells _ (C-(xs.length+ys.length))=row at*
   have hCk:(C-k)*S+k*S=C*S:=by rw[<-Nat.add_mul];congr 1;omega
   have apR:row.size=C*S:=by rw[<-Array.length_toList,Ui,List.length_append,KI,gX];omega
   have ve:=rm (O:=O) (w:=w.drew) hO e row.toList
   simp only[Array.toArray_toList] at ve
   generalize jZ:w.drew.alloc (.cells row e)=w1 at*
   have KE:w1.heap[w.heap.size]? =some (.cells row e (0,0)):=by have:=ve.bY;unfold ck at this;simpa using this
   have qQ:Fr [] w w1:=(Fr.drew [] w).trans ve.fr
   have Mi:(xs.length+ys.length)*S=k*S+ys.length*S+(xs.length-k)*S:=by rw[<-Nat.add_mul,<-Nat.add_mul];congr 1;omega
   have UP:(k+ys.length)*S=k*S+ys.length*S:=Nat.add_mul _ _ _
   have aiX:(xs.length-k)*S+k*S=xs.length*S:=by rw[<-Nat.add_mul];congr 1;omega
   refine aQ ?_
   refine aY (l:=[0,1,2,3,4]) rfl ?_
   refine aF ak [0,1] [(0,.slice (some ⟨g,0,none⟩) xs.length c),(1,.int .i64 k),(2,.slice (some ad) ys.length cu),(7,.int .i64 (ys.length:Int)),(9,.slice (some ⟨w.heap.size,0,none⟩) (xs.length+ys.length) C),(41,.slice (some ⟨w.heap.size,0,none⟩) (xs.length+ys.length) C),(42,.int .i64 k)] rfl ⟨rfl,rfl,rfl,rfl,rfl,rfl,rfl,trivial⟩ ?_
   refine AP ak rfl rfl rfl rfl rfl rfl rfl rfl rfl rfl KC (by omega) ?_
   rw[if_neg (by omega),Option.map_some,iD,Nat.zero_add]
   refine aF ak [3] [(0,.slice (some ⟨g,0,none⟩) xs.length c),(1,.int .i64 k),(7,.int .i64 (ys.length:Int)),(9,.slice (some ⟨w.heap.size,0,none⟩) (xs.length+ys.length) C),(43,.slice (some ⟨w.heap.size,k*S,none⟩) (xs.length+ys.length-k) (C-k)),(44,.slice (some ad) ys.length cu)] rfl ⟨rfl,rfl,rfl,rfl,rfl,rfl,trivial⟩ ?_
   have Lh:ad.block<w.heap.size:=(Array.getElem?_eq_some_iff.1 LQ).1
   refine PA ak rfl rfl rfl rfl rfl rfl rfl rfl rfl rfl KE (mh.keep (qQ.block _ Lh (by simp))) fc iK.one (by omega) (by omega) (λz=>?_)
   rw[Ui,List.take_left' gX]
   generalize eN:(cs.take (k*S)++us++List.drop (k*S+us.length) (cs.take (k*S)++Z)).toArray=tw
   obtain⟨Z2,Uj,Uk⟩: ∃Z2:List Value,tw.toList=cs.take (k*S)++us++Z2/\Z2.length=C*S-(k*S+ys.length*S):=by
    refine⟨_,by rw[<-eN],?_⟩
    simp only[List.length_drop,List.length_append,gX,KI,fc]
    omega
   clear eN
   have uZ:=qd (new:=tw) KE
   have T7:(w1.setRow w.heap.size tw).heap[w.heap.size]? =some (.cells tw e (0,0)):=setRow_heap w1 _ _ _ _ _ KE
   generalize apU:w1.setRow w.heap.size tw=w2 at*
   have qL:Fr [] w w2:=qQ.own uZ (Nat.le_refl _)
   refine aX ?_
   refine aR ?_
   refine aQ ?_
   have ra:IntKind.i64.wrap ((k:Int)+(ys.length:Int))=((k+ys.length:Nat):Int):=by rw[IntKind.wrap_i64];unfold maxLen at*;omega
   refine GM mixed [⟨46,[],[9]⟩,⟨47,[],[1]⟩,⟨48,[],[7]⟩,⟨49,[1,2],[]⟩,⟨50,[0,3],[]⟩,⟨51,[],[0]⟩,⟨52,[],[1]⟩,⟨53,[5,6],[]⟩] [SP.eq (.slice (some ⟨w.heap.size,0,none⟩) (xs.length+ys.length) C),SP.eq (.int .i64 k),SP.eq (.int .i64 (ys.length:Int)),SP.eq (.int .i64 (IntKind.i64.wrap ((k:Int)+(ys.length:Int)))),SP.eq (.slice (some ⟨w.heap.size,(k+ys.length)*S,none⟩) (xs.length-k) (C-(k+ys.length))),SP.eq (.slice (some ⟨g,0,none⟩) xs.length c),SP.eq (.int .i64 k),SP.eq (.slice (some ⟨g,k*S,none⟩) (xs.length-k) (c-k))] rfl rfl rfl rfl ⟨?_,?_,?_,?_,?_,?_,?_,?_,trivial⟩ ?_
   ·intro a w3 bR hN bc hb hd
    exact d_ ak ⟨hN,bc,cE (E:=[(9,.slice (some ⟨w.heap.size,0,none⟩) (xs.length+ys.length) C)]) ⟨hb 9 rfl _ rfl,trivial⟩⟩ rfl rfl rfl rfl rfl
   ·intro a w3 bR hN bc hb hd
    exact d_ ak ⟨hN,bc,cE (E:=[(1,.int .i64 k)]) ⟨hb 1 rfl _ rfl,trivial⟩⟩ rfl rfl rfl rfl rfl
   ·intro a w3 bR hN bc hb hd
    exact d_ ak ⟨hN,bc,cE (E:=[(7,.int .i64 (ys.length:Int))]) ⟨hb 7 rfl _ rfl,trivial⟩⟩ rfl rfl rfl rfl rfl
   ·intro a w3 bR hN bc hb hd
    exact d_ ak ⟨hN,bc,cE (E:=[(47,.int .i64 k),(48,.int .i64 (ys.length:Int))]) ⟨(hd 1 rfl _ _ rfl rfl),(hd 2 rfl _ _ rfl rfl),trivial⟩⟩ rfl rfl rfl rfl rfl
   ·intro a w3 bR hN bc hb hd
    have h49:a.tmps.getD 49 undef= .int .i64 ((k+ys.length:Nat):Int):=by rw[<-ra];exact hd 3 rfl _ _ rfl rfl
    refine(zY ak ⟨hN,bc,cE (E:=[(46,.slice (some ⟨w.heap.size,0,none⟩) (xs.length+ys.length) C),(49,.int .i64 ((k+ys.length:Nat):Int))]) ⟨(hd 0 rfl _ _ rfl rfl),h49,trivial⟩⟩ rfl rfl rfl rfl rfl rfl rfl rfl rfl KC (by omega)).weaken (λu w4 ⟨hu,hf⟩=>⟨?_,hf⟩)
    rw[hu,if_neg (by omega),Option.map_some,iD,Nat.zero_add,show xs.length+ys.length-(k+ys.length)=xs.length-k by omega]
    rfl
   ·intro a w3 bR hN bc hb hd
    exact d_ ak ⟨hN,bc,cE (E:=[(0,.slice (some ⟨g,0,none⟩) xs.length c)]) ⟨hb 0 rfl _ rfl,trivial⟩⟩ rfl rfl rfl rfl rfl
   ·intro a w3 bR hN bc hb hd
    exact d_ ak ⟨hN,bc,cE (E:=[(1,.int .i64 k)]) ⟨hb 1 rfl _ rfl,trivial⟩⟩ rfl rfl rfl rfl rfl
   ·intro a w3 bR hN bc hb hd
    refine(zY ak ⟨hN,bc,cE (E:=[(51,.slice (some ⟨g,0,none⟩) xs.length c),(52,.int .i64 k)]) ⟨(hd 5 rfl _ _ rfl rfl),(hd 6 rfl _ _ rfl rfl),trivial⟩⟩ rfl rfl rfl rfl rfl rfl rfl rfl rfl lM sG).weaken (λu w4 ⟨hu,hf⟩=>⟨?_,hf⟩)
    rw[hu,if_neg (by omega),Option.map_some,iD,Nat.zero_add]
    rfl
   intro a w3 f3 hN bc hb hr
   have sr:w3.heap[w.heap.size]? =some (.cells tw e (0,0)):=(f3.block _ (Array.getElem?_eq_some_iff.1 T7).1 (by simp)).trans T7
   have T3:Fr [] w w3:=qL.trans f3
   refine AQ (E:=[(9,.slice (some ⟨w.heap.size,0,none⟩) (xs.length+ys.length) C),(50,.slice (some ⟨w.heap.size,(k+ys.length)*S,none⟩) (xs.length-k) (C-(k+ys.length))),(53,.slice (some ⟨g,k*S,none⟩) (xs.length-k) (c-k))]) (l:=[8]) hN bc ⟨hb 9 _ rfl rfl,(hr 4 _ _ rfl rfl),(hr 7 _ _ rfl rfl),trivial⟩ rfl ?_
   have pC:g<w.heap.size:=(Array.getElem?_eq_some_iff.1 hh).1
   have apM:tw.size=C*S:=by rw[<-Array.length_toList,Uj,List.length_append,List.length_append,gX,fc,Uk];omega
   have fz:(cs.drop (k*S)).length=(xs.length-k)*S:=by rw[List.length_drop];omega
   refine PA ak rfl rfl rfl rfl rfl rfl rfl rfl rfl rfl sr ((Ls (k*S)).keep (T3.block _ pC (by simp))) fz (λu hu=>nZ u (List.mem_of_mem_drop hu)) (Nat.le_refl _) (by omega) (λz=>?_)
   rw[Uj,List.take_left' (by rw[List.length_append,gX,fc,UP])]
   generalize sL:(cs.take (k*S)++us++cs.drop (k*S)++List.drop ((k+ys.length)*S+(cs.drop (k*S)).length) (cs.take (k*S)++us++Z2)).toArray=k_
   obtain⟨Z3,yK,En⟩: ∃Z3:List Value,k_.toList=cs.take (k*S)++us++cs.drop (k*S)++Z3/\Z3.length=C*S-(xs.length+ys.length)*S:=by
    refine⟨_,by rw[<-sL],?_⟩
    simp only[List.length_drop,List.length_append,gX,Uk,fc,bU]
    omega
   clear sL
   have yZ:=qd (new:=k_) sr
   have yA:(w3.setRow w.heap.size k_).heap[w.heap.size]? =some (.cells k_ e (0,0)):=setRow_heap w3 _ _ _ _ _ sr
   generalize w3.setRow w.heap.size k_=w4 at*
   have yz:Fr [] w w4:=T3.own yZ (Nat.le_refl _)
   refine aX ?_
   refine aR ?_
   refine aQ ?_
   refine aY (l:=[0,1]) rfl ?_
   refine aF ak [0,1] [(6,.slice (some ⟨w.heap.size,0,none⟩) (xs.length+ys.length) C)] rfl ⟨rfl,trivial⟩ ?_
   refine aX ?_
   refine aR ?_
   refine ed ?_
   refine gQ (fh rfl ⟨_,w.heap.size::O,rfl,?_⟩)
   have iq:(xs.take k++ys++xs.drop k).length=xs.length+ys.length:=by simp only[List.length_append,List.length_take,List.length_drop];omega
   have fq:Tr O w (w.heap.size::O) w4:=Pe yz (Nat.le_refl _)
   have:=TX (T:=T) (e:=e) (B:=B) (v:= .slice (some ⟨g,0,none⟩) xs.length c) (zs:=xs.take k++ys++xs.drop k) (cap:=C) (cs:=cs.take (k*S)++us++cs.drop (k*S)) hO (Nat.le_refl _) hB yz yA (by rw[hT,<-Array.length_toList,yK];simp only[List.length_append,gX,fc,fz,En];omega) hCm (by omega)
    ((((fp.take k).app iK).app (fp.drop k)).tr fq) (by rw[iq,hT,yK];exact List.take_left' (by simp only[List.length_append,gX,fc,fz];omega))
   rw[iq] at this
   exact this
  ·
   refine jO rfl (by simp;omega) ?_
   refine fC ?_
   refine aR ?_
   have apQ:(xs.length+ys.length)*S<=c*S:=Nat.mul_le_mul_right _ (by omega)
   have Mi:(xs.length+ys.length)*S=k*S+ys.length*S+(xs.length-k)*S:=by rw[<-Nat.add_mul,<-Nat.add_mul];congr 1;omega
   have UP:(k+ys.length)*S=k*S+ys.length*S:=Nat.add_mul _ _ _
   have aiX:(xs.length-k)*S+k*S=xs.length*S:=by rw[<-Nat.add_mul];congr 1;omega
   have fz:(cs.drop (k*S)).length=(xs.length-k)*S:=by rw[List.length_drop];omega
   have gX:(cs.take (k*S)).length=k*S:=by rw[List.length_take];omega
   refine aQ ?_
   refine aY (l:=[0,1,2,3,4,5]) rfl ?_
   refine aF ak [0,1,2,3] [(1,.int .i64 k),(2,.slice (some ad) ys.length cu),(7,.int .i64 (ys.length:Int)),(8,.int .i64 (xs.length:Int)),(56,.slice (some ⟨g,0,none⟩) xs.length c),(59,.int .i64 (IntKind.i64.wrap ((xs.length:Int)+(ys.length:Int))))] rfl ⟨rfl,rfl,rfl,rfl,rfl,rfl,trivial⟩ ?_
   rw[Mq]
   refine PB ak rfl rfl rfl rfl rfl rfl rfl rfl rfl rfl lM (by omega) ?_
   refine aF ak [5] [(0,.slice (some ⟨g,0,none⟩) (xs.length+ys.length) c),(1,.int .i64 k),(2,.slice (some ad) ys.length cu),(7,.int .i64 (ys.length:Int)),(8,.int .i64 (xs.length:Int))] rfl ⟨rfl,rfl,rfl,rfl,rfl,trivial⟩ ?_
   refine aX ?_
   refine aR ?_
   refine aQ ?_
   refine aQ ?_
   refine aY (l:=[0,1,2,3,4,5,6,7]) rfl ?_
   have ra:IntKind.i64.wrap ((k:Int)+(ys.length:Int))=((k+ys.length:Nat):Int):=by rw[IntKind.wrap_i64];unfold maxLen at*;omega
   refine aF ak [0,1,2,3,4] [(0,.slice (some ⟨g,0,none⟩) (xs.length+ys.length) c),(1,.int .i64 k),(2,.slice (some ad) ys.length cu),(7,.int .i64 (ys.length:Int)),(8,.int .i64 (xs.length:Int)),(61,.slice (some ad) ys.length cu),(62,.slice (some ⟨g,0,none⟩) (xs.length+ys.length) c),(65,.int .i64 (IntKind.i64.wrap ((k:Int)+(ys.length:Int))))] rfl ⟨rfl,rfl,rfl,rfl,rfl,rfl,rfl,rfl,trivial⟩ ?_
   rw[ra]
   refine AP ak rfl rfl rfl rfl rfl rfl rfl rfl rfl rfl (by omega) (by omega) ?_
   rw[if_neg (by omega),Option.map_some,iD,Nat.zero_add]
   refine ape ak rfl rfl rfl rfl rfl (by first|exact Tryz.func258|exact Tryz.func264|exact Tryz.func271|exact Tryz.func206) rfl rfl rfl rfl rfl rfl rfl rfl rfl Un LQ hh (by rw[eW];omega) ?_
   refine aF ak [7] [(0,.slice (some ⟨g,0,none⟩) (xs.length+ys.length) c),(1,.int .i64 k),(2,.slice (some ad) ys.length cu),(7,.int .i64 (ys.length:Int)),(68,.bool (!false))] rfl ⟨rfl,rfl,rfl,rfl,rfl,trivial⟩ ?_
   refine aX ?_
   refine aR ?_
   refine jv rfl rfl ?_
   refine aQ ?_
   refine GM mixed [⟨69,[],[0]⟩,⟨70,[],[1]⟩,⟨71,[],[7]⟩,⟨72,[1,2],[]⟩,⟨73,[0,3],[]⟩,⟨74,[],[0]⟩,⟨75,[],[1]⟩,⟨76,[5,6],[]⟩] [SP.eq (.slice (some ⟨g,0,none⟩) (xs.length+ys.length) c),SP.eq (.int .i64 k),SP.eq (.int .i64 (ys.length:Int)),SP.eq (.int .i64 (IntKind.i64.wrap ((k:Int)+(ys.length:Int)))),SP.eq (.slice (some ⟨g,(k+ys.length)*S,none⟩) (xs.length-k) (c-(k+ys.length))),SP.eq (.slice (some ⟨g,0,none⟩) (xs.length+ys.length) c),SP.eq (.int .i64 k),SP.eq (.slice (some ⟨g,k*S,none⟩) (xs.length+ys.length-k) (c-k))] rfl rfl rfl rfl ⟨?_,?_,?_,?_,?_,?_,?_,?_,trivial⟩ ?_
   ·intro a w3 bR hN bc hb hd
    exact d_ ak ⟨hN,bc,cE (E:=[(0,.slice (some ⟨g,0,none⟩) (xs.length+ys.length) c)]) ⟨hb 0 rfl _ rfl,trivial⟩⟩ rfl rfl rfl rfl rfl
   ·intro a w3 bR hN bc hb hd
    exact d_ ak ⟨hN,bc,cE (E:=[(1,.int .i64 k)]) ⟨hb 1 rfl _ rfl,trivial⟩⟩ rfl rfl rfl rfl rfl
   ·intro a w3 bR hN bc hb hd
    exact d_ ak ⟨hN,bc,cE (E:=[(7,.int .i64 (ys.length:Int))]) ⟨hb 7 rfl _ rfl,trivial⟩⟩ rfl rfl rfl rfl rfl
   ·intro a w3 bR hN bc hb hd
    exact d_ ak ⟨hN,bc,cE (E:=[(70,.int .i64 k),(71,.int .i64 (ys.length:Int))]) ⟨(hd 1 rfl _ _ rfl rfl),(hd 2 rfl _ _ rfl rfl),trivial⟩⟩ rfl rfl rfl rfl rfl
   ·intro a w3 bR hN bc hb hd
    have h72:a.tmps.getD 72 undef= .int .i64 ((k+ys.length:Nat):Int):=by rw[<-ra];exact hd 3 rfl _ _ rfl rfl
    refine(zY ak ⟨hN,bc,cE (E:=[(69,.slice (some ⟨g,0,none⟩) (xs.length+ys.length) c),(72,.int .i64 ((k+ys.length:Nat):Int))]) ⟨(hd 0 rfl _ _ rfl rfl),h72,trivial⟩⟩ rfl rfl rfl rfl rfl rfl rfl rfl rfl (by omega) (by omega)).weaken (λu w4 ⟨hu,hf⟩=>⟨?_,hf⟩)
    rw[hu,if_neg (by omega),Option.map_some,iD,Nat.zero_add,show xs.length+ys.length-(k+ys.length)=xs.length-k by omega]
    rfl
   ·intro a w3 bR hN bc hb hd
    exact d_ ak ⟨hN,bc,cE (E:=[(0,.slice (some ⟨g,0,none⟩) (xs.length+ys.length) c)]) ⟨hb 0 rfl _ rfl,trivial⟩⟩ rfl rfl rfl rfl rfl
   ·intro a w3 bR hN bc hb hd
    exact d_ ak ⟨hN,bc,cE (E:=[(1,.int .i64 k)]) ⟨hb 1 rfl _ rfl,trivial⟩⟩ rfl rfl rfl rfl rfl
   ·intro a w3 bR hN bc hb hd
    refine(zY ak ⟨hN,bc,cE (E:=[(74,.slice (some ⟨g,0,none⟩) (xs.length+ys.length) c),(75,.int .i64 k)]) ⟨(hd 5 rfl _ _ rfl rfl),(hd 6 rfl _ _ rfl rfl),trivial⟩⟩ rfl rfl rfl rfl rfl rfl rfl rfl rfl (by omega) (by omega)).weaken (λu w4 ⟨hu,hf⟩=>⟨?_,hf⟩)
    rw[hu,if_neg (by omega),Option.map_some,iD,Nat.zero_add]
    rfl
   intro a w3 f3 hN bc hb hr
   have sr:w3.heap[g]? =some (.cells cur e (0,0)):=(f3.block _ (Array.getElem?_eq_some_iff.1 hh).1 (by simp)).trans hh
   refine AQ (E:=[(0,.slice (some ⟨g,0,none⟩) (xs.length+ys.length) c),(1,.int .i64 k),(2,.slice (some ad) ys.length cu),(73,.slice (some ⟨g,(k+ys.length)*S,none⟩) (xs.length-k) (c-(k+ys.length))),(76,.slice (some ⟨g,k*S,none⟩) (xs.length+ys.length-k) (c-k))]) (l:=[8]) hN bc ⟨hb 0 _ rfl rfl,hb 1 _ rfl rfl,hb 2 _ rfl rfl,(hr 4 _ _ rfl rfl),(hr 7 _ _ rfl rfl),trivial⟩ rfl ?_
   have pC:g<w.heap.size:=(Array.getElem?_eq_some_iff.1 hh).1
   have Lh:ad.block<w.heap.size:=(Array.getElem?_eq_some_iff.1 LQ).1
   refine ao' ak rfl rfl rfl rfl rfl rfl rfl rfl rfl rfl sr ((Ls (k*S)).keep (f3.block _ pC (by simp))) fz (λu hu=>nZ u (List.mem_of_mem_drop hu)) (by omega) (by omega) (λz=>?_)
   generalize sL:(cur.toList.take ((k+ys.length)*S)++cs.drop (k*S)++List.drop ((k+ys.length)*S+(cs.drop (k*S)).length) cur.toList).toArray=k_
   have lH:cur.toList.length=c*S:=by rw[Array.length_toList,eW]
   obtain⟨Y,Z3,yK,hY,En⟩: ∃Y Z3:List Value,k_.toList=cs.take (k*S)++Y++cs.drop (k*S)++Z3/\Y.length=ys.length*S/\Z3.length=c*S-(xs.length+ys.length)*S:=by
    refine⟨(cur.toList.take ((k+ys.length)*S)).drop (k*S),List.drop ((k+ys.length)*S+(cs.drop (k*S)).length) cur.toList,?_,?_,?_⟩
    ·rw[<-sL]
     have e:cs.take (k*S)=(cur.toList.take ((k+ys.length)*S)).take (k*S):=by
      rw[<-kT,List.take_take,List.take_take];congr 1;omega
     rw[e,List.take_append_drop]
    ·rw[List.length_drop,List.length_take,lH];omega
    ·rw[List.length_drop,lH,fz];omega
   clear sL
   have yZ:=qd (new:=k_) sr
   have yA:(w3.setRow g k_).heap[g]? =some (.cells k_ e (0,0)):=setRow_heap w3 _ _ _ _ _ sr
   generalize w3.setRow g k_=w4 at*
   have yz:Fr [g] w w4:=(f3.more (by simp)).trans yZ
   refine aX ?_
   refine aR ?_
   refine aQ ?_
   refine aY (l:=[0,1,2,3,4]) rfl ?_
   refine aF ak [0,1] [(0,.slice (some ⟨g,0,none⟩) (xs.length+ys.length) c),(2,.slice (some ad) ys.length cu),(78,.slice (some ⟨g,0,none⟩) (xs.length+ys.length) c),(79,.int .i64 k)] rfl ⟨rfl,rfl,rfl,rfl,trivial⟩ ?_
   refine AP ak rfl rfl rfl rfl rfl rfl rfl rfl rfl rfl (by omega) (by omega) ?_
   rw[if_neg (by omega),Option.map_some,iD,Nat.zero_add]
   refine aF ak [3] [(0,.slice (some ⟨g,0,none⟩) (xs.length+ys.length) c),(80,.slice (some ⟨g,k*S,none⟩) (xs.length+ys.length-k) (c-k)),(81,.slice (some ad) ys.length cu)] rfl ⟨rfl,rfl,rfl,trivial⟩ ?_
   have apN:k_.size=c*S:=by rw[<-Array.length_toList,yK];simp only[List.length_append,gX,hY,fz,En];omega
   refine PA ak rfl rfl rfl rfl rfl rfl rfl rfl rfl rfl yA (mh.keep (yz.block _ Lh (by simp[Un]))) fc iK.one (by omega) (by omega) (λz=>?_)
   have e5:(k_.toList.take (k*S)++us++k_.toList.drop (k*S+us.length))=cs.take (k*S)++us++(cs.drop (k*S)++Z3):=by
    rw[yK,List.append_assoc (cs.take (k*S)++Y),List.append_assoc (cs.take (k*S)),List.take_left' gX,<-List.append_assoc (cs.take (k*S)),List.drop_left' (by rw[List.length_append,gX,hY,fc])]
   rw[e5]
   generalize Va:(cs.take (k*S)++us++(cs.drop (k*S)++Z3)).toArray=Ap
   have Ul:Ap.toList=cs.take (k*S)++us++cs.drop (k*S)++Z3:=by rw[<-Va,<-List.append_assoc]
   clear Va
   have hf6:=qd (new:=Ap) yA
   have hG6:(w4.setRow g Ap).heap[g]? =some (.cells Ap e (0,0)):=setRow_heap w4 _ _ _ _ _ yA
   generalize w4.setRow g Ap=w6 at*
   have T4:Fr [g] w w6:=yz.trans hf6
   refine aX ?_
   refine aR ?_
   refine aQ ?_
   refine aY (l:=[0,1]) rfl ?_
   refine aF ak [0,1] [(6,.slice (some ⟨g,0,none⟩) (xs.length+ys.length) c)] rfl ⟨rfl,trivial⟩ ?_
   refine aX ?_
   refine aR ?_
   refine ed ?_
   refine gQ (fh rfl ⟨_,O,rfl,?_⟩)
   have iq:(xs.take k++ys++xs.drop k).length=xs.length+ys.length:=by simp only[List.length_append,List.length_take,List.length_drop];omega
   have fq:Tr O w O w6:=T4.tr (lV gI)
   have:=PH (T:=T) (e:=e) (B:=B) (n0:=xs.length) (zs:=xs.take k++ys++xs.drop k) (cap:=c) (cs:=cs.take (k*S)++us++cs.drop (k*S)) hO gI iY T4 hG6 (by rw[hT,<-Array.length_toList,Ul];simp only[List.length_append,gX,fc,fz,En];omega) sx (by omega)
    ((((fp.take k).app iK).app (fp.drop k)).tr fq) (by rw[iq,hT,Ul];exact List.take_left' (by simp only[List.length_append,gX,fc,fz];omega))
   rw[iq] at this
   exact this
def ME:jQ SS:=zE KK 231 89 vp
theorem ajz {R:Type} (xs:List (aG SS)) (h:AH SS) (k:Rs SS->AH SS->List Nat->Option R) (z:R) (hz:(ME).out xs h k=some z): ∃r h' dt,k r h' dt=some z/\iB KK Tryz.prog 231 xs h r h' dt:=
 MH (e:=89) (ins:=vp) ep (eI bA Tryz.func231 rfl) (λO w v u xs ys zs j hO hv hu hp hz=>Fv.1 hO (Nat.zero_le _) hv (eY.2 rfl) hu hp hz) xs h k z hz
def MF:jQ SS:=zE KK 240 93 vq
theorem ajA {R:Type} (xs:List (aG SS)) (h:AH SS) (k:Rs SS->AH SS->List Nat->Option R) (z:R) (hz:(MF).out xs h k=some z): ∃r h' dt,k r h' dt=some z/\iB KK Tryz.prog 240 xs h r h' dt:=
 MH (e:=93) (ins:=vq) ep (eI bA Tryz.func240 rfl) (λO w v u xs ys zs j hO hv hu hp hz=>Fv.2.1 hO (Nat.zero_le _) hv (eY.2 rfl) hu hp hz) xs h k z hz
def MG:jQ SS:=zE KK 256 69 sY
theorem ajB {R:Type} (xs:List (aG SS)) (h:AH SS) (k:Rs SS->AH SS->List Nat->Option R) (z:R) (hz:(MG).out xs h k=some z): ∃r h' dt,k r h' dt=some z/\iB KK Tryz.prog 256 xs h r h' dt:=
 MH (e:=69) (ins:=sY) ep (eI bA Tryz.func256 rfl) (λO w v u xs ys zs j hO hv hu hp hz=>Fv.2.2.1 hO (Nat.zero_le _) hv (eY.2 rfl) hu hp hz) xs h k z hz
theorem am8 {O:List Nat} {w:World} (hO:OB O w) {B:Nat} (hB:B<=w.heap.size) {v:Value} {xs:List (Int×Value)} (hv:Go.Dc.Own (rB .u64) 82 B O w v xs) {v1:Value} {j:Int} (U:(Ty.int .i64).is O w v1 j) {u:Value} {ys:List (Int×Value)} (hu:(Ty.slice (rB .u64)).is O w u ys) (hp:Plain w u) {zs:List (Int×Value)} (hz:Gu xs j ys=some zs):
 Calls Tryz.prog 169 #[v,v1,u] w (ia (rB .u64) 82 B O w v zs):=Fv.2.2.2 hO hB hv U hu hp hz
set_option maxRecDepth 100000
noncomputable def Hv:aK SS:= { G4 with H:=ME::G4.H }
theorem abH:aw Hv Tryz.prog:=aw.pq (c:=ME) abG ajz
noncomputable def Hw:aK SS:= { Hv with H:=MF::Hv.H }
theorem abI:aw Hw Tryz.prog:=aw.pq (c:=MF) abH ajA
noncomputable def G5:aK SS:= { Hw with H:=MG::Hw.H }
theorem QR:aw G5 Tryz.prog:=aw.pq (c:=MG) abI ajB
end Go.Proofs.YtdhaaaeffhaadaaGreatDoor
end
section

/- Words for the entries of apX. -/
namespace Go.Vx
def vs {S:bO} (x:LV S):AV S:= .s (.one x)
def li {S:bO} (x:Int):LV S:= .v (.int .i64 x)
def lu {S:bO} (x:Int):LV S:= .v (.int .u64 x)
def vi {S:bO} (x:Int):AV S:= .s (.one (.v (.int .i64 x)))
def vu {S:bO} (x:Int):AV S:= .s (.one (.v (.int .u64 x)))
def vb {S:bO} (x:Bool):AV S:= .s (.one (.v (.bool x)))
def va {S:bO} (x y:Nat):AV S:= .s (.one (.bu x y))
def vd {S:bO} (t:Nat) (x:S.El t):AV S:= .s (.one (.aV t x))
def vo {S:bO} (x:Nat):AV S:= .s (.one (.own x))
def vc {S:bO} (x:Nat):AV S:= .s (.one (.bN x))
def bX {S:bO} (t:Nat) (x:List (LV S)):Option (Ob S):=some (.box t x)
def rX {S:bO} (t:Nat) (x:List (S.El t)):Option (Ob S):=some (.row t x)
end Go.Vx
end
section
namespace Go.Proofs.YtdhaaaeffhaadaaGreatDoor
open Go.RowKit Go.Dc Go.Vx
set_option maxRecDepth 100000
set_option maxHeartbeats 4000000
noncomputable def RQ (sh:Sh) (pid:Int):T (Int):=
 .ok (IntKind.i64.wrap (pid.tmod 64))
noncomputable def sk (sh:Sh) (pid:Int):Option (Int):=sh.s _ (RQ sh pid).val
theorem aoq {R:Type} (pid:Int) (k:Rs SS->Option R):b8 G5 100 93 [KK.ah 28 pid] [] (cg KK [3] k)=(RQ shut pid).run (λr=>k (.ret (.s (KK.ah 3 r)))):=by kernel_rfl
noncomputable def aeR (sh:Sh):b6 SS:=cf KK 93 [28] (λ{R} xs k=>match xs with| .cons pid .nil=>(sk sh pid).bind (λr=>k (.ret (.s (KK.ah 3 r)))))
noncomputable def oJ (sh:Sh):aK SS:= { G5 with C:=aeR sh::G5.C }
theorem BP:aw (oJ shut) Tryz.prog:=aw.cm QR λxs k z _ hz=>ct (aw.all QR rfl) (λ{R} xs k z h=>by
 match xs,h with
 | .cons pid .nil,h=>exact⟨100,(aoq pid k).trans (cv h)⟩) hz
noncomputable def yL (p0:List Int) (p1:List ae) (p2:Int):AS SS:=⟨[(0,(vs (.iF 0 0 16))),(1,(vs (.v (.func (.func 90) (.mk []) (.mk []))))),(7,(vi 16)),(8,(vi p2))],[(bX 25 [(.bQ .i64 16 p0),(.aV 23 p1)])],1,none,false,[],[]⟩
noncomputable def afu (p0:List Int) (p1:List ae) (a0:Int):AS SS:= { yL p0 p1 a0 with env:=[(4,(vi a0))] }
noncomputable def afv (p0:List Int) (p1:List ae) (a0:Bool) (a1:Int):AS SS:= { yL p0 p1 a1 with env:=[(9,(vb a0)),(0,(vs (.iF 0 0 16))),(1,(vs (.v (.func (.func 90) (.mk []) (.mk []))))),(7,(vi 16)),(8,(vi a1))] }
noncomputable def Jg (sh:Sh) (p0:List Int) (p1:List ae) (a:Int):T (Int ⊕ Int ⊕ (Bool×Int)):=
 .bf (decide (a<16)) (
  .bd (cF a 16) λz0=>
   .bf (decide (au p0 z0<0)) (
    .ok (.inr (.inl a)))<|
   .bf (decide (au p0 z0>65536)) (
    .ok (.inr (.inl a)))<|
   .ok (.inl (IntKind.i64.wrap (a+1))))<|
 .ok (.inr (.inr ((decide (a<16)),a)))
noncomputable def Il (sh:Sh) (p0:List Int) (p1:List ae) (p2:Int):Option (Int ⊕ (Bool×Int)):=da sh (Jg sh p0 p1) 1000000 p2
noncomputable def acb {R:Type} (k:AX->AS SS->Option R) (p0:List Int) (p1:List ae) (x:Int ⊕ (Bool×Int)):Option R:=(λx=>Sum.rec (λv=>k .ret (afu p0 p1 v)) (λv=>k (.exit 0) (afv p0 p1 v.1 v.2)) x) x
noncomputable def FC:bM SS:=cd 3 (λst=>(gS (bq st 0 0)).bind λp0=>(bE 23 (bq st 0 1)).bind λp1=>(bT (bD st 8 0)).bind λp2=>some (p0,p1,p2)) (λp=>yL p.1 p.2.1 p.2.2) (λp=>Il shut p.1 p.2.1 p.2.2) (λk p=>acb k p.1 p.2.1)
theorem XI:aO KK Tryz.prog ⟨Tryz.f126,aE 126⟩ (b9 (bm Tryz.f126) 3) FC:=
 aO.da (π:=List Int×List ae×Int) (σ:=Int) (aw.all BP rfl) (aC.nil) rfl 60 (λp a=>yL p.1 p.2.1 a) (λp=>p.2.2) (St:=λp=>Jg shut p.1 p.2.1) (λp=>1000000) (λp=>rfl)
  (λm p a k=>by kernel_rfl)
noncomputable def KR (p0:List Int) (p1:List ae) (p2 p3:Int):AS SS:=⟨[(0,(vs .dW)),(1,(va 4 0)),(9,(vi (↑p1.length:Int))),(10,(vi p3))],[(bX 142 [(.bQ .i64 16 p0),(.aV 23 p1)]),(bX 28 [(lu p2)]),(bX 143 [(.v (.pointer none))]),(some (.bN 127 [] [(.one (.bu 4 0))])),(bX 140 [(.bu 0 0)])],5,(some ⟨⟨Tryz.f89,aE 89⟩,[9,10],(gN (bm Tryz.f89) 4),(gO (bm Tryz.f89) 4),[(3,(va 1 0)),(4,(va 2 0)),(8,(vc 3))],none⟩),false,[],[]⟩
noncomputable def qb (p0:List Int) (p1:List ae) (p2:Int):AS SS:=KR p0 p1 p2 0
noncomputable def afF (p0:List Int) (p1:List ae) (p2:Int) (a0:ae):AS SS:=⟨[],[(bX 142 [(.bQ .i64 16 p0),(.aV 23 p1)]),(bX 28 [(lu p2)]),(bX 143 [(.ptr 69 a0 0)]),(some (.bN 127 [] [(.one (.bu 4 0))])),(bX 140 [(.bu 0 0)])],5,(some ⟨⟨Tryz.f89,aE 89⟩,[9,10],(gN (bm Tryz.f89) 4),(gO (bm Tryz.f89) 4),[(3,(va 1 0)),(4,(va 2 0)),(8,(vc 3))],(some .ret)⟩),false,[],[2]⟩
noncomputable def afG (p0:List Int) (p1:List ae) (p2:Int) (a0:Bool) (a1:Int):AS SS:= { KR p0 p1 p2 p2 with env:=[(11,(vb a0)),(0,(vs .dW)),(1,(va 4 0)),(9,(vi (↑p1.length:Int))),(10,(vi a1))] }
noncomputable def B_ (sh:Sh) (p0:List Int) (p1:List ae) (p2 p3:Int) (z0:ae) (a:Unit):T (Unit ⊕ ae ⊕ (Bool×Int)):=
 .bf (z0.aa==p2) (
  .ok (.inr (.inl z0)))<|
 .ok (.inl ())
noncomputable def A_ (sh:Sh) (p0:List Int) (p1:List ae) (p2 p3:Int) (a:Unit):T (ae ⊕ (Bool×Int)):=
 .ok (.inr ((decide (p3<(↑p1.length:Int))),p3))
noncomputable def nB (sh:Sh) (p0:List Int) (p1:List ae) (p2:Int):Option (ae ⊕ (Bool×Int)):=cP sh (B_ sh p0 p1 p2) (A_ sh p0 p1 p2) p1 ()
noncomputable def aci {R:Type} (k:AX->AS SS->Option R) (p0:List Int) (p1:List ae) (p2:Int) (x:ae ⊕ (Bool×Int)):Option R:=(λx=>Sum.rec (λv=>k .ret (afF p0 p1 p2 v)) (λv=>k (.exit 0) (afG p0 p1 p2 v.1 v.2)) x) x
noncomputable def MY:bM SS:=cd 2 (λst=>((ey st 3 127).bind λ_=>kC st 18 4).bind λ_=>(gS (bq st 0 0)).bind λp0=>(bE 23 (bq st 0 1)).bind λp1=>(bT (bq st 1 0)).bind λp2=>some (p0,p1,p2)) (λp=>qb p.1 p.2.1 p.2.2) (λp=>nB shut p.1 p.2.1 p.2.2) (λk p=>aci k p.1 p.2.1 p.2.2)
noncomputable def abd:aK SS:= { (oJ shut) with T:=bI ((oJ shut).T) 126 ⟨⟨Tryz.f126,aE 126⟩,[FC]⟩ }
theorem QA:aS abd Tryz.prog:=(aS.cj (aw.all BP rfl) Tryz.func126 rfl bA λc hc=>by cases hc;exact aC.cons (aC.nil) (by kernel_rfl) XI)
theorem XK:aO KK Tryz.prog ⟨Tryz.f127,aE 127⟩ (b9 (bm Tryz.f127) 2) MY:=
 aO.c_ (π:=List Int×List ae×Int) (σ:=Unit) QA (aC.nil) rfl 60 (λp i a=>KR p.1 p.2.1 p.2.2 i) (λp=>p.2.1) (λp=>()) (St:=λp=>B_ shut p.1 p.2.1 p.2.2) (F:=λp=>A_ shut p.1 p.2.1 p.2.2) (λp=>rfl)
  (λm p i a k=>by kernel_rfl) (by rintro p (x|x)<;>exact⟨_,_,λ_=>rfl⟩) (λp N C A O w a hr=>Nb hr (j:=0) (n:=1) (t:=23) rfl rfl λv h=>h)
noncomputable def KQ (p0:List Int) (p1:List ae) (p2:Int):AS SS:=⟨[(0,(vs .dW)),(1,(va 7 0)),(9,(vi (↑p1.length:Int))),(10,(vi p2))],[(bX 25 [(.bQ .i64 16 p0),(.aV 23 p1)]),(bX 40 [(li 0)]),(bX 138 [(.bN 3)]),(some (.bN 88 [] [(.one (.bu 4 0))])),(bX 140 [(.bu 5 0)]),(bX 142 [(.bQ .i64 16 p0),(.aV 23 p1)]),(some (.bN 127 [] [(.one (.bu 7 0))])),(bX 140 [(.bu 5 0)])],8,(some ⟨⟨Tryz.f46,aE 46⟩,[34,35],(gN (bm Tryz.f46) 10),(gO (bm Tryz.f46) 10),[(1,(va 0 0)),(2,(va 1 0)),(4,(va 2 0)),(33,(vc 6))],none⟩),false,[],[]⟩
noncomputable def OO (p0:List Int) (p1:List ae):AS SS:=KQ p0 p1 0
noncomputable def afD (p0:List Int) (p1:List ae):AS SS:=⟨[],[(bX 25 [(.bQ .i64 16 p0),(.aV 23 p1)]),(bX 40 [(li 320)]),(bX 138 [(.bN 3)]),(some (.bN 88 [] [(.one (.bu 4 0))])),(bX 140 [(.bu 5 0)]),(bX 142 [(.bQ .i64 16 p0),(.aV 23 p1)]),(some (.bN 127 [] [(.one (.bu 7 0))])),(bX 140 [(.bu 5 0)])],8,(some ⟨⟨Tryz.f46,aE 46⟩,[34,35],(gN (bm Tryz.f46) 10),(gO (bm Tryz.f46) 10),[(1,(va 0 0)),(2,(va 1 0)),(4,(va 2 0)),(33,(vc 6))],(some .ret)⟩),false,[],[1]⟩
noncomputable def afE (p0:List Int) (p1:List ae) (a0:Bool) (a1:Int):AS SS:= { KQ p0 p1 a1 with env:=[(11,(vb a0)),(0,(vs .dW)),(1,(va 7 0)),(9,(vi (↑p1.length:Int))),(10,(vi a1))] }
noncomputable def B9 (sh:Sh) (p0:List Int) (p1:List ae) (p2:Int) (z0:ae) (a:Unit):T (Unit ⊕ Unit ⊕ (Bool×Int)):=
 .bd (sk sh z0.aa) λy1=>
  .bf (decide (y1>=1)) (
   .bf (decide (y1<=16)) (
    .bf (p2==0) (
     .bd (cF (IntKind.i64.wrap (y1-1)) 16) λz2=>
      .bf (IntKind.u64.wrap (IntKind.u64.wrap (z0.aa.tdiv 64)+1) !=IntKind.u64.wrap (au p0 z2)) (
       .ok (.inr (.inl ())))<|
      .bf (z0.bC) (
       .bf (z0.ba==0) (
        .ok (.inr (.inl ())))<|
       .bf (!z0.bC) (
        .bf (z0.cJ !=0) (
         .ok (.inr (.inl ())))<|
        .bf (z0.ba !=0) (
         .bf (z0.ba==z0.aa) (
          .ok (.inr (.inl ())))<|
         .gd (qb p0 p1 z0.ba)<|
          .bd (nB sh p0 p1 z0.ba) λtN=> .cs tN (λy3=>
           .bf (!!y3.bC) (
            .ok (.inr (.inl ())))<|
           .ok (.inl ())) λy3=>
           .ok (.inr (.inl ())))<|
        .ok (.inl ()))<|
       .bf (z0.ba !=0) (
        .bf (z0.ba==z0.aa) (
         .ok (.inr (.inl ())))<|
        .gd (qb p0 p1 z0.ba)<|
         .bd (nB sh p0 p1 z0.ba) λqg=> .cs qg (λy3=>
          .bf (!!y3.bC) (
           .ok (.inr (.inl ())))<|
          .ok (.inl ())) λy3=>
          .ok (.inr (.inl ())))<|
       .ok (.inl ()))<|
      .bf (!z0.bC) (
       .bf (z0.cJ !=0) (
        .ok (.inr (.inl ())))<|
       .bf (z0.ba !=0) (
        .bf (z0.ba==z0.aa) (
         .ok (.inr (.inl ())))<|
        .gd (qb p0 p1 z0.ba)<|
         .bd (nB sh p0 p1 z0.ba) λqg=> .cs qg (λy3=>
          .bf (!!y3.bC) (
           .ok (.inr (.inl ())))<|
          .ok (.inl ())) λy3=>
          .ok (.inr (.inl ())))<|
       .ok (.inl ()))<|
      .bf (z0.ba !=0) (
       .bf (z0.ba==z0.aa) (
        .ok (.inr (.inl ())))<|
       .gd (qb p0 p1 z0.ba)<|
        .bd (nB sh p0 p1 z0.ba) λx9=> .cs x9 (λy3=>
         .bf (!!y3.bC) (
          .ok (.inr (.inl ())))<|
         .ok (.inl ())) λy3=>
         .ok (.inr (.inl ())))<|
      .ok (.inl ()))<|
    .bd (idx p1 (IntKind.i64.wrap (p2-1))) λz2=>
     .bd (sk sh z2.aa) λy3=>
      .bf (!decide (y3<y1)) (
       .ok (.inr (.inl ())))<|
      .bd (cF (IntKind.i64.wrap (y1-1)) 16) λz4=>
       .bf (IntKind.u64.wrap (IntKind.u64.wrap (z0.aa.tdiv 64)+1) !=IntKind.u64.wrap (au p0 z4)) (
        .ok (.inr (.inl ())))<|
       .bf (z0.bC) (
        .bf (z0.ba==0) (
         .ok (.inr (.inl ())))<|
        .bf (!z0.bC) (
         .bf (z0.cJ !=0) (
          .ok (.inr (.inl ())))<|
         .bf (z0.ba !=0) (
          .bf (z0.ba==z0.aa) (
           .ok (.inr (.inl ())))<|
          .gd (qb p0 p1 z0.ba)<|
           .bd (nB sh p0 p1 z0.ba) λx12=> .cs x12 (λy5=>
            .bf (!!y5.bC) (
             .ok (.inr (.inl ())))<|
            .ok (.inl ())) λy5=>
            .ok (.inr (.inl ())))<|
         .ok (.inl ()))<|
        .bf (z0.ba !=0) (
         .bf (z0.ba==z0.aa) (
          .ok (.inr (.inl ())))<|
         .gd (qb p0 p1 z0.ba)<|
          .bd (nB sh p0 p1 z0.ba) λtN=> .cs tN (λy5=>
           .bf (!!y5.bC) (
            .ok (.inr (.inl ())))<|
           .ok (.inl ())) λy5=>
           .ok (.inr (.inl ())))<|
        .ok (.inl ()))<|
       .bf (!z0.bC) (
        .bf (z0.cJ !=0) (
         .ok (.inr (.inl ())))<|
        .bf (z0.ba !=0) (
         .bf (z0.ba==z0.aa) (
          .ok (.inr (.inl ())))<|
         .gd (qb p0 p1 z0.ba)<|
          .bd (nB sh p0 p1 z0.ba) λtN=> .cs tN (λy5=>
           .bf (!!y5.bC) (
            .ok (.inr (.inl ())))<|
           .ok (.inl ())) λy5=>
           .ok (.inr (.inl ())))<|
        .ok (.inl ()))<|
       .bf (z0.ba !=0) (
        .bf (z0.ba==z0.aa) (
         .ok (.inr (.inl ())))<|
        .gd (qb p0 p1 z0.ba)<|
         .bd (nB sh p0 p1 z0.ba) λqg=> .cs qg (λy5=>
          .bf (!!y5.bC) (
           .ok (.inr (.inl ())))<|
          .ok (.inl ())) λy5=>
          .ok (.inr (.inl ())))<|
       .ok (.inl ()))<|
   .ok (.inr (.inl ())))<|
  .ok (.inr (.inl ()))
noncomputable def A9 (sh:Sh) (p0:List Int) (p1:List ae) (p2:Int) (a:Unit):T (Unit ⊕ (Bool×Int)):=
 .ok (.inr ((decide (p2<(↑p1.length:Int))),p2))
noncomputable def BV (sh:Sh) (p0:List Int) (p1:List ae):Option (Unit ⊕ (Bool×Int)):=cP sh (B9 sh p0 p1) (A9 sh p0 p1) p1 ()
noncomputable def ach {R:Type} (k:AX->AS SS->Option R) (p0:List Int) (p1:List ae) (x:Unit ⊕ (Bool×Int)):Option R:=(λx=>Sum.rec (λv=>k .ret (afD p0 p1)) (λv=>k (.exit 0) (afE p0 p1 v.1 v.2)) x) x
noncomputable def VU:bM SS:=cd 2 (λst=>((ey st 3 88).bind λ_=>(ey st 6 127).bind λ_=>kC st 132 10).bind λ_=>(gS (bq st 0 0)).bind λp0=>(bE 23 (bq st 0 1)).bind λp1=>some (p0,p1)) (λp=>OO p.1 p.2) (λp=>BV shut p.1 p.2) (λk p=>ach k p.1 p.2)
noncomputable def abe:aK SS:= { (oJ shut) with T:=bI (bI ((oJ shut).T) 126 ⟨⟨Tryz.f126,aE 126⟩,[FC]⟩) 127 ⟨⟨Tryz.f127,aE 127⟩,[MY]⟩ }
theorem abf:aS abe Tryz.prog:=(aS.cj QA Tryz.func127 rfl bA λc hc=>by cases hc;exact aC.cons (aC.nil) (by kernel_rfl) XK)
theorem alz:aO KK Tryz.prog ⟨Tryz.f127,aE 127⟩ (b9 (bm Tryz.f127) 2) VU:=
 aO.c_ (π:=List Int×List ae) (σ:=Unit) abf (aC.nil) rfl 60 (λp i a=>KQ p.1 p.2 i) (λp=>p.2) (λp=>()) (St:=λp=>B9 shut p.1 p.2) (F:=λp=>A9 shut p.1 p.2) (λp=>rfl)
  (λm p i a k=>by kernel_rfl) (by rintro p (x|x)<;>exact⟨_,_,λ_=>rfl⟩) (λp N C A O w a hr=>Nb hr (j:=0) (n:=1) (t:=23) rfl rfl λv h=>h)
noncomputable def QB:aK SS:= { (oJ shut) with T:=bI (bI ((oJ shut).T) 126 ⟨⟨Tryz.f126,aE 126⟩,[FC]⟩) 127 ⟨⟨Tryz.f127,aE 127⟩,[xG (λst=>(ey st 3 127).bind λ_=>kC st 18 4) MY (VU)]⟩ }
theorem abg:aS QB Tryz.prog:=(aS.cj (aS.cj (aw.all BP rfl) Tryz.func126 rfl bA λc hc=>by cases hc;exact aC.cons (aC.nil) (by kernel_rfl) XI) Tryz.func127 rfl bA λc hc=>by cases hc;exact aC.cons (aC.nil) (by kernel_rfl) (aO.alt XK alz))
noncomputable def C2 (sh:Sh) (p:br):T (Int):=
 .bf ((↑p.ab.length:Int)==0) (
  .ok 320)<|
 .bd (idx p.ab 0) λz0=>
  .bf (!jU z0 (ae.mk 1 0 false 0)) (
   .ok 320)<|
  .gd (yL p.aJ p.ab 0)<|
   .bd (Il sh p.aJ p.ab 0) λx4=> .cs x4 (λy1=>
    .bf (decide (y1>=0)) (
     .ok 320)<|
    .gd (OO p.aJ p.ab)<|
     .bd (BV sh p.aJ p.ab) λx6=> .cs x6 (λ_=>
      .ok 320) λy2=>
      .ok 0) λy1=>
    .gd (OO p.aJ p.ab)<|
     .bd (BV sh p.aJ p.ab) λx6=> .cs x6 (λ_=>
      .ok 320) λy2=>
      .ok 0
noncomputable def qF (sh:Sh) (p:br):Option (Int):=sh.s _ (C2 sh p).val
theorem aod {R:Type} (p:br) (k:Rs SS->Option R):b8 QB 100 46 [KK.ah 25 p] [] (cg KK [40] k)=(C2 shut p).run (λr=>k (.ret (.s (KK.ah 40 r)))):=by kernel_rfl
noncomputable def aeB (sh:Sh):b6 SS:=cf KK 46 [25] (λ{R} xs k=>match xs with| .cons p .nil=>(qF sh p).bind (λr=>k (.ret (.s (KK.ah 40 r)))))
noncomputable def BH (sh:Sh):aK SS:= { (oJ sh) with C:=aeB sh::(oJ sh).C }
theorem Q5:aw (BH shut) Tryz.prog:=aw.cm BP λxs k z _ hz=>ct abg (λ{R} xs k z h=>by
 match xs,h with
 | .cons p .nil,h=>exact⟨100,(aod p k).trans (cv h)⟩) hz
noncomputable def Dh (sh:Sh) (d:ai):T (Bool):=
 .bf (decide (d.aa<4294967296)) (
  .bf (decide (d.bL>=0)) (
   .ok (decide (d.bL<8)))<|
  .ok false)<|
 .ok false
noncomputable def Kq (sh:Sh) (d:ai):Option (Bool):=sh.s _ (Dh sh d).val
theorem aor {R:Type} (d:ai) (k:Rs SS->Option R):b8 (BH shut) 100 94 [KK.ah 89 d] [] (cg KK [4] k)=(Dh shut d).run (λr=>k (.ret (.s (KK.ah 4 r)))):=by kernel_rfl
noncomputable def aeS (sh:Sh):b6 SS:=cf KK 94 [89] (λ{R} xs k=>match xs with| .cons d .nil=>(Kq sh d).bind (λr=>k (.ret (.s (KK.ah 4 r)))))
noncomputable def BQ (sh:Sh):aK SS:= { (BH sh) with C:=aeS sh::(BH sh).C }
theorem Rb:aw (BQ shut) Tryz.prog:=aw.cm Q5 λxs k z _ hz=>ct (aw.all Q5 rfl) (λ{R} xs k z h=>by
 match xs,h with
 | .cons d .nil,h=>exact⟨100,(aor d k).trans (cv h)⟩) hz
noncomputable def Cz (sh:Sh) (x y:Int):T (Int):=
 .bf (x !=x) (
  .bf (y !=y) (
   .ok 0)<|
  .ok (-1))<|
 .bf (y !=y) (
  .ok 1)<|
 .bf (decide (x<y)) (
  .ok (-1))<|
 .bf (decide (x>y)) (
  .ok 1)<|
 .ok 0
noncomputable def mW (sh:Sh) (x y:Int):Option (Int):=sh.s _ (Cz sh x y).val
theorem anE {R:Type} (x y:Int) (k:Rs SS->Option R):b8 (BQ shut) 100 129 [KK.ah 28 x,KK.ah 28 y] [] (cg KK [3] k)=(Cz shut x y).run (λr=>k (.ret (.s (KK.ah 3 r)))):=by kernel_rfl
noncomputable def adY (sh:Sh):b6 SS:=cf KK 129 [28,28] (λ{R} xs k=>match xs with| .cons x (.cons y .nil)=>(mW sh x y).bind (λr=>k (.ret (.s (KK.ah 3 r)))))
noncomputable def Bx (sh:Sh):aK SS:= { (BQ sh) with C:=adY sh::(BQ sh).C }
theorem QU:aw (Bx shut) Tryz.prog:=aw.cm Rb λxs k z _ hz=>ct (aw.all Rb rfl) (λ{R} xs k z h=>by
 match xs,h with
 | .cons x (.cons y .nil),h=>exact⟨100,(anE x y k).trans (cv h)⟩) hz
noncomputable def RH (sh:Sh) (x y:Int):T (Int):=
 .bf (x !=x) (
  .bf (y !=y) (
   .ok 0)<|
  .ok (-1))<|
 .bf (y !=y) (
  .ok 1)<|
 .bf (decide (x<y)) (
  .ok (-1))<|
 .bf (decide (x>y)) (
  .ok 1)<|
 .ok 0
noncomputable def Kh (sh:Sh) (x y:Int):Option (Int):=sh.s _ (RH sh x y).val
theorem anF {R:Type} (x y:Int) (k:Rs SS->Option R):b8 (Bx shut) 100 130 [KK.ah 3 x,KK.ah 3 y] [] (cg KK [3] k)=(RH shut x y).run (λr=>k (.ret (.s (KK.ah 3 r)))):=by kernel_rfl
noncomputable def adZ (sh:Sh):b6 SS:=cf KK 130 [3,3] (λ{R} xs k=>match xs with| .cons x (.cons y .nil)=>(Kh sh x y).bind (λr=>k (.ret (.s (KK.ah 3 r)))))
noncomputable def wA (sh:Sh):aK SS:= { (Bx sh) with C:=adZ sh::(Bx sh).C }
theorem HE:aw (wA shut) Tryz.prog:=aw.cm QU λxs k z _ hz=>ct (aw.all QU rfl) (λ{R} xs k z h=>by
 match xs,h with
 | .cons x (.cons y .nil),h=>exact⟨100,(anF x y k).trans (cv h)⟩) hz
noncomputable def yM (p0:List Int) (p1:Int):AS SS:=⟨[(3,(vi 0)),(6,(vo 0)),(7,(vi 2)),(8,(vi p1))],[(rX 3 p0)],1,none,false,[],[]⟩
noncomputable def afJ (p0:List Int) (a0:Int):AS SS:= { yM p0 a0 with env:=[(2,(vi a0))] }
noncomputable def afK (p0:List Int) (a0:Bool) (a1:Int):AS SS:= { yM p0 a1 with env:=[(9,(vb a0)),(3,(vi 0)),(6,(vo 0)),(7,(vi 2)),(8,(vi a1))] }
noncomputable def qp (sh:Sh) (p0:List Int) (a:Int):T (Int ⊕ Int ⊕ (Bool×Int)):=
 .bf (decide (a<2)) (
  .bd (idx p0 a) λz0=>
   .bd (p0[a.toNat]?) λz1=>
    .bf (z1 !=0) (
     .ok (.inr (.inl z1)))<|
    .ok (.inl (IntKind.i64.wrap (a+1))))<|
 .ok (.inr (.inr ((decide (a<2)),a)))
noncomputable def Ir (sh:Sh) (p0:List Int) (p1:Int):Option (Int ⊕ (Bool×Int)):=da sh (qp sh p0) 1000000 p1
noncomputable def ack {R:Type} (k:AX->AS SS->Option R) (p0:List Int) (x:Int ⊕ (Bool×Int)):Option R:=(λx=>Sum.rec (λv=>k .ret (afJ p0 v)) (λv=>k (.exit 0) (afK p0 v.1 v.2)) x) x
noncomputable def VW:bM SS:=cd 4 (λst=>(dD st 0 3).bind λp0=>(bT (bD st 8 0)).bind λp1=>some (p0,p1)) (λp=>yM p.1 p.2) (λp=>Ir shut p.1 p.2) (λk p=>ack k p.1)
theorem alB:aO KK Tryz.prog ⟨Tryz.f128,aE 128⟩ (b9 (bm Tryz.f128) 4) VW:=
 aO.da (π:=List Int×Int) (σ:=Int) (aw.all HE rfl) (aC.nil) rfl 60 (λp a=>yM p.1 a) (λp=>p.2) (St:=λp=>qp shut p.1) (λp=>1000000) (λp=>rfl)
  (λm p a k=>by kernel_rfl)
noncomputable def QL:aK SS:= { (wA shut) with T:=bI ((wA shut).T) 128 ⟨⟨Tryz.f128,aE 128⟩,[VW]⟩ }
theorem abt:aS QL Tryz.prog:=(aS.cj (aw.all HE rfl) Tryz.func128 rfl bA λc hc=>by cases hc;exact aC.cons (aC.nil) (by kernel_rfl) alB)
noncomputable def Di (sh:Sh) (a b:ai):T (Int):=
 .bd (mW sh a.aa b.aa) λy0=>
  .bd (Kh sh a.bL b.bL) λy1=>
   .gd (yM [y0,y1] 0)<|
    .bd (Ir sh [y0,y1] 0) λx5=> .cs x5 (λy2=>
     .ok y2) λy2=>
     .ok 0
noncomputable def yh (sh:Sh) (a b:ai):Option (Int):=sh.s _ (Di sh a b).val
theorem aos {R:Type} (a b:ai) (k:Rs SS->Option R):b8 QL 100 95 [KK.ah 89 a,KK.ah 89 b] [] (cg KK [3] k)=(Di shut a b).run (λr=>k (.ret (.s (KK.ah 3 r)))):=by kernel_rfl
noncomputable def aeT (sh:Sh):b6 SS:=cf KK 95 [89,89] (λ{R} xs k=>match xs with| .cons a (.cons b .nil)=>(yh sh a b).bind (λr=>k (.ret (.s (KK.ah 3 r)))))
noncomputable def xb (sh:Sh):aK SS:= { (wA sh) with C:=aeT sh::(wA sh).C }
theorem Ib:aw (xb shut) Tryz.prog:=aw.cm HE λxs k z _ hz=>ct abt (λ{R} xs k z h=>by
 match xs,h with
 | .cons a (.cons b .nil),h=>exact⟨100,(aos a b k).trans (cv h)⟩) hz
noncomputable def ER (p0:List ai) (p1:Int):AS SS:=⟨[(0,(vd 26 p0)),(8,(vd 26 p0)),(9,(vi (↑p0.length:Int))),(10,(vi p1))],[],0,none,false,[],[]⟩
noncomputable def Y2 (p0:List ai):AS SS:=ER p0 0
noncomputable def agm (p0:List ai):AS SS:= { ER p0 0 with env:=[(2,(vi 330))] }
noncomputable def agn (p0:List ai) (a0:Bool) (a1:Int):AS SS:= { ER p0 a1 with env:=[(11,(vb a0)),(0,(vd 26 p0)),(8,(vd 26 p0)),(9,(vi (↑p0.length:Int))),(10,(vi a1))] }
noncomputable def xw (sh:Sh) (p0:List ai) (p1:Int) (z0:ai) (a:Unit):T (Unit ⊕ Unit ⊕ (Bool×Int)):=
 .bd (Kq sh z0) λy1=>
  .bf (!y1) (
   .ok (.inr (.inl ())))<|
  .bf (decide (p1>0)) (
   .bd (idx p0 (IntKind.i64.wrap (p1-1))) λz2=>
    .bd (yh sh z2 z0) λy3=>
     .bf (decide (y3>=0)) (
      .ok (.inr (.inl ())))<|
     .ok (.inl ()))<|
  .ok (.inl ())
noncomputable def Bj (sh:Sh) (p0:List ai) (p1:Int) (a:Unit):T (Unit ⊕ (Bool×Int)):=
 .ok (.inr ((decide (p1<(↑p0.length:Int))),p1))
noncomputable def IQ (sh:Sh) (p0:List ai):Option (Unit ⊕ (Bool×Int)):=cP sh (xw sh p0) (Bj sh p0) p0 ()
noncomputable def acM {R:Type} (k:AX->AS SS->Option R) (p0:List ai) (x:Unit ⊕ (Bool×Int)):Option R:=(λx=>Sum.rec (λv=>k .ret (agm p0)) (λv=>k (.exit 0) (agn p0 v.1 v.2)) x) x
noncomputable def We:bM SS:=cd 5 (λst=>(bE 26 (bD st 0 0)).bind λp0=>some p0) (λp=>Y2 p) (λp=>IQ shut p) (λk p=>acM k p)
theorem alY:aO KK Tryz.prog ⟨Tryz.f47,aE 47⟩ (b9 (bm Tryz.f47) 5) We:=
 aO.c_ (π:=List ai) (σ:=Unit) (aw.all Ib rfl) (aC.nil) rfl 60 (λp i a=>ER p i) (λp=>p) (λp=>()) (St:=λp=>xw shut p) (F:=λp=>Bj shut p) (λp=>rfl)
  (λm p i a k=>by kernel_rfl) (by rintro p (x|x)<;>exact⟨_,_,λ_=>rfl⟩) (λp N C A O w a hr=>dQ hr (t:=26) (sl:=0) rfl λv h=>h)
noncomputable def QC:aK SS:= { (xb shut) with T:=bI ((xb shut).T) 47 ⟨⟨Tryz.f47,aE 47⟩,[We]⟩ }
theorem abh:aS QC Tryz.prog:=(aS.cj (aw.all Ib rfl) Tryz.func47 rfl bA λc hc=>by cases hc;exact aC.cons (aC.nil) (by kernel_rfl) alY)
noncomputable def C3 (sh:Sh) (l:List ai):T (Int):=
 .bf (decide ((↑l.length:Int)>64)) (
  .ok 330)<|
 .gd (Y2 l)<|
  .bd (IQ sh l) λx3=> .cs x3 (λ_=>
   .ok 330) λy0=>
   .ok 0
noncomputable def nQ (sh:Sh) (l:List ai):Option (Int):=sh.s _ (C3 sh l).val
theorem aoe {R:Type} (l:List ai) (k:Rs SS->Option R):b8 QC 100 47 [KK.ah 26 l] [] (cg KK [40] k)=(C3 shut l).run (λr=>k (.ret (.s (KK.ah 40 r)))):=by kernel_rfl
noncomputable def aeC (sh:Sh):b6 SS:=cf KK 47 [26] (λ{R} xs k=>match xs with| .cons l .nil=>(nQ sh l).bind (λr=>k (.ret (.s (KK.ah 40 r)))))
noncomputable def wV (sh:Sh):aK SS:= { (xb sh) with C:=aeC sh::(xb sh).C }
theorem H7:aw (wV shut) Tryz.prog:=aw.cm Ib λxs k z _ hz=>ct abh (λ{R} xs k z h=>by
 match xs,h with
 | .cons l .nil,h=>exact⟨100,(aoe l k).trans (cv h)⟩) hz
noncomputable def ud (sh:Sh) (p:Int):T (Bool):=
 .bf (decide (p>=1)) (
  .ok (decide (p<4294967296)))<|
 .ok false
noncomputable def uI (sh:Sh) (p:Int):Option (Bool):=sh.s _ (ud sh p).val
theorem ZB {R:Type} (p:Int) (k:Rs SS->Option R):b8 (wV shut) 100 99 [KK.ah 28 p] [] (cg KK [4] k)=(ud shut p).run (λr=>k (.ret (.s (KK.ah 4 r)))):=by kernel_rfl
noncomputable def aeW (sh:Sh):b6 SS:=cf KK 99 [28] (λ{R} xs k=>match xs with| .cons p .nil=>(uI sh p).bind (λr=>k (.ret (.s (KK.ah 4 r)))))
noncomputable def xd (sh:Sh):aK SS:= { (wV sh) with C:=aeW sh::(wV sh).C }
theorem Ie:aw (xd shut) Tryz.prog:=aw.cm H7 λxs k z _ hz=>ct (aw.all H7 rfl) (λ{R} xs k z h=>by
 match xs,h with
 | .cons p .nil,h=>exact⟨100,(ZB p k).trans (cv h)⟩) hz
noncomputable def yO (p0:ByteArray) (p1:List Int) (p2 p3:Int):AS SS:=⟨[(0,(vs (.v (.string p0)))),(5,(vu p2)),(14,(.s (.agg [(.bQ .u8 8 p1)]))),(15,(vi p3))],[],0,none,false,[],[]⟩
noncomputable def agS (p0:ByteArray) (p1:List Int):AS SS:= { yO p0 p1 0 0 with env:=[(2,(vu 0)),(3,(vi 2))] }
noncomputable def agT (p0:ByteArray) (p1:List Int) (a0:Bool) (a1 a2:Int):AS SS:= { yO p0 p1 a1 a1 with env:=[(16,(vb a0)),(0,(vs (.v (.string p0)))),(5,(vu a1)),(14,(.s (.agg [(.bQ .u8 8 p1)]))),(15,(vi a2))] }
noncomputable def xx (sh:Sh) (p0:ByteArray) (p1:List Int) (a:Int×Int):T ((Int×Int) ⊕ Unit ⊕ (Bool×Int×Int)):=
 .bf (decide (a.2<8)) (
  .bd (cF a.2 8) λz0=>
   .bf (au p1 z0==0) (
    .bf (decide (a.2<(↑p0.size:Int))) (
     .ok (.inr (.inl ())))<|
    .bd (tD IntKind.u64 (IntKind.u64.wrap (au p1 z0)) (IntKind.i64.wrap (8*a.2))) λz1=>
     .ok (.inl ((bits BinOp.or IntKind.u64 a.1 z1),(IntKind.i64.wrap (a.2+1)))))<|
   .bd (tD IntKind.u64 (IntKind.u64.wrap (au p1 z0)) (IntKind.i64.wrap (8*a.2))) λz1=>
    .ok (.inl ((bits BinOp.or IntKind.u64 a.1 z1),(IntKind.i64.wrap (a.2+1)))))<|
 .ok (.inr (.inr ((decide (a.2<8)),a.1,a.2)))
noncomputable def I3 (sh:Sh) (p0:ByteArray) (p1:List Int) (p2 p3:Int):Option (Unit ⊕ (Bool×Int×Int)):=da sh (xx sh p0 p1) 1000000 (p2,p3)
noncomputable def ac3 {R:Type} (k:AX->AS SS->Option R) (p0:ByteArray) (p1:List Int) (x:Unit ⊕ (Bool×Int×Int)):Option R:=(λx=>Sum.rec (λv=>k .ret (agS p0 p1)) (λv=>k (.exit 0) (agT p0 p1 v.1 v.2.1 v.2.2)) x) x
noncomputable def Wr:bM SS:=cd 8 (λst=>(DM (bD st 0 0)).bind λp0=>(gS (bD st 14 0)).bind λp1=>(bT (bD st 5 0)).bind λp2=>(bT (bD st 15 0)).bind λp3=>some (p0,p1,p2,p3)) (λp=>yO p.1 p.2.1 p.2.2.1 p.2.2.2) (λp=>I3 shut p.1 p.2.1 p.2.2.1 p.2.2.2) (λk p=>ac3 k p.1 p.2.1)
theorem amd:aO KK Tryz.prog ⟨Tryz.f79,aE 79⟩ (b9 (bm Tryz.f79) 8) Wr:=
 aO.da (π:=ByteArray×List Int×Int×Int) (σ:=Int×Int) (aw.all Ie rfl) (aC.nil) rfl 60 (λp a=>yO p.1 p.2.1 a.1 a.2) (λp=>(p.2.2.1,p.2.2.2)) (St:=λp=>xx shut p.1 p.2.1) (λp=>1000000) (λp=>rfl)
  (λm p a k=>by kernel_rfl)
noncomputable def QK:aK SS:= { (xd shut) with T:=bI ((xd shut).T) 79 ⟨⟨Tryz.f79,aE 79⟩,[Wr]⟩ }
theorem abq:aS QK Tryz.prog:=(aS.cj (aw.all Ie rfl) Tryz.func79 rfl bA λc hc=>by cases hc;exact aC.cons (aC.nil) (by kernel_rfl) amd)
noncomputable def Df (sh:Sh) (s:ByteArray):T (Int×Int):=
 .bf (decide ((↑s.size:Int)>8)) (
  .ok (0,111))<|
 .bd (Gw KK (aP (gk (gk (gk (gk (gk (gk (gk (gk [] []++[]) []++[]) []++[]) []++[]) []++[]) []++[some (Ob.box 174 (List.map LV.v [Value.int IntKind.u8 0,Value.int IntKind.u8 0,Value.int IntKind.u8 0,Value.int IntKind.u8 0,Value.int IntKind.u8 0,Value.int IntKind.u8 0,Value.int IntKind.u8 0,Value.int IntKind.u8 0]))]) []++[]) []++[])) 5 IntKind.u8 8 (LV.v (Value.string s))) λz0=>
  .gd (yO s (cW [0,0,0,0,0,0,0,0] z0) 0 0)<|
   .bd (I3 sh s (cW [0,0,0,0,0,0,0,0] z0) 0 0) λx4=> .cs x4 (λ_=>
    .ok (0,2)) λy1=>
    .ok (y1.2.1,0)
noncomputable def ye (sh:Sh) (s:ByteArray):Option (Int×Int):=sh.s _ (Df sh s).val
theorem aop {R:Type} (s:ByteArray) (k:Rs SS->Option R):b8 QK 100 79 [KK.ah 9 s] [] (cg KK [28,40] k)=(Df shut s).run (λr=>k (.ret (.bj [KK.ah 28 r.1,KK.ah 40 r.2]))):=by kernel_rfl
noncomputable def aeO (sh:Sh):b6 SS:=cf KK 79 [9] (λ{R} xs k=>match xs with| .cons s .nil=>(ye sh s).bind (λr=>k (.ret (.bj [KK.ah 28 r.1,KK.ah 40 r.2]))))
noncomputable def w_ (sh:Sh):aK SS:= { (xd sh) with C:=aeO sh::(xd sh).C }
theorem Ia:aw (w_ shut) Tryz.prog:=aw.cm Ie λxs k z _ hz=>ct abq (λ{R} xs k z h=>by
 match xs,h with
 | .cons s .nil,h=>exact⟨100,(aop s k).trans (cv h)⟩) hz
noncomputable def Ey (p0 p1:Int) (p2:List Int):AS SS:=⟨[(0,(vu p0)),(4,(vo 0)),(5,(vu p1))],[(rX 5 p2)],0,none,false,[],[]⟩
noncomputable def afL (p0:Int) (a0:Bool) (a1 a2:Int) (a3:List Int):AS SS:= { Ey p0 p0 a3 with env:=[(12,(vb a0)),(11,(vu a1)),(10,(vu a2)),(0,(vu p0)),(4,(vo 0)),(5,(vu a2))] }
noncomputable def xk (sh:Sh) (p0:Int) (a:Int×List Int):T ((Int×List Int) ⊕ (Bool×Int×Int×List Int)):=
 .bf (bits BinOp.and IntKind.u64 a.1 255 !=0) (
  .bd (app 1 a.2 [IntKind.u8.wrap a.1]) λz0=>
   .ok (.inl ((a.1.fdiv 256),z0)))<|
 .ok (.inr ((bits BinOp.and IntKind.u64 a.1 255 !=0),(bits BinOp.and IntKind.u64 a.1 255),a.1,a.2))
noncomputable def Is (sh:Sh) (p0 p1:Int) (p2:List Int):Option ((Bool×Int×Int×List Int)):=da sh (xk sh p0) 1000000 (p1,p2)
noncomputable def acm {R:Type} (k:AX->AS SS->Option R) (p0:Int) (x:(Bool×Int×Int×List Int)):Option R:=(λv=>k (.exit 0) (afL p0 v.1 v.2.1 v.2.2.1 v.2.2.2)) x
noncomputable def VX:bM SS:=cd 4 (λst=>(bT (bD st 0 0)).bind λp0=>(bT (bD st 5 0)).bind λp1=>(dD st 0 5).bind λp2=>some (p0,p1,p2)) (λp=>Ey p.1 p.2.1 p.2.2) (λp=>Is shut p.1 p.2.1 p.2.2) (λk p=>acm k p.1)
theorem alC:aO KK Tryz.prog ⟨Tryz.f132,aE 132⟩ (b9 (bm Tryz.f132) 4) VX:=
 aO.da (π:=Int×Int×List Int) (σ:=Int×List Int) (aw.all Ia rfl) (aC.nil) rfl 60 (λp a=>Ey p.1 a.1 a.2) (λp=>(p.2.1,p.2.2)) (St:=λp=>xk shut p.1) (λp=>1000000) (λp=>rfl)
  (λm p a k=>by kernel_rfl)
noncomputable def P3:aK SS:= { (w_ shut) with T:=bI ((w_ shut).T) 132 ⟨⟨Tryz.f132,aE 132⟩,[VX]⟩ }
theorem aay:aS P3 Tryz.prog:=(aS.cj (aw.all Ia rfl) Tryz.func132 rfl bA λc hc=>by cases hc;exact aC.cons (aC.nil) (by kernel_rfl) alC)
noncomputable def CB (sh:Sh) (w:Int):T (ByteArray×Int):=
 .gd (Ey w w [])<|
  .bd (Is sh w w []) λy0=>
   .bd (n_ KK 5 IntKind.u8 y0.2.2.2) λz1=>
    .bd (ye sh (strOf z1)) λy2=>
     .bf (y2.2 !=0) (
      .ok ((ByteArray.mk #[]),2))<|
     .bf (y2.1 !=w) (
      .ok ((ByteArray.mk #[]),2))<|
     .ok ((strOf z1),0)
noncomputable def DO (sh:Sh) (w:Int):Option (ByteArray×Int):=sh.s _ (CB sh w).val
theorem anH {R:Type} (w:Int) (k:Rs SS->Option R):b8 P3 100 132 [KK.ah 28 w] [] (cg KK [9,40] k)=(CB shut w).run (λr=>k (.ret (.bj [KK.ah 9 r.1,KK.ah 40 r.2]))):=by kernel_rfl
noncomputable def ad1 (sh:Sh):b6 SS:=cf KK 132 [28] (λ{R} xs k=>match xs with| .cons w .nil=>(DO sh w).bind (λr=>k (.ret (.bj [KK.ah 9 r.1,KK.ah 40 r.2]))))
noncomputable def wB (sh:Sh):aK SS:= { (w_ sh) with C:=ad1 sh::(w_ sh).C }
theorem HF:aw (wB shut) Tryz.prog:=aw.cm Ia λxs k z _ hz=>ct aay (λ{R} xs k z h=>by
 match xs,h with
 | .cons w .nil,h=>exact⟨100,(anH w k).trans (cv h)⟩) hz
noncomputable def nU (p0:Bool) (p1:ByteArray) (p2:Nat):AS SS:=⟨[(5,(vb p0)),(20,(vs (.dP 0)))],[(some (.dP p1 p2))],0,none,false,[],[]⟩
noncomputable def agZ (p1:ByteArray) (a0 a1:Bool) (a2:Int) (a3 a4 a5 a6:Bool) (a7:Int) (a8:Nat):AS SS:= { nU a0 p1 a8 with env:=[(42,(vb a0)),(41,(vb a1)),(5,(vb a1)),(40,(vb a1)),(39,(vb a1)),(25,(vb true)),(38,(vb a1)),(32,(vb false)),(37,(vb a1)),(35,(vb true)),(36,(vs (.v (.int .i32 a2)))),(35,(vb true)),(35,(vb a3)),(32,(vb false)),(34,(vb a3)),(32,(vb false)),(33,(vs (.v (.int .i32 a2)))),(32,(vb false)),(32,(vb a4)),(25,(vb true)),(31,(vb a4)),(25,(vb true)),(30,(vb a4)),(28,(vb true)),(29,(vs (.v (.int .i32 a2)))),(28,(vb true)),(28,(vb a5)),(25,(vb true)),(27,(vb a5)),(25,(vb true)),(26,(vs (.v (.int .i32 a2)))),(25,(vb true)),(25,(vb a6)),(24,(vb a6)),(7,(vs (.v (.int .i32 a2)))),(23,(vs (.v (.int .i32 a2)))),(22,(vb true)),(21,(.bj [(.one (.v (.bool true))),(.one (li a7)),(.one (.v (.int .i32 a2)))])),(5,(vb a6)),(20,(vs (.dP 0)))] }
noncomputable def ag0 (p1:ByteArray) (a0:Bool) (a1:Int) (a2 a3 a4:Bool) (a5:Int) (a6:Nat):AS SS:= { nU a0 p1 a6 with env:=[(42,(vb true)),(41,(vb false)),(5,(vb false)),(40,(vb false)),(39,(vb false)),(25,(vb true)),(38,(vb false)),(32,(vb false)),(37,(.bj [])),(35,(vb false)),(36,(.bj [])),(35,(vb false)),(35,(vb a0)),(32,(vb false)),(34,(vb a0)),(32,(vb false)),(33,(vs (.v (.int .i32 a1)))),(32,(vb false)),(32,(vb a2)),(25,(vb true)),(31,(vb a2)),(25,(vb true)),(30,(vb a2)),(28,(vb true)),(29,(vs (.v (.int .i32 a1)))),(28,(vb true)),(28,(vb a3)),(25,(vb true)),(27,(vb a3)),(25,(vb true)),(26,(vs (.v (.int .i32 a1)))),(25,(vb true)),(25,(vb a4)),(24,(vb a4)),(7,(vs (.v (.int .i32 a1)))),(23,(vs (.v (.int .i32 a1)))),(22,(vb true)),(21,(.bj [(.one (.v (.bool true))),(.one (li a5)),(.one (.v (.int .i32 a1)))])),(5,(vb a4)),(20,(vs (.dP 0)))] }
noncomputable def ag1 (p1:ByteArray) (a0 a1:Bool) (a2:Int) (a3 a4 a5:Bool) (a6:Int) (a7:Nat):AS SS:= { nU a0 p1 a7 with env:=[(42,(vb a0)),(41,(vb a1)),(5,(vb a1)),(40,(vb a1)),(39,(vb a1)),(25,(vb true)),(38,(vb a1)),(32,(vb false)),(37,(vb a1)),(35,(vb true)),(36,(vs (.v (.int .i32 a2)))),(35,(vb true)),(35,(vb a3)),(32,(vb false)),(34,(vb a3)),(32,(vb false)),(33,(vs (.v (.int .i32 a2)))),(32,(vb false)),(32,(vb false)),(25,(vb true)),(31,(vb false)),(25,(vb true)),(30,(.bj [])),(28,(vb false)),(29,(.bj [])),(28,(vb false)),(28,(vb a4)),(25,(vb true)),(27,(vb a4)),(25,(vb true)),(26,(vs (.v (.int .i32 a2)))),(25,(vb true)),(25,(vb a5)),(24,(vb a5)),(7,(vs (.v (.int .i32 a2)))),(23,(vs (.v (.int .i32 a2)))),(22,(vb true)),(21,(.bj [(.one (.v (.bool true))),(.one (li a6)),(.one (.v (.int .i32 a2)))])),(5,(vb a5)),(20,(vs (.dP 0)))] }
noncomputable def ag2 (p1:ByteArray) (a0:Bool) (a1:Int) (a2 a3:Bool) (a4:Int) (a5:Nat):AS SS:= { nU a0 p1 a5 with env:=[(42,(vb true)),(41,(vb false)),(5,(vb false)),(40,(vb false)),(39,(vb false)),(25,(vb true)),(38,(vb false)),(32,(vb false)),(37,(.bj [])),(35,(vb false)),(36,(.bj [])),(35,(vb false)),(35,(vb a0)),(32,(vb false)),(34,(vb a0)),(32,(vb false)),(33,(vs (.v (.int .i32 a1)))),(32,(vb false)),(32,(vb false)),(25,(vb true)),(31,(vb false)),(25,(vb true)),(30,(.bj [])),(28,(vb false)),(29,(.bj [])),(28,(vb false)),(28,(vb a2)),(25,(vb true)),(27,(vb a2)),(25,(vb true)),(26,(vs (.v (.int .i32 a1)))),(25,(vb true)),(25,(vb a3)),(24,(vb a3)),(7,(vs (.v (.int .i32 a1)))),(23,(vs (.v (.int .i32 a1)))),(22,(vb true)),(21,(.bj [(.one (.v (.bool true))),(.one (li a4)),(.one (.v (.int .i32 a1)))])),(5,(vb a3)),(20,(vs (.dP 0)))] }
noncomputable def ag3 (p1:ByteArray) (a0:Bool) (a1 a2:Int) (a3:Nat):AS SS:= { nU a0 p1 a3 with env:=[(42,(vb true)),(41,(vb false)),(5,(vb false)),(40,(vb false)),(39,(.bj [])),(25,(vb false)),(38,(.bj [])),(37,(.bj [])),(36,(.bj [])),(35,(.bj [])),(34,(.bj [])),(33,(.bj [])),(32,(.bj [])),(25,(vb false)),(31,(.bj [])),(25,(vb false)),(30,(.bj [])),(29,(.bj [])),(28,(.bj [])),(25,(vb false)),(27,(.bj [])),(25,(vb false)),(26,(.bj [])),(25,(vb false)),(25,(vb a0)),(24,(vb a0)),(7,(vs (.v (.int .i32 a1)))),(23,(vs (.v (.int .i32 a1)))),(22,(vb true)),(21,(.bj [(.one (.v (.bool true))),(.one (li a2)),(.one (.v (.int .i32 a1)))])),(5,(vb a0)),(20,(vs (.dP 0)))] }
noncomputable def ag4 (p1:ByteArray) (a0:Bool) (a1:Nat):AS SS:= { nU a0 p1 a1 with env:=[(22,(vb false)),(21,(.bj [(.one (.v (.bool false)))])),(5,(vb a0)),(20,(vs (.dP 0)))] }
noncomputable def qu (sh:Sh) (p1:ByteArray) (a:Bool×Nat):T ((Bool×Nat) ⊕ (Bool×Bool×Int×Bool×Bool×Bool×Bool×Int×Nat) ⊕ (Bool×Int×Bool×Bool×Bool×Int×Nat) ⊕ (Bool×Bool×Int×Bool×Bool×Bool×Int×Nat) ⊕ (Bool×Int×Bool×Bool×Int×Nat) ⊕ (Bool×Int×Int×Nat) ⊕ (Bool×Nat)):=
 .bf (decide (a.2<p1.size)) (
  .bf (a.1) (
   .bf (decide ((↑(Utf8.decode p1 a.2).fst:Int)>=97)) (
    .bf (decide ((↑(Utf8.decode p1 a.2).fst:Int)<=122)) (
     .ok (.inl (true,(a.2+(Utf8.decode p1 a.2).snd))))<|
    .bf (decide ((↑(Utf8.decode p1 a.2).fst:Int)>=48)) (
     .bf (!decide ((↑(Utf8.decode p1 a.2).fst:Int)<=57)) (
      .ok (.inr (.inl ((!decide ((↑(Utf8.decode p1 a.2).fst:Int)<=57)),(decide ((↑(Utf8.decode p1 a.2).fst:Int)<=57)),((↑(Utf8.decode p1 a.2).fst:Int)),(decide ((↑(Utf8.decode p1 a.2).fst:Int)>=48)),(decide ((↑(Utf8.decode p1 a.2).fst:Int)<=122)),(decide ((↑(Utf8.decode p1 a.2).fst:Int)>=97)),a.1,(↑a.2:Int),(a.2+(Utf8.decode p1 a.2).snd)))))<|
     .ok (.inl ((decide ((↑(Utf8.decode p1 a.2).fst:Int)<=57)),(a.2+(Utf8.decode p1 a.2).snd))))<|
    .ok (.inr (.inr (.inl ((decide ((↑(Utf8.decode p1 a.2).fst:Int)>=48)),((↑(Utf8.decode p1 a.2).fst:Int)),(decide ((↑(Utf8.decode p1 a.2).fst:Int)<=122)),(decide ((↑(Utf8.decode p1 a.2).fst:Int)>=97)),a.1,(↑a.2:Int),(a.2+(Utf8.decode p1 a.2).snd))))))<|
   .bf (decide ((↑(Utf8.decode p1 a.2).fst:Int)>=48)) (
    .bf (!decide ((↑(Utf8.decode p1 a.2).fst:Int)<=57)) (
     .ok (.inr (.inr (.inr (.inl ((!decide ((↑(Utf8.decode p1 a.2).fst:Int)<=57)),(decide ((↑(Utf8.decode p1 a.2).fst:Int)<=57)),((↑(Utf8.decode p1 a.2).fst:Int)),(decide ((↑(Utf8.decode p1 a.2).fst:Int)>=48)),(decide ((↑(Utf8.decode p1 a.2).fst:Int)>=97)),a.1,(↑a.2:Int),(a.2+(Utf8.decode p1 a.2).snd)))))))<|
    .ok (.inl ((decide ((↑(Utf8.decode p1 a.2).fst:Int)<=57)),(a.2+(Utf8.decode p1 a.2).snd))))<|
   .ok (.inr (.inr (.inr (.inr (.inl ((decide ((↑(Utf8.decode p1 a.2).fst:Int)>=48)),((↑(Utf8.decode p1 a.2).fst:Int)),(decide ((↑(Utf8.decode p1 a.2).fst:Int)>=97)),a.1,(↑a.2:Int),(a.2+(Utf8.decode p1 a.2).snd))))))))<|
  .ok (.inr (.inr (.inr (.inr (.inr (.inl (a.1,((↑(Utf8.decode p1 a.2).fst:Int)),(↑a.2:Int),(a.2+(Utf8.decode p1 a.2).snd)))))))))<|
 .ok (.inr (.inr (.inr (.inr (.inr (.inr (a.1,a.2)))))))
noncomputable def xe (sh:Sh) (p0:Bool) (p1:ByteArray) (p2:Nat):Option ((Bool×Bool×Int×Bool×Bool×Bool×Bool×Int×Nat) ⊕ (Bool×Int×Bool×Bool×Bool×Int×Nat) ⊕ (Bool×Bool×Int×Bool×Bool×Bool×Int×Nat) ⊕ (Bool×Int×Bool×Bool×Int×Nat) ⊕ (Bool×Int×Int×Nat) ⊕ (Bool×Nat)):=da sh (qu sh p1) 1000000 (p0,p2)
noncomputable def ac9 {R:Type} (k:AX->AS SS->Option R) (p1:ByteArray) (x:(Bool×Bool×Int×Bool×Bool×Bool×Bool×Int×Nat) ⊕ (Bool×Int×Bool×Bool×Bool×Int×Nat) ⊕ (Bool×Bool×Int×Bool×Bool×Bool×Int×Nat) ⊕ (Bool×Int×Bool×Bool×Int×Nat) ⊕ (Bool×Int×Int×Nat) ⊕ (Bool×Nat)):Option R:=(λx=>Sum.rec (λv=>k (.exit 0) (agZ p1 v.1 v.2.1 v.2.2.1 v.2.2.2.1 v.2.2.2.2.1 v.2.2.2.2.2.1 v.2.2.2.2.2.2.1 v.2.2.2.2.2.2.2.1 v.2.2.2.2.2.2.2.2)) (λx=>Sum.rec (λv=>k (.exit 0) (ag0 p1 v.1 v.2.1 v.2.2.1 v.2.2.2.1 v.2.2.2.2.1 v.2.2.2.2.2.1 v.2.2.2.2.2.2)) (λx=>Sum.rec (λv=>k (.exit 0) (ag1 p1 v.1 v.2.1 v.2.2.1 v.2.2.2.1 v.2.2.2.2.1 v.2.2.2.2.2.1 v.2.2.2.2.2.2.1 v.2.2.2.2.2.2.2)) (λx=>Sum.rec (λv=>k (.exit 0) (ag2 p1 v.1 v.2.1 v.2.2.1 v.2.2.2.1 v.2.2.2.2.1 v.2.2.2.2.2)) (λx=>Sum.rec (λv=>k (.exit 0) (ag3 p1 v.1 v.2.1 v.2.2.1 v.2.2.2)) (λv=>k (.exit 0) (ag4 p1 v.1 v.2)) x) x) x) x) x) x
noncomputable def Wv:bM SS:=cd 5 (λst=>(si (bD st 5 0)).bind λp0=>(hpS st 0).bind λp1=>(U8 st 0).bind λp2=>some (p0,p1,p2)) (λp=>nU p.1 p.2.1 p.2.2) (λp=>xe shut p.1 p.2.1 p.2.2) (λk p=>ac9 k p.2.1)
theorem amj:aO KK Tryz.prog ⟨Tryz.f98,aE 98⟩ (b9 (bm Tryz.f98) 5) Wv:=
 aO.da (π:=Bool×ByteArray×Nat) (σ:=Bool×Nat) (aw.all HF rfl) (aC.nil) rfl 60 (λp a=>nU a.1 p.2.1 a.2) (λp=>(p.1,p.2.2)) (St:=λp=>qu shut p.2.1) (λp=>1000000) (λp=>rfl)
  (λm p a k=>by kernel_rfl)
noncomputable def QM:aK SS:= { (wB shut) with T:=bI ((wB shut).T) 98 ⟨⟨Tryz.f98,aE 98⟩,[Wv]⟩ }
theorem abu:aS QM Tryz.prog:=(aS.cj (aw.all HF rfl) Tryz.func98 rfl bA λc hc=>by cases hc;exact aC.cons (aC.nil) (by kernel_rfl) amj)
noncomputable def Dl (sh:Sh) (w:Int):T (Bool):=
 .bd (DO sh w) λy0=>
  .bf (y0.2==0) (
   .gd (nU (!y0.1.toList==(ByteArray.mk #[]).toList) y0.1 0)<|
    .bd (xe sh (!y0.1.toList==(ByteArray.mk #[]).toList) y0.1 0) λx5=> .cs x5 (λy1=>
     .ok y1.2.1) λPJ=> .cs PJ (λy1=>
     .ok false) λPK=> .cs PK (λy1=>
     .ok y1.2.1) λPL=> .cs PL (λy1=>
     .ok false) λPM=> .cs PM (λy1=>
     .ok false) λy1=>
     .ok y1.1)<|
  .gd (nU false y0.1 0)<|
   .bd (xe sh false y0.1 0) λx4=> .cs x4 (λy1=>
    .ok y1.2.1) λx4c=> .cs x4c (λy1=>
    .ok false) λapj=> .cs apj (λy1=>
    .ok y1.2.1) λapk=> .cs apk (λy1=>
    .ok false) λapl=> .cs apl (λy1=>
    .ok false) λy1=>
    .ok y1.1
noncomputable def oZ (sh:Sh) (w:Int):Option (Bool):=sh.s _ (Dl sh w).val
theorem aou {R:Type} (w:Int) (k:Rs SS->Option R):b8 QM 100 98 [KK.ah 28 w] [] (cg KK [4] k)=(Dl shut w).run (λr=>k (.ret (.s (KK.ah 4 r)))):=by kernel_rfl
noncomputable def aeV (sh:Sh):b6 SS:=cf KK 98 [28] (λ{R} xs k=>match xs with| .cons w .nil=>(oZ sh w).bind (λr=>k (.ret (.s (KK.ah 4 r)))))
noncomputable def xc (sh:Sh):aK SS:= { (wB sh) with C:=aeV sh::(wB sh).C }
theorem BR:aw (xc shut) Tryz.prog:=aw.cm HF λxs k z _ hz=>ct abu (λ{R} xs k z h=>by
 match xs,h with
 | .cons w .nil,h=>exact⟨100,(aou w k).trans (cv h)⟩) hz
noncomputable def K1 (p0:List aA) (p1:List ao) (p2:Int):AS SS:=⟨[(1,(va 0 0)),(12,(vd 31 p0)),(13,(vi (↑p0.length:Int))),(14,(vi p2))],[(bX 34 [(.aV 31 p0),(.aV 32 p1)])],0,none,false,[],[]⟩
noncomputable def Y5 (p0:List aA) (p1:List ao):AS SS:=K1 p0 p1 0
noncomputable def agt (p0:List aA) (p1:List ao):AS SS:=⟨[(2,(vi 350))],[],0,none,false,[],[]⟩
noncomputable def agu (p0:List aA) (p1:List ao) (a0:Bool) (a1:Int):AS SS:= { K1 p0 p1 a1 with env:=[(15,(vb a0)),(1,(va 0 0)),(12,(vd 31 p0)),(13,(vi (↑p0.length:Int))),(14,(vi a1))] }
noncomputable def Cm (sh:Sh) (p0:List aA) (p1:List ao) (p2:Int) (z0:aA) (a:Unit):T (Unit ⊕ Unit ⊕ (Bool×Int)):=
 .bd (oZ sh z0.bl) λy1=>
  .bf (!y1) (
   .ok (.inr (.inl ())))<|
  .bd (uI sh z0.aa) λy2=>
   .bf (!y2) (
    .ok (.inr (.inl ())))<|
   .bf (decide (p2>0)) (
    .bd (idx p0 (IntKind.i64.wrap (p2-1))) λz3=>
     .bf (decide (z3.bl>=z0.bl)) (
      .ok (.inr (.inl ())))<|
     .ok (.inl ()))<|
   .ok (.inl ())
noncomputable def Bn (sh:Sh) (p0:List aA) (p1:List ao) (p2:Int) (a:Unit):T (Unit ⊕ (Bool×Int)):=
 .ok (.inr ((decide (p2<(↑p0.length:Int))),p2))
noncomputable def IT (sh:Sh) (p0:List aA) (p1:List ao):Option (Unit ⊕ (Bool×Int)):=cP sh (Cm sh p0 p1) (Bn sh p0 p1) p0 ()
noncomputable def acP {R:Type} (k:AX->AS SS->Option R) (p0:List aA) (p1:List ao) (x:Unit ⊕ (Bool×Int)):Option R:=(λx=>Sum.rec (λv=>k .ret (agt p0 p1)) (λv=>k (.exit 0) (agu p0 p1 v.1 v.2)) x) x
noncomputable def Wg:bM SS:=cd 5 (λst=>(bE 31 (bD st 12 0)).bind λp0=>(bE 32 (bq st 0 1)).bind λp1=>some (p0,p1)) (λp=>Y5 p.1 p.2) (λp=>IT shut p.1 p.2) (λk p=>acP k p.1 p.2)
theorem al1:aO KK Tryz.prog ⟨Tryz.f49,aE 49⟩ (b9 (bm Tryz.f49) 5) Wg:=
 aO.c_ (π:=List aA×List ao) (σ:=Unit) (aw.all BR rfl) (aC.nil) rfl 60 (λp i a=>K1 p.1 p.2 i) (λp=>p.1) (λp=>()) (St:=λp=>Cm shut p.1 p.2) (F:=λp=>Bn shut p.1 p.2) (λp=>rfl)
  (λm p i a k=>by kernel_rfl) (by rintro p (x|x)<;>exact⟨_,_,λ_=>rfl⟩) (λp N C A O w a hr=>dQ hr (t:=31) (sl:=12) rfl λv h=>h)
noncomputable def K0 (p0:List ao) (p1:List aA) (p2:Int):AS SS:=⟨[(1,(va 0 0)),(47,(vd 32 p0)),(48,(vi (↑p0.length:Int))),(49,(vi p2))],[(bX 34 [(.aV 31 p1),(.aV 32 p0)])],0,none,false,[],[]⟩
noncomputable def Y4 (p0:List ao) (p1:List aA):AS SS:=K0 p0 p1 0
noncomputable def agq (p0:List ao) (p1:List aA):AS SS:=⟨[(2,(vi 350))],[],0,none,false,[],[]⟩
noncomputable def ags (p0:List ao) (p1:List aA) (a0:Bool) (a1:Int):AS SS:= { K0 p0 p1 a1 with env:=[(50,(vb a0)),(1,(va 0 0)),(47,(vd 32 p0)),(48,(vi (↑p0.length:Int))),(49,(vi a1))] }
noncomputable def Cl (sh:Sh) (p0:List ao) (p1:List aA) (p2:Int) (z0:ao) (a:Unit):T (Unit ⊕ Unit ⊕ (Bool×Int)):=
 .bd (uI sh z0.aa) λy1=>
  .bf (!y1) (
   .ok (.inr (.inl ())))<|
  .bf (decide ((↑z0.bg.length:Int)<1)) (
   .ok (.inr (.inl ())))<|
  .bf (decide ((↑z0.bg.length:Int)>4)) (
   .ok (.inr (.inl ())))<|
  .bf (decide (p2>0)) (
   .bd (idx p0 (IntKind.i64.wrap (p2-1))) λz2=>
    .bf (decide (z2.aa>=z0.aa)) (
     .ok (.inr (.inl ())))<|
    .ok (.inl ()))<|
  .ok (.inl ())
noncomputable def Bm (sh:Sh) (p0:List ao) (p1:List aA) (p2:Int) (a:Unit):T (Unit ⊕ (Bool×Int)):=
 .ok (.inr ((decide (p2<(↑p0.length:Int))),p2))
noncomputable def IS (sh:Sh) (p0:List ao) (p1:List aA):Option (Unit ⊕ (Bool×Int)):=cP sh (Cl sh p0 p1) (Bm sh p0 p1) p0 ()
noncomputable def acO {R:Type} (k:AX->AS SS->Option R) (p0:List ao) (p1:List aA) (x:Unit ⊕ (Bool×Int)):Option R:=(λx=>Sum.rec (λv=>k .ret (agq p0 p1)) (λv=>k (.exit 2) (ags p0 p1 v.1 v.2)) x) x
noncomputable def Wf:bM SS:=cd 11 (λst=>(bE 32 (bD st 47 0)).bind λp0=>(bE 31 (bq st 0 0)).bind λp1=>some (p0,p1)) (λp=>Y4 p.1 p.2) (λp=>IS shut p.1 p.2) (λk p=>acO k p.1 p.2)
theorem al0:aO KK Tryz.prog ⟨Tryz.f49,aE 49⟩ (b9 (bm Tryz.f49) 11) Wf:=
 aO.c_ (π:=List ao×List aA) (σ:=Unit) (aw.all BR rfl) (aC.nil) rfl 60 (λp i a=>K0 p.1 p.2 i) (λp=>p.1) (λp=>()) (St:=λp=>Cl shut p.1 p.2) (F:=λp=>Bm shut p.1 p.2) (λp=>rfl)
  (λm p i a k=>by kernel_rfl) (by rintro p (x|x)<;>exact⟨_,_,λ_=>rfl⟩) (λp N C A O w a hr=>dQ hr (t:=32) (sl:=47) rfl λv h=>h)
noncomputable def GZ:aK SS:= { (xc shut) with T:=bI ((xc shut).T) 49 ⟨⟨Tryz.f49,aE 49⟩,[Wg,Wf]⟩ }
theorem QF:aS GZ Tryz.prog:=(aS.cj (aw.all BR rfl) Tryz.func49 rfl bA λc hc=>by cases hc;exact aC.cons (aC.cons (aC.nil) (by kernel_rfl) al0) (by kernel_rfl) al1)
noncomputable def C5 (sh:Sh) (s:aL):T (Int):=
 .bf (decide ((↑s.aB.length:Int)>16)) (
  .ok 350)<|
 .gd (Y5 s.aB s.ax)<|
  .bd (IT sh s.aB s.ax) λx3=> .cs x3 (λ_=>
   .ok 350) λy0=>
   .gd (Y4 s.ax s.aB)<|
    .bd (IS sh s.ax s.aB) λx5=> .cs x5 (λ_=>
     .ok 350) λy1=>
     .ok 0
noncomputable def oY (sh:Sh) (s:aL):Option (Int):=sh.s _ (C5 sh s).val
theorem ZA {R:Type} (s:aL) (k:Rs SS->Option R):b8 GZ 100 49 [KK.ah 34 s] [] (cg KK [40] k)=(C5 shut s).run (λr=>k (.ret (.s (KK.ah 40 r)))):=by kernel_rfl
noncomputable def aeE (sh:Sh):b6 SS:=cf KK 49 [34] (λ{R} xs k=>match xs with| .cons s .nil=>(oY sh s).bind (λr=>k (.ret (.s (KK.ah 40 r)))))
noncomputable def wX (sh:Sh):aK SS:= { (xc sh) with C:=aeE sh::(xc sh).C }
theorem H9:aw (wX shut) Tryz.prog:=aw.cm BR λxs k z _ hz=>ct QF (λ{R} xs k z h=>by
 match xs,h with
 | .cons s .nil,h=>exact⟨100,(ZA s k).trans (cv h)⟩) hz
noncomputable def Ez (p0:ByteArray) (p1:Nat):AS SS:=⟨[(0,(vs (.v (.string p0)))),(6,(vs (.dP 0)))],[(some (.dP p0 p1))],0,none,false,[],[]⟩
noncomputable def afN (p0:ByteArray):AS SS:=⟨[(2,(vb false))],[],0,none,false,[],[]⟩
noncomputable def afO (p0:ByteArray) (a0:Nat):AS SS:= { Ez p0 a0 with env:=[(8,(vb false)),(7,(.bj [(.one (.v (.bool false)))])),(0,(vs (.v (.string p0)))),(6,(vs (.dP 0)))] }
noncomputable def tW (sh:Sh) (p0:ByteArray) (a:Nat):T (Nat ⊕ Unit ⊕ Nat):=
 .bf (decide (a<p0.size)) (
  .bf (decide ((↑(Utf8.decode p0 a).fst:Int)>=97)) (
   .bf (decide ((↑(Utf8.decode p0 a).fst:Int)<=122)) (
    .ok (.inl (a+(Utf8.decode p0 a).snd)))<|
   .bf (decide ((↑(Utf8.decode p0 a).fst:Int)>=48)) (
    .bf (!decide ((↑(Utf8.decode p0 a).fst:Int)<=57)) (
     .ok (.inr (.inl ())))<|
    .ok (.inl (a+(Utf8.decode p0 a).snd)))<|
   .ok (.inr (.inl ())))<|
  .bf (decide ((↑(Utf8.decode p0 a).fst:Int)>=48)) (
   .bf (!decide ((↑(Utf8.decode p0 a).fst:Int)<=57)) (
    .ok (.inr (.inl ())))<|
   .ok (.inl (a+(Utf8.decode p0 a).snd)))<|
  .ok (.inr (.inl ())))<|
 .ok (.inr (.inr a))
noncomputable def Iu (sh:Sh) (p0:ByteArray) (p1:Nat):Option (Unit ⊕ Nat):=da sh (tW sh p0) 1000000 p1
noncomputable def aco {R:Type} (k:AX->AS SS->Option R) (p0:ByteArray) (x:Unit ⊕ Nat):Option R:=(λx=>Sum.rec (λv=>k .ret (afN p0)) (λv=>k (.exit 0) (afO p0 v)) x) x
noncomputable def VZ:bM SS:=cd 3 (λst=>(DM (bD st 0 0)).bind λp0=>(U8 st 0).bind λp1=>some (p0,p1)) (λp=>Ez p.1 p.2) (λp=>Iu shut p.1 p.2) (λk p=>aco k p.1)
theorem alE:aO KK Tryz.prog ⟨Tryz.f175,aE 175⟩ (b9 (bm Tryz.f175) 3) VZ:=
 aO.da (π:=ByteArray×Nat) (σ:=Nat) (aw.all H9 rfl) (aC.nil) rfl 60 (λp a=>Ez p.1 a) (λp=>p.2) (St:=λp=>tW shut p.1) (λp=>1000000) (λp=>rfl)
  (λm p a k=>by kernel_rfl)
noncomputable def P5:aK SS:= { (wX shut) with T:=bI ((wX shut).T) 175 ⟨⟨Tryz.f175,aE 175⟩,[VZ]⟩ }
theorem aaB:aS P5 Tryz.prog:=(aS.cj (aw.all H9 rfl) Tryz.func175 rfl bA λc hc=>by cases hc;exact aC.cons (aC.nil) (by kernel_rfl) alE)
noncomputable def CE (sh:Sh) (s:ByteArray):T (Bool):=
 .gd (Ez s 0)<|
  .bd (Iu sh s 0) λx3=> .cs x3 (λ_=>
   .ok false) λy0=>
   .ok (!s.toList==(ByteArray.mk #[]).toList)
noncomputable def xY (sh:Sh) (s:ByteArray):Option (Bool):=sh.s _ (CE sh s).val
theorem anM {R:Type} (s:ByteArray) (k:Rs SS->Option R):b8 P5 100 175 [KK.ah 9 s] [] (cg KK [4] k)=(CE shut s).run (λr=>k (.ret (.s (KK.ah 4 r)))):=by kernel_rfl
noncomputable def ad5 (sh:Sh):b6 SS:=cf KK 175 [9] (λ{R} xs k=>match xs with| .cons s .nil=>(xY sh s).bind (λr=>k (.ret (.s (KK.ah 4 r)))))
noncomputable def wF (sh:Sh):aK SS:= { (wX sh) with C:=ad5 sh::(wX sh).C }
theorem HI:aw (wF shut) Tryz.prog:=aw.cm H9 λxs k z _ hz=>ct aaB (λ{R} xs k z h=>by
 match xs,h with
 | .cons s .nil,h=>exact⟨100,(anM s k).trans (cv h)⟩) hz
noncomputable def EO (p0:List ByteArray) (p1:Int):AS SS:=⟨[(0,(vd 185 p0)),(1,(vc 0)),(7,(vi (↑p0.length:Int))),(8,(vi p1))],[(some (.bN 250 [] [(.one (.bu 1 0))])),(bX 178 [(.v (.func (.func 175) (.mk []) (.mk [])))])],2,none,false,[],[]⟩
noncomputable def YZ (p0:List ByteArray):AS SS:=EO p0 0
noncomputable def agi (p0:List ByteArray) (a0:Int):AS SS:= { EO p0 a0 with env:=[(4,(vi a0))] }
noncomputable def agj (p0:List ByteArray) (a0:Bool) (a1:Int):AS SS:= { EO p0 a1 with env:=[(9,(vb a0)),(0,(vd 185 p0)),(1,(vc 0)),(7,(vi (↑p0.length:Int))),(8,(vi a1))] }
noncomputable def Cj (sh:Sh) (p0:List ByteArray) (p1:Int) (z0:ByteArray) (a:Unit):T (Unit ⊕ Int ⊕ (Bool×Int)):=
 .bd (xY sh z0) λy1=>
  .bf (!y1) (
   .ok (.inr (.inl p1)))<|
  .ok (.inl ())
noncomputable def Bh (sh:Sh) (p0:List ByteArray) (p1:Int) (a:Unit):T (Int ⊕ (Bool×Int)):=
 .ok (.inr ((decide (p1<(↑p0.length:Int))),p1))
noncomputable def IN (sh:Sh) (p0:List ByteArray):Option (Int ⊕ (Bool×Int)):=cP sh (Cj sh p0) (Bh sh p0) p0 ()
noncomputable def acK {R:Type} (k:AX->AS SS->Option R) (p0:List ByteArray) (x:Int ⊕ (Bool×Int)):Option R:=(λx=>Sum.rec (λv=>k .ret (agi p0 v)) (λv=>k (.exit 0) (agj p0 v.1 v.2)) x) x
noncomputable def Wc:bM SS:=cd 3 (λst=>(ey st 0 250).bind λ_=>(bE 185 (bD st 0 0)).bind λp0=>some p0) (λp=>YZ p) (λp=>IN shut p) (λk p=>acK k p)
theorem alW:aO KK Tryz.prog ⟨Tryz.f270,aE 270⟩ (b9 (bm Tryz.f270) 3) Wc:=
 aO.c_ (π:=List ByteArray) (σ:=Unit) (aw.all HI rfl) (aC.nil) rfl 60 (λp i a=>EO p i) (λp=>p) (λp=>()) (St:=λp=>Cj shut p) (F:=λp=>Bh shut p) (λp=>rfl)
  (λm p i a k=>by kernel_rfl) (by rintro p (x|x)<;>exact⟨_,_,λ_=>rfl⟩) (λp N C A O w a hr=>dQ hr (t:=185) (sl:=0) rfl λv h=>h)
noncomputable def P6:aK SS:= { (wF shut) with T:=bI ((wF shut).T) 270 ⟨⟨Tryz.f270,aE 270⟩,[Wc]⟩ }
theorem aaC:aS P6 Tryz.prog:=(aS.cj (aw.all HI rfl) Tryz.func270 rfl bA λc hc=>by cases hc;exact aC.cons (aC.nil) (by kernel_rfl) alW)
noncomputable def CF (sh:Sh) (p:List ByteArray):T (Int×Bool):=
 .bf (decide (p.length<=140737488355328)&&decide ((lR p (ByteArray.mk #[47])).size<=140737488355328)) (
  .bd (qc (ByteArray.mk #[47]) (lR p (ByteArray.mk #[47]))) λz0=>
   .bd (ye sh z0) λy1=>
    .bf (y1.2==0) (
     .bf (decide ((↑p.length:Int)<=4)) (
      .gd (YZ p)<|
       .bd (IN sh p) λx8=> .cs x8 (λy2=>
        .ok (y1.1,(!decide (y2>=0)))) λy2=>
        .ok (y1.1,true))<|
     .ok (y1.1,false))<|
    .ok (y1.1,false))<|
 .no
noncomputable def oX (sh:Sh) (p:List ByteArray):Option (Int×Bool):=sh.s _ (CF sh p).val
theorem anN {R:Type} (p:List ByteArray) (k:Rs SS->Option R):b8 P6 100 176 [KK.ah 186 p] [] (cg KK [28,4] k)=(CF shut p).run (λr=>k (.ret (.bj [KK.ah 28 r.1,KK.ah 4 r.2]))):=by kernel_rfl
noncomputable def ad6 (sh:Sh):b6 SS:=cf KK 176 [186] (λ{R} xs k=>match xs with| .cons p .nil=>(oX sh p).bind (λr=>k (.ret (.bj [KK.ah 28 r.1,KK.ah 4 r.2]))))
noncomputable def wG (sh:Sh):aK SS:= { (wF sh) with C:=ad6 sh::(wF sh).C }
theorem HJ:aw (wG shut) Tryz.prog:=aw.cm HI λxs k z _ hz=>ct aaC (λ{R} xs k z h=>by
 match xs,h with
 | .cons p .nil,h=>exact⟨100,(anN p k).trans (cv h)⟩) hz
noncomputable def ED (p0:ByteArray) (p1:Int) (p2:Bool) (p3:ByteArray) (p4:List ByteArray):AS SS:=⟨[(0,(vs .dW)),(1,(va 5 0))],[(bX 188 [(.v (.slice none 0 0)),(lu 0)]),(bX 9 [(.v (.string p0))]),(bX 188 [(.own 6),(lu p1)]),(bX 4 [(.v (.bool p2))]),(some (.bN 208 [] [(.one (.bu 5 0))])),(bX 9 [(.v (.string p3))]),(rX 9 p4)],6,(some ⟨⟨Tryz.f131,aE 131⟩,[27],(gN (bm Tryz.f131) 9),(gO (bm Tryz.f131) 9),[(0,(vu p1)),(2,(va 0 0)),(4,(va 1 0)),(6,(va 2 0)),(7,(va 3 0)),(26,(vc 4))],none⟩),false,[],[3,2,5]⟩
noncomputable def afU (p0:ByteArray) (p1:Int) (a0:Bool) (a1:ByteArray) (a2:List ByteArray):AS SS:=⟨[],[(bX 188 [(.v (.slice none 0 0)),(lu 0)]),(bX 9 [(.v (.string p0))]),(bX 188 [(.own 6),(lu p1)]),(bX 4 [(.v (.bool a0))]),(some (.bN 208 [] [(.one (.bu 5 0))])),(bX 9 [(.v (.string a1))]),(rX 9 a2)],6,(some ⟨⟨Tryz.f131,aE 131⟩,[27],(gN (bm Tryz.f131) 9),(gO (bm Tryz.f131) 9),[(0,(vu p1)),(2,(va 0 0)),(4,(va 1 0)),(6,(va 2 0)),(7,(va 3 0)),(26,(vc 4))],(some (.exit 0))⟩),false,[],[3,2,5]⟩
noncomputable def afV (p0:ByteArray) (p1:Int) (a0:Bool) (a1:ByteArray) (a2:Bool) (a3:List ByteArray):AS SS:= { ED p0 p1 a2 a1 a3 with env:=[(5,(vb a0)),(4,(vs (.v (.string a1)))),(0,(vs .dW)),(1,(va 5 0))] }
noncomputable def kL (sh:Sh) (p0:ByteArray) (p1:Int) (a:Bool×ByteArray×List ByteArray):T ((Bool×ByteArray×List ByteArray) ⊕ (Bool×ByteArray×List ByteArray) ⊕ (Bool×ByteArray×Bool×List ByteArray)):=
 .bf (decide ((↑a.2.1.size:Int)>=1)) (
  .bd (gr a.2.1 none (some 1)) λz0=>
   .bf (z0.toList==(ByteArray.mk #[47]).toList) (
    .bd (gr a.2.1 (some 1) none) λz1=>
     .bf (IntKind.i64.wrap (Lib.indexByte z1.data.toList (Nat.toUInt8 47)+1)==0) (
      .bd (gr a.2.1 (some 1) (some (↑a.2.1.size:Int))) λz2=>
       .bf (p0.toList==(ByteArray.mk #[47]).toList) (
        .ok (.inr (.inl (a.1,a.2.1,a.2.2))))<|
       .bd (xY sh z2) λy3=>
        .bf (!y3) (
         .ok (.inr (.inl (y3,a.2.1,a.2.2))))<|
        .bd (app 16 a.2.2 [z2]) λz4=>
         .bd (gr a.2.1 (some (↑a.2.1.size:Int)) none) λz5=>
          .ok (.inl (y3,z5,z4)))<|
     .bd (gr a.2.1 (some 1) (some (IntKind.i64.wrap (Lib.indexByte z1.data.toList (Nat.toUInt8 47)+1)))) λz2=>
      .bf (p0.toList==(ByteArray.mk #[47]).toList) (
       .ok (.inr (.inl (a.1,a.2.1,a.2.2))))<|
      .bd (xY sh z2) λy3=>
       .bf (!y3) (
        .ok (.inr (.inl (y3,a.2.1,a.2.2))))<|
       .bd (app 16 a.2.2 [z2]) λz4=>
        .bd (gr a.2.1 (some (IntKind.i64.wrap (Lib.indexByte z1.data.toList (Nat.toUInt8 47)+1))) none) λz5=>
         .ok (.inl (y3,z5,z4)))<|
   .ok (.inr (.inr ((z0.toList==(ByteArray.mk #[47]).toList),a.2.1,a.1,a.2.2))))<|
 .ok (.inr (.inr (false,a.2.1,a.1,a.2.2)))
noncomputable def tT (sh:Sh) (p0:ByteArray) (p1:Int) (p2:Bool) (p3:ByteArray) (p4:List ByteArray):Option ((Bool×ByteArray×List ByteArray) ⊕ (Bool×ByteArray×Bool×List ByteArray)):=da sh (kL sh p0 p1) 1000000 (p2,p3,p4)
noncomputable def acs {R:Type} (k:AX->AS SS->Option R) (p0:ByteArray) (p1:Int) (x:(Bool×ByteArray×List ByteArray) ⊕ (Bool×ByteArray×Bool×List ByteArray)):Option R:=(λx=>Sum.rec (λv=>k .ret (afU p0 p1 v.1 v.2.1 v.2.2)) (λv=>k (.exit 0) (afV p0 p1 v.1 v.2.1 v.2.2.1 v.2.2.2)) x) x
noncomputable def V3:bM SS:=pS (λst=>gc (aE 208 1) (ka [3,2,5] (jk 2 0 9 (st))))<|cd 1 (λst=>((ey st 4 208).bind λ_=>kC st 59 9).bind λ_=>(DM (bq st 1 0)).bind λp0=>(bT (bq st 2 1)).bind λp1=>(si (bq st 3 0)).bind λp2=>(DM (bq st 5 0)).bind λp3=>(dD st 6 9).bind λp4=>some (p0,p1,p2,p3,p4)) (λp=>ED p.1 p.2.1 p.2.2.1 p.2.2.2.1 p.2.2.2.2) (λp=>tT shut p.1 p.2.1 p.2.2.1 p.2.2.2.1 p.2.2.2.2) (λk p=>acs k p.1 p.2.1)
theorem alI:aO KK Tryz.prog ⟨Tryz.f208,aE 208⟩ (b9 (bm Tryz.f208) 1) V3:=aO.pre (du.comp (du.gc (aE 208 1)) (du.comp (du.ka [3,2,5]) (du.jk 2 0 9)))<|
 aO.da (π:=ByteArray×Int×Bool×ByteArray×List ByteArray) (σ:=Bool×ByteArray×List ByteArray) (aw.all HJ rfl) (aC.nil) rfl 60 (λp a=>ED p.1 p.2.1 a.1 a.2.1 a.2.2) (λp=>(p.2.2.1,p.2.2.2.1,p.2.2.2.2)) (St:=λp=>kL shut p.1 p.2.1) (λp=>1000000) (λp=>rfl)
  (λm p a k=>by kernel_rfl)
noncomputable def P2:aK SS:= { (wG shut) with T:=bI ((wG shut).T) 208 ⟨⟨Tryz.f208,aE 208⟩,[V3]⟩ }
theorem aax:aS P2 Tryz.prog:=(aS.cj (aw.all HJ rfl) Tryz.func208 rfl bA λc hc=>by cases hc;exact aC.cons (aC.nil) (by kernel_rfl) alI)
noncomputable def CA (sh:Sh) (w:Int):T (nA×Bool):=
 .bd (DO sh w) λy0=>
  .bf (y0.2 !=0) (
   .ok (⟨[],0⟩,false))<|
  .bf (y0.1.toList==(ByteArray.mk #[]).toList) (
   .ok (⟨[],0⟩,false))<|
  .gd (ED y0.1 w true y0.1 [])<|
   .bd (tT sh y0.1 w true y0.1 []) λx4=> .cs x4 (λy1=>
    .bd (oX sh y1.2.2) λy2=>
     .bf (!y1.1) (
      .ok (⟨[],0⟩,false))<|
     .bf (!y2.2) (
      .ok (⟨[],0⟩,false))<|
     .bf (y2.1 !=w) (
      .ok (⟨[],0⟩,false))<|
     .ok (⟨y1.2.2,w⟩,true)) λy1=>
    .bd (oX sh y1.2.2.2) λy2=>
     .bf (!y1.2.2.1) (
      .ok (⟨[],0⟩,false))<|
     .bf (!y2.2) (
      .ok (⟨[],0⟩,false))<|
     .bf (y2.1 !=w) (
      .ok (⟨[],0⟩,false))<|
     .ok (⟨y1.2.2.2,w⟩,true)
noncomputable def sj (sh:Sh) (w:Int):Option (nA×Bool):=sh.s _ (CA sh w).val
theorem anG {R:Type} (w:Int) (k:Rs SS->Option R):b8 P2 100 131 [KK.ah 28 w] [] (cg KK [188,4] k)=(CA shut w).run (λr=>k (.ret (.bj [KK.ah 188 r.1,KK.ah 4 r.2]))):=by kernel_rfl
noncomputable def ad0 (sh:Sh):b6 SS:=cf KK 131 [28] (λ{R} xs k=>match xs with| .cons w .nil=>(sj sh w).bind (λr=>k (.ret (.bj [KK.ah 188 r.1,KK.ah 4 r.2]))))
noncomputable def By (sh:Sh):aK SS:= { (wG sh) with C:=ad0 sh::(wG sh).C }
theorem QW:aw (By shut) Tryz.prog:=aw.cm HJ λxs k z _ hz=>ct aax (λ{R} xs k z h=>by
 match xs,h with
 | .cons w .nil,h=>exact⟨100,(anG w k).trans (cv h)⟩) hz
noncomputable def Dk (sh:Sh) (w:Int):T (Int):=
 .bd (sj sh w) λy0=>
  .bf (!y0.2) (
   .ok 310)<|
  .ok 0
noncomputable def yi (sh:Sh) (w:Int):Option (Int):=sh.s _ (Dk sh w).val
theorem aot {R:Type} (w:Int) (k:Rs SS->Option R):b8 (By shut) 100 96 [KK.ah 28 w] [] (cg KK [40] k)=(Dk shut w).run (λr=>k (.ret (.s (KK.ah 40 r)))):=by kernel_rfl
noncomputable def aeU (sh:Sh):b6 SS:=cf KK 96 [28] (λ{R} xs k=>match xs with| .cons w .nil=>(yi sh w).bind (λr=>k (.ret (.s (KK.ah 40 r)))))
noncomputable def r6 (sh:Sh):aK SS:= { (By sh) with C:=aeU sh::(By sh).C }
theorem Ic:aw (r6 shut) Tryz.prog:=aw.cm QW λxs k z _ hz=>ct (aw.all QW rfl) (λ{R} xs k z h=>by
 match xs,h with
 | .cons w .nil,h=>exact⟨100,(aot w k).trans (cv h)⟩) hz
noncomputable def KZ (p0:List az) (p1 p2 p3:Int):AS SS:=⟨[(1,(va 0 0)),(3,(vu p2)),(7,(vd 27 p0)),(8,(vi (↑p0.length:Int))),(9,(vi p3))],[(bX 30 [(.aV 27 p0),(lu p1)])],0,none,false,[],[]⟩
noncomputable def Y3 (p0:List az) (p1 p2:Int):AS SS:=KZ p0 p1 p2 0
noncomputable def ago (p0:List az) (p1:Int):AS SS:=⟨[(2,(vi 340))],[],0,none,false,[],[]⟩
noncomputable def agp (p0:List az) (p1:Int) (a0:Bool) (a1 a2:Int):AS SS:= { KZ p0 p1 p1 p1 with env:=[(10,(vb a0)),(1,(va 0 0)),(3,(vu a1)),(7,(vd 27 p0)),(8,(vi (↑p0.length:Int))),(9,(vi a2))] }
noncomputable def qq (sh:Sh) (p0:List az) (p1 p3:Int) (z0:az) (a:Int):T (Int ⊕ Unit ⊕ (Bool×Int×Int)):=
 .bd (yi sh z0.bp) λy1=>
  .bf (y1 !=0) (
   .ok (.inr (.inl ())))<|
  .bf (decide (z0.aZ<=a)) (
   .ok (.inr (.inl ())))<|
  .bf (decide (z0.aZ>=p1)) (
   .ok (.inr (.inl ())))<|
  .ok (.inl z0.aZ)
noncomputable def Bl (sh:Sh) (p0:List az) (p1 p3 a:Int):T (Unit ⊕ (Bool×Int×Int)):=
 .ok (.inr ((decide (p3<(↑p0.length:Int))),a,p3))
noncomputable def BW (sh:Sh) (p0:List az) (p1 p2:Int):Option (Unit ⊕ (Bool×Int×Int)):=cP sh (qq sh p0 p1) (Bl sh p0 p1) p0 p2
noncomputable def acN {R:Type} (k:AX->AS SS->Option R) (p0:List az) (p1:Int) (x:Unit ⊕ (Bool×Int×Int)):Option R:=(λx=>Sum.rec (λv=>k .ret (ago p0 p1)) (λv=>k (.exit 0) (agp p0 p1 v.1 v.2.1 v.2.2)) x) x
noncomputable def M6:bM SS:=cd 4 (λst=>(bE 27 (bD st 7 0)).bind λp0=>(bT (bq st 0 1)).bind λp1=>(bT (bD st 3 0)).bind λp2=>some (p0,p1,p2)) (λp=>Y3 p.1 p.2.1 p.2.2) (λp=>BW shut p.1 p.2.1 p.2.2) (λk p=>acN k p.1 p.2.1)
theorem alZ:aO KK Tryz.prog ⟨Tryz.f48,aE 48⟩ (b9 (bm Tryz.f48) 4) M6:=
 aO.c_ (π:=List az×Int×Int) (σ:=Int) (aw.all Ic rfl) (aC.nil) rfl 60 (λp i a=>KZ p.1 p.2.1 a i) (λp=>p.1) (λp=>p.2.2) (St:=λp=>qq shut p.1 p.2.1) (F:=λp=>Bl shut p.1 p.2.1) (λp=>rfl)
  (λm p i a k=>by kernel_rfl) (by rintro p (x|x)<;>exact⟨_,_,λ_=>rfl⟩) (λp N C A O w a hr=>dQ hr (t:=27) (sl:=7) rfl λv h=>h)
noncomputable def Lf (p0:List az) (p1:Int) (p2:List (Int×Int)):AS SS:=⟨[(3,(vs (.mp 0))),(8,(vd 27 p0)),(9,(vi (↑p0.length:Int))),(10,(vi p1))],[(some (.map .u64 .u64 p2))],0,none,false,[],[]⟩
noncomputable def Zi (p0:List az) (p2:List (Int×Int)):AS SS:=Lf p0 0 p2
noncomputable def agY (p0:List az) (a0:Bool) (a1:Int) (a2:List (Int×Int)):AS SS:= { Lf p0 a1 a2 with env:=[(11,(vb a0)),(3,(vs (.mp 0))),(8,(vd 27 p0)),(9,(vi (↑p0.length:Int))),(10,(vi a1))] }
noncomputable def Jj (sh:Sh) (p0:List az) (p1:Int) (z0:az) (a:(List (Int×Int))):T (((List (Int×Int))) ⊕ (Bool×Int×(List (Int×Int)))):=
 .ok (.inl (cR a z0.bp z0.aZ))
noncomputable def Bt (sh:Sh) (p0:List az) (p1:Int) (a:(List (Int×Int))):T ((Bool×Int×(List (Int×Int)))):=
 .ok ((decide (p1<(↑p0.length:Int))),p1,a)
noncomputable def BZ (sh:Sh) (p0:List az) (p2:List (Int×Int)):Option ((Bool×Int×(List (Int×Int)))):=cP sh (Jj sh p0) (Bt sh p0) p0 p2
noncomputable def ac8 {R:Type} (k:AX->AS SS->Option R) (p0:List az) (x:(Bool×Int×(List (Int×Int)))):Option R:=(λv=>k (.exit 0) (agY p0 v.1 v.2.1 v.2.2)) x
noncomputable def Wu:bM SS:=cd 4 (λst=>(bE 27 (bD st 8 0)).bind λp0=>(je st 0).bind λp2=>some (p0,p2)) (λp=>Zi p.1 p.2) (λp=>BZ shut p.1 p.2) (λk p=>ac8 k p.1)
noncomputable def abi:aK SS:= { (r6 shut) with T:=bI ((r6 shut).T) 48 ⟨⟨Tryz.f48,aE 48⟩,[M6]⟩ }
theorem QD:aS abi Tryz.prog:=(aS.cj (aw.all Ic rfl) Tryz.func48 rfl bA λc hc=>by cases hc;exact aC.cons (aC.nil) (by kernel_rfl) alZ)
theorem ami:aO KK Tryz.prog ⟨Tryz.f97,aE 97⟩ (b9 (bm Tryz.f97) 4) Wu:=
 aO.c_ (π:=List az×(List (Int×Int))) (σ:=(List (Int×Int))) QD (aC.nil) rfl 60 (λp i a=>Lf p.1 i a) (λp=>p.1) (λp=>p.2) (St:=λp=>Jj shut p.1) (F:=λp=>Bt shut p.1) (λp=>rfl)
  (λm p i a k=>by kernel_rfl) (λp x=>⟨_,_,λ_=>rfl⟩) (λp N C A O w a hr=>dQ hr (t:=27) (sl:=8) rfl λv h=>h)
noncomputable def QE:aK SS:= { (r6 shut) with T:=bI (bI ((r6 shut).T) 48 ⟨⟨Tryz.f48,aE 48⟩,[M6]⟩) 97 ⟨⟨Tryz.f97,aE 97⟩,[Wu]⟩ }
theorem abj:aS QE Tryz.prog:=(aS.cj QD Tryz.func97 rfl bA λc hc=>by cases hc;exact aC.cons (aC.nil) (by kernel_rfl) ami)
noncomputable def C4 (sh:Sh) (m:bG):T (Int):=
 .gd (Y3 m.ab m.aN 0)<|
  .bd (BW sh m.ab m.aN 0) λx3=> .cs x3 (λ_=>
   .ok 340) λy0=>
   .bf (decide ((↑m.ab.length:Int)>16)) (
    .ok 340)<|
   .gd (Zi m.ab [])<|
    .bd (BZ sh m.ab []) λy1=>
     .bf (decide ((↑y1.2.2.length:Int)<(↑m.ab.length:Int))) (
      .ok 340)<|
     .bf (decide (m.aN<1)) (
      .ok 340)<|
     .bf (decide (m.aN>1073741825)) (
      .ok 340)<|
     .ok 0
noncomputable def yd (sh:Sh) (m:bG):Option (Int):=sh.s _ (C4 sh m).val
theorem aof {R:Type} (m:bG) (k:Rs SS->Option R):b8 QE 100 48 [KK.ah 30 m] [] (cg KK [40] k)=(C4 shut m).run (λr=>k (.ret (.s (KK.ah 40 r)))):=by kernel_rfl
noncomputable def aeD (sh:Sh):b6 SS:=cf KK 48 [30] (λ{R} xs k=>match xs with| .cons m .nil=>(yd sh m).bind (λr=>k (.ret (.s (KK.ah 40 r)))))
noncomputable def wW (sh:Sh):aK SS:= { (r6 sh) with C:=aeD sh::(r6 sh).C }
theorem H8:aw (wW shut) Tryz.prog:=aw.cm Ic λxs k z _ hz=>ct abj (λ{R} xs k z h=>by
 match xs,h with
 | .cons m .nil,h=>exact⟨100,(aof m k).trans (cv h)⟩) hz
noncomputable def ES (p0 p1:List ai) (p2:Int):AS SS:=⟨[(0,(vd 26 p0)),(1,(vd 26 p1)),(12,(vi (↑p0.length:Int))),(13,(vi p2))],[],0,none,false,[],[]⟩
noncomputable def Y7 (p0 p1:List ai):AS SS:=ES p0 p1 0
noncomputable def agC (p0 p1:List ai):AS SS:= { ES p0 p1 0 with env:=[(4,(vb false))] }
noncomputable def agD (p0 p1:List ai) (a0:Bool) (a1:Int):AS SS:= { ES p0 p1 a1 with env:=[(14,(vb a0)),(0,(vd 26 p0)),(1,(vd 26 p1)),(12,(vi (↑p0.length:Int))),(13,(vi a1))] }
noncomputable def Ji (sh:Sh) (p0 p1:List ai) (p2:Int) (z0:ai) (a:Unit):T (Unit ⊕ Unit ⊕ (Bool×Int)):=
 .bd (idx p1 p2) λz1=>
  .bf (!me z0 z1) (
   .ok (.inr (.inl ())))<|
  .ok (.inl ())
noncomputable def Bo (sh:Sh) (p0 p1:List ai) (p2:Int) (a:Unit):T (Unit ⊕ (Bool×Int)):=
 .ok (.inr ((decide (p2<(↑p0.length:Int))),p2))
noncomputable def Rn (sh:Sh) (p0 p1:List ai):Option (Unit ⊕ (Bool×Int)):=cP sh (Ji sh p0 p1) (Bo sh p0 p1) p0 ()
noncomputable def acT {R:Type} (k:AX->AS SS->Option R) (p0 p1:List ai) (x:Unit ⊕ (Bool×Int)):Option R:=(λx=>Sum.rec (λv=>k .ret (agC p0 p1)) (λv=>k (.exit 0) (agD p0 p1 v.1 v.2)) x) x
noncomputable def Wi:bM SS:=cd 5 (λst=>(bE 26 (bD st 0 0)).bind λp0=>(bE 26 (bD st 1 0)).bind λp1=>some (p0,p1)) (λp=>Y7 p.1 p.2) (λp=>Rn shut p.1 p.2) (λk p=>acT k p.1 p.2)
theorem al5:aO KK Tryz.prog ⟨Tryz.f57,aE 57⟩ (b9 (bm Tryz.f57) 5) Wi:=
 aO.c_ (π:=List ai×List ai) (σ:=Unit) (aw.all H8 rfl) (aC.nil) rfl 60 (λp i a=>ES p.1 p.2 i) (λp=>p.1) (λp=>()) (St:=λp=>Ji shut p.1 p.2) (F:=λp=>Bo shut p.1 p.2) (λp=>rfl)
  (λm p i a k=>by kernel_rfl) (by rintro p (x|x)<;>exact⟨_,_,λ_=>rfl⟩) (λp N C A O w a hr=>dQ hr (t:=26) (sl:=0) rfl λv h=>h)
noncomputable def QG:aK SS:= { (wW shut) with T:=bI ((wW shut).T) 57 ⟨⟨Tryz.f57,aE 57⟩,[Wi]⟩ }
theorem abk:aS QG Tryz.prog:=(aS.cj (aw.all H8 rfl) Tryz.func57 rfl bA λc hc=>by cases hc;exact aC.cons (aC.nil) (by kernel_rfl) al5)
noncomputable def C8 (sh:Sh) (a b:List ai):T (Bool):=
 .bf ((↑a.length:Int) !=(↑b.length:Int)) (
  .ok false)<|
 .gd (Y7 a b)<|
  .bd (Rn sh a b) λx3=> .cs x3 (λ_=>
   .ok false) λy0=>
   .ok true
noncomputable def Km (sh:Sh) (a b:List ai):Option (Bool):=sh.s _ (C8 sh a b).val
theorem aoh {R:Type} (a b:List ai) (k:Rs SS->Option R):b8 QG 100 57 [KK.ah 26 a,KK.ah 26 b] [] (cg KK [4] k)=(C8 shut a b).run (λr=>k (.ret (.s (KK.ah 4 r)))):=by kernel_rfl
noncomputable def aeG (sh:Sh):b6 SS:=cf KK 57 [26,26] (λ{R} xs k=>match xs with| .cons a (.cons b .nil)=>(Km sh a b).bind (λr=>k (.ret (.s (KK.ah 4 r)))))
noncomputable def wY (sh:Sh):aK SS:= { (wW sh) with C:=aeG sh::(wW sh).C }
theorem H_:aw (wY shut) Tryz.prog:=aw.cm H8 λxs k z _ hz=>ct abk (λ{R} xs k z h=>by
 match xs,h with
 | .cons a (.cons b .nil),h=>exact⟨100,(aoh a b k).trans (cv h)⟩) hz
noncomputable def Eo (p0 p1:List ae) (p2:Int):AS SS:=⟨[(0,(vd 23 p0)),(1,(vd 23 p1)),(12,(vi (↑p0.length:Int))),(13,(vi p2))],[],0,none,false,[],[]⟩
noncomputable def YD (p0 p1:List ae):AS SS:=Eo p0 p1 0
noncomputable def afe (p0 p1:List ae):AS SS:= { Eo p0 p1 0 with env:=[(4,(vb false))] }
noncomputable def aff (p0 p1:List ae) (a0:Bool) (a1:Int):AS SS:= { Eo p0 p1 a1 with env:=[(14,(vb a0)),(0,(vd 23 p0)),(1,(vd 23 p1)),(12,(vi (↑p0.length:Int))),(13,(vi a1))] }
noncomputable def Ja (sh:Sh) (p0 p1:List ae) (p2:Int) (z0:ae) (a:Unit):T (Unit ⊕ Unit ⊕ (Bool×Int)):=
 .bd (idx p1 p2) λz1=>
  .bf (!jU z0 z1) (
   .ok (.inr (.inl ())))<|
  .ok (.inl ())
noncomputable def AW (sh:Sh) (p0 p1:List ae) (p2:Int) (a:Unit):T (Unit ⊕ (Bool×Int)):=
 .ok (.inr ((decide (p2<(↑p0.length:Int))),p2))
noncomputable def Rd (sh:Sh) (p0 p1:List ae):Option (Unit ⊕ (Bool×Int)):=cP sh (Ja sh p0 p1) (AW sh p0 p1) p0 ()
noncomputable def ab2 {R:Type} (k:AX->AS SS->Option R) (p0 p1:List ae) (x:Unit ⊕ (Bool×Int)):Option R:=(λx=>Sum.rec (λv=>k .ret (afe p0 p1)) (λv=>k (.exit 0) (aff p0 p1 v.1 v.2)) x) x
noncomputable def VM:bM SS:=cd 5 (λst=>(bE 23 (bD st 0 0)).bind λp0=>(bE 23 (bD st 1 0)).bind λp1=>some (p0,p1)) (λp=>YD p.1 p.2) (λp=>Rd shut p.1 p.2) (λk p=>ab2 k p.1 p.2)
theorem alk:aO KK Tryz.prog ⟨Tryz.f100,aE 100⟩ (b9 (bm Tryz.f100) 5) VM:=
 aO.c_ (π:=List ae×List ae) (σ:=Unit) (aw.all H_ rfl) (aC.nil) rfl 60 (λp i a=>Eo p.1 p.2 i) (λp=>p.1) (λp=>()) (St:=λp=>Ja shut p.1 p.2) (F:=λp=>AW shut p.1 p.2) (λp=>rfl)
  (λm p i a k=>by kernel_rfl) (by rintro p (x|x)<;>exact⟨_,_,λ_=>rfl⟩) (λp N C A O w a hr=>dQ hr (t:=23) (sl:=0) rfl λv h=>h)
noncomputable def PU:aK SS:= { (wY shut) with T:=bI ((wY shut).T) 100 ⟨⟨Tryz.f100,aE 100⟩,[VM]⟩ }
theorem aap:aS PU Tryz.prog:=(aS.cj (aw.all H_ rfl) Tryz.func100 rfl bA λc hc=>by cases hc;exact aC.cons (aC.nil) (by kernel_rfl) alk)
noncomputable def Ct (sh:Sh) (a b:List ae):T (Bool):=
 .bf ((↑a.length:Int) !=(↑b.length:Int)) (
  .ok false)<|
 .gd (YD a b)<|
  .bd (Rd sh a b) λx3=> .cs x3 (λ_=>
   .ok false) λy0=>
   .ok true
noncomputable def Kd (sh:Sh) (a b:List ae):Option (Bool):=sh.s _ (Ct sh a b).val
theorem anx {R:Type} (a b:List ae) (k:Rs SS->Option R):b8 PU 100 100 [KK.ah 23 a,KK.ah 23 b] [] (cg KK [4] k)=(Ct shut a b).run (λr=>k (.ret (.s (KK.ah 4 r)))):=by kernel_rfl
noncomputable def adS (sh:Sh):b6 SS:=cf KK 100 [23,23] (λ{R} xs k=>match xs with| .cons a (.cons b .nil)=>(Kd sh a b).bind (λr=>k (.ret (.s (KK.ah 4 r)))))
noncomputable def wv (sh:Sh):aK SS:= { (wY sh) with C:=adS sh::(wY sh).C }
theorem HA:aw (wv shut) Tryz.prog:=aw.cm H_ λxs k z _ hz=>ct aap (λ{R} xs k z h=>by
 match xs,h with
 | .cons a (.cons b .nil),h=>exact⟨100,(anx a b k).trans (cv h)⟩) hz
noncomputable def Ep (p0 p1:List az) (p2:Int):AS SS:=⟨[(0,(vd 27 p0)),(1,(vd 27 p1)),(12,(vi (↑p0.length:Int))),(13,(vi p2))],[],0,none,false,[],[]⟩
noncomputable def YE (p0 p1:List az):AS SS:=Ep p0 p1 0
noncomputable def afg (p0 p1:List az):AS SS:= { Ep p0 p1 0 with env:=[(4,(vb false))] }
noncomputable def afh (p0 p1:List az) (a0:Bool) (a1:Int):AS SS:= { Ep p0 p1 a1 with env:=[(14,(vb a0)),(0,(vd 27 p0)),(1,(vd 27 p1)),(12,(vi (↑p0.length:Int))),(13,(vi a1))] }
noncomputable def Jb (sh:Sh) (p0 p1:List az) (p2:Int) (z0:az) (a:Unit):T (Unit ⊕ Unit ⊕ (Bool×Int)):=
 .bd (idx p1 p2) λz1=>
  .bf (!oU z0 z1) (
   .ok (.inr (.inl ())))<|
  .ok (.inl ())
noncomputable def AY (sh:Sh) (p0 p1:List az) (p2:Int) (a:Unit):T (Unit ⊕ (Bool×Int)):=
 .ok (.inr ((decide (p2<(↑p0.length:Int))),p2))
noncomputable def Re (sh:Sh) (p0 p1:List az):Option (Unit ⊕ (Bool×Int)):=cP sh (Jb sh p0 p1) (AY sh p0 p1) p0 ()
noncomputable def ab3 {R:Type} (k:AX->AS SS->Option R) (p0 p1:List az) (x:Unit ⊕ (Bool×Int)):Option R:=(λx=>Sum.rec (λv=>k .ret (afg p0 p1)) (λv=>k (.exit 0) (afh p0 p1 v.1 v.2)) x) x
noncomputable def VN:bM SS:=cd 5 (λst=>(bE 27 (bD st 0 0)).bind λp0=>(bE 27 (bD st 1 0)).bind λp1=>some (p0,p1)) (λp=>YE p.1 p.2) (λp=>Re shut p.1 p.2) (λk p=>ab3 k p.1 p.2)
theorem alm:aO KK Tryz.prog ⟨Tryz.f101,aE 101⟩ (b9 (bm Tryz.f101) 5) VN:=
 aO.c_ (π:=List az×List az) (σ:=Unit) (aw.all HA rfl) (aC.nil) rfl 60 (λp i a=>Ep p.1 p.2 i) (λp=>p.1) (λp=>()) (St:=λp=>Jb shut p.1 p.2) (F:=λp=>AY shut p.1 p.2) (λp=>rfl)
  (λm p i a k=>by kernel_rfl) (by rintro p (x|x)<;>exact⟨_,_,λ_=>rfl⟩) (λp N C A O w a hr=>dQ hr (t:=27) (sl:=0) rfl λv h=>h)
noncomputable def PV:aK SS:= { (wv shut) with T:=bI ((wv shut).T) 101 ⟨⟨Tryz.f101,aE 101⟩,[VN]⟩ }
theorem aaq:aS PV Tryz.prog:=(aS.cj (aw.all HA rfl) Tryz.func101 rfl bA λc hc=>by cases hc;exact aC.cons (aC.nil) (by kernel_rfl) alm)
noncomputable def Cu (sh:Sh) (a b:List az):T (Bool):=
 .bf ((↑a.length:Int) !=(↑b.length:Int)) (
  .ok false)<|
 .gd (YE a b)<|
  .bd (Re sh a b) λx3=> .cs x3 (λ_=>
   .ok false) λy0=>
   .ok true
noncomputable def Ke (sh:Sh) (a b:List az):Option (Bool):=sh.s _ (Cu sh a b).val
theorem anz {R:Type} (a b:List az) (k:Rs SS->Option R):b8 PV 100 101 [KK.ah 27 a,KK.ah 27 b] [] (cg KK [4] k)=(Cu shut a b).run (λr=>k (.ret (.s (KK.ah 4 r)))):=by kernel_rfl
noncomputable def adT (sh:Sh):b6 SS:=cf KK 101 [27,27] (λ{R} xs k=>match xs with| .cons a (.cons b .nil)=>(Ke sh a b).bind (λr=>k (.ret (.s (KK.ah 4 r)))))
noncomputable def wx (sh:Sh):aK SS:= { (wv sh) with C:=adT sh::(wv sh).C }
theorem HB:aw (wx shut) Tryz.prog:=aw.cm HA λxs k z _ hz=>ct aaq (λ{R} xs k z h=>by
 match xs,h with
 | .cons a (.cons b .nil),h=>exact⟨100,(anz a b k).trans (cv h)⟩) hz
noncomputable def Er (p0 p1:List aA) (p2:Int):AS SS:=⟨[(0,(vd 31 p0)),(1,(vd 31 p1)),(12,(vi (↑p0.length:Int))),(13,(vi p2))],[],0,none,false,[],[]⟩
noncomputable def YF (p0 p1:List aA):AS SS:=Er p0 p1 0
noncomputable def afi (p0 p1:List aA):AS SS:= { Er p0 p1 0 with env:=[(4,(vb false))] }
noncomputable def afj (p0 p1:List aA) (a0:Bool) (a1:Int):AS SS:= { Er p0 p1 a1 with env:=[(14,(vb a0)),(0,(vd 31 p0)),(1,(vd 31 p1)),(12,(vi (↑p0.length:Int))),(13,(vi a1))] }
noncomputable def Jc (sh:Sh) (p0 p1:List aA) (p2:Int) (z0:aA) (a:Unit):T (Unit ⊕ Unit ⊕ (Bool×Int)):=
 .bd (idx p1 p2) λz1=>
  .bf (!oV z0 z1) (
   .ok (.inr (.inl ())))<|
  .ok (.inl ())
noncomputable def AZ (sh:Sh) (p0 p1:List aA) (p2:Int) (a:Unit):T (Unit ⊕ (Bool×Int)):=
 .ok (.inr ((decide (p2<(↑p0.length:Int))),p2))
noncomputable def Rf (sh:Sh) (p0 p1:List aA):Option (Unit ⊕ (Bool×Int)):=cP sh (Jc sh p0 p1) (AZ sh p0 p1) p0 ()
noncomputable def ab4 {R:Type} (k:AX->AS SS->Option R) (p0 p1:List aA) (x:Unit ⊕ (Bool×Int)):Option R:=(λx=>Sum.rec (λv=>k .ret (afi p0 p1)) (λv=>k (.exit 0) (afj p0 p1 v.1 v.2)) x) x
noncomputable def VO:bM SS:=cd 5 (λst=>(bE 31 (bD st 0 0)).bind λp0=>(bE 31 (bD st 1 0)).bind λp1=>some (p0,p1)) (λp=>YF p.1 p.2) (λp=>Rf shut p.1 p.2) (λk p=>ab4 k p.1 p.2)
theorem aln:aO KK Tryz.prog ⟨Tryz.f102,aE 102⟩ (b9 (bm Tryz.f102) 5) VO:=
 aO.c_ (π:=List aA×List aA) (σ:=Unit) (aw.all HB rfl) (aC.nil) rfl 60 (λp i a=>Er p.1 p.2 i) (λp=>p.1) (λp=>()) (St:=λp=>Jc shut p.1 p.2) (F:=λp=>AZ shut p.1 p.2) (λp=>rfl)
  (λm p i a k=>by kernel_rfl) (by rintro p (x|x)<;>exact⟨_,_,λ_=>rfl⟩) (λp N C A O w a hr=>dQ hr (t:=31) (sl:=0) rfl λv h=>h)
noncomputable def PW:aK SS:= { (wx shut) with T:=bI ((wx shut).T) 102 ⟨⟨Tryz.f102,aE 102⟩,[VO]⟩ }
theorem aar:aS PW Tryz.prog:=(aS.cj (aw.all HB rfl) Tryz.func102 rfl bA λc hc=>by cases hc;exact aC.cons (aC.nil) (by kernel_rfl) aln)
noncomputable def Cv (sh:Sh) (a b:List aA):T (Bool):=
 .bf ((↑a.length:Int) !=(↑b.length:Int)) (
  .ok false)<|
 .gd (YF a b)<|
  .bd (Rf sh a b) λx3=> .cs x3 (λ_=>
   .ok false) λy0=>
   .ok true
noncomputable def Kf (sh:Sh) (a b:List aA):Option (Bool):=sh.s _ (Cv sh a b).val
theorem anA {R:Type} (a b:List aA) (k:Rs SS->Option R):b8 PW 100 102 [KK.ah 31 a,KK.ah 31 b] [] (cg KK [4] k)=(Cv shut a b).run (λr=>k (.ret (.s (KK.ah 4 r)))):=by kernel_rfl
noncomputable def adU (sh:Sh):b6 SS:=cf KK 102 [31,31] (λ{R} xs k=>match xs with| .cons a (.cons b .nil)=>(Kf sh a b).bind (λr=>k (.ret (.s (KK.ah 4 r)))))
noncomputable def wy (sh:Sh):aK SS:= { (wx sh) with C:=adU sh::(wx sh).C }
theorem HC:aw (wy shut) Tryz.prog:=aw.cm HB λxs k z _ hz=>ct aar (λ{R} xs k z h=>by
 match xs,h with
 | .cons a (.cons b .nil),h=>exact⟨100,(anA a b k).trans (cv h)⟩) hz
noncomputable def Et (p0 p1:List Int) (p2:Int):AS SS:=⟨[(0,(vd 76 p0)),(1,(vd 76 p1)),(12,(vi (↑p0.length:Int))),(13,(vi p2))],[],0,none,false,[],[]⟩
noncomputable def YH (p0 p1:List Int):AS SS:=Et p0 p1 0
noncomputable def afm (p0 p1:List Int):AS SS:= { Et p0 p1 0 with env:=[(4,(vb false))] }
noncomputable def afn (p0 p1:List Int) (a0:Bool) (a1:Int):AS SS:= { Et p0 p1 a1 with env:=[(14,(vb a0)),(0,(vd 76 p0)),(1,(vd 76 p1)),(12,(vi (↑p0.length:Int))),(13,(vi a1))] }
noncomputable def Jd (sh:Sh) (p0 p1:List Int) (p2 z0:Int) (a:Unit):T (Unit ⊕ Unit ⊕ (Bool×Int)):=
 .bd (idx p1 p2) λz1=>
  .bf (z0 !=z1) (
   .ok (.inr (.inl ())))<|
  .ok (.inl ())
noncomputable def A6 (sh:Sh) (p0 p1:List Int) (p2:Int) (a:Unit):T (Unit ⊕ (Bool×Int)):=
 .ok (.inr ((decide (p2<(↑p0.length:Int))),p2))
noncomputable def Rg (sh:Sh) (p0 p1:List Int):Option (Unit ⊕ (Bool×Int)):=cP sh (Jd sh p0 p1) (A6 sh p0 p1) p0 ()
noncomputable def ab6 {R:Type} (k:AX->AS SS->Option R) (p0 p1:List Int) (x:Unit ⊕ (Bool×Int)):Option R:=(λx=>Sum.rec (λv=>k .ret (afm p0 p1)) (λv=>k (.exit 0) (afn p0 p1 v.1 v.2)) x) x
noncomputable def VQ:bM SS:=cd 5 (λst=>(bE 76 (bD st 0 0)).bind λp0=>(bE 76 (bD st 1 0)).bind λp1=>some (p0,p1)) (λp=>YH p.1 p.2) (λp=>Rg shut p.1 p.2) (λk p=>ab6 k p.1 p.2)
theorem alp:aO KK Tryz.prog ⟨Tryz.f105,aE 105⟩ (b9 (bm Tryz.f105) 5) VQ:=
 aO.c_ (π:=List Int×List Int) (σ:=Unit) (aw.all HC rfl) (aC.nil) rfl 60 (λp i a=>Et p.1 p.2 i) (λp=>p.1) (λp=>()) (St:=λp=>Jd shut p.1 p.2) (F:=λp=>A6 shut p.1 p.2) (λp=>rfl)
  (λm p i a k=>by kernel_rfl) (by rintro p (x|x)<;>exact⟨_,_,λ_=>rfl⟩) (λp N C A O w a hr=>dQ hr (t:=76) (sl:=0) rfl λv h=>h)
noncomputable def PX:aK SS:= { (wy shut) with T:=bI ((wy shut).T) 105 ⟨⟨Tryz.f105,aE 105⟩,[VQ]⟩ }
theorem aas:aS PX Tryz.prog:=(aS.cj (aw.all HC rfl) Tryz.func105 rfl bA λc hc=>by cases hc;exact aC.cons (aC.nil) (by kernel_rfl) alp)
noncomputable def Cw (sh:Sh) (a b:List Int):T (Bool):=
 .bf ((↑a.length:Int) !=(↑b.length:Int)) (
  .ok false)<|
 .gd (YH a b)<|
  .bd (Rg sh a b) λx3=> .cs x3 (λ_=>
   .ok false) λy0=>
   .ok true
noncomputable def Kg (sh:Sh) (a b:List Int):Option (Bool):=sh.s _ (Cw sh a b).val
theorem anB {R:Type} (a b:List Int) (k:Rs SS->Option R):b8 PX 100 105 [KK.ah 76 a,KK.ah 76 b] [] (cg KK [4] k)=(Cw shut a b).run (λr=>k (.ret (.s (KK.ah 4 r)))):=by kernel_rfl
noncomputable def adV (sh:Sh):b6 SS:=cf KK 105 [76,76] (λ{R} xs k=>match xs with| .cons a (.cons b .nil)=>(Kg sh a b).bind (λr=>k (.ret (.s (KK.ah 4 r)))))
noncomputable def Bv (sh:Sh):aK SS:= { (wy sh) with C:=adV sh::(wy sh).C }
theorem QT:aw (Bv shut) Tryz.prog:=aw.cm HC λxs k z _ hz=>ct aas (λ{R} xs k z h=>by
 match xs,h with
 | .cons a (.cons b .nil),h=>exact⟨100,(anB a b k).trans (cv h)⟩) hz
noncomputable def C7 (sh:Sh) (a b:br):T (Bool):=
 .bf (a.aJ==b.aJ) (
  .bd (Kd sh a.ab b.ab) λy0=>
   .ok y0)<|
 .ok false
noncomputable def Kl (sh:Sh) (a b:br):Option (Bool):=sh.s _ (C7 sh a b).val
theorem aog {R:Type} (a b:br) (k:Rs SS->Option R):b8 (Bv shut) 100 56 [KK.ah 25 a,KK.ah 25 b] [] (cg KK [4] k)=(C7 shut a b).run (λr=>k (.ret (.s (KK.ah 4 r)))):=by kernel_rfl
noncomputable def aeF (sh:Sh):b6 SS:=cf KK 56 [25,25] (λ{R} xs k=>match xs with| .cons a (.cons b .nil)=>(Kl sh a b).bind (λr=>k (.ret (.s (KK.ah 4 r)))))
noncomputable def BI (sh:Sh):aK SS:= { (Bv sh) with C:=aeF sh::(Bv sh).C }
theorem Q6:aw (BI shut) Tryz.prog:=aw.cm QT λxs k z _ hz=>ct (aw.all QT rfl) (λ{R} xs k z h=>by
 match xs,h with
 | .cons a (.cons b .nil),h=>exact⟨100,(aog a b k).trans (cv h)⟩) hz
noncomputable def C9 (sh:Sh) (a b:bG):T (Bool):=
 .bf (a.aN==b.aN) (
  .bd (Ke sh a.ab b.ab) λy0=>
   .ok y0)<|
 .ok false
noncomputable def Kn (sh:Sh) (a b:bG):Option (Bool):=sh.s _ (C9 sh a b).val
theorem aoi {R:Type} (a b:bG) (k:Rs SS->Option R):b8 (BI shut) 100 58 [KK.ah 30 a,KK.ah 30 b] [] (cg KK [4] k)=(C9 shut a b).run (λr=>k (.ret (.s (KK.ah 4 r)))):=by kernel_rfl
noncomputable def aeH (sh:Sh):b6 SS:=cf KK 58 [30,30] (λ{R} xs k=>match xs with| .cons a (.cons b .nil)=>(Kn sh a b).bind (λr=>k (.ret (.s (KK.ah 4 r)))))
noncomputable def wZ (sh:Sh):aK SS:= { (BI sh) with C:=aeH sh::(BI sh).C }
theorem H':aw (wZ shut) Tryz.prog:=aw.cm Q6 λxs k z _ hz=>ct (aw.all Q6 rfl) (λ{R} xs k z h=>by
 match xs,h with
 | .cons a (.cons b .nil),h=>exact⟨100,(aoi a b k).trans (cv h)⟩) hz
noncomputable def Es (p0 p1:List ao) (p2:Int):AS SS:=⟨[(1,(vd 32 p0)),(2,(vs (.v (.func (.func 104) (.mk []) (.mk []))))),(15,(vd 32 p1)),(16,(vi (↑p1.length:Int))),(17,(vi p2))],[],0,none,false,[],[]⟩
noncomputable def YG (p0 p1:List ao):AS SS:=Es p0 p1 0
noncomputable def afk (p0 p1:List ao):AS SS:= { Es p0 p1 0 with env:=[(6,(vb false))] }
noncomputable def afl (p0 p1:List ao) (a0:Bool) (a1:Int):AS SS:= { Es p0 p1 a1 with env:=[(18,(vb a0)),(1,(vd 32 p0)),(2,(vs (.v (.func (.func 104) (.mk []) (.mk []))))),(15,(vd 32 p1)),(16,(vi (↑p1.length:Int))),(17,(vi a1))] }
noncomputable def B7 (sh:Sh) (p0 p1:List ao) (p2:Int) (z0:ao) (a:Unit):T (Unit ⊕ Unit ⊕ (Bool×Int)):=
 .bd (idx p0 p2) λz1=>
  .bf (z0.aa==z1.aa) (
   .bd (Kg sh z0.bg z1.bg) λy2=>
    .bf (!y2) (
     .ok (.inr (.inl ())))<|
    .ok (.inl ()))<|
  .ok (.inr (.inl ()))
noncomputable def A4 (sh:Sh) (p0 p1:List ao) (p2:Int) (a:Unit):T (Unit ⊕ (Bool×Int)):=
 .ok (.inr ((decide (p2<(↑p1.length:Int))),p2))
noncomputable def Ih (sh:Sh) (p0 p1:List ao):Option (Unit ⊕ (Bool×Int)):=cP sh (B7 sh p0 p1) (A4 sh p0 p1) p1 ()
noncomputable def ab5 {R:Type} (k:AX->AS SS->Option R) (p0 p1:List ao) (x:Unit ⊕ (Bool×Int)):Option R:=(λx=>Sum.rec (λv=>k .ret (afk p0 p1)) (λv=>k (.exit 0) (afl p0 p1 v.1 v.2)) x) x
noncomputable def VP:bM SS:=cd 5 (λst=>(bE 32 (bD st 1 0)).bind λp0=>(bE 32 (bD st 15 0)).bind λp1=>some (p0,p1)) (λp=>YG p.1 p.2) (λp=>Ih shut p.1 p.2) (λk p=>ab5 k p.1 p.2)
theorem alo:aO KK Tryz.prog ⟨Tryz.f103,aE 103⟩ (b9 (bm Tryz.f103) 5) VP:=
 aO.c_ (π:=List ao×List ao) (σ:=Unit) (aw.all H' rfl) (aC.nil) rfl 60 (λp i a=>Es p.1 p.2 i) (λp=>p.2) (λp=>()) (St:=λp=>B7 shut p.1 p.2) (F:=λp=>A4 shut p.1 p.2) (λp=>rfl)
  (λm p i a k=>by kernel_rfl) (by rintro p (x|x)<;>exact⟨_,_,λ_=>rfl⟩) (λp N C A O w a hr=>dQ hr (t:=32) (sl:=15) rfl λv h=>h)
noncomputable def QH:aK SS:= { (wZ shut) with T:=bI ((wZ shut).T) 103 ⟨⟨Tryz.f103,aE 103⟩,[VP]⟩ }
theorem abl:aS QH Tryz.prog:=(aS.cj (aw.all H' rfl) Tryz.func103 rfl bA λc hc=>by cases hc;exact aC.cons (aC.nil) (by kernel_rfl) alo)
noncomputable def C_ (sh:Sh) (a b:aL):T (Bool):=
 .bd (Kf sh a.aB b.aB) λy0=>
  .bf (y0) (
   .bf ((↑a.ax.length:Int) !=(↑b.ax.length:Int)) (
    .ok false)<|
   .gd (YG b.ax a.ax)<|
    .bd (Ih sh b.ax a.ax) λx5=> .cs x5 (λ_=>
     .ok false) λy1=>
     .ok true)<|
  .ok false
noncomputable def Ko (sh:Sh) (a b:aL):Option (Bool):=sh.s _ (C_ sh a b).val
theorem aoj {R:Type} (a b:aL) (k:Rs SS->Option R):b8 QH 100 59 [KK.ah 34 a,KK.ah 34 b] [] (cg KK [4] k)=(C_ shut a b).run (λr=>k (.ret (.s (KK.ah 4 r)))):=by kernel_rfl
noncomputable def aeI (sh:Sh):b6 SS:=cf KK 59 [34,34] (λ{R} xs k=>match xs with| .cons a (.cons b .nil)=>(Ko sh a b).bind (λr=>k (.ret (.s (KK.ah 4 r)))))
noncomputable def BJ (sh:Sh):aK SS:= { (wZ sh) with C:=aeI sh::(wZ sh).C }
theorem Q7:aw (BJ shut) Tryz.prog:=aw.cm H' λxs k z _ hz=>ct abl (λ{R} xs k z h=>by
 match xs,h with
 | .cons a (.cons b .nil),h=>exact⟨100,(aoj a b k).trans (cv h)⟩) hz
noncomputable def Cy (sh:Sh) (a b:aM):T (Bool):=
 .bd (Kl sh a.ar b.ar) λy0=>
  .bf (y0) (
   .bd (Km sh a.aI b.aI) λy1=>
    .bf (y1) (
     .bd (Kn sh a.ay b.ay) λy2=>
      .bf (y2) (
       .bd (Ko sh a.aq b.aq) λy3=>
        .ok y3)<|
      .ok false)<|
    .ok false)<|
  .ok false
noncomputable def eC (sh:Sh) (a b:aM):Option (Bool):=sh.s _ (Cy sh a b).val
theorem anD {R:Type} (a b:aM) (k:Rs SS->Option R):b8 (BJ shut) 100 12 [KK.ah 36 a,KK.ah 36 b] [] (cg KK [4] k)=(Cy shut a b).run (λr=>k (.ret (.s (KK.ah 4 r)))):=by kernel_rfl
noncomputable def adX (sh:Sh):b6 SS:=cf KK 12 [36,36] (λ{R} xs k=>match xs with| .cons a (.cons b .nil)=>(eC sh a b).bind (λr=>k (.ret (.s (KK.ah 4 r)))))
noncomputable def Bw (sh:Sh):aK SS:= { (BJ sh) with C:=adX sh::(BJ sh).C }
theorem QV:aw (Bw shut) Tryz.prog:=aw.cm Q7 λxs k z _ hz=>ct (aw.all Q7 rfl) (λ{R} xs k z h=>by
 match xs,h with
 | .cons a (.cons b .nil),h=>exact⟨100,(anD a b k).trans (cv h)⟩) hz
noncomputable def RN (sh:Sh):T (br):=
 .ok (⟨[1,0,0,0,0,0,0,0,0,0,0,0,0,0,0,0],[ae.mk 1 0 false 0]⟩)
noncomputable def Tf (sh:Sh):Option (br):=sh.s _ (RN sh).val
theorem aok {R:Type} (k:Rs SS->Option R):b8 (Bw shut) 100 64 [] [] (cg KK [25] k)=(RN shut).run (λr=>k (.ret (.s (KK.ah 25 r)))):=by kernel_rfl
noncomputable def aeJ (sh:Sh):b6 SS:=cf KK 64 [] (λ{R} xs k=>match xs with| .nil=>(Tf sh).bind (λr=>k (.ret (.s (KK.ah 25 r)))))
noncomputable def BK (sh:Sh):aK SS:= { (Bw sh) with C:=aeJ sh::(Bw sh).C }
theorem Q8:aw (BK shut) Tryz.prog:=aw.cm QV λxs k z _ hz=>ct (aw.all QV rfl) (λ{R} xs k z h=>by
 match xs,h with
 | .nil,h=>exact⟨100,(aok k).trans (cv h)⟩) hz
noncomputable def RO (sh:Sh):T (bG):=
 .ok (⟨[],1⟩)
noncomputable def Tg (sh:Sh):Option (bG):=sh.s _ (RO sh).val
theorem aol {R:Type} (k:Rs SS->Option R):b8 (BK shut) 100 65 [] [] (cg KK [30] k)=(RO shut).run (λr=>k (.ret (.s (KK.ah 30 r)))):=by kernel_rfl
noncomputable def aeK (sh:Sh):b6 SS:=cf KK 65 [] (λ{R} xs k=>match xs with| .nil=>(Tg sh).bind (λr=>k (.ret (.s (KK.ah 30 r)))))
noncomputable def BL (sh:Sh):aK SS:= { (BK sh) with C:=aeK sh::(BK sh).C }
theorem Q9:aw (BL shut) Tryz.prog:=aw.cm Q8 λxs k z _ hz=>ct (aw.all Q8 rfl) (λ{R} xs k z h=>by
 match xs,h with
 | .nil,h=>exact⟨100,(aol k).trans (cv h)⟩) hz
noncomputable def RI (sh:Sh):T (aM):=
 .bd (Tf sh) λy0=>
  .bd (Tg sh) λy1=>
   .ok (⟨y0,[],y1,⟨[],[]⟩⟩)
noncomputable def S9 (sh:Sh):Option (aM):=sh.s _ (RI sh).val
theorem anJ {R:Type} (k:Rs SS->Option R):b8 (BL shut) 100 16 [] [] (cg KK [36] k)=(RI shut).run (λr=>k (.ret (.s (KK.ah 36 r)))):=by kernel_rfl
noncomputable def ad3 (sh:Sh):b6 SS:=cf KK 16 [] (λ{R} xs k=>match xs with| .nil=>(S9 sh).bind (λr=>k (.ret (.s (KK.ah 36 r)))))
noncomputable def Bz (sh:Sh):aK SS:= { (BL sh) with C:=ad3 sh::(BL sh).C }
theorem QX:aw (Bz shut) Tryz.prog:=aw.cm Q9 λxs k z _ hz=>ct (aw.all Q9 rfl) (λ{R} xs k z h=>by
 match xs,h with
 | .nil,h=>exact⟨100,(anJ k).trans (cv h)⟩) hz
noncomputable def CU (sh:Sh) (c:aW):T (Bool):=
 .bf (c.bJ==9) (
  .ok true)<|
 .ok (c.bJ==12)
noncomputable def x_ (sh:Sh) (c:aW):Option (Bool):=sh.s _ (CU sh c).val
theorem an4 {R:Type} (c:aW) (k:Rs SS->Option R):b8 (Bz shut) 100 22 [KK.ah 50 c] [] (cg KK [4] k)=(CU shut c).run (λr=>k (.ret (.s (KK.ah 4 r)))):=by kernel_rfl
noncomputable def aeo (sh:Sh):b6 SS:=cf KK 22 [50] (λ{R} xs k=>match xs with| .cons c .nil=>(x_ sh c).bind (λr=>k (.ret (.s (KK.ah 4 r)))))
noncomputable def BF (sh:Sh):aK SS:= { (Bz sh) with C:=aeo sh::(Bz sh).C }
theorem Q3:aw (BF shut) Tryz.prog:=aw.cm QX λxs k z _ hz=>ct (aw.all QX rfl) (λ{R} xs k z h=>by
 match xs,h with
 | .cons c .nil,h=>exact⟨100,(an4 c k).trans (cv h)⟩) hz
noncomputable def RM (sh:Sh) (s:ByteArray):T (Int):=
 .bd (ye sh s) λy0=>
  .ok y0.1
noncomputable def D7 (sh:Sh) (s:ByteArray):Option (Int):=sh.s _ (RM sh s).val
theorem aoc {R:Type} (s:ByteArray) (k:Rs SS->Option R):b8 (BF shut) 100 34 [KK.ah 9 s] [] (cg KK [28] k)=(RM shut s).run (λr=>k (.ret (.s (KK.ah 28 r)))):=by kernel_rfl
noncomputable def aeA (sh:Sh):b6 SS:=cf KK 34 [9] (λ{R} xs k=>match xs with| .cons s .nil=>(D7 sh s).bind (λr=>k (.ret (.s (KK.ah 28 r)))))
noncomputable def wU (sh:Sh):aK SS:= { (BF sh) with C:=aeA sh::(BF sh).C }
theorem H6:aw (wU shut) Tryz.prog:=aw.cm Q3 λxs k z _ hz=>ct (aw.all Q3 rfl) (λ{R} xs k z h=>by
 match xs,h with
 | .cons s .nil,h=>exact⟨100,(aoc s k).trans (cv h)⟩) hz
noncomputable def Lg (p0:List ao) (p1:List Int) (p2:Int) (p3:List ao) (p4:List ae) (p5:List ai) (p6:List az) (p7:List aA) (p8:Int) (p9:List ao):AS SS:=⟨[(1,(va 0 0)),(2,(va 5 0)),(3,(vo 6)),(59,(vd 32 p0)),(60,(vi (↑p0.length:Int))),(61,(vi p8))],[(bX 36 [(.bQ .i64 16 p1),(.own 1),(.own 2),(.own 3),(lu p2),(.own 4),(.aV 32 p3)]),(rX 69 p4),(rX 89 p5),(rX 71 p6),(rX 93 p7),(bX 36 [(li 0),(li 0),(li 0),(li 0),(li 0),(li 0),(li 0),(li 0),(li 0),(li 0),(li 0),(li 0),(li 0),(li 0),(li 0),(li 0),(.v (.slice none 0 0)),(.v (.slice none 0 0)),(.v (.slice none 0 0)),(lu 0),(.v (.slice none 0 0)),(.v (.slice none 0 0))]),(rX 82 p9)],0,none,false,[],[]⟩
noncomputable def Zj (p0:List ao) (p1:List Int) (p2:Int) (p3:List ao) (p4:List ae) (p5:List ai) (p6:List az) (p7:List aA) (p9:List ao):AS SS:=Lg p0 p1 p2 p3 p4 p5 p6 p7 0 p9
noncomputable def ag5 (p0:List ao) (p1:List Int) (p2:Int) (p3:List ao) (p4:List ae) (p5:List ai) (p6:List az) (p7:List aA) (a0:Bool) (a1:Int) (a2:List ao):AS SS:= { Lg p0 p1 p2 p3 p4 p5 p6 p7 p2 a2 with env:=[(62,(vb a0)),(1,(va 0 0)),(2,(va 5 0)),(3,(vo 6)),(59,(vd 32 p0)),(60,(vi (↑p0.length:Int))),(61,(vi a1))] }
noncomputable def xy (sh:Sh) (p0:List ao) (p1:List Int) (p2:Int) (p3:List ao) (p4:List ae) (p5:List ai) (p6:List az) (p7:List aA) (p8:Int) (z0:ao) (a:List ao):T (List ao ⊕ (Bool×Int×List ao)):=
 .bd (gF z0.bg none (some (if 6<(↑z0.bg.length:Int) then 6 else(↑z0.bg.length:Int))) none) λz1=>
  .bd (app 8 [] z1) λz2=>
   .bd (app 32 a [ao.mk z0.aa z2]) λz3=>
    .ok (.inl z3)
noncomputable def Bu (sh:Sh) (p0:List ao) (p1:List Int) (p2:Int) (p3:List ao) (p4:List ae) (p5:List ai) (p6:List az) (p7:List aA) (p8:Int) (a:List ao):T ((Bool×Int×List ao)):=
 .ok ((decide (p8<(↑p0.length:Int))),p8,a)
noncomputable def B0 (sh:Sh) (p0:List ao) (p1:List Int) (p2:Int) (p3:List ao) (p4:List ae) (p5:List ai) (p6:List az) (p7:List aA) (p9:List ao):Option ((Bool×Int×List ao)):=cP sh (xy sh p0 p1 p2 p3 p4 p5 p6 p7) (Bu sh p0 p1 p2 p3 p4 p5 p6 p7) p0 p9
noncomputable def ac_ {R:Type} (k:AX->AS SS->Option R) (p0:List ao) (p1:List Int) (p2:Int) (p3:List ao) (p4:List ae) (p5:List ai) (p6:List az) (p7:List aA) (x:(Bool×Int×List ao)):Option R:=(λv=>k (.exit 0) (ag5 p0 p1 p2 p3 p4 p5 p6 p7 v.1 v.2.1 v.2.2)) x
noncomputable def Ww:bM SS:=cd 8 (λst=>(bE 32 (bD st 59 0)).bind λp0=>(gS (bq st 0 0)).bind λp1=>(bT (bq st 0 4)).bind λp2=>(bE 32 (bq st 0 6)).bind λp3=>(dD st 1 69).bind λp4=>(dD st 2 89).bind λp5=>(dD st 3 71).bind λp6=>(dD st 4 93).bind λp7=>(dD st 6 82).bind λp9=>some (p0,p1,p2,p3,p4,p5,p6,p7,p9)) (λp=>Zj p.1 p.2.1 p.2.2.1 p.2.2.2.1 p.2.2.2.2.1 p.2.2.2.2.2.1 p.2.2.2.2.2.2.1 p.2.2.2.2.2.2.2.1 p.2.2.2.2.2.2.2.2) (λp=>B0 shut p.1 p.2.1 p.2.2.1 p.2.2.2.1 p.2.2.2.2.1 p.2.2.2.2.2.1 p.2.2.2.2.2.2.1 p.2.2.2.2.2.2.2.1 p.2.2.2.2.2.2.2.2) (λk p=>ac_ k p.1 p.2.1 p.2.2.1 p.2.2.2.1 p.2.2.2.2.1 p.2.2.2.2.2.1 p.2.2.2.2.2.2.1 p.2.2.2.2.2.2.2.1)
theorem amk:aO KK Tryz.prog ⟨Tryz.f9,aE 9⟩ (b9 (bm Tryz.f9) 8) Ww:=
 aO.c_ (π:=List ao×List Int×Int×List ao×List ae×List ai×List az×List aA×List ao) (σ:=List ao) (aw.all H6 rfl) (aC.nil) rfl 60 (λp i a=>Lg p.1 p.2.1 p.2.2.1 p.2.2.2.1 p.2.2.2.2.1 p.2.2.2.2.2.1 p.2.2.2.2.2.2.1 p.2.2.2.2.2.2.2.1 i a) (λp=>p.1) (λp=>p.2.2.2.2.2.2.2.2) (St:=λp=>xy shut p.1 p.2.1 p.2.2.1 p.2.2.2.1 p.2.2.2.2.1 p.2.2.2.2.2.1 p.2.2.2.2.2.2.1 p.2.2.2.2.2.2.2.1) (F:=λp=>Bu shut p.1 p.2.1 p.2.2.1 p.2.2.2.1 p.2.2.2.2.1 p.2.2.2.2.2.1 p.2.2.2.2.2.2.1 p.2.2.2.2.2.2.2.1) (λp=>rfl)
  (λm p i a k=>by kernel_rfl) (λp x=>⟨_,_,λ_=>rfl⟩) (λp N C A O w a hr=>dQ hr (t:=32) (sl:=59) rfl λv h=>h)
noncomputable def QN:aK SS:= { (wU shut) with T:=bI ((wU shut).T) 9 ⟨⟨Tryz.f9,aE 9⟩,[Ww]⟩ }
theorem abv:aS QN Tryz.prog:=(aS.cj (aw.all H6 rfl) Tryz.func9 rfl bA λc hc=>by cases hc;exact aC.cons (aC.nil) (by kernel_rfl) amk)
noncomputable def Dg (sh:Sh) (s:aM):T (aM):=
 .bd (gF s.ar.ab none (some (if 18<(↑s.ar.ab.length:Int) then 18 else(↑s.ar.ab.length:Int))) none) λz0=>
  .bd (app 32 [] z0) λz1=>
   .bd (gF s.aI none (some (if 66<(↑s.aI.length:Int) then 66 else(↑s.aI.length:Int))) none) λz2=>
    .bd (app 24 [] z2) λz3=>
     .bd (gF s.ay.ab none (some (if 18<(↑s.ay.ab.length:Int) then 18 else(↑s.ay.ab.length:Int))) none) λz4=>
      .bd (app 16 [] z4) λz5=>
       .bd (gF s.aq.aB none (some (if 18<(↑s.aq.aB.length:Int) then 18 else(↑s.aq.aB.length:Int))) none) λz6=>
        .bd (app 16 [] z6) λz7=>
         .bd (gF s.aq.ax none (some (if 18<(↑s.aq.ax.length:Int) then 18 else(↑s.aq.ax.length:Int))) none) λz8=>
          .gd (Zj z8 s.ar.aJ s.ay.aN s.aq.ax z1 z3 z5 z7 [])<|
           .bd (B0 sh z8 s.ar.aJ s.ay.aN s.aq.ax z1 z3 z5 z7 []) λy9=>
            .ok (⟨⟨s.ar.aJ,z1⟩,z3,⟨z5,s.ay.aN⟩,⟨z7,y9.2.2⟩⟩)
noncomputable def yg (sh:Sh) (s:aM):Option (aM):=sh.s _ (Dg sh s).val
theorem t_9 {R:Type} (s:aM) (k:Rs SS->Option R):b8 QN 100 9 [KK.ah 36 s] [] (cg KK [36] k)=(Dg shut s).run (λr=>k (.ret (.s (KK.ah 36 r)))):=by kernel_rfl
noncomputable def aeQ (sh:Sh):b6 SS:=cf KK 9 [36] (λ{R} xs k=>match xs with| .cons s .nil=>(yg sh s).bind (λr=>k (.ret (.s (KK.ah 36 r)))))
noncomputable def xa (sh:Sh):aK SS:= { (wU sh) with C:=aeQ sh::(wU sh).C }
theorem Ig:aw (xa shut) Tryz.prog:=aw.cm H6 λxs k z _ hz=>ct abv (λ{R} xs k z h=>by
 match xs,h with
 | .cons s .nil,h=>exact⟨100,(t_9 s k).trans (cv h)⟩) hz
noncomputable def ET (p0:List ao) (p1:List Int) (p2:Int) (p3:List ae) (p4:List ai) (p5:List az) (p6:List aA) (p7 p8:Int) (p9:List ao):AS SS:=⟨[(1,(va 0 0)),(2,(va 6 0)),(31,(vd 32 p0)),(32,(vi p7)),(33,(vi p8))],[(bX 36 [(.bQ .i64 16 p1),(.own 1),(.own 2),(.own 3),(lu p2),(.own 4),(.own 5)]),(rX 69 p3),(rX 89 p4),(rX 71 p5),(rX 93 p6),(rX 82 p9),(bX 36 [(li 0),(li 0),(li 0),(li 0),(li 0),(li 0),(li 0),(li 0),(li 0),(li 0),(li 0),(li 0),(li 0),(li 0),(li 0),(li 0),(.v (.slice none 0 0)),(.v (.slice none 0 0)),(.v (.slice none 0 0)),(lu 0),(.v (.slice none 0 0)),(.v (.slice none 0 0))])],0,none,false,[],[]⟩
noncomputable def agH (p0:List ao) (p1:List Int) (p2:Int) (p3:List ae) (p4:List ai) (p5:List az) (p6:List aA) (p7:Int) (a0:Bool) (a1:Int) (a2:List ao):AS SS:= { ET p0 p1 p2 p3 p4 p5 p6 p7 p2 a2 with env:=[(34,(vb a0)),(1,(va 0 0)),(2,(va 6 0)),(31,(vd 32 p0)),(32,(vi p7)),(33,(vi a1))] }
noncomputable def RA (sh:Sh) (p0:List ao) (p1:List Int) (p2:Int) (p3:List ae) (p4:List ai) (p5:List az) (p6:List aA) (p7:Int) (a:Int×List ao):T ((Int×List ao) ⊕ (Bool×Int×List ao)):=
 .bf (decide (a.1<p7)) (
  .bd (idx p0 a.1) λz0=>
   .bd (app 8 [] z0.bg) λz1=>
    .bd (app 32 a.2 [ao.mk z0.aa z1]) λz2=>
     .ok (.inl ((IntKind.i64.wrap (a.1+1)),z2)))<|
 .ok (.inr ((decide (a.1<p7)),a.1,a.2))
noncomputable def IW (sh:Sh) (p0:List ao) (p1:List Int) (p2:Int) (p3:List ae) (p4:List ai) (p5:List az) (p6:List aA) (p7 p8:Int) (p9:List ao):Option ((Bool×Int×List ao)):=da sh (RA sh p0 p1 p2 p3 p4 p5 p6 p7) 1000000 (p8,p9)
noncomputable def acV {R:Type} (k:AX->AS SS->Option R) (p0:List ao) (p1:List Int) (p2:Int) (p3:List ae) (p4:List ai) (p5:List az) (p6:List aA) (p7:Int) (x:(Bool×Int×List ao)):Option R:=(λv=>k (.exit 0) (agH p0 p1 p2 p3 p4 p5 p6 p7 v.1 v.2.1 v.2.2)) x
noncomputable def Wk:bM SS:=pS (λst=>gc (aE 68 6) (jk 0 6 82 (st)))<|cd 6 (λst=>(bE 32 (bD st 31 0)).bind λp0=>(gS (bq st 0 0)).bind λp1=>(bT (bq st 0 4)).bind λp2=>(dD st 1 69).bind λp3=>(dD st 2 89).bind λp4=>(dD st 3 71).bind λp5=>(dD st 4 93).bind λp6=>(bT (bD st 32 0)).bind λp7=>(bT (bD st 33 0)).bind λp8=>(dD st 5 82).bind λp9=>some (p0,p1,p2,p3,p4,p5,p6,p7,p8,p9)) (λp=>ET p.1 p.2.1 p.2.2.1 p.2.2.2.1 p.2.2.2.2.1 p.2.2.2.2.2.1 p.2.2.2.2.2.2.1 p.2.2.2.2.2.2.2.1 p.2.2.2.2.2.2.2.2.1 p.2.2.2.2.2.2.2.2.2) (λp=>IW shut p.1 p.2.1 p.2.2.1 p.2.2.2.1 p.2.2.2.2.1 p.2.2.2.2.2.1 p.2.2.2.2.2.2.1 p.2.2.2.2.2.2.2.1 p.2.2.2.2.2.2.2.2.1 p.2.2.2.2.2.2.2.2.2) (λk p=>acV k p.1 p.2.1 p.2.2.1 p.2.2.2.1 p.2.2.2.2.1 p.2.2.2.2.2.1 p.2.2.2.2.2.2.1 p.2.2.2.2.2.2.2.1)
theorem al7:aO KK Tryz.prog ⟨Tryz.f68,aE 68⟩ (b9 (bm Tryz.f68) 6) Wk:=aO.pre (du.comp (du.gc (aE 68 6)) (du.jk 0 6 82))<|
 aO.da (π:=List ao×List Int×Int×List ae×List ai×List az×List aA×Int×Int×List ao) (σ:=Int×List ao) (aw.all Ig rfl) (aC.nil) rfl 60 (λp a=>ET p.1 p.2.1 p.2.2.1 p.2.2.2.1 p.2.2.2.2.1 p.2.2.2.2.2.1 p.2.2.2.2.2.2.1 p.2.2.2.2.2.2.2.1 a.1 a.2) (λp=>(p.2.2.2.2.2.2.2.2.1,p.2.2.2.2.2.2.2.2.2)) (St:=λp=>RA shut p.1 p.2.1 p.2.2.1 p.2.2.2.1 p.2.2.2.2.1 p.2.2.2.2.2.1 p.2.2.2.2.2.2.1 p.2.2.2.2.2.2.2.1) (λp=>1000000) (λp=>rfl)
  (λm p a k=>by kernel_rfl)
noncomputable def QI:aK SS:= { (xa shut) with T:=bI ((xa shut).T) 68 ⟨⟨Tryz.f68,aE 68⟩,[Wk]⟩ }
theorem abn:aS QI Tryz.prog:=(aS.cj (aw.all Ig rfl) Tryz.func68 rfl bA λc hc=>by cases hc;exact aC.cons (aC.nil) (by kernel_rfl) al7)
noncomputable def Db (sh:Sh) (s:aM):T (aM):=
 .bd (app 32 [] s.ar.ab) λz0=>
  .bd (app 24 [] s.aI) λz1=>
   .bd (app 16 [] s.ay.ab) λz2=>
    .bd (app 16 [] s.aq.aB) λz3=>
     .gd (ET s.aq.ax s.ar.aJ s.ay.aN z0 z1 z2 z3 ((↑s.aq.ax.length:Int)) 0 [])<|
      .bd (IW sh s.aq.ax s.ar.aJ s.ay.aN z0 z1 z2 z3 ((↑s.aq.ax.length:Int)) 0 []) λy4=>
       .ok (⟨⟨s.ar.aJ,z0⟩,z1,⟨z2,s.ay.aN⟩,⟨z3,y4.2.2⟩⟩)
noncomputable def D9 (sh:Sh) (s:aM):Option (aM):=sh.s _ (Db sh s).val
theorem aon {R:Type} (s:aM) (k:Rs SS->Option R):b8 QI 100 68 [KK.ah 36 s] [] (cg KK [36] k)=(Db shut s).run (λr=>k (.ret (.s (KK.ah 36 r)))):=by kernel_rfl
noncomputable def aeM (sh:Sh):b6 SS:=cf KK 68 [36] (λ{R} xs k=>match xs with| .cons s .nil=>(D9 sh s).bind (λr=>k (.ret (.s (KK.ah 36 r)))))
noncomputable def mS (sh:Sh):aK SS:= { (xa sh) with C:=aeM sh::(xa sh).C }
theorem BN:aw (mS shut) Tryz.prog:=aw.cm Ig λxs k z _ hz=>ct abn (λ{R} xs k z h=>by
 match xs,h with
 | .cons s .nil,h=>exact⟨100,(aon s k).trans (cv h)⟩) hz
noncomputable def KM (p0:List ae) (p1:List Int) (p2:List ai) (p3:List az) (p4:Int) (p5:List aA) (p6:List ao) (p7:Int) (p8:List (Int×Int)):AS SS:=⟨[(1,(va 0 0)),(3,(va 1 0)),(4,(va 3 0)),(37,(vd 23 p0)),(38,(vi (↑p0.length:Int))),(39,(vi p7))],[(bX 36 [(.bQ .i64 16 p1),(.aV 23 p0),(.aV 26 p2),(.aV 27 p3),(lu p4),(.aV 31 p5),(.aV 32 p6)]),(bX 67 [(.mp 2)]),(some (.map .u64 .i64 p8)),(bX 67 [(.mp 4)]),(some (.map .u64 .i64 []))],0,none,false,[],[]⟩
noncomputable def YK (p0:List ae) (p1:List Int) (p2:List ai) (p3:List az) (p4:Int) (p5:List aA) (p6:List ao) (p8:List (Int×Int)):AS SS:=KM p0 p1 p2 p3 p4 p5 p6 0 p8
noncomputable def afs (p0:List ae) (p1:List Int) (p2:List ai) (p3:List az) (p4:Int) (p5:List aA) (p6:List ao) (a0:Bool) (a1:Int) (a2:List (Int×Int)):AS SS:= { KM p0 p1 p2 p3 p4 p5 p6 p4 a2 with env:=[(40,(vb a0)),(1,(va 0 0)),(3,(va 1 0)),(4,(va 3 0)),(37,(vd 23 p0)),(38,(vi (↑p0.length:Int))),(39,(vi a1))] }
noncomputable def xg (sh:Sh) (p0:List ae) (p1:List Int) (p2:List ai) (p3:List az) (p4:Int) (p5:List aA) (p6:List ao) (p7:Int) (z0:ae) (a:(List (Int×Int))):T (((List (Int×Int))) ⊕ (Bool×Int×(List (Int×Int)))):=
 .bf (!z0.bC) (
  .ok (.inl (cR a z0.aa 1)))<|
 .ok (.inl a)
noncomputable def A8 (sh:Sh) (p0:List ae) (p1:List Int) (p2:List ai) (p3:List az) (p4:Int) (p5:List aA) (p6:List ao) (p7:Int) (a:(List (Int×Int))):T ((Bool×Int×(List (Int×Int)))):=
 .ok ((decide (p7<(↑p0.length:Int))),p7,a)
noncomputable def BT (sh:Sh) (p0:List ae) (p1:List Int) (p2:List ai) (p3:List az) (p4:Int) (p5:List aA) (p6:List ao) (p8:List (Int×Int)):Option ((Bool×Int×(List (Int×Int)))):=cP sh (xg sh p0 p1 p2 p3 p4 p5 p6) (A8 sh p0 p1 p2 p3 p4 p5 p6) p0 p8
noncomputable def ab' {R:Type} (k:AX->AS SS->Option R) (p0:List ae) (p1:List Int) (p2:List ai) (p3:List az) (p4:Int) (p5:List aA) (p6:List ao) (x:(Bool×Int×(List (Int×Int)))):Option R:=(λv=>k (.exit 0) (afs p0 p1 p2 p3 p4 p5 p6 v.1 v.2.1 v.2.2)) x
noncomputable def zK:bM SS:=cd 6 (λst=>(bE 23 (bD st 37 0)).bind λp0=>(gS (bq st 0 0)).bind λp1=>(bE 26 (bq st 0 2)).bind λp2=>(bE 27 (bq st 0 3)).bind λp3=>(bT (bq st 0 4)).bind λp4=>(bE 31 (bq st 0 5)).bind λp5=>(bE 32 (bq st 0 6)).bind λp6=>(je st 2).bind λp8=>some (p0,p1,p2,p3,p4,p5,p6,p8)) (λp=>YK p.1 p.2.1 p.2.2.1 p.2.2.2.1 p.2.2.2.2.1 p.2.2.2.2.2.1 p.2.2.2.2.2.2.1 p.2.2.2.2.2.2.2) (λp=>BT shut p.1 p.2.1 p.2.2.1 p.2.2.2.1 p.2.2.2.2.1 p.2.2.2.2.2.1 p.2.2.2.2.2.2.1 p.2.2.2.2.2.2.2) (λk p=>ab' k p.1 p.2.1 p.2.2.1 p.2.2.2.1 p.2.2.2.2.1 p.2.2.2.2.2.1 p.2.2.2.2.2.2.1)
theorem alv:aO KK Tryz.prog ⟨Tryz.f11,aE 11⟩ (b9 (bm Tryz.f11) 6) zK:=
 aO.c_ (π:=List ae×List Int×List ai×List az×Int×List aA×List ao×(List (Int×Int))) (σ:=(List (Int×Int))) (aw.all BN rfl) (aC.nil) rfl 60 (λp i a=>KM p.1 p.2.1 p.2.2.1 p.2.2.2.1 p.2.2.2.2.1 p.2.2.2.2.2.1 p.2.2.2.2.2.2.1 i a) (λp=>p.1) (λp=>p.2.2.2.2.2.2.2) (St:=λp=>xg shut p.1 p.2.1 p.2.2.1 p.2.2.2.1 p.2.2.2.2.1 p.2.2.2.2.2.1 p.2.2.2.2.2.2.1) (F:=λp=>A8 shut p.1 p.2.1 p.2.2.1 p.2.2.2.1 p.2.2.2.2.1 p.2.2.2.2.2.1 p.2.2.2.2.2.2.1) (λp=>rfl)
  (λm p i a k=>by kernel_rfl) (λp x=>⟨_,_,λ_=>rfl⟩) (λp N C A O w a hr=>dQ hr (t:=23) (sl:=37) rfl λv h=>h)
noncomputable def KL (p0:List az) (p1:List Int) (p2:List ae) (p3:List ai) (p4:Int) (p5:List aA) (p6:List ao) (p7:List (Int×Int)) (p8:Int) (p9:List (Int×Int)):AS SS:=⟨[(1,(va 0 0)),(3,(va 1 0)),(4,(va 3 0)),(52,(vd 27 p0)),(53,(vi (↑p0.length:Int))),(54,(vi p8))],[(bX 36 [(.bQ .i64 16 p1),(.aV 23 p2),(.aV 26 p3),(.aV 27 p0),(lu p4),(.aV 31 p5),(.aV 32 p6)]),(bX 67 [(.mp 2)]),(some (.map .u64 .i64 p7)),(bX 67 [(.mp 4)]),(some (.map .u64 .i64 p9))],0,none,false,[],[]⟩
noncomputable def YJ (p0:List az) (p1:List Int) (p2:List ae) (p3:List ai) (p4:Int) (p5:List aA) (p6:List ao) (p7 p9:List (Int×Int)):AS SS:=KL p0 p1 p2 p3 p4 p5 p6 p7 0 p9
noncomputable def afr (p0:List az) (p1:List Int) (p2:List ae) (p3:List ai) (p4:Int) (p5:List aA) (p6:List ao) (p7:List (Int×Int)) (a0:Bool) (a1:Int) (a2:List (Int×Int)):AS SS:= { KL p0 p1 p2 p3 p4 p5 p6 p7 p4 a2 with env:=[(55,(vb a0)),(1,(va 0 0)),(3,(va 1 0)),(4,(va 3 0)),(52,(vd 27 p0)),(53,(vi (↑p0.length:Int))),(54,(vi a1))] }
noncomputable def Je (sh:Sh) (p0:List az) (p1:List Int) (p2:List ae) (p3:List ai) (p4:Int) (p5:List aA) (p6:List ao) (p7:List (Int×Int)) (p8:Int) (z0:az) (a:(List (Int×Int))):T (((List (Int×Int))) ⊕ (Bool×Int×(List (Int×Int)))):=
 .ok (.inl (cR a z0.aZ 1))
noncomputable def A7 (sh:Sh) (p0:List az) (p1:List Int) (p2:List ae) (p3:List ai) (p4:Int) (p5:List aA) (p6:List ao) (p7:List (Int×Int)) (p8:Int) (a:(List (Int×Int))):T ((Bool×Int×(List (Int×Int)))):=
 .ok ((decide (p8<(↑p0.length:Int))),p8,a)
noncomputable def BS (sh:Sh) (p0:List az) (p1:List Int) (p2:List ae) (p3:List ai) (p4:Int) (p5:List aA) (p6:List ao) (p7 p9:List (Int×Int)):Option ((Bool×Int×(List (Int×Int)))):=cP sh (Je sh p0 p1 p2 p3 p4 p5 p6 p7) (A7 sh p0 p1 p2 p3 p4 p5 p6 p7) p0 p9
noncomputable def ab_ {R:Type} (k:AX->AS SS->Option R) (p0:List az) (p1:List Int) (p2:List ae) (p3:List ai) (p4:Int) (p5:List aA) (p6:List ao) (p7:List (Int×Int)) (x:(Bool×Int×(List (Int×Int)))):Option R:=(λv=>k (.exit 2) (afr p0 p1 p2 p3 p4 p5 p6 p7 v.1 v.2.1 v.2.2)) x
noncomputable def zJ:bM SS:=cd 12 (λst=>(bE 27 (bD st 52 0)).bind λp0=>(gS (bq st 0 0)).bind λp1=>(bE 23 (bq st 0 1)).bind λp2=>(bE 26 (bq st 0 2)).bind λp3=>(bT (bq st 0 4)).bind λp4=>(bE 31 (bq st 0 5)).bind λp5=>(bE 32 (bq st 0 6)).bind λp6=>(je st 2).bind λp7=>(je st 4).bind λp9=>some (p0,p1,p2,p3,p4,p5,p6,p7,p9)) (λp=>YJ p.1 p.2.1 p.2.2.1 p.2.2.2.1 p.2.2.2.2.1 p.2.2.2.2.2.1 p.2.2.2.2.2.2.1 p.2.2.2.2.2.2.2.1 p.2.2.2.2.2.2.2.2) (λp=>BS shut p.1 p.2.1 p.2.2.1 p.2.2.2.1 p.2.2.2.2.1 p.2.2.2.2.2.1 p.2.2.2.2.2.2.1 p.2.2.2.2.2.2.2.1 p.2.2.2.2.2.2.2.2) (λk p=>ab_ k p.1 p.2.1 p.2.2.1 p.2.2.2.1 p.2.2.2.2.1 p.2.2.2.2.2.1 p.2.2.2.2.2.2.1 p.2.2.2.2.2.2.2.1)
theorem alu:aO KK Tryz.prog ⟨Tryz.f11,aE 11⟩ (b9 (bm Tryz.f11) 12) zJ:=
 aO.c_ (π:=List az×List Int×List ae×List ai×Int×List aA×List ao×(List (Int×Int))×(List (Int×Int))) (σ:=(List (Int×Int))) (aw.all BN rfl) (aC.nil) rfl 60 (λp i a=>KL p.1 p.2.1 p.2.2.1 p.2.2.2.1 p.2.2.2.2.1 p.2.2.2.2.2.1 p.2.2.2.2.2.2.1 p.2.2.2.2.2.2.2.1 i a) (λp=>p.1) (λp=>p.2.2.2.2.2.2.2.2) (St:=λp=>Je shut p.1 p.2.1 p.2.2.1 p.2.2.2.1 p.2.2.2.2.1 p.2.2.2.2.2.1 p.2.2.2.2.2.2.1 p.2.2.2.2.2.2.2.1) (F:=λp=>A7 shut p.1 p.2.1 p.2.2.1 p.2.2.2.1 p.2.2.2.2.1 p.2.2.2.2.2.1 p.2.2.2.2.2.2.1 p.2.2.2.2.2.2.2.1) (λp=>rfl)
  (λm p i a k=>by kernel_rfl) (λp x=>⟨_,_,λ_=>rfl⟩) (λp N C A O w a hr=>dQ hr (t:=27) (sl:=52) rfl λv h=>h)
noncomputable def K2 (p0:List ai) (p1 p2:List (Int×Int)) (p3:Bool) (p4:Int):AS SS:=⟨[(1,(vc 0)),(5,(vb p3)),(8,(vd 26 p0)),(9,(vi (↑p0.length:Int))),(10,(vi p4))],[(some (.bN 51 [] [(.one (.bu 1 0)),(.one (.bu 3 0))])),(bX 67 [(.mp 2)]),(some (.map .u64 .i64 p1)),(bX 67 [(.mp 4)]),(some (.map .u64 .i64 p2))],5,none,false,[],[]⟩
noncomputable def Y6 (p0:List ai) (p1 p2:List (Int×Int)) (p3:Bool):AS SS:=K2 p0 p1 p2 p3 0
noncomputable def agv (p0:List ai) (p1 p2:List (Int×Int)) (a0 a1:Bool) (a2 a3 a4:Int) (a5:ai) (a6 a7:Bool) (a8:Int):AS SS:=⟨[(18,(vb a0)),(17,(vb a1)),(5,(vb a1)),(16,(vb a1)),(15,(.s (.agg [(lu a2),(li a3),(lu a4)]))),(14,(vc 0)),(7,(va 5 0)),(13,(.s (.agg [(lu a2),(li a3),(lu a4)]))),(12,(vs (.ptr 89 a5 0))),(11,(vb a6)),(1,(vc 0)),(5,(vb a7)),(8,(vd 26 p0)),(9,(vi (↑p0.length:Int))),(10,(vi a8))],[(some (.bN 51 [] [(.one (.bu 1 0)),(.one (.bu 3 0))])),(bX 67 [(.mp 2)]),(some (.map .u64 .i64 p1)),(bX 67 [(.mp 4)]),(some (.map .u64 .i64 p2)),(bX 89 [(lu a2),(li a3),(lu a4)])],5,none,false,[],[]⟩
noncomputable def agx (p0:List ai) (p1 p2:List (Int×Int)) (a0 a1:Bool) (a2:Int):AS SS:= { K2 p0 p1 p2 a0 a2 with env:=[(11,(vb a0)),(1,(vc 0)),(5,(vb a1)),(8,(vd 26 p0)),(9,(vi (↑p0.length:Int))),(10,(vi a2))] }
noncomputable def tZ (sh:Sh) (p0:List ai) (p1 p2:List (Int×Int)) (p4:Int) (z0:ai) (a:Bool):T (Bool ⊕ (Bool×Bool×Int×Int×Int×ai×Bool×Bool×Int) ⊕ (Bool×Bool×Int)):=
 .bf ((match b5 p1 z0.aa with
 |some x=>x
 |none=>0)==
 1) (
  .bf (!(match b5 p2 z0.cK with
   |some x=>x
   |none=>0)==
   1) (
   .ok (.inr (.inl ((!(match b5 p2 z0.cK with
   |some x=>x
   |none=>0)==
   1),((match b5 p2 z0.cK with
 |some x=>x
 |none=>0)==
 1),z0.aa,z0.bL,z0.cK,z0,(decide (p4<(↑p0.length:Int))),a,p4))))<|
  .ok (.inl ((match b5 p2 z0.cK with
 |some x=>x
 |none=>0)==
 1)))<|
 .ok (.inr (.inl (true,false,z0.aa,z0.bL,z0.cK,z0,(decide (p4<(↑p0.length:Int))),a,p4)))
noncomputable def He (sh:Sh) (p0:List ai) (p1 p2:List (Int×Int)) (p4:Int) (a:Bool):T ((Bool×Bool×Int×Int×Int×ai×Bool×Bool×Int) ⊕ (Bool×Bool×Int)):=
 .ok (.inr ((decide (p4<(↑p0.length:Int))),a,p4))
noncomputable def IU (sh:Sh) (p0:List ai) (p1 p2:List (Int×Int)) (p3:Bool):Option ((Bool×Bool×Int×Int×Int×ai×Bool×Bool×Int) ⊕ (Bool×Bool×Int)):=cP sh (tZ sh p0 p1 p2) (He sh p0 p1 p2) p0 p3
noncomputable def acQ {R:Type} (k:AX->AS SS->Option R) (p0:List ai) (p1 p2:List (Int×Int)) (x:(Bool×Bool×Int×Int×Int×ai×Bool×Bool×Int) ⊕ (Bool×Bool×Int)):Option R:=(λx=>Sum.rec (λv=>k (.exit 0) (agv p0 p1 p2 v.1 v.2.1 v.2.2.1 v.2.2.2.1 v.2.2.2.2.1 v.2.2.2.2.2.1 v.2.2.2.2.2.2.1 v.2.2.2.2.2.2.2.1 v.2.2.2.2.2.2.2.2)) (λv=>k (.exit 0) (agx p0 p1 p2 v.1 v.2.1 v.2.2)) x) x
noncomputable def FE:bM SS:=cd 4 (λst=>(ey st 0 51).bind λ_=>(bE 26 (bD st 8 0)).bind λp0=>(je st 2).bind λp1=>(je st 4).bind λp2=>(si (bD st 5 0)).bind λp3=>some (p0,p1,p2,p3)) (λp=>Y6 p.1 p.2.1 p.2.2.1 p.2.2.2) (λp=>IU shut p.1 p.2.1 p.2.2.1 p.2.2.2) (λk p=>acQ k p.1 p.2.1 p.2.2.1)
noncomputable def aat:aK SS:= { (mS shut) with T:=bI ((mS shut).T) 11 ⟨⟨Tryz.f11,aE 11⟩,[zK,zJ]⟩ }
theorem PY:aS aat Tryz.prog:=(aS.cj (aw.all BN rfl) Tryz.func11 rfl bA λc hc=>by cases hc;exact aC.cons (aC.cons (aC.nil) (by kernel_rfl) alu) (by kernel_rfl) alv)
theorem al2:aO KK Tryz.prog ⟨Tryz.f50,aE 50⟩ (b9 (bm Tryz.f50) 4) FE:=
 aO.c_ (π:=List ai×(List (Int×Int))×(List (Int×Int))×Bool) (σ:=Bool) PY (aC.nil) rfl 60 (λp i a=>K2 p.1 p.2.1 p.2.2.1 a i) (λp=>p.1) (λp=>p.2.2.2) (St:=λp=>tZ shut p.1 p.2.1 p.2.2.1) (F:=λp=>He shut p.1 p.2.1 p.2.2.1) (λp=>rfl)
  (λm p i a k=>by kernel_rfl) (by rintro p (x|x)<;>exact⟨_,_,λ_=>rfl⟩) (λp N C A O w a hr=>dQ hr (t:=26) (sl:=8) rfl λv h=>h)
noncomputable def K3 (p0:List aA) (p1:List (Int×Int)) (p2:Bool) (p3:Int):AS SS:=⟨[(1,(vc 0)),(5,(vb p2)),(8,(vd 31 p0)),(9,(vi (↑p0.length:Int))),(10,(vi p3))],[(some (.bN 53 [] [(.one (.bu 1 0))])),(bX 67 [(.mp 2)]),(some (.map .u64 .i64 p1))],3,none,false,[],[]⟩
noncomputable def OP (p0:List aA) (p1:List (Int×Int)) (p2:Bool):AS SS:=K3 p0 p1 p2 0
noncomputable def agy (p0:List aA) (p1:List (Int×Int)) (a0 a1:Bool) (a2 a3:Int) (a4:aA) (a5 a6:Bool) (a7:Int):AS SS:=⟨[(18,(vb a0)),(17,(vb a1)),(5,(vb a1)),(16,(vb a1)),(15,(.s (.agg [(lu a2),(lu a3)]))),(14,(vc 0)),(7,(va 3 0)),(13,(.s (.agg [(lu a2),(lu a3)]))),(12,(vs (.ptr 93 a4 0))),(11,(vb a5)),(1,(vc 0)),(5,(vb a6)),(8,(vd 31 p0)),(9,(vi (↑p0.length:Int))),(10,(vi a7))],[(some (.bN 53 [] [(.one (.bu 1 0))])),(bX 67 [(.mp 2)]),(some (.map .u64 .i64 p1)),(bX 93 [(lu a2),(lu a3)])],3,none,false,[],[]⟩
noncomputable def agz (p0:List aA) (p1:List (Int×Int)) (a0 a1:Bool) (a2:Int):AS SS:= { K3 p0 p1 a0 a2 with env:=[(11,(vb a0)),(1,(vc 0)),(5,(vb a1)),(8,(vd 31 p0)),(9,(vi (↑p0.length:Int))),(10,(vi a2))] }
noncomputable def t_ (sh:Sh) (p0:List aA) (p1:List (Int×Int)) (p3:Int) (z0:aA) (a:Bool):T (Bool ⊕ (Bool×Bool×Int×Int×aA×Bool×Bool×Int) ⊕ (Bool×Bool×Int)):=
 .bf (!(match b5 p1 z0.aa with
   |some x=>x
   |none=>0)==
   1) (
  .ok (.inr (.inl ((!(match b5 p1 z0.aa with
   |some x=>x
   |none=>0)==
   1),((match b5 p1 z0.aa with
 |some x=>x
 |none=>0)==
 1),z0.bl,z0.aa,z0,(decide (p3<(↑p0.length:Int))),a,p3))))<|
 .ok (.inl ((match b5 p1 z0.aa with
 |some x=>x
 |none=>0)==
 1))
noncomputable def Hf (sh:Sh) (p0:List aA) (p1:List (Int×Int)) (p3:Int) (a:Bool):T ((Bool×Bool×Int×Int×aA×Bool×Bool×Int) ⊕ (Bool×Bool×Int)):=
 .ok (.inr ((decide (p3<(↑p0.length:Int))),a,p3))
noncomputable def BX (sh:Sh) (p0:List aA) (p1:List (Int×Int)) (p2:Bool):Option ((Bool×Bool×Int×Int×aA×Bool×Bool×Int) ⊕ (Bool×Bool×Int)):=cP sh (t_ sh p0 p1) (Hf sh p0 p1) p0 p2
noncomputable def acR {R:Type} (k:AX->AS SS->Option R) (p0:List aA) (p1:List (Int×Int)) (x:(Bool×Bool×Int×Int×aA×Bool×Bool×Int) ⊕ (Bool×Bool×Int)):Option R:=(λx=>Sum.rec (λv=>k (.exit 0) (agy p0 p1 v.1 v.2.1 v.2.2.1 v.2.2.2.1 v.2.2.2.2.1 v.2.2.2.2.2.1 v.2.2.2.2.2.2.1 v.2.2.2.2.2.2.2)) (λv=>k (.exit 0) (agz p0 p1 v.1 v.2.1 v.2.2)) x) x
noncomputable def M7:bM SS:=cd 4 (λst=>(ey st 0 53).bind λ_=>(bE 31 (bD st 8 0)).bind λp0=>(je st 2).bind λp1=>(si (bD st 5 0)).bind λp2=>some (p0,p1,p2)) (λp=>OP p.1 p.2.1 p.2.2) (λp=>BX shut p.1 p.2.1 p.2.2) (λk p=>acR k p.1 p.2.1)
noncomputable def aau:aK SS:= { (mS shut) with T:=bI (bI ((mS shut).T) 11 ⟨⟨Tryz.f11,aE 11⟩,[zK,zJ]⟩) 50 ⟨⟨Tryz.f50,aE 50⟩,[FE]⟩ }
theorem PZ:aS aau Tryz.prog:=(aS.cj PY Tryz.func50 rfl bA λc hc=>by cases hc;exact aC.cons (aC.nil) (by kernel_rfl) al2)
theorem al3:aO KK Tryz.prog ⟨Tryz.f52,aE 52⟩ (b9 (bm Tryz.f52) 4) M7:=
 aO.c_ (π:=List aA×(List (Int×Int))×Bool) (σ:=Bool) PZ (aC.nil) rfl 60 (λp i a=>K3 p.1 p.2.1 a i) (λp=>p.1) (λp=>p.2.2) (St:=λp=>t_ shut p.1 p.2.1) (F:=λp=>Hf shut p.1 p.2.1) (λp=>rfl)
  (λm p i a k=>by kernel_rfl) (by rintro p (x|x)<;>exact⟨_,_,λ_=>rfl⟩) (λp N C A O w a hr=>dQ hr (t:=31) (sl:=8) rfl λv h=>h)
noncomputable def K4 (p0:List ao) (p1:List (Int×Int)) (p2:Bool) (p3:Int):AS SS:=⟨[(1,(vc 0)),(5,(vb p2)),(8,(vd 32 p0)),(9,(vi (↑p0.length:Int))),(10,(vi p3))],[(some (.bN 55 [] [(.one (.bu 1 0))])),(bX 67 [(.mp 2)]),(some (.map .u64 .i64 p1))],3,none,false,[],[]⟩
noncomputable def Av (p0:List ao) (p1:List (Int×Int)) (p2:Bool):AS SS:=K4 p0 p1 p2 0
noncomputable def agA (p0:List ao) (p1:List (Int×Int)) (a0 a1:Bool) (a2:Int) (a3:List Int) (a4:ao) (a5 a6:Bool) (a7:Int):AS SS:=⟨[(18,(vb a0)),(17,(vb a1)),(5,(vb a1)),(16,(vb a1)),(15,(.s (.agg [(lu a2),(.aV 76 a3)]))),(14,(vc 0)),(7,(va 3 0)),(13,(.s (.agg [(lu a2),(.aV 76 a3)]))),(12,(vs (.ptr 82 a4 0))),(11,(vb a5)),(1,(vc 0)),(5,(vb a6)),(8,(vd 32 p0)),(9,(vi (↑p0.length:Int))),(10,(vi a7))],[(some (.bN 55 [] [(.one (.bu 1 0))])),(bX 67 [(.mp 2)]),(some (.map .u64 .i64 p1)),(bX 82 [(lu a2),(.aV 76 a3)])],3,none,false,[],[]⟩
noncomputable def agB (p0:List ao) (p1:List (Int×Int)) (a0 a1:Bool) (a2:Int):AS SS:= { K4 p0 p1 a0 a2 with env:=[(11,(vb a0)),(1,(vc 0)),(5,(vb a1)),(8,(vd 32 p0)),(9,(vi (↑p0.length:Int))),(10,(vi a2))] }
noncomputable def ua (sh:Sh) (p0:List ao) (p1:List (Int×Int)) (p3:Int) (z0:ao) (a:Bool):T (Bool ⊕ (Bool×Bool×Int×List Int×ao×Bool×Bool×Int) ⊕ (Bool×Bool×Int)):=
 .bf (!(match b5 p1 z0.aa with
   |some x=>x
   |none=>0)==
   1) (
  .ok (.inr (.inl ((!(match b5 p1 z0.aa with
   |some x=>x
   |none=>0)==
   1),((match b5 p1 z0.aa with
 |some x=>x
 |none=>0)==
 1),z0.aa,z0.bg,z0,(decide (p3<(↑p0.length:Int))),a,p3))))<|
 .ok (.inl ((match b5 p1 z0.aa with
 |some x=>x
 |none=>0)==
 1))
noncomputable def Hg (sh:Sh) (p0:List ao) (p1:List (Int×Int)) (p3:Int) (a:Bool):T ((Bool×Bool×Int×List Int×ao×Bool×Bool×Int) ⊕ (Bool×Bool×Int)):=
 .ok (.inr ((decide (p3<(↑p0.length:Int))),a,p3))
noncomputable def tU (sh:Sh) (p0:List ao) (p1:List (Int×Int)) (p2:Bool):Option ((Bool×Bool×Int×List Int×ao×Bool×Bool×Int) ⊕ (Bool×Bool×Int)):=cP sh (ua sh p0 p1) (Hg sh p0 p1) p0 p2
noncomputable def acS {R:Type} (k:AX->AS SS->Option R) (p0:List ao) (p1:List (Int×Int)) (x:(Bool×Bool×Int×List Int×ao×Bool×Bool×Int) ⊕ (Bool×Bool×Int)):Option R:=(λx=>Sum.rec (λv=>k (.exit 0) (agA p0 p1 v.1 v.2.1 v.2.2.1 v.2.2.2.1 v.2.2.2.2.1 v.2.2.2.2.2.1 v.2.2.2.2.2.2.1 v.2.2.2.2.2.2.2)) (λv=>k (.exit 0) (agB p0 p1 v.1 v.2.1 v.2.2)) x) x
noncomputable def Wh:bM SS:=cd 4 (λst=>(ey st 0 55).bind λ_=>(bE 32 (bD st 8 0)).bind λp0=>(je st 2).bind λp1=>(si (bD st 5 0)).bind λp2=>some (p0,p1,p2)) (λp=>Av p.1 p.2.1 p.2.2) (λp=>tU shut p.1 p.2.1 p.2.2) (λk p=>acS k p.1 p.2.1)
noncomputable def aav:aK SS:= { (mS shut) with T:=bI (bI (bI ((mS shut).T) 11 ⟨⟨Tryz.f11,aE 11⟩,[zK,zJ]⟩) 50 ⟨⟨Tryz.f50,aE 50⟩,[FE]⟩) 52 ⟨⟨Tryz.f52,aE 52⟩,[M7]⟩ }
theorem P0:aS aav Tryz.prog:=(aS.cj PZ Tryz.func52 rfl bA λc hc=>by cases hc;exact aC.cons (aC.nil) (by kernel_rfl) al3)
theorem al4:aO KK Tryz.prog ⟨Tryz.f54,aE 54⟩ (b9 (bm Tryz.f54) 4) Wh:=
 aO.c_ (π:=List ao×(List (Int×Int))×Bool) (σ:=Bool) P0 (aC.nil) rfl 60 (λp i a=>K4 p.1 p.2.1 a i) (λp=>p.1) (λp=>p.2.2) (St:=λp=>ua shut p.1 p.2.1) (F:=λp=>Hg shut p.1 p.2.1) (λp=>rfl)
  (λm p i a k=>by kernel_rfl) (by rintro p (x|x)<;>exact⟨_,_,λ_=>rfl⟩) (λp N C A O w a hr=>dQ hr (t:=32) (sl:=8) rfl λv h=>h)
noncomputable def P1:aK SS:= { (mS shut) with T:=bI (bI (bI (bI ((mS shut).T) 11 ⟨⟨Tryz.f11,aE 11⟩,[zK,zJ]⟩) 50 ⟨⟨Tryz.f50,aE 50⟩,[FE]⟩) 52 ⟨⟨Tryz.f52,aE 52⟩,[M7]⟩) 54 ⟨⟨Tryz.f54,aE 54⟩,[Wh]⟩ }
theorem aaw:aS P1 Tryz.prog:=(aS.cj P0 Tryz.func54 rfl bA λc hc=>by cases hc;exact aC.cons (aC.nil) (by kernel_rfl) al4)
noncomputable def Cx (sh:Sh) (s:aM):T (Int):=
 .bd (qF sh s.ar) λy0=>
  .bf (y0 !=0) (
   .ok 360)<|
  .bd (nQ sh s.aI) λy1=>
   .bf (y1 !=0) (
    .ok 360)<|
   .bd (yd sh s.ay) λy2=>
    .bf (y2 !=0) (
     .ok 360)<|
    .bd (oY sh s.aq) λy3=>
     .bf (y3 !=0) (
      .ok 360)<|
     .gd (YK s.ar.ab s.ar.aJ s.aI s.ay.ab s.ay.aN s.aq.aB s.aq.ax [])<|
      .bd (BT sh s.ar.ab s.ar.aJ s.aI s.ay.ab s.ay.aN s.aq.aB s.aq.ax []) λy4=>
       .gd (YJ s.ay.ab s.ar.aJ s.ar.ab s.aI s.ay.aN s.aq.aB s.aq.ax y4.2.2 [])<|
        .bd (BS sh s.ay.ab s.ar.aJ s.ar.ab s.aI s.ay.aN s.aq.aB s.aq.ax y4.2.2 []) λy5=>
         .gd (Y6 s.aI y4.2.2 y5.2.2 true)<|
          .bd (IU sh s.aI y4.2.2 y5.2.2 true) λtN=> .cs tN (λy6=>
           .gd (OP s.aq.aB y4.2.2 true)<|
            .bd (BX sh s.aq.aB y4.2.2 true) λPI=> .cs PI (λy7=>
             .bf (!y6.2.1) (
              .ok 360)<|
             .bf (!y7.2.1) (
              .ok 360)<|
             .gd (Av s.aq.ax y4.2.2 true)<|
              .bd (tU sh s.aq.ax y4.2.2 true) λtO=> .cs tO (λy8=>
               .bf (!y8.2.1) (
                .ok 360)<|
               .ok 0) λy8=>
               .bf (!y8.2.1) (
                .ok 360)<|
               .ok 0) λy7=>
             .bf (!y6.2.1) (
              .ok 360)<|
             .bf (!y7.2.1) (
              .ok 360)<|
             .gd (Av s.aq.ax y4.2.2 true)<|
              .bd (tU sh s.aq.ax y4.2.2 true) λtO=> .cs tO (λy8=>
               .bf (!y8.2.1) (
                .ok 360)<|
               .ok 0) λy8=>
               .bf (!y8.2.1) (
                .ok 360)<|
               .ok 0) λy6=>
           .gd (OP s.aq.aB y4.2.2 true)<|
            .bd (BX sh s.aq.aB y4.2.2 true) λPI=> .cs PI (λy7=>
             .bf (!y6.2.1) (
              .ok 360)<|
             .bf (!y7.2.1) (
              .ok 360)<|
             .gd (Av s.aq.ax y4.2.2 true)<|
              .bd (tU sh s.aq.ax y4.2.2 true) λtO=> .cs tO (λy8=>
               .bf (!y8.2.1) (
                .ok 360)<|
               .ok 0) λy8=>
               .bf (!y8.2.1) (
                .ok 360)<|
               .ok 0) λy7=>
             .bf (!y6.2.1) (
              .ok 360)<|
             .bf (!y7.2.1) (
              .ok 360)<|
             .gd (Av s.aq.ax y4.2.2 true)<|
              .bd (tU sh s.aq.ax y4.2.2 true) λtO=> .cs tO (λy8=>
               .bf (!y8.2.1) (
                .ok 360)<|
               .ok 0) λy8=>
               .bf (!y8.2.1) (
                .ok 360)<|
               .ok 0
noncomputable def kO (sh:Sh) (s:aM):Option (Int):=sh.s _ (Cx sh s).val
theorem anC {R:Type} (s:aM) (k:Rs SS->Option R):b8 P1 100 11 [KK.ah 36 s] [] (cg KK [40] k)=(Cx shut s).run (λr=>k (.ret (.s (KK.ah 40 r)))):=by kernel_rfl
noncomputable def adW (sh:Sh):b6 SS:=cf KK 11 [36] (λ{R} xs k=>match xs with| .cons s .nil=>(kO sh s).bind (λr=>k (.ret (.s (KK.ah 40 r)))))
noncomputable def wz (sh:Sh):aK SS:= { (mS sh) with C:=adW sh::(mS sh).C }
theorem HD:aw (wz shut) Tryz.prog:=aw.cm BN λxs k z _ hz=>ct aaw (λ{R} xs k z h=>by
 match xs,h with
 | .cons s .nil,h=>exact⟨100,(anC s k).trans (cv h)⟩) hz
noncomputable def KT (p0:List ao) (p1:List Int) (p2:List ae) (p3:List ai) (p4:List az) (p5:Int) (p6:List aA) (p7 p8:Int):AS SS:=⟨[(1,(va 0 0)),(2,(va 1 0)),(3,(vi p7)),(12,(vd 32 p0)),(13,(vi (↑p0.length:Int))),(14,(vi p8))],[(bX 36 [(.bQ .i64 16 p1),(.aV 23 p2),(.aV 26 p3),(.aV 27 p4),(lu p5),(.aV 31 p6),(.aV 32 p0)]),(bX 43 [(li 0),(li 0),(li 0),(li 0),(li 0)])],0,none,false,[],[]⟩
noncomputable def YO (p0:List ao) (p1:List Int) (p2:List ae) (p3:List ai) (p4:List az) (p5:Int) (p6:List aA) (p7:Int):AS SS:=KT p0 p1 p2 p3 p4 p5 p6 p7 0
noncomputable def afM (p0:List ao) (p1:List Int) (p2:List ae) (p3:List ai) (p4:List az) (p5:Int) (p6:List aA) (a0:Bool) (a1 a2:Int):AS SS:= { KT p0 p1 p2 p3 p4 p5 p6 p5 p5 with env:=[(15,(vb a0)),(1,(va 0 0)),(2,(va 1 0)),(3,(vi a1)),(12,(vd 32 p0)),(13,(vi (↑p0.length:Int))),(14,(vi a2))] }
noncomputable def Jh (sh:Sh) (p0:List ao) (p1:List Int) (p2:List ae) (p3:List ai) (p4:List az) (p5:Int) (p6:List aA) (p8:Int) (z0:ao) (a:Int):T (Int ⊕ (Bool×Int×Int)):=
 .ok (.inl (IntKind.i64.wrap (a+(↑z0.bg.length:Int))))
noncomputable def Hb (sh:Sh) (p0:List ao) (p1:List Int) (p2:List ae) (p3:List ai) (p4:List az) (p5:Int) (p6:List aA) (p8 a:Int):T ((Bool×Int×Int)):=
 .ok ((decide (p8<(↑p0.length:Int))),a,p8)
noncomputable def It (sh:Sh) (p0:List ao) (p1:List Int) (p2:List ae) (p3:List ai) (p4:List az) (p5:Int) (p6:List aA) (p7:Int):Option ((Bool×Int×Int)):=cP sh (Jh sh p0 p1 p2 p3 p4 p5 p6) (Hb sh p0 p1 p2 p3 p4 p5 p6) p0 p7
noncomputable def acn {R:Type} (k:AX->AS SS->Option R) (p0:List ao) (p1:List Int) (p2:List ae) (p3:List ai) (p4:List az) (p5:Int) (p6:List aA) (x:(Bool×Int×Int)):Option R:=(λv=>k (.exit 0) (afM p0 p1 p2 p3 p4 p5 p6 v.1 v.2.1 v.2.2)) x
noncomputable def VY:bM SS:=cd 6 (λst=>(bE 32 (bD st 12 0)).bind λp0=>(gS (bq st 0 0)).bind λp1=>(bE 23 (bq st 0 1)).bind λp2=>(bE 26 (bq st 0 2)).bind λp3=>(bE 27 (bq st 0 3)).bind λp4=>(bT (bq st 0 4)).bind λp5=>(bE 31 (bq st 0 5)).bind λp6=>(bT (bD st 3 0)).bind λp7=>some (p0,p1,p2,p3,p4,p5,p6,p7)) (λp=>YO p.1 p.2.1 p.2.2.1 p.2.2.2.1 p.2.2.2.2.1 p.2.2.2.2.2.1 p.2.2.2.2.2.2.1 p.2.2.2.2.2.2.2) (λp=>It shut p.1 p.2.1 p.2.2.1 p.2.2.2.1 p.2.2.2.2.1 p.2.2.2.2.2.1 p.2.2.2.2.2.2.1 p.2.2.2.2.2.2.2) (λk p=>acn k p.1 p.2.1 p.2.2.1 p.2.2.2.1 p.2.2.2.2.1 p.2.2.2.2.2.1 p.2.2.2.2.2.2.1)
theorem alD:aO KK Tryz.prog ⟨Tryz.f15,aE 15⟩ (b9 (bm Tryz.f15) 6) VY:=
 aO.c_ (π:=List ao×List Int×List ae×List ai×List az×Int×List aA×Int) (σ:=Int) (aw.all HD rfl) (aC.nil) rfl 60 (λp i a=>KT p.1 p.2.1 p.2.2.1 p.2.2.2.1 p.2.2.2.2.1 p.2.2.2.2.2.1 p.2.2.2.2.2.2.1 a i) (λp=>p.1) (λp=>p.2.2.2.2.2.2.2) (St:=λp=>Jh shut p.1 p.2.1 p.2.2.1 p.2.2.2.1 p.2.2.2.2.1 p.2.2.2.2.2.1 p.2.2.2.2.2.2.1) (F:=λp=>Hb shut p.1 p.2.1 p.2.2.1 p.2.2.2.1 p.2.2.2.2.1 p.2.2.2.2.2.1 p.2.2.2.2.2.2.1) (λp=>rfl)
  (λm p i a k=>by kernel_rfl) (λp x=>⟨_,_,λ_=>rfl⟩) (λp N C A O w a hr=>dQ hr (t:=32) (sl:=12) rfl λv h=>h)
noncomputable def P4:aK SS:= { (wz shut) with T:=bI ((wz shut).T) 15 ⟨⟨Tryz.f15,aE 15⟩,[VY]⟩ }
theorem aaz:aS P4 Tryz.prog:=(aS.cj (aw.all HD rfl) Tryz.func15 rfl bA λc hc=>by cases hc;exact aC.cons (aC.nil) (by kernel_rfl) alD)
noncomputable def CC (sh:Sh) (s:aM):T (List Int):=
 .bd (kO sh s) λy0=>
  .bf (y0 !=0) (
   .ok ([0,0,0,0,0]))<|
  .gd (YO s.aq.ax s.ar.aJ s.ar.ab s.aI s.ay.ab s.ay.aN s.aq.aB 0)<|
   .bd (It sh s.aq.ax s.ar.aJ s.ar.ab s.aI s.ay.ab s.ay.aN s.aq.aB 0) λy1=>
    .ok ([(↑s.aq.aB.length:Int),(↑s.ay.ab.length:Int),(↑s.ar.ab.length:Int),(↑s.aI.length:Int),y1.2.1])
noncomputable def DP (sh:Sh) (s:aM):Option (List Int):=sh.s _ (CC sh s).val
theorem anI {R:Type} (s:aM) (k:Rs SS->Option R):b8 P4 100 15 [KK.ah 36 s] [] (cg KK [43] k)=(CC shut s).run (λr=>k (.ret (.s (KK.ah 43 r)))):=by kernel_rfl
noncomputable def ad2 (sh:Sh):b6 SS:=cf KK 15 [36] (λ{R} xs k=>match xs with| .cons s .nil=>(DP sh s).bind (λr=>k (.ret (.s (KK.ah 43 r)))))
noncomputable def wC (sh:Sh):aK SS:= { (wz sh) with C:=ad2 sh::(wz sh).C }
theorem HG:aw (wC shut) Tryz.prog:=aw.cm HD λxs k z _ hz=>ct aaz (λ{R} xs k z h=>by
 match xs,h with
 | .cons s .nil,h=>exact⟨100,(anI s k).trans (cv h)⟩) hz
end Go.Proofs.YtdhaaaeffhaadaaGreatDoor
end
