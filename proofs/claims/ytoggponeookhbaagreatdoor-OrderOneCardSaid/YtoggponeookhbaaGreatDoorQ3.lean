/- A part of the proof that OrderOne returns true for every input: the machine of values, its soundness, the program as plain functions, the law. Conditions: those of the given rows. -/
import Derived.Test.YtoggponeookhbaaGreatDoorQ2
import Derived.RecoverIn
import Derived.Test.YtoggponeookhbaaGreatDoorProg
import Derived.Lib.Bytealg
import Derived.Shelf.Strings.OnBuilder
set_option linter.unusedVariables false
set_option linter.unusedSimpArgs false
noncomputable section
set_option maxRecDepth 1000000
set_option maxHeartbeats 12000000
open Array renaming getElem?_eq_some_iff→ι,length_toList→τ
open Bool renaming and_eq_true→ξc
open ByteArray renaming mk→ξ,empty→φ
open Go.BinOp renaming and→ζ7
open Go.Builtin renaming zeroCells→ξG
open Go.Exit renaming thenS→ξF
open Go.Instr renaming typeAssert→ξd
open Go.IntKind renaming i64→ε,u64→ν,u8→ξ0,wrap_i64→ξf
open Go.Lib renaming indexByte→ψ,join→ζm
open Go.Next renaming value→ξj
open Go.Op renaming equalIn→ξq
open Go.Program renaming fieldsOf→ξ5
open Go.Proofs.Lays renaming n156→ζl
open Go.Proofs.Tryz renaming prog→γ,f41→ξk,func254→ξn,f142→ξo,f145→ξp,func70→ξv,f141→ξA,f97→ξB,f60→ξC,underlying3→ξI,f63→ξJ,f64→ξK,results254→ξM,results70→ξP,ntmps254→ξS,f62→ξU,f66→ξV,func283→ξX,ntmps70→ξY,func252→ξZ,func212→ζ0,func222→ζ1,func259→ζ2,func141→ζ3,func142→ζ4,f143→ζ5,f189→ζ6,f146→ζ8,f106→ζ9,f187→ζa,f305→ζb,f248→ζc,f105→ζd,func76→ζe,func77→ζf,func78→ζg,func79→ζh,func80→ζi,func14→ζj,f61→ζn,f45→ζo,f81→ζp,f82→ζq,f83→ζr,f86→ζs,f84→ζt,f43→ζu,f68→ζv
open Go.Result renaming andThen_ok→η
open Go.Sem renaming run_bind→θ
open Go.Utf8 renaming decode→δ
open Go.Value renaming int→ξa,oneCell'→ξt,cells→ξw,slice→ζk
open Int renaming toNat_natCast→ξD
open List renaming length_append→ζ,length_drop→ρ,mem_append_right→υ,replicate→ω,drop_eq_nil_of_le→ξ1,length_take→ξ6,take_left'→ξ8,append_assoc→ξ9,eq_nil_of_length_eq_zero→ξe,mem_append_left→ξg,mem_append→ξh,getElem?_set→ξi,not_mem_nil→ξl,append_nil→ξm,mem_cons_of_mem→ξr,mem_of_mem_drop→ξs,mem_cons→ξx,mem_cons_self→ξy,getElem?_take→ξz,length_cons→ξH,find?_cons→ξL,drop→ξN,drop_zero→ξQ,take_take→ξR
open Nat renaming eq_of_beq_eq_true→κ,beq→μ,le_refl→ξ2,add_mul→ξ3,mul_le_mul_right→ξ4,zero_add→ξ7,zero_le→ξu,toUInt8→ξO,reduceMul→ξT,le_trans→ξW
open Option renaming map_some→χ,bind_some→ξb
open Option.some renaming injEq→ξE
open Sum renaming rec→ο
section
namespace Go.Vx
open Go.RowKit Go.Dc
section
variable {S:bL} {K:bG S} {P:Program} {A:Pl} {O:List Nat} {w w1 w2:World} {g:Nat->Option (Ob S)}
theorem cW.two {i j:Nat} {X Y:Ob S} (hg:cv A O w g) (cC:i≠j) (U:cW A O w g [(i,some X)] A O w1) (h2:cW A O w1 (cK g [(i,some X)]) [(j,some Y)] A O w2) (hO:OB O w):cW A O w g [(i,some X),(j,some Y)] A O w2:=by
 have wL:=hg.cX hO U;have Xp:cK g [(i,some X)] i=some X:=by simp[cK]
 have qE: ∀ {k:Nat} {Z:Option (Ob S)},(k,Z)∈[(i,some X),(j,some Y)]->(k=i/\Z=some X)\/(k=j/\Z=some Y):=by
  intro k Z h;simp only[ξx,Prod.mk.injEq,ξl,or_false] at h;exact h
 have one: ∀ {k l:Nat} {Z W:Option (Ob S)},(k,Z)∈[(l,W)]->k=l/\Z=W:=by
  intro k l Z W h;simpa using h
 obtain⟨p,hp,hXp,XG⟩:=U.al i X (by simp);obtain⟨q,hq,hYq,XH⟩:=h2.al j Y (by simp);obtain⟨Z,hZ⟩:=h2.lv j (some Y) q (by simp) hq;have OQ: ∀b,dJ w1 X p b->w2.heap[b]? =w1.heap[b]? /\b∈O:=λb hb=>h2.keep b (XG b hb).1 λk V r hk hr wP=>by
  obtain⟨rfl,rfl⟩:=one hk;exact wL.lE i k X Z p r b cC Xp hZ hp hr hb (.inl wP)
 have hX2:fC A O w2 X p:=hXp.keep h2.tr (Pl.le.refl A) OQ;have XC: ∀b,dJ w2 X p b->dJ w1 X p b:=λb=>rI λc hc=>(OQ c (.inl hc)).1;have hY0: ∃Z,g j=some Z:=by
  have:cK g [(i,some X)] j=g j:=gC λV hV=>cC (one hV).1.symm;rw[this] at hZ;exact⟨Z,hZ⟩
 obtain⟨Z0,hZ0⟩:=hY0;refine⟨Pl.le.refl A,U.tr.trans h2.tr,h2.ob,λb hb hn=>?_,λk V hk=>?_,λk l V W r s b j7 hk hl hr hs wP=>?_,λk V W hk hl=>?_,λk V r hk hr=>?_,λ_=> .inl rfl,λk V Z1 hk zJ hn=>?_⟩
 ·obtain⟨a1,a2⟩:=U.keep b hb λk V r hk hr=>hn k V r (by obtain⟨rfl,rfl⟩:=one hk;simp) hr;obtain⟨b1,b2⟩:=h2.keep b a2 λk V r hk hr=>hn k V r (by obtain⟨rfl,rfl⟩:=one hk;simp) hr;exact⟨b1.trans a1,b2⟩
 ·rcases qE hk with⟨rfl,e⟩|⟨rfl,e⟩
  ·cases e;refine⟨p,hp,hX2,λb hb=>⟨(OQ b (XC b hb)).2,(XG b (XC b hb)).2.imp id ?_⟩⟩;rintro ⟨k',Y',q',Z',a1,a2,a3,a4⟩;obtain⟨rfl,rfl⟩:=one a1;exact⟨k',some X,q',Z',by simp,a2,a3,a4⟩
  ·cases e;refine⟨q,hq,hYq,λb hb=>⟨(XH b hb).1,(XH b hb).2.elim (λh=> .inl (ξW U.tr.size h)) ?_⟩⟩;rintro ⟨k',Y',q',Z',a1,a2,a3,a4⟩;obtain⟨rfl,rfl⟩:=one a1;rw[gC (λV hV=>cC (one hV).1.symm)] at a2;refine .inr ⟨k',some Y,q',Z',by simp,a2,a3,?_⟩;obtain⟨q0,Yo,hR,hm⟩:=hg.al k' Z' a2;rw[a3] at Yo;cases Yo;refine rI (λc hc=>?_) a4;refine(U.keep c (hm c hc) λk V r hk hr hrc=>?_).1;obtain⟨rfl,rfl⟩:=one hk;obtain⟨V0,hV0⟩:=U.lv k (some X) r (by simp) hr;exact hg.dj k k' V0 Z' r q' c cC hV0 a2 hr a3 hrc hc
 ·have mU:=wL.cX U.ob h2;have hYj:cK (cK g [(i,some X)]) [(j,some Y)] j=some Y:=by simp[cK]
  have amT:cK (cK g [(i,some X)]) [(j,some Y)] i=some X:=by
   rw[gC (λV hV=>cC (one hV).1)];exact Xp
  have key: ∀b,dJ w2 X p b-> ¬dJ w2 Y q b:=λb=>mU.lE i j X Y p q b cC amT hYj hp hq;rcases qE hk with⟨rfl,e⟩|⟨rfl,e⟩
  ·rcases qE hl with⟨rfl,e'⟩|⟨rfl,e'⟩
   ·exact absurd rfl j7
   ·cases e;cases e';rw[hp] at hr;cases hr;rw[hq] at hs;cases hs;exact key b wP
  ·rcases qE hl with⟨rfl,e'⟩|⟨rfl,e'⟩
   ·cases e;cases e';rw[hq] at hr;cases hr;rw[hp] at hs;cases hs;exact λh=>key b h wP
   ·exact absurd rfl j7
 ·rcases qE hk with⟨rfl,rfl⟩|⟨rfl,rfl⟩
  ·rcases qE hl with⟨e,rfl⟩|⟨e,rfl⟩
   ·rfl
   ·exact absurd e cC
  ·rcases qE hl with⟨e,rfl⟩|⟨e,rfl⟩
   ·exact absurd e.symm cC
   ·rfl
 ·rcases qE hk with⟨rfl,rfl⟩|⟨rfl,rfl⟩
  ·exact U.lv k (some X) r (by simp) hr
  ·exact⟨Z0,hZ0⟩
 ·rcases qE hk with⟨rfl,e⟩|⟨rfl,e⟩
  ·cases e;exact U.nt k X Z1 (by simp) zJ hn
  ·cases e;refine h2.nt k Y Z1 (by simp) ?_ hn;rw[gC (λV hV=>cC (one hV).1.symm)];exact zJ
theorem Fm {i b t:Nat} {Z:Ob S} {cs:List (LV S)} {vs:List Value} (hg:cv A O w g) (hO:OB O w) (hi:g i=some Z) (hp:A.pl i=some (.pointer (some ⟨b,0,none⟩))) (hF:Fr [b] w w1) (hB:ck w1 b t vs) (hr:bV A O w1 cs vs):cW A O w g [(i,some (.box t cs))] A O w1:=by
 obtain⟨p,cH,_,hb⟩:=hg.al i Z hi;rw[hp] at cH;cases cH;exact vY hO (hb b rfl) hi hp rfl hF ⟨b,vs,rfl,hB,hr⟩
theorem Bd {i t:Nat} {cs:List (LV S)} (hg:cv A O w g) (hi:g i=some (.box t cs)): ∃b vs,A.pl i=some (.pointer (some ⟨b,0,none⟩))/\ck w b t vs/\bV A O w cs vs/\b∈O:=by
 obtain⟨p,hp,⟨b,vs,rfl,U,h2⟩,hb⟩:=hg.al i _ hi;exact⟨b,vs,hp,U,h2,hb b rfl⟩
theorem abA: ∀ {ls:List (LV S)} {vs:List Value},bV A O w ls vs-> ∀u∈vs,u.oneCell'=true
 |[],vs,h,u,hu=>by rw[show vs=[] from h] at hu;cases hu
 |l::ls,vs,⟨ys,zs,e,U,h2⟩,u,hu=>by
  subst e;rcases ξh.1 hu with h|h
  ·exact U.one u h
  ·exact abA h2 u h
theorem abC: ∀ {vs:List Value},(∀u∈vs,u.oneCell'=true)->bV (S:=S) A O w (vs.map .v) vs
 |[],_=>rfl
 |v::vs,h=>⟨[v],vs,rfl,⟨rfl,h v (by simp)⟩,abC λu hu=>h u (by simp[hu])⟩
end
section
variable {S:bL} {R:Type}
noncomputable def zq (p:Prop) (x:Option R):Option R:=open Classical in if p then x else none
theorem W4 {p:Prop} {x:Option R} {z:R} (h:zq p x=some z):p/\x=some z:=by
 unfold zq at h;split at h
 ·exact⟨by assumption,h⟩
 ·cases h
noncomputable def gd {α:Type} (a:α) (x:Option R):Option R:=zq (a=a) x
theorem al9 {α:Type} (a:α) (x:Option R):gd a x=x:=by unfold gd zq;simp
def bq:Option (LV S)->Option Int
 |some (.v (.int _ x))=>some x
 |_=>none
def tA:Option (LV S)->Option Bool
 |some (.v (.bool x))=>some x
 |_=>none
def Fs:Option (LV S)->Option ByteArray
 |some (.v (.string x))=>some x
 |_=>none
def jy:Option (LV S)->Option (List Int)
 |some (.cd _ _ x)=>some x
 |_=>none
def bB (t:Nat):Option (LV S)->Option (S.El t)
 |some (.aU t' x)=>(match Nat.decEq t' t with| .isTrue p=>some (p▸x)| .isFalse _=>none)
 |_=>none
def aZ (st:AS S) (s n:Nat):Option (LV S):=match aW.get st.env s with
 |some (.s (.one l))=>some l
 |some (.s (.agg ls))=>ls[n]?
 |_=>none
def bg (st:AS S) (j n:Nat):Option (LV S):=match aH st.h j with
 |some (.box _ cs)=>cs[n]?
 |_=>none
def c9 (st:AS S) (j e:Nat):Option (List (S.El e)):=match aH st.h j with
 |some (.row e' xs)=>(match Nat.decEq e' e with| .isTrue p=>some (pB p xs)| .isFalse _=>none)
 |_=>none
def lM (st:AS S) (j:Nat):Option (List (Int×Int)):=match aH st.h j with
 |some (.map _ _ m)=>some m
 |_=>none
def lpL (st:AS S) (s n:Nat):Option (LV S):=match st.lp with
 |some lf=>(match aW.get lf.env s with
  |some (.s (.one l))=>some l
  |some (.s (.agg ls))=>ls[n]?
  |_=>none)
 |none=>none
def dB (st:AS S) (j g:Nat):Option Unit:=match aH st.h j with
 |some (.bI g' _ _)=>bif μ g' g then some () else none
 |_=>none
def lQ (st:AS S) (m n:Nat):Option Unit:=match st.lp with
 |some lf=>bif μ lf.J.fn.ntmps m&&μ (fG lf.body) n then some () else none
 |none=>none
def td (c:AS S->Option Unit) (a b:bH S):bH S:=⟨a.id,λst k=>match c st with|some _=>a.out st k|none=>b.out st k⟩
end
def a_ (fn:Func):Code:=match fn.body with|some c=>c|none=> .skip
def sM:Code->List (Code×Code)
 | .rangeFunc _ _ x y=>[(x,y)]
 | .loop x=>sM x
 | .seq x y=>sM x++sM y
 | .cond _ x y=>sM x++sM y
 | .block _ x=>sM x
 | .scope x=>sM x
 |_=>[]
def rfX (c:Code) (id:Nat):Code×Code:=match(sM c).filter (λx=>μ (fG x.2) id) with|[x]=>x|_=>(.skip,.skip)
def iG (c:Code) (id:Nat):Code:=(rfX c id).1
def iH (c:Code) (id:Nat):Code:=(rfX c id).2
theorem YU {S:bL} {l:List (bH S)} {n:Nat} (h:(match kU l n with|some _=>false|none=>true)=true):kU l n=none:=by
 cases hf:kU l n with
 |none=>rfl
 |some c=>rw[hf] at h;cases h
section
variable {S:bL} {P:Program} {R:Type}
def H5 (K:bG S) (ts:List Nat) (k:Rs S->Option R):Rs S->Option R
 | .bU u=>k (.bU u)
 | .ret (.s a)=>(match ts with|[t]=>(match Ii K t a with|some x=>k (.ret (.s (K.bA t x)))|none=>none)|_=>none)
 | .ret (.bD ava)=>(match Bo K ts ava with|some xs=>k (.ret (.bD (sx K xs)))|none=>none)
theorem aaN {K:bG S} (hK:cI K P) {f:Nat} {ava:List (aD S)} {ts:List Nat} {k:Rs S->Option R} {r:Rs S} {z:R} (h:H5 K ts k r=some z) (hr:gH K P f ava r): ∃r',k r'=some z/\gH K P f ava r':=by
 cases r with
 |bU u=>exact⟨_,h,hr⟩
 |ret av=>
  cases av with
  |s a=>
   simp only[H5] at h;split at h
   ·split at h
    ·rename_i x hx;refine⟨_,h,hr.1,λA O w xs hv hO hG=>(hr.2 A O w xs hv hO hG).mono ?_⟩;rintro e w' ⟨⟨v,U,h2⟩,hF⟩;exact⟨⟨v,U,abg hK hx h2⟩,hF⟩
    ·cases h
   ·cases h
  |bD bs=>
   simp only[H5] at h;split at h
   ·rename_i ki hx;refine⟨_,h,hr.1,λA O w xs hv hO hG=>(hr.2 A O w xs hv hO hG).mono ?_⟩;rintro e w' ⟨⟨v,U,ys,h2,h3⟩,hF⟩;exact⟨⟨v,U,ys,h2,Ij hK hx h3⟩,hF⟩
   ·cases h
def nS (K:bG S) (ts:List Nat) (k:Rs S->Option R) (r:Rs S) (h:AH S) (dt:List Nat):Option R:=H6 K (H5 K ts k) r h dt
theorem tq {G:ay S} (hG:aJ G P) {f:Nat} {ts rs:List Nat} {spec: {R:Type}->nr S ts->(Rs S->Option R)->Option R}
  (h: ∀ {R:Type} (xs:nr S ts) (k:Rs S->Option R) (z:R),spec xs k=some z-> ∃n,kQ G n f (sx G.K xs) [] (nS G.K rs k)=some z) {ava:List (aD S)} {k:Rs S->Option R} {z:R} (hz:(kR G.K f ts spec).out ava k=some z): ∃r,k r=some z/\gH G.K P f ava r:=by
 simp only[kR] at hz;split at hz
 rotate_left
 ·cases hz
 rename_i xs eB;cases hp:(sx G.K xs).all aD.pure<;>rw[hp] at hz
 ·cases hz
 simp only[cond_true] at hz;obtain⟨n,hn⟩:=h xs k z hz;obtain⟨r,h',dt,U,h2⟩:=EX hG hn;obtain⟨r',h3,h4⟩:=gH.QK hG.K hp h2 U;obtain⟨r'',h5,h6,h7⟩:=aaN hG.K h3 h4;exact⟨r'',h5,h6,λA O w vs hv hO zz=>h7 A O w vs (Ij hG.K eB hv) hO zz⟩
end
section
variable {S:bL} {P:Program} {G:ay S} {I:ff S} {x:Code} {R:Type}
def A7 (G:ay S) (n:Nat) (I:ff S) (x:Code) (k:AX->AS S->Option R):AX->AS S->Option R:=λe bu=>match e with| .normal=>dm G n I (.loop x) (gc (I.L (fG x)) bu) k|e=>k e bu
theorem Ql (hc:kU I.lc (fG x)=none) {n:Nat} {st:AS S} {k:AX->AS S->Option R}:dm G (n+1) I (.loop x) st k=dm G n I x st (A7 G n I x k):=by
 show(match kU I.lc (fG x) with|some lc=>lc.out st k|none=>_)=_;rw[hc];rfl
theorem aoE {i n:Nat} (h:i<n):decide ((i:Int)<(n:Int))=true:=by simp;exact h
theorem aoD {n:Nat}:decide ((n:Int)<(n:Int))=false:=by simp
theorem iD {α:Type} {l:List α} {i:Nat} {z:α} (h:l[i]? =some z):idx l (i:Int)=some z:=by
 unfold idx;rw[if_pos (Int.natCast_nonneg i),ξD,h]
theorem aG.alt {K:bG S} {J:s6} {c:AS S->Option Unit} {a b:bH S} (ha:aG K P J x a) (hb:aG K P J x b):aG K P J x (td c a b):=by
 intro R st k z h;simp only[td] at h;split at h
 ·exact ha st k z h
 ·exact hb st k z h
theorem dQ {α:Type} {T:Ty α} {A:Pl} {O:List Nat} {w:World} {N:Nat} {C:dZ} {K:bG S} {st:AS S} {a:Act} {sl t:Nat} {d:S.El t} (hr:bF K P N C A O w st a) (hs:aW.get st.env sl=some (.s (.one (.aU t d)))) {l:List α} (hd: ∀v,(S.ty t).is O w v d->T.slice.is O w v l):l.length<=maxLen:=by
 obtain⟨x,U,h2,_⟩:=hr.env sl _ hs;cases U;obtain⟨_,_,_,h3,h4⟩:=iJ (hd _ h2);omega
theorem aby {A:Pl} {O:List Nat} {w:World}: ∀ {ls:List (LV S)} {xs:List Value} {n:Nat} {l:LV S},bV A O w ls xs->ls[n]? =some l-> ∃ys,l.rel A O w ys
 |[],_,n,l,_,h=>by simp at h
 |a::ls,_,0,l,⟨ys,_,_,U,_⟩,h=>by
  have h:a=l:=by simpa using h
  subst h;exact⟨ys,U⟩
 |a::ls,_,n+1,l,⟨_,_,_,_,h2⟩,h=>aby h2 (by simpa using h)
theorem Qj {α:Type} {T:Ty α} {A:Pl} {O:List Nat} {w:World} {N:Nat} {C:dZ} {K:bG S} {st:AS S} {a:Act} {j tb n t:Nat} {cs:List (LV S)} {d:S.El t} (hr:bF K P N C A O w st a) (hs:aH st.h j=some (.box tb cs)) (hn:cs[n]? =some (.aU t d)) {l:List α} (hd: ∀v,(S.ty t).is O w v d->T.slice.is O w v l):l.length<=maxLen:=by
 obtain⟨p,_,⟨b,vs,_,_,hL⟩,_⟩:=hr.rel.al j _ hs;obtain⟨ys,x,_,h2,_⟩:=aby hL hn;obtain⟨_,_,_,h3,h4⟩:=iJ (hd _ h2);omega
theorem uz {e j:Nat} {xs:List (S.El e)} {A:Pl} {O:List Nat} {w:World} {N:Nat} {C:dZ} {K:bG S} {st:AS S} {a:Act} (hr:bF K P N C A O w st a) (hs:aH st.h j=some (.row e xs)):xs.length<=maxLen:=by
 obtain⟨p,_,h2,_⟩:=hr.rel.al j _ hs;obtain⟨_,_,_,h3,h4⟩:=Dc.Own.form h2;omega
end
end Go.Vx
end
section
namespace Go.Vx
open Go.RowKit Go.Dc
inductive T (X:Type):Type 1
 |no
 |ok (x:X)
 |bf (c:Bool) (a b:T X)
 |bd {α:Type} (o:Option α) (f:α->T X)
 |cs {α β:Type} (x:α ⊕ β) (f:α->T X) (g:β->T X)
 |gd {α:Type} (a:α) (t:T X)
namespace T
variable {X R:Type}
noncomputable def run (t:T X) (k:X->Option R):Option R:=
 T.rec none (λx=>k x) (λc _ _ a b=>bif c then a else b) (λo _ f=>o.bind f) (λx _ _ f g=>ο f g x) (λa _ r=>Go.Vx.gd a r) t
noncomputable def val (t:T X):Option X:=
 T.rec none (λx=>some x) (λc _ _ a b=>bif c then a else b) (λo _ f=>o.bind f) (λx _ _ f g=>ο f g x) (λ_ _ r=>r) t
@[simp] theorem u5:(T.no:T X).val=none:=rfl
@[simp] theorem aM (x:X):(T.ok x).val=some x:=rfl
@[simp] theorem aR (c:Bool) (a b:T X):(T.bf c a b).val=bif c then a.val else b.val:=rfl
@[simp] theorem bh {α:Type} (o:Option α) (f:α->T X):(T.bd o f).val=o.bind λy=>(f y).val:=rfl
@[simp] theorem dU {α β:Type} (x:α ⊕ β) (f:α->T X) (g:β->T X):(T.cs x f g).val=match x with| .inl a=>(f a).val| .inr b=>(g b).val:=by cases x<;>rfl
@[simp] theorem cE {α:Type} (a:α) (t:T X):(T.gd a t).val=t.val:=rfl
theorem BC (t:T X) (k:X->Option R):t.run k=t.val.bind k:=by
 induction t with
 |no=>rfl
 |ok x=>rfl
 |bf c a b ha hb=>cases c<;>assumption
 |bd o f h=>
  cases o with
  |none=>rfl
  |some y=>exact h y
 |cs x f g hf hg=>
  cases x with
  |inl a=>exact hf a
  |inr b=>exact hg b
 |gd a t h=>rw[cE,<-h];exact al9 a (t.run k)
end T
def hpS {S:bL} (st:AS S) (j:Nat):Option ByteArray:=match aH st.h j with
 |some (.ep s _)=>some s
 |_=>none
def Yk {S:bL} (st:AS S) (j:Nat):Option Nat:=match aH st.h j with
 |some (.ep _ n)=>some n
 |_=>none
def Pb {S:bL} (st:AS S) (j g:Nat):Option Unit:=match aH st.h j with
 |some (.box _ [.v (.func (.func g') _ _)])=>bif μ g' g then some () else none
 |_=>none
structure Sh where
 s:(α:Type)->α->α
theorem acT: ∃f:Sh,f=⟨λ_ a=>a⟩:=⟨_,rfl⟩
noncomputable def shut:Sh:=Classical.choose acT
abbrev ab:Sh:=⟨λ_ a=>a⟩
theorem sP:shut=ab:=Classical.choose_spec acT
theorem wq {X R:Type} {t:T X} {kf:X->Option R} {z:R} (h:(shut.s _ t.val).bind kf=some z):t.run kf=some z:=by
 rw[sP] at h;rw[T.BC];exact h
def cB {α σ X:Type} (step:Int->α->σ->Option (σ ⊕ X)) (fin:Int->σ->Option X):Nat->List α->σ->Option X
 |i,[],a=>fin i a
 |i,z::r,a=>(step i z a).bind λy=>match y with| .inl a'=>cB step fin (i+1) r a'| .inr x=>some x
def dv {σ X:Type} (step:σ->Option (σ ⊕ X)):Nat->σ->Option X
 |0,_=>none
 |n+1,a=>(step a).bind λy=>match y with| .inl a'=>dv step n a'| .inr x=>some x
noncomputable def cS (sh:Sh) {α σ X:Type} (S:Int->α->σ->T (σ ⊕ X)) (F:Int->σ->T X) (l:List α) (a:σ):Option X:=sh.s _ (cB (λi z a=>(S i z a).val) (λi a=>(F i a).val) 0 l a)
noncomputable def cA (sh:Sh) {σ X:Type} (S:σ->T (σ ⊕ X)) (n:Nat) (a:σ):Option X:=sh.s _ (dv (λa=>(S a).val) n a)
theorem arv {α σ X:Type} (S:Int->α->σ->T (σ ⊕ X)) (F:Int->σ->T X) (l:List α) (a:σ):cS shut S F l a=cB (λi z a=>(S i z a).val) (λi a=>(F i a).val) 0 l a:=by unfold cS;rw[sP]
theorem at7 {σ X:Type} (S:σ->T (σ ⊕ X)) (n:Nat) (a:σ):cA shut S n a=dv (λa=>(S a).val) n a:=by unfold cA;rw[sP]
section
variable {S:bL} {P:Program} {G:ay S} {I:ff S} {x:Code}
noncomputable def bT {π X:Type} (id:Nat) (ext:AS S->Option π) (s:π->AS S) (L:π->Option X) (out: {R:Type}->(AX->AS S->Option R)->π->X->Option R):bH S:=
 ⟨id,λst k=>(ext st).bind λp=>zq (st=s p) ((L p).bind (out k p))⟩
noncomputable def HO {σ X R:Type} (f:σ->Option R) (g:X->Option R):σ ⊕ X->Option R:=λy=>ο f g y
theorem R7 {α R:Type} {o:Option α} {f:α->Option R} {z:R} (h:o.bind f=some z): ∃y,o=some y/\f y=some z:=bind_some h
theorem abN {π σ X α R:Type} (N:Nat) {k:AX->AS S->Option R} (hc:kU I.lc (fG x)=none) {l:List α} (hm:l.length<=maxLen) {s:Int->σ->AS S} {St:Int->α->σ->T (σ ⊕ X)} {F:Int->σ->T X} {ex:X->Option R}
  (hb: ∀m (i:Int) a,dm G (m+N) I x (s i a) (A7 G (m+N) I x k)=bif decide (i<(l.length:Int)) then(idx l i).bind λz=>(St i z a).run (HO (λa'=>dm G (m+N) I (.loop x) (s (ε.wrap (i+1)) a') k) ex) else(F i a).run ex):
  ∀(r pre:List α) (a:σ),l=pre++r->dm G (r.length+N+1) I (.loop x) (s (pre.length:Int) a) k=(cB (λi z a=>(St i z a).val) (λi a=>(F i a).val) pre.length r a).bind ex
 |[],pre,a,h=>by
  rw[ξm] at h;subst h;rw[Ql hc,hb,aoD,cond_false,T.BC];rfl
 |z::r,pre,a,h=>by
  have hz:l[pre.length]? =some z:=by rw[h];simp
  have aB:pre.length<l.length:=by rw[h];simp
  rw[Ql hc,hb,aoE aB,cond_true,iD hz,ξb,T.BC];show _=(((St (pre.length:Int) z a).val).bind λy=>match y with| .inl a'=>cB _ _ (pre.length+1) r a'| .inr x=>some x).bind ex;cases (St (pre.length:Int) z a).val with
  |none=>rfl
  |some y=>
   cases y with
   |inr x=>rfl
   |inl a'=>
    show dm G (r.length+1+N) I (.loop x) (s (ε.wrap ((pre.length:Int)+1)) a') k=(cB _ _ (pre.length+1) r a').bind ex;rw[u9 aB hm];have ih:=abN (π:=π) N hc hm hb r (pre++[z]) a' (by rw[h];simp);rw[show(pre++[z]).length=pre.length+1 by simp] at ih;rw[<-ih,show r.length+1+N=r.length+N+1 by omega]
theorem aG.c6 {π σ X α:Type} (hG:aJ G P) {id:Nat} {ext:AS S->Option π} {L:π->Option X} {out: {R:Type}->(AX->AS S->Option R)->π->X->Option R}
  (hL:ao G.K P I (.loop x)) (hc:(match kU I.lc (fG x) with|some _=>false|none=>true)=true) (N:Nat) (s:π->Int->σ->AS S) (l:π->List α) (a0:π->σ) {St:π->Int->α->σ->T (σ ⊕ X)} {F:π->Int->σ->T X}
  (hd: ∀p,L p=cS shut (St p) (F p) (l p) (a0 p))
  (hb: ∀ {R:Type} m (p:π) (i:Int) a (k:AX->AS S->Option R),dm G (m+N) I x (s p i a) (A7 G (m+N) I x k)=bif decide (i<((l p).length:Int)) then(idx (l p) i).bind λz=>(St p i z a).run (HO (λa'=>dm G (m+N) I (.loop x) (s p (ε.wrap (i+1)) a') k) (out k p)) else(F p i a).run (out k p))
  (hex: ∀(p:π) (x:X),∃e bu,∀ {R:Type} (k:AX->AS S->Option R),out k p x=k e bu)
  (hB: ∀(p:π) (N:Nat) (C:dZ) (A:Pl) (O:List Nat) (w:World) (a:Act),bF G.K P N C A O w (s p 0 (a0 p)) a->(l p).length<=maxLen):
  aG G.K P I.tos6 x (bT id ext (λp=>s p 0 (a0 p)) L out):=by
 intro R st k z hz;obtain⟨p,_,U⟩:=R7 hz;clear hz;obtain⟨h2,hz⟩:=W4 U;clear U;subst h2
 by_cases hm:(l p).length<=maxLen
 ·rw[hd,arv] at hz;have h:=(abN (π:=π) N (YU hc) hm (λm i a=>hb m p i a k) (l p) [] (a0 p) rfl).trans hz;exact LR hG _ I (.loop x) (s p 0 (a0 p)) k z hL h
 ·obtain⟨y,_,hy⟩:=R7 hz;obtain⟨e,bu,he⟩:=hex p y;exact⟨e,bu,(he k).symm.trans hy,λC A O w a hr=>absurd (hB p _ C A O w a hr) hm⟩
theorem adB {σ X R:Type} (N:Nat) {k:AX->AS S->Option R} (hc:kU I.lc (fG x)=none) {s:σ->AS S} {St:σ->T (σ ⊕ X)} {ex:X->Option R}
  (hb: ∀m a,dm G (m+N) I x (s a) (A7 G (m+N) I x k)=(St a).run (HO (λa'=>dm G (m+N) I (.loop x) (s a') k) ex)):
  ∀(n:Nat) (a:σ) {z:R},(dv (λa=>(St a).val) n a).bind ex=some z->dm G (n+N) I (.loop x) (s a) k=some z
 |0,a,z,h=>by cases h
 |n+1,a,z,h=>by
  rw[show n+1+N=n+N+1 by omega,Ql hc,hb,T.BC]
  change (((St a).val).bind λy=>match y with| .inl a'=>dv _ n a'| .inr x=>some x).bind ex=some z at h
  revert h
  cases (St a).val with
  |none=>intro h;cases h
  |some y=>
   cases y with
   |inr x=>intro h;exact h
   |inl a'=>intro h;exact adB N hc hb n a' h
theorem aG.cA {π σ X:Type} (hG:aJ G P) {id:Nat} {ext:AS S->Option π} {L:π->Option X} {out: {R:Type}->(AX->AS S->Option R)->π->X->Option R}
  (hL:ao G.K P I (.loop x)) (hc:(match kU I.lc (fG x) with|some _=>false|none=>true)=true) (N:Nat) (s:π->σ->AS S) (a0:π->σ) {St:π->σ->T (σ ⊕ X)} (n:π->Nat)
  (hd: ∀p,L p=Vx.cA shut (St p) (n p) (a0 p))
  (hb: ∀ {R:Type} m (p:π) a (k:AX->AS S->Option R),dm G (m+N) I x (s p a) (A7 G (m+N) I x k)=(St p a).run (HO (λa'=>dm G (m+N) I (.loop x) (s p a') k) (out k p))):
  aG G.K P I.tos6 x (bT id ext (λp=>s p (a0 p)) L out):=by
 intro R st k z hz;obtain⟨p,_,U⟩:=R7 hz;clear hz;obtain⟨h2,hz⟩:=W4 U;clear U;subst h2;rw[hd,at7] at hz;exact LR hG _ I (.loop x) (s p (a0 p)) k z hL (adB N (YU hc) (λm a=>hb m p a k) (n p) (a0 p) hz)
end
end Go.Vx
end
section
namespace Go.Vx
open Go.RowKit Go.Dc
section
variable {α σ X:Type}
theorem nV {step:Int->α->σ->Option (σ ⊕ X)} {fin:Int->σ->Option X} {i:Nat} {z:α} {r:List α} {a:σ}:cB step fin i (z::r) a=(step i z a).bind λy=>match y with| .inl a'=>cB step fin (i+1) r a'| .inr x=>some x:=rfl
theorem Bx {step:Int->α->Unit->Option (Unit ⊕ X)} {fin:Int->Unit->Option X} {p:α->Bool} {e:α->X}:
  ∀ {l:List α} {i:Nat},(∀i z,z∈l->step i z ()=bif p z then some (.inr (e z)) else some (.inl ()))->cB step fin i l ()=match l.find? p with|some z=>some (e z)|none=>fin ((i+l.length:Nat):Int) ()
 |[],i,_=>by simp[cB]
 |z::r,i,h=>by
  rw[nV,h _ z ξy,ξL];cases hp:p z with
  |true=>rfl
  |false=>
   simp only[cond_false,ξb];rw[Bx λi z hz=>h i z (ξr _ hz)];cases r.find? p with
   |some _=>rfl
   |none=>simp only[ξH];rw[show i+1+r.length=i+(r.length+1) by omega]
def allI (q:Nat->α->Bool):Nat->List α->Bool
 |_,[]=>true
 |i,z::r=>q i z&&allI q (i+1) r
theorem tc {q:Nat->α->Bool}: ∀ {l:List α} {i:Nat},allI q i l=true↔ ∀k z,l[k]? =some z->q (i+k) z=true
 |[],i=>by simp[allI]
 |z::r,i=>by
  simp only[allI,ξc];rw[tc];constructor
  ·rintro ⟨U,h2⟩ k y hk;cases k with
   |zero=>simp at hk;subst hk;exact U
   |succ k=>rw[show i+(k+1)=i+1+k by omega];exact h2 k y (by simpa using hk)
  ·intro h;refine⟨h 0 z rfl,λk y hk=>?_⟩;rw[show i+1+k=i+(k+1) by omega];exact h (k+1) y (by simpa using hk)
theorem abM {step:Int->α->Unit->Option (Unit ⊕ X)} {fin:Int->Unit->Option X} {q:Nat->α->Bool} {x:X} {l:List α} (h: ∀(i:Nat) z,l[i]? =some z->step i z ()=bif q i z then some (.inl ()) else some (.inr x)):
  ∀(r pre:List α),l=pre++r->cB step fin pre.length r ()=bif allI q pre.length r then fin (l.length:Int) () else some x
 |[],pre,e=>by
  rw[ξm] at e;subst e;rfl
 |z::r,pre,e=>by
  rw[nV,h pre.length z (by rw[e];simp)];unfold allI;cases q pre.length z with
  |false=>rfl
  |true=>
   simp only[cond_true,ξb,Bool.true_and];have:=abM (fin:=fin) h r (pre++[z]) (by rw[e];simp);rw[show(pre++[z]).length=pre.length+1 by simp] at this;exact this
theorem xG {step:Int->α->Unit->Option (Unit ⊕ X)} {fin:Int->Unit->Option X} {q:Nat->α->Bool} {x:X} {l:List α} (h: ∀(i:Nat) z,l[i]? =some z->step i z ()=bif q i z then some (.inl ()) else some (.inr x)):
 cB step fin 0 l ()=bif allI q 0 l then fin (l.length:Int) () else some x:=abM h l [] rfl
theorem xH {step:Int->α->σ->Option (σ ⊕ X)} {fin:Int->σ->Option X} {g:σ->α->σ}: ∀ {l:List α} {i:Nat} {a:σ},(∀i z a,z∈l->step i z a=some (.inl (g a z)))->cB step fin i l a=fin ((i+l.length:Nat):Int) (l.foldl g a)
 |[],i,a,_=>by simp[cB]
 |z::r,i,a,h=>by
  rw[nV,h _ z _ ξy];show cB step fin (i+1) r (g a z)=_;rw[xH λi z a hz=>h i z a (ξr _ hz),ξH,List.foldl_cons,show i+1+r.length=i+(r.length+1) by omega]
theorem I2 {step:Int->Option (Int ⊕ X)} {q:Nat->Bool} {x:Nat->X} {y:X} {N:Nat} (h: ∀a:Nat,a<N->step (a:Int)=bif q a then some (.inl ((a+1:Nat):Int)) else some (.inr (x a))) (hN:step (N:Int)=some (.inr y)):
  ∀ {k n a:Nat},a+k=N->k<n->dv step n (a:Int)=some (match(List.range' a k).find? (λb=>!q b) with|some b=>x b|none=>y)
 |0,n+1,a,e,_=>by
  obtain rfl:a=N:=by omega
  unfold dv;rw[hN];rfl
 |k+1,n+1,a,e,hn=>by
  unfold dv;rw[h a (by omega),List.range'_succ,ξL];cases q a with
  |false=>rfl
  |true=>
   simp only[cond_true,ξb,Bool.not_true];exact I2 h hN (by omega) (by omega)
theorem alY {p:α->Bool} {l:List α}:(l.find? p).isSome=l.any p:=by rw[Bool.eq_iff_iff,List.find?_isSome,List.any_eq_true]
end
section
variable {S:bL} {K:bG S} {P:Program}
def Ub {α:Type} (T:Ty α):Prop:= ∀(O:List Nat) (w:World) (O':List Nat) (w':World) (cs:List Value) (x:α),T.rep O w cs x->T.rep O' w' cs x
theorem zj {α:Type} {T:Ty α} (hf:Ub T) {O O':List Nat} {w w':World}: ∀ {xs:List α} {cs:List Value},cz T O w cs xs->cz T O' w' cs xs
 |[],_,h=>h
 |_::_,_,⟨c,r,e,U,h2⟩=>⟨c,r,e,hf O w O' w' c _ U,zj hf h2⟩
def sv (K:bG S) (f e:Nat) (cl:List (S.El e)->Option (List (S.El e))):iM S:=⟨f,λava h k=>match ava with
 |[.one l]=>(match gr K (aH h) e l with|some xs=>(cl xs).bind λzs=>k (.ret (.s (.one (.own h.length)))) (h++[some (.row e zs)]) []|none=>none)
 |_=>none⟩
theorem qH {h:AH S} {X:Ob S} {i:Nat} {Y:Ob S} (hi:aH (h++[some X]) i=some Y):aH h i=some Y\/(i=h.length/\Y=X):=by
 rw[oU] at hi;rcases jz hi with U|⟨U,h2⟩
 ·exact .inl (oU.2 U)
 ·exact .inr ⟨U,Option.some.inj h2⟩
theorem xn (hK:cI K P) {f e:Nat} {cl:List (S.El e)->Option (List (S.El e))} (gY:gQ P f) (G7:Ub (S.ty e))
  (hC: ∀(O:List Nat) (w:World) (v:Value) (xs zs:List (S.El e)),OB O w->(S.ty e).slice.is O w v xs->cl xs=some zs->Calls P f #[v] w (ig (S.ty e) e w.heap.size O w (.slice none 0 0) zs))
  {R:Type} (ava:List (aD S)) (h:AH S) (k:Rs S->AH S->List Nat->Option R) (z:R) (hz:(sv K f e cl).out ava h k=some z): ∃r h' dt,k r h' dt=some z/\ic K P f ava h r h' dt:=by
 simp only[sv] at hz;split at hz
 rotate_left
 ·cases hz
 rename_i l;split at hz
 rotate_left
 ·cases hz
 rename_i xs eB;obtain⟨zs,gU,hk⟩:=bind_some hz;refine⟨_,_,_,hk,gY,λA O w vs hv hg hO hG bZ iA=>?_⟩;obtain⟨v,rest,rfl,AJ,AA⟩:=hv;rw[show rest=[] from AA];have wH:=pI hK hg eB AJ;obtain⟨O1,pU⟩: ∃O1,O1=e9 A (qL l) O:=⟨_,rfl⟩;rw[<-pU] at wH;have j9:Dc.Sub O1 O:=by rw[pU];exact hQ
 refine(hC O1 w v xs zs (λb hb=>hO b (j9 b hb)) wH gU).mono ?_;rintro en w' ⟨v',O2,rfl,ha⟩;obtain⟨A',dF⟩: ∃A':Pl,A'=⟨λi=>bif μ i h.length then some v' else A.pl i,A.ls⟩:=⟨_,rfl⟩;have fb: ∀i,i≠h.length->A'.pl i=A.pl i:=λi hi=>by
  rw[dF];have:μ i h.length=false:=by
   cases hb:μ i h.length with
   |false=>rfl
   |true=>exact absurd (κ hb) hi
  simp only[this,cond_false]
 have iC:A'.pl h.length=some v':=by rw[dF];simp
 have hle:A.le A':=⟨λi p hp=>by
  rw[fb i (λe=>by subst e;rw[bZ _ (ξ2 _)] at hp;cases hp)];exact hp,by rw[dF]⟩
 have fL: ∀b,b<w.heap.size->w'.heap[b]? =w.heap[b]? :=λb hb=>ha.fr b hb (by simp[Value.ownBlock]);have anw:OB (O2++O) w':=λb hb=>by
  rcases ξh.1 hb with hb|hb
  ·exact ha.ob b hb
  ·exact Nat.lt_of_lt_of_le (hO b hb) ha.tr.size
 have eK:Tr O w (O2++O) w':=⟨ha.tr.os,ha.tr.tape,ha.tr.output,ha.tr.size,λb hb hn=>⟨λhm=>by
  rcases ξh.1 hm with hm|hm
  ·exact(ha.tr.keep b hb λU=>hn (j9 b U)).1 hm
  ·exact hn hm,fL b hb⟩⟩
 have dp: ∀b,cG v'=some b->w.heap.size<=b/\b∈O2:=by
  intro b hb;have gM:v'.ownBlock=some b:=by
   rcases mD ha.own with⟨e1,_⟩|⟨b',c,e1⟩
   ·rw[e1] at hb;cases hb
   ·rw[e1] at hb ⊢;cases hb;rfl
  exact⟨(ha.own.lt b gM).1,ha.own.mem b gM⟩
 have oJ:v'.oneCell'=true:=by
  rcases mD ha.own with⟨e1,_⟩|⟨b',c,e1⟩<;>rw[e1]<;>rfl
 have fj:Dc.Own (S.ty e) e 0 (O2++O) w' v' zs:=by
  obtain⟨cs,⟨h0,U⟩,h2⟩:=ha.own.ex;refine⟨⟨cs,⟨h0,?_⟩,zj G7 h2⟩,λb hb=>ξg _ (ha.own.mem b hb)⟩;rcases U with U|⟨g,cap,cur,q1,q2,q3⟩
  ·exact .inl U
  ·exact .inr ⟨g,cap,cur,q1,ξu _,q3⟩
 have sa: ∀i X,aH (h++[some (.row e zs)]) i=some X->X.nt=true:=λi X hi=>by
  rcases qH hi with U|⟨_,rfl⟩
  ·exact iA i X U
  ·rfl
 refine⟨A',O2++O,⟨v',rfl,⟨v',iC,rfl,oJ⟩⟩,⟨cv.HN sa ?_ ?_,anw,eK,λi hi=>fb i (by omega),(λj hj=>by cases hj),by rw[dF],by simp,?_,?_,λi X _=>sa i X⟩⟩
 ·intro i X hi;rcases qH hi with U|⟨rfl,rfl⟩
  ·obtain⟨p,hp,hR,hb⟩:=hg.al i X U;have aB:=jo U;exact⟨p,by rw[fb i (by omega)];exact hp,hR.keep eK hle λb bM=>⟨fL b (hO b (hg.lF U hp bM)),υ _ (hg.lF U hp bM)⟩,λb bM=>υ _ (hb b bM)⟩
  ·exact⟨v',iC,fj,λb hb=>ξg _ (dp b hb).2⟩
 ·intro i j X Y p q b cC hi hj hp hq bM eE;have fM: ∀ {i:Nat} {X:Ob S} {p:Value},aH h i=some X->A'.pl i=some p->cG p=some b->b<w.heap.size/\A.pl i=some p:=by
   intro i X p U h2 h3;have aB:=jo U;rw[fb i (by omega)] at h2;obtain⟨p',cH,_,hb⟩:=hg.al i X U;rw[h2] at cH;cases cH;exact⟨hO b (hb b h3),h2⟩
  rcases qH hi with U|⟨rfl,rfl⟩
  ·rcases qH hj with h2|⟨rfl,rfl⟩
   ·exact hg.dj i j X Y p q b cC U h2 (fM U hp bM).2 (fM h2 hq eE).2 bM eE
   ·rw[iC] at hq;cases hq;have:=(fM U hp bM).1;have:=(dp b eE).1;omega
  ·rcases qH hj with h2|⟨rfl,rfl⟩
   ·rw[iC] at hp;cases hp;have:=(fM h2 hq eE).1;have:=(dp b bM).1;omega
   ·exact absurd rfl cC
 ·intro i hi;simp at hi;rw[fb i (by omega)];exact bZ i (by omega)
 ·intro b hb _;refine⟨fL b (hO b hb),υ _ hb,λi X p hi hX hp bM=>?_⟩;rcases qH hX with U|⟨rfl,rfl⟩
  ·have:=jo U;omega
  ·rw[iC] at hp;cases hp;have:=(dp b (iR rfl bM)).1;have:=hO b hb;omega
end
section
variable {S:bL} {K:bG S} {P:Program} {N:Nat} {B:dZ} {A A':Pl} {O:List Nat} {w:World} {st:AS S} {a:Act}
def jP (j c e:Nat) (st:AS S):AS S:=match aH st.h j with
 |some (.box t cs)=>(match cs[c]? with
  |some (.v (.slice none 0 0))=> { st with h:=st.h.set j (some (.box t (cs.set c (.own st.h.length))))++[some (.row e [])] }
  |_=>st)
 |_=>st
theorem abB {n:Nat} (hA:A.le A') (hn:A'.pl n=some (.slice none 0 0)): ∀ {ls:List (LV S)} {xs:List Value} {c:Nat},bV A O w ls xs->ls[c]? =some (.v (.slice none 0 0))->bV A' O w (ls.set c (.own n)) xs
 |[],_,c,_,h=>by simp at h
 |l::ls,xs,0,⟨ys,zs,U,h2,h3⟩,h=>by
  have h:l= .v (.slice none 0 0):=by simpa using h
  subst h;exact⟨ys,zs,U,⟨_,hn,h2.1,rfl⟩,qN (Tr.refl O w) hA h3⟩
 |l::ls,xs,c+1,⟨ys,zs,U,h2,h3⟩,h=>⟨ys,zs,U,h2.tr (Tr.refl O w) hA,abB hA hn h3 (by simpa using h)⟩
theorem bF.jP (j c e:Nat) (h:bF K P N B A O w st a): ∃A',bF K P N B A' O w (Vx.jP j c e st) a:=by
 unfold Vx.jP;split
 rotate_left
 ·exact⟨A,h⟩
 rename_i t cs hj;split
 rotate_left
 ·exact⟨A,h⟩
 rename_i hc;have iy:=jo hj;obtain⟨A',dF⟩: ∃A',A'=A.put st.h.length (.slice none 0 0):=⟨_,rfl⟩;have bZ:=h.free st.h.length (ξ2 _);have hle:A.le A':=by rw[dF];exact Pl.sE bZ
 have iC:A'.pl st.h.length=some (.slice none 0 0):=by rw[dF];exact Pl.js _ _ _
 have fb: ∀i,i≠st.h.length->A'.pl i=A.pl i:=λi hi=>by rw[dF];exact Pl.sF (λe=>hi e.symm)
 have hlen:(st.h.set j (some (.box t (cs.set c (.own st.h.length))))).length=st.h.length:=List.length_set;have g_: ∀ {i:Nat} {X:Ob S},aH (st.h.set j (some (.box t (cs.set c (.own st.h.length))))++[some (.row e [])]) i=some X->(i=st.h.length/\X= .row e [])\/(i=j/\X= .box t (cs.set c (.own st.h.length)))\/(i≠j/\aH st.h i=some X):=by
  intro i X hi;rcases qH hi with U|⟨U,h2⟩
  ·right;rw[oU,ξi] at U;split at U
   ·rename_i he;simp only[ξE] at U;exact .inl ⟨he.symm,U.symm⟩
   ·rename_i he;exact .inr ⟨λx=>he x.symm,oU.2 U⟩
  ·exact .inl ⟨U.trans hlen,h2⟩
 have hold: ∀ {i:Nat} {X:Ob S} {p:Value} {b:Nat},aH (st.h.set j (some (.box t (cs.set c (.own st.h.length))))++[some (.row e [])]) i=some X->A'.pl i=some p->dJ w X p b-> ∃Y,aH st.h i=some Y/\A.pl i=some p/\dJ w Y p b:=by
  intro i X p b hi hp hb;rcases g_ hi with⟨rfl,rfl⟩|⟨rfl,rfl⟩|⟨_,U⟩
  ·rw[iC] at hp;cases hp;rcases hb with hb|hb<;>cases hb
  ·exact⟨_,hj,by rw[<-fb i (by omega)];exact hp,.inl (iR rfl hb)⟩
  ·have:=jo U;exact⟨_,U,by rw[<-fb i (by omega)];exact hp,hb⟩
 refine⟨A',h.size,h.env.tr (Tr.refl O w) hle,⟨?_,?_⟩,h.ob,h.eJ,?_,h.nb,?_,h.tr,?_,by rw[dF];exact h.ls,?_,?_,?_,h.lp,h.dl,h.hi,h.o0,h.rr,?_⟩
 ·intro i X hi;rcases g_ hi with⟨rfl,rfl⟩|⟨rfl,rfl⟩|⟨aN,U⟩
  ·exact⟨_,iC,Own.oT,λb hb=>by cases hb⟩
  ·obtain⟨p,hp,⟨b,vs,h2,h3,h4⟩,hb⟩:=h.rel.al i _ hj;exact⟨p,by rw[fb i (by omega)];exact hp,⟨b,vs,h2,h3,abB hle iC h4 hc⟩,hb⟩
  ·obtain⟨p,hp,hR,hb⟩:=h.rel.al i X U;have:=jo U;exact⟨p,by rw[fb i (by omega)];exact hp,hR.keep (Tr.refl O w) hle λb bM=>⟨rfl,h.rel.lF U hp bM⟩,hb⟩
 ·intro i i' X Y p q b aN hi eh hp hq bM eE;obtain⟨X0,U,h2,h5⟩:=hold hi hp bM;obtain⟨Y0,h3,h4,h6⟩:=hold eh hq eE;exact h.rel.lE i i' X0 Y0 p q b aN U h3 h2 h4 h5 h6
 ·intro i hi;simp at hi;rw[fb i (by omega)];exact h.free i (by omega)
 ·show B.nb<=(st.h.set j _++[_]).length;have:=h.le;simp;omega
 ·intro i hi;have:=h.le;rw[fb i (by omega)];exact h.pl i hi
 ·intro i X hi hX;have:=h.le;rcases g_ hX with⟨rfl,_⟩|⟨rfl,_⟩|⟨_,U⟩
  ·omega
  ·exact h.lv i _ hi hj
  ·exact h.lv i X hi U
 ·intro b hb hx bN;obtain⟨c1,c2,c3⟩:=h.cl b hb hx bN;refine⟨c1,c2,λi X p hi hX hp bM=>?_⟩;obtain⟨Y,U,h2,h3⟩:=hold hX hp bM;exact c3 i Y p hi U h2 h3
 ·exact eG.BK hle.at_ (λD hD=>hD) h.df
 ·intro i X hi hX;rcases g_ hX with⟨rfl,rfl⟩|⟨rfl,rfl⟩|⟨_,U⟩
  ·rfl
  ·rfl
  ·exact h.nt i X hi U
def me (l:List Nat) (st:AS S):AS S:= { st with dt:=l++st.dt }
theorem bF.me (l:List Nat) (h:bF K P N B A O w st a):bF K P N B A O w (Vx.me l st) a:=
 ⟨h.size,h.env,h.rel,h.ob,h.eJ,h.free,h.nb,h.le,h.tr,h.pl,h.ls,h.lv,λb hb hx hc=>h.cl b hb hx λi hi=>hc i (υ _ hi),h.df,h.lp,h.dl,h.hi,h.o0,h.rr,h.nt⟩
theorem bF.seen {j:Nat} {X X':Ob S} (h:bF K P N B A O w st a) (hj:aH st.h j=some X) (hR: ∀p,fC A O w X p->fC A O w X' p) (hn:X'.nt=true:=by rfl):bF K P N B A O w { st with h:=st.h.set j (some X') } a:=by
 have iy:=jo hj;have g_: ∀ {i:Nat} {Y:Ob S},aH (st.h.set j (some X')) i=some Y->(i=j/\Y=X')\/(i≠j/\aH st.h i=some Y):=by
  intro i Y hi;rw[oU,ξi] at hi;split at hi
  ·rename_i he;simp only[ξE] at hi;exact .inl ⟨he.symm,hi.symm⟩
  ·rename_i he;exact .inr ⟨λx=>he x.symm,oU.2 hi⟩
 have hold: ∀ {i:Nat} {Y:Ob S},aH (st.h.set j (some X')) i=some Y-> ∃Z,aH st.h i=some Z/\ ∀p b,dJ w Y p b->dJ w Z p b:=by
  intro i Y hi;rcases g_ hi with⟨rfl,rfl⟩|⟨_,U⟩
  ·exact⟨_,hj,λp b hb=> .inl (iR hn hb)⟩
  ·exact⟨_,U,λp b hb=>hb⟩
 refine⟨h.size,h.env,⟨?_,?_⟩,h.ob,h.eJ,?_,h.nb,?_,h.tr,h.pl,h.ls,?_,?_,h.df,h.lp,h.dl,h.hi,h.o0,h.rr,?_⟩
 ·intro i Y hi;rcases g_ hi with⟨rfl,rfl⟩|⟨_,U⟩
  ·obtain⟨p,hp,h2,hb⟩:=h.rel.al i _ hj;exact⟨p,hp,hR p h2,hb⟩
  ·exact h.rel.al i Y U
 ·intro i i' Y Z p q b aN hi eh hp hq bM eE;obtain⟨Y0,U,h3⟩:=hold hi;obtain⟨Z0,h2,h4⟩:=hold eh;exact h.rel.lE i i' Y0 Z0 p q b aN U h2 hp hq (h3 p b bM) (h4 q b eE)
 ·intro i hi;exact h.free i (by simpa using hi)
 ·show B.nb<=(st.h.set j _).length;have:=h.le;simp;omega
 ·intro i Y hi hY;obtain⟨Z,U,_⟩:=hold hY;exact h.lv i Z hi U
 ·intro b hb hx bN;obtain⟨c1,c2,c3⟩:=h.cl b hb hx bN;refine⟨c1,c2,λi Y p hi hY hp bM=>?_⟩;obtain⟨Z,U,h3⟩:=hold hY;exact c3 i Z p hi U hp (h3 p b bM)
 ·intro i Y hi hY;rcases g_ hY with⟨rfl,rfl⟩|⟨_,U⟩
  ·exact hn
  ·exact h.nt i Y hi U
def L2 (cs:List (LV S)):List (LV S):=match vS cs with
 |some bs=>[.dW bs.length bs]
 |none=>(match oP cs with|some (k,gs)=>[.cd k gs.length gs]|none=>cs)
theorem ahk {cs:List (LV S)} {xs:List Value} (h:bV A O w cs xs):bV A O w (L2 cs) xs:=by
 unfold L2;split
 ·rename_i bs hb;exact⟨xs,[],by simp,⟨rfl,L7 hb h⟩,rfl⟩
 ·split
  ·rename_i k gs hg;exact⟨xs,[],by simp,⟨rfl,PM hg h⟩,rfl⟩
  ·exact h
def om (j:Nat) (st:AS S):AS S:=match aH st.h j with
 |some (.box t cs)=> { st with h:=st.h.set j (some (.box t (L2 cs))) }
 |_=>st
theorem bF.om (j:Nat) (h:bF K P N B A O w st a):bF K P N B A O w (Vx.om j st) a:=by
 unfold Vx.om;split
 ·rename_i t cs hj;refine h.seen hj ?_;rintro p ⟨b,vs,U,h2,h3⟩;exact⟨b,vs,U,h2,ahk h3⟩
 ·exact h
def yY:Option (LV S)->Option (List Bool)
 |some (.dW _ x)=>some x
 |_=>none
def oQ (pre:AS S->AS S) (lc:bH S):bH S:=⟨lc.id,λst k=>lc.out (pre st) k⟩
def dA (K:bG S) (P:Program) (pre:AS S->AS S):Prop:= ∀ {N:Nat} {B:dZ} {A:Pl} {O:List Nat} {w:World} {st:AS S} {a:Act},bF K P N B A O w st a-> ∃A',bF K P N B A' O w (pre st) a
theorem dA.gc (sl:List Nat):dA K P (Vx.gc sl):=λh=>h.gc
theorem dA.jP (j c e:Nat):dA K P (Vx.jP j c e):=λh=>h.jP j c e
theorem dA.me (l:List Nat):dA K P (Vx.me l):=λh=>⟨_,h.me l⟩
theorem dA.om (j:Nat):dA K P (Vx.om j):=λh=>⟨_,h.om j⟩
theorem dA.comp {f g:AS S->AS S} (hf:dA K P f) (hg:dA K P g):dA K P (λst=>f (g st)):=λh=>
 let⟨_,U⟩:=hg h
 hf U
theorem aG.pre {J:s6} {x:Code} {lc:bH S} {pre:AS S->AS S} (hp:dA K P pre) (h:aG K P J x lc):aG K P J x (oQ pre lc):=by
 intro R st k z hz;obtain⟨e,bu,U,h2⟩:=h (pre st) k z hz;refine⟨e,bu,U,λC A O w a hr=>?_⟩;obtain⟨A',cP⟩:=hp hr;exact h2 C A' O w a cP
end
section
variable {S:bL} {K:bG S} {P:Program}
def AP (K:bG S) (f e:Nat) (ins:List (S.El e)->Int->List (S.El e)->Option (List (S.El e))):iM S:=⟨f,λava h k=>match ava with
 |[.one (.own r),.one (.v (.int .i64 j)),.one (.own r2)]=>bif μ r r2 then none else(match gr K (aH h) e (.own r),gr K (aH h) e (.own r2) with
  |some xs,some ys=>(ins xs j ys).bind λzs=>k (.ret (.s (.one (.own h.length)))) ((h.set r none).set r2 none++[some (.row e zs)]) [r,r2]
  |_,_=>none)
 |_=>none⟩
theorem Mz {g:Nat->Option (Ob S)} {e r:Nat} {xs:List (S.El e)} (h:gr K g e (.own r)=some xs):g r=some (.row e xs):=by
 simp only[gr] at h;split at h
 ·rename_i e' ys hg;split at h
  ·rename_i p _;subst p;cases h;exact hg
  ·cases h
 ·cases h
theorem QJ {h:AH S} {r i:Nat} {X:Ob S} (hi:aH (h.set r none) i=some X):i≠r/\aH h i=some X:=by
 rw[oU] at hi;rw[ξi] at hi;split at hi
 ·split at hi<;>simp at hi
 ·rename_i aN;exact⟨λe=>aN e.symm,oU.2 hi⟩
theorem PJ (hK:cI K P) {f e:Nat} {ins:List (S.El e)->Int->List (S.El e)->Option (List (S.El e))} (gY:gQ P f)
  (hC: ∀(O:List Nat) (w:World) (v u:Value) (xs ys zs:List (S.El e)) (j:Int),OB O w->Dc.Own (S.ty e) e 0 O w v xs->(S.ty e).slice.is O w u ys->Plain w u->ins xs j ys=some zs->Calls P f #[v,.int .i64 j,u] w (ig (S.ty e) e 0 O w v zs))
  {R:Type} (ava:List (aD S)) (h:AH S) (k:Rs S->AH S->List Nat->Option R) (z:R) (hz:(AP K f e ins).out ava h k=some z): ∃r h' dt,k r h' dt=some z/\ic K P f ava h r h' dt:=by
 simp only[AP] at hz;split at hz
 rotate_left
 ·cases hz
 rename_i r j r2;cases aN:μ r r2<;>rw[aN] at hz
 rotate_left
 ·cases hz
 simp only[cond_false] at hz;split at hz
 rotate_left
 ·cases hz
 rename_i xs ys eB ej;obtain⟨zs,gU,hk⟩:=bind_some hz;have aN:r≠r2:=λe=>by subst e;rw[Nat.beq_refl] at aN;cases aN
 have oK:=Mz eB;have Hd:=Mz ej;refine⟨_,_,_,hk,gY,λA O w vs hv hg hO hG bZ iA=>?_⟩;obtain⟨v,_,rfl,AJ,v1,_,rfl,⟨Pp,_⟩,u,rest,rfl,j_,AA⟩:=hv;rw[show rest=[] from AA];obtain rfl:v1= .int .i64 j:=by simpa using Pp
 have wH:=pI hK hg ej j_;obtain⟨_,oM,jl,_⟩:=AJ;cases jl;obtain⟨_,nM,huu,_⟩:=j_;cases huu;obtain⟨v0,AG,gu,XJ⟩:=hg.al r _ oK;rw[oM] at AG;cases AG;obtain⟨u0,Hl,anz,hbu⟩:=hg.al r2 _ Hd;rw[nM] at Hl;cases Hl;obtain⟨O1,pU⟩: ∃O1,O1=e9 A [r2] O:=⟨_,rfl⟩;have wH:(S.ty e).slice.is O1 w u ys:=by rw[pU];exact wH
 have j9:Dc.Sub O1 O:=by rw[pU];exact hQ
 have anW: ∀g,cG v=some g->g∈O1:=by
  intro g mm;rw[pU,m9];refine⟨XJ g mm,λr' cP p hp=>?_⟩;have:r'=r2:=by simpa using cP
  subst this;exact hg.dj r r' _ _ v p g aN oK Hd oM hp mm
 have anA:Dc.Own (S.ty e) e 0 O1 w v xs:=by
  have gu:Dc.Own (S.ty e) e 0 O w v xs:=gu;obtain⟨cs,U,h2⟩:=gu.ex;exact⟨⟨cs,U,h2.tr (Tr.less j9)⟩,λg mm=>anW g (lB mm)⟩
 refine(hC O1 w v u xs ys zs j (λb hb=>hO b (j9 b hb)) anA wH (Dc.Own.plain anz) gU).mono ?_;rintro en w' ⟨v',O2,rfl,ha⟩;obtain⟨A',dF⟩: ∃A':Pl,A'=⟨λi=>bif μ i h.length then some v' else A.pl i,A.ls⟩:=⟨_,rfl⟩;have fb: ∀i,i≠h.length->A'.pl i=A.pl i:=λi hi=>by
  rw[dF];have:μ i h.length=false:=by
   cases hb:μ i h.length with
   |false=>rfl
   |true=>exact absurd (κ hb) hi
  simp only[this,cond_false]
 have iC:A'.pl h.length=some v':=by rw[dF];simp
 have hle:A.le A':=⟨λi p hp=>by
  rw[fb i (λe=>by subst e;rw[bZ _ (ξ2 _)] at hp;cases hp)];exact hp,by rw[dF]⟩
 have gM: ∀b,cG v≠some b->v.ownBlock≠some b:=λb hb hv=>hb (lB hv);have fL: ∀b,b<w.heap.size->cG v≠some b->w'.heap[b]? =w.heap[b]? :=λb hb hn=>ha.fr b hb (gM b hn);have cY: ∀b,b∈O->cG u≠some b->b∈O2:=λb hb hn=>ha.sub b (by
  rw[pU,m9];refine⟨hb,λr' cP p hp=>?_⟩;have:r'=r2:=by simpa using cP
  subst this;rw[nM] at hp;cases hp;exact hn)
 have eK:Tr O w O2 w':=(Tr.less j9).trans ha.tr;have dp: ∀b,cG v'=some b->v'.ownBlock=some b/\b∈O2:=by
  intro b hb;have gM:v'.ownBlock=some b:=by
   rcases mD ha.own with⟨e1,_⟩|⟨b',c,e1⟩
   ·rw[e1] at hb;cases hb
   ·rw[e1] at hb ⊢;cases hb;rfl
  exact⟨gM,ha.own.mem b gM⟩
 have qv: ∀b,b<w.heap.size->cG v≠some b->cG v'≠some b:=λb hb hn h'=>ha.ne b hb (gM b hn) (dp b h').1;have oJ:v'.oneCell'=true:=by
  rcases mD ha.own with⟨e1,_⟩|⟨b',c,e1⟩<;>rw[e1]<;>rfl
 have hlen:((h.set r none).set r2 none).length=h.length:=by simp
 have mq: ∀ {i:Nat} {X:Ob S},aH ((h.set r none).set r2 none++[some (.row e zs)]) i=some X->(i≠r/\i≠r2/\aH h i=some X)\/(i=h.length/\X= .row e zs):=by
  intro i X hi;rcases qH hi with U|⟨U,h2⟩
  ·obtain⟨h3,h4⟩:=QJ U;obtain⟨h5,h6⟩:=QJ h4;exact .inl ⟨h5,h3,h6⟩
  ·exact .inr ⟨U.trans hlen,h2⟩
 have sa: ∀i X,aH ((h.set r none).set r2 none++[some (.row e zs)]) i=some X->X.nt=true:=λi X hi=>by
  rcases mq hi with⟨_,_,U⟩|⟨_,rfl⟩
  ·exact iA i X U
  ·rfl
 refine⟨A',O2,⟨v',rfl,⟨v',iC,rfl,oJ⟩⟩,⟨cv.HN sa ?_ ?_,ha.ob,eK,λi hi=>fb i (by omega),(λj hj=>?_),by rw[dF],by simp,?_,?_,λi X _=>sa i X⟩⟩
 ·intro i X hi;rcases mq hi with⟨qg,anj,U⟩|⟨rfl,rfl⟩
  ·obtain⟨p,hp,hR,hb⟩:=hg.al i X U;have aB:=jo U;have XX: ∀b,cG p=some b->b∈O2:=λb bM=>cY b (hb b bM) (λwS=>hg.dj i r2 _ _ p u b anj U Hd hp nM bM wS);exact⟨p,by rw[fb i (by omega)];exact hp,hR.keep eK hle λb bM=>have bM:=iR (iA i X U) bM;⟨fL b (hO b (hb b bM)) (λgM=>hg.dj i r _ _ p v b qg U oK hp oM bM gM),XX b bM⟩,XX⟩
  ·exact⟨v',iC,ha.own,λb hb=>(dp b hb).2⟩
 ·intro i j X Y p q b cC hi hj hp hq bM eE;have fM: ∀ {i:Nat} {X:Ob S} {p:Value},i≠r->aH h i=some X->A'.pl i=some p->cG p=some b->b<w.heap.size/\A.pl i=some p/\cG v≠some b:=by
   intro i X p h0 U h2 h3;have aB:=jo U;rw[fb i (by omega)] at h2;obtain⟨p',cH,_,hb⟩:=hg.al i X U;rw[h2] at cH;cases cH;exact⟨hO b (hb b h3),h2,λgM=>hg.dj i r _ _ p v b h0 U oK h2 oM h3 gM⟩
  rcases mq hi with⟨qg,_,U⟩|⟨rfl,rfl⟩
  ·rcases mq hj with⟨tY,_,h2⟩|⟨rfl,rfl⟩
   ·exact hg.dj i j X Y p q b cC U h2 (fM qg U hp bM).2.1 (fM tY h2 hq eE).2.1 bM eE
   ·rw[iC] at hq;cases hq;have h3:=fM qg U hp bM;exact qv b h3.1 h3.2.2 eE
  ·rcases mq hj with⟨tY,_,h2⟩|⟨rfl,rfl⟩
   ·rw[iC] at hp;cases hp;have h3:=fM tY h2 hq eE;exact qv b h3.1 h3.2.2 bM
   ·exact absurd rfl cC
 ·have:j=r\/j=r2:=by simpa using hj
  rcases this with rfl|rfl
  ·exact jo oK
  ·exact jo Hd
 ·intro i hi;simp at hi;rw[fb i (by omega)];exact bZ i (by omega)
 ·intro b hb hn;have mY:=hn r (by simp) v oM;have hnu:=hn r2 (by simp) u nM;refine⟨fL b (hO b hb) mY,cY b hb hnu,λi X p hi hX hp bM=>?_⟩;rcases mq hX with⟨_,_,U⟩|⟨rfl,rfl⟩
  ·have:=jo U;omega
  ·rw[iC] at hp;cases hp;exact qv b (hO b hb) mY (iR rfl bM)
end
end Go.Vx
end
section
namespace Go.Proofs.YtoggponeookhbaaGreatDoor
open Go.Dc
structure ai where
 aa:Int
 ba:Int
 bK:Bool
 da:Int
 deriving DecidableEq
structure bS where
 aQ:List Int
 ae:List ai
 deriving DecidableEq
structure aj where
 aa:Int
 b_:Int
 dq:Int
 deriving DecidableEq
structure aw where
 bC:Int
 bj:Int
 deriving DecidableEq
structure cp where
 ae:List aw
 bE:Int
 deriving DecidableEq
structure az where
 br:Int
 aa:Int
 deriving DecidableEq
structure aq where
 aa:Int
 bt:List Int
 deriving DecidableEq
structure aP where
 aA:List az
 au:List aq
 deriving DecidableEq
structure bo where
 aC:bS
 aV:List aj
 aL:cp
 aF:aP
 deriving DecidableEq
structure bR where
 bP:Int
 fArgs:List Int
 deriving DecidableEq
structure cF where
 db:Int
 dI:Int
 deriving DecidableEq
structure n6 where
 lG:List ByteArray
 zm:Int
 deriving DecidableEq
structure ax where
 eU:Int
 ed:bR
 dd:cF
 cN:Int
 b9:Int
 cV:Int
 deriving DecidableEq
structure fA where
 f_:List ax
 deriving DecidableEq
def F2:ai:=⟨1,0,false,0⟩
def ir (x y:cF):Bool:=(x.db==y.db)&&(x.dI==y.dI)
def kA (x y:ai):Bool:=(x.aa==y.aa)&&(x.ba==y.ba)&&(x.bK==y.bK)&&(x.da==y.da)
def mO (x y:aj):Bool:=(x.aa==y.aa)&&(x.b_==y.b_)&&(x.dq==y.dq)
def pJ (x y:aw):Bool:=(x.bC==y.bC)&&(x.bj==y.bj)
def pK (x y:az):Bool:=(x.br==y.br)&&(x.aa==y.aa)
end Go.Proofs.YtoggponeookhbaaGreatDoor
end
section
namespace Go.Proofs.YtoggponeookhbaaGreatDoor
open Go.RowKit Go.Dc Go.Vx
def ra (n:Nat) (v:Value):Array Value:=(ω n v).toArray
def Θ:dP:=[(2,⟨2,3,0,[],1,8,.int .i64 0⟩),
 (3,⟨2,3,0,[],1,8,.int .i64 0⟩),
 (4,⟨1,0,0,[],1,1,.bool false⟩),
 (5,⟨2,4,0,[],1,1,.int .u8 0⟩),
 (6,⟨2,4,0,[],1,1,.int .u8 0⟩),
 (7,⟨8,0,0,[(2,0),(3,1),(4,2),(6,3)],4,24,.agg #[.int .i64 0,.int .i64 0,.bool false,.int .u8 0]⟩),
 (8,⟨8,0,0,[(2,0),(3,1),(4,2),(6,3)],4,24,.agg #[.int .i64 0,.int .i64 0,.bool false,.int .u8 0]⟩),
 (9,⟨3,0,0,[],1,16,.string φ⟩),
 (10,⟨3,0,0,[],1,16,.string φ⟩),
 (11,⟨3,0,0,[],1,16,.string φ⟩),
 (12,⟨2,7,0,[],1,8,.int .u64 0⟩),
 (13,⟨8,0,0,[(9,0),(12,1)],2,24,.agg #[.string φ,.int .u64 0]⟩),
 (14,⟨8,0,0,[(9,0),(12,1)],2,24,.agg #[.string φ,.int .u64 0]⟩),
 (15,⟨4,0,351,[],1,8,.pointer none⟩),
 (16,⟨4,0,354,[],1,8,.pointer none⟩),
 (17,⟨4,0,361,[],1,8,.pointer none⟩),
 (18,⟨8,0,0,[(17,0)],1,8,.agg #[.pointer none]⟩),
 (19,⟨8,0,0,[(17,0)],1,8,.agg #[.pointer none]⟩),
 (20,⟨10,0,0,[],1,16,.nilIface⟩),
 (21,⟨2,2,0,[],1,4,.int .i32 0⟩),
 (22,⟨5,0,42,[],1,24,.slice none 0 0⟩),
 (23,⟨8,0,0,[(22,0)],1,24,.agg #[.slice none 0 0]⟩),
 (24,⟨8,0,0,[(22,0)],1,24,.agg #[.slice none 0 0]⟩),
 (25,⟨9,0,0,[],1,8,.nilFunc⟩),
 (27,⟨2,3,0,[],1,8,.int .i64 0⟩),
 (31,⟨5,0,3,[],1,24,.slice none 0 0⟩),
 (34,⟨2,7,0,[],1,8,.int .u64 0⟩),
 (35,⟨2,7,0,[],1,8,.int .u64 0⟩),
 (36,⟨6,4,35,[],4,32,.agg #[.int .u64 0,.int .u64 0,.int .u64 0,.int .u64 0]⟩),
 (37,⟨8,0,0,[(35,0),(36,1)],5,40,.agg (ra 5 (.int .u64 0))⟩),
 (38,⟨8,0,0,[(35,0),(36,1)],5,40,.agg (ra 5 (.int .u64 0))⟩),
 (39,⟨8,0,0,[(27,0),(35,1)],2,16,.agg #[.int .i64 0,.int .u64 0]⟩),
 (40,⟨8,0,0,[(27,0),(35,1)],2,16,.agg #[.int .i64 0,.int .u64 0]⟩),
 (41,⟨8,0,0,[(3,0),(38,1),(40,6),(3,8),(3,9),(3,10)],11,88,.agg #[.int .i64 0,.int .u64 0,.int .u64 0,.int .u64 0,.int .u64 0,.int .u64 0,.int .i64 0,.int .u64 0,.int .i64 0,.int .i64 0,.int .i64 0]⟩),
 (42,⟨8,0,0,[(3,0),(38,1),(40,6),(3,8),(3,9),(3,10)],11,88,.agg #[.int .i64 0,.int .u64 0,.int .u64 0,.int .u64 0,.int .u64 0,.int .u64 0,.int .i64 0,.int .u64 0,.int .i64 0,.int .i64 0,.int .i64 0]⟩),
 (47,⟨6,16,3,[],16,128,.agg (ra 16 (.int .i64 0))⟩),
 (48,⟨5,0,115,[],1,24,.slice none 0 0⟩),
 (49,⟨8,0,0,[(47,0),(48,16)],17,152,.agg #[.int .i64 0,.int .i64 0,.int .i64 0,.int .i64 0,.int .i64 0,.int .i64 0,.int .i64 0,.int .i64 0,.int .i64 0,.int .i64 0,.int .i64 0,.int .i64 0,.int .i64 0,.int .i64 0,.int .i64 0,.int .i64 0,.slice none 0 0]⟩),
 (50,⟨8,0,0,[(47,0),(48,16)],17,152,.agg #[.int .i64 0,.int .i64 0,.int .i64 0,.int .i64 0,.int .i64 0,.int .i64 0,.int .i64 0,.int .i64 0,.int .i64 0,.int .i64 0,.int .i64 0,.int .i64 0,.int .i64 0,.int .i64 0,.int .i64 0,.int .i64 0,.slice none 0 0]⟩),
 (51,⟨5,0,105,[],1,24,.slice none 0 0⟩),
 (52,⟨5,0,122,[],1,24,.slice none 0 0⟩),
 (53,⟨8,0,0,[(52,0),(35,1)],2,32,.agg #[.slice none 0 0,.int .u64 0]⟩),
 (54,⟨8,0,0,[(52,0),(35,1)],2,32,.agg #[.slice none 0 0,.int .u64 0]⟩),
 (55,⟨5,0,127,[],1,24,.slice none 0 0⟩),
 (56,⟨5,0,132,[],1,24,.slice none 0 0⟩),
 (57,⟨8,0,0,[(55,0),(56,1)],2,48,.agg #[.slice none 0 0,.slice none 0 0]⟩),
 (58,⟨8,0,0,[(55,0),(56,1)],2,48,.agg #[.slice none 0 0,.slice none 0 0]⟩),
 (59,⟨8,0,0,[(50,0),(51,17),(54,18),(58,20)],22,256,.agg #[.int .i64 0,.int .i64 0,.int .i64 0,.int .i64 0,.int .i64 0,.int .i64 0,.int .i64 0,.int .i64 0,.int .i64 0,.int .i64 0,.int .i64 0,.int .i64 0,.int .i64 0,.int .i64 0,.int .i64 0,.int .i64 0,.slice none 0 0,.slice none 0 0,.slice none 0 0,.int .u64 0,.slice none 0 0,.slice none 0 0]⟩),
 (60,⟨8,0,0,[(50,0),(51,17),(54,18),(58,20)],22,256,.agg #[.int .i64 0,.int .i64 0,.int .i64 0,.int .i64 0,.int .i64 0,.int .i64 0,.int .i64 0,.int .i64 0,.int .i64 0,.int .i64 0,.int .i64 0,.int .i64 0,.int .i64 0,.int .i64 0,.int .i64 0,.int .i64 0,.slice none 0 0,.slice none 0 0,.slice none 0 0,.int .u64 0,.slice none 0 0,.slice none 0 0]⟩),
 (64,⟨5,0,38,[],1,24,.slice none 0 0⟩),
 (73,⟨4,0,77,[],1,8,.pointer none⟩),
 (74,⟨6,64,4,[],64,64,.agg (ra 64 (.bool false))⟩),
 (75,⟨6,64,4,[],64,64,.agg (ra 64 (.bool false))⟩),
 (76,⟨8,0,0,[(24,0),(75,1)],65,88,.agg #[.slice none 0 0,.bool false,.bool false,.bool false,.bool false,.bool false,.bool false,.bool false,.bool false,.bool false,.bool false,.bool false,.bool false,.bool false,.bool false,.bool false,.bool false,.bool false,.bool false,.bool false,.bool false,.bool false,.bool false,.bool false,.bool false,.bool false,.bool false,.bool false,.bool false,.bool false,.bool false,.bool false,.bool false,.bool false,.bool false,.bool false,.bool false,.bool false,.bool false,.bool false,.bool false,.bool false,.bool false,.bool false,.bool false,.bool false,.bool false,.bool false,.bool false,.bool false,.bool false,.bool false,.bool false,.bool false,.bool false,.bool false,.bool false,.bool false,.bool false,.bool false,.bool false,.bool false,.bool false,.bool false,.bool false]⟩),
 (77,⟨8,0,0,[(24,0),(75,1)],65,88,.agg #[.slice none 0 0,.bool false,.bool false,.bool false,.bool false,.bool false,.bool false,.bool false,.bool false,.bool false,.bool false,.bool false,.bool false,.bool false,.bool false,.bool false,.bool false,.bool false,.bool false,.bool false,.bool false,.bool false,.bool false,.bool false,.bool false,.bool false,.bool false,.bool false,.bool false,.bool false,.bool false,.bool false,.bool false,.bool false,.bool false,.bool false,.bool false,.bool false,.bool false,.bool false,.bool false,.bool false,.bool false,.bool false,.bool false,.bool false,.bool false,.bool false,.bool false,.bool false,.bool false,.bool false,.bool false,.bool false,.bool false,.bool false,.bool false,.bool false,.bool false,.bool false,.bool false,.bool false,.bool false,.bool false,.bool false]⟩),
 (78,⟨9,0,0,[],1,8,.nilFunc⟩),
 (79,⟨9,0,0,[],1,8,.nilFunc⟩),
 (80,⟨9,0,0,[],1,8,.nilFunc⟩),
 (84,⟨9,0,0,[],1,8,.nilFunc⟩),
 (86,⟨5,0,31,[],1,24,.slice none 0 0⟩),
 (89,⟨5,0,60,[],1,24,.slice none 0 0⟩),
 (95,⟨9,0,0,[],1,8,.nilFunc⟩),
 (104,⟨8,0,0,[(35,0),(3,1),(35,2)],3,24,.agg #[.int .u64 0,.int .i64 0,.int .u64 0]⟩),
 (105,⟨8,0,0,[(35,0),(3,1),(35,2)],3,24,.agg #[.int .u64 0,.int .i64 0,.int .u64 0]⟩),
 (109,⟨7,3,3,[],1,8,.map none⟩),
 (110,⟨9,0,0,[],1,8,.nilFunc⟩),
 (114,⟨8,0,0,[(35,0),(35,1),(4,2),(35,3)],4,32,.agg #[.int .u64 0,.int .u64 0,.bool false,.int .u64 0]⟩),
 (115,⟨8,0,0,[(35,0),(35,1),(4,2),(35,3)],4,32,.agg #[.int .u64 0,.int .u64 0,.bool false,.int .u64 0]⟩),
 (120,⟨7,35,3,[],1,8,.map none⟩),
 (121,⟨8,0,0,[(35,0),(35,1)],2,16,.agg #[.int .u64 0,.int .u64 0]⟩),
 (122,⟨8,0,0,[(35,0),(35,1)],2,16,.agg #[.int .u64 0,.int .u64 0]⟩),
 (124,⟨9,0,0,[],1,8,.nilFunc⟩),
 (126,⟨8,0,0,[(35,0),(35,1)],2,16,.agg #[.int .u64 0,.int .u64 0]⟩),
 (127,⟨8,0,0,[(35,0),(35,1)],2,16,.agg #[.int .u64 0,.int .u64 0]⟩),
 (128,⟨9,0,0,[],1,8,.nilFunc⟩),
 (130,⟨5,0,35,[],1,24,.slice none 0 0⟩),
 (131,⟨8,0,0,[(35,0),(130,1)],2,32,.agg #[.int .u64 0,.slice none 0 0]⟩),
 (132,⟨8,0,0,[(35,0),(130,1)],2,32,.agg #[.int .u64 0,.slice none 0 0]⟩),
 (133,⟨9,0,0,[],1,8,.nilFunc⟩),
 (138,⟨4,0,140,[],1,8,.pointer none⟩),
 (139,⟨8,0,0,[(60,0),(36,22)],26,288,.agg #[.int .i64 0,.int .i64 0,.int .i64 0,.int .i64 0,.int .i64 0,.int .i64 0,.int .i64 0,.int .i64 0,.int .i64 0,.int .i64 0,.int .i64 0,.int .i64 0,.int .i64 0,.int .i64 0,.int .i64 0,.int .i64 0,.slice none 0 0,.slice none 0 0,.slice none 0 0,.int .u64 0,.slice none 0 0,.slice none 0 0,.int .u64 0,.int .u64 0,.int .u64 0,.int .u64 0]⟩),
 (140,⟨8,0,0,[(60,0),(36,22)],26,288,.agg #[.int .i64 0,.int .i64 0,.int .i64 0,.int .i64 0,.int .i64 0,.int .i64 0,.int .i64 0,.int .i64 0,.int .i64 0,.int .i64 0,.int .i64 0,.int .i64 0,.int .i64 0,.int .i64 0,.int .i64 0,.int .i64 0,.slice none 0 0,.slice none 0 0,.slice none 0 0,.int .u64 0,.slice none 0 0,.slice none 0 0,.int .u64 0,.int .u64 0,.int .u64 0,.int .u64 0]⟩),
 (141,⟨9,0,0,[],1,8,.nilFunc⟩),
 (142,⟨6,15,141,[],15,120,.agg #[.nilFunc,.nilFunc,.nilFunc,.nilFunc,.nilFunc,.nilFunc,.nilFunc,.nilFunc,.nilFunc,.nilFunc,.nilFunc,.nilFunc,.nilFunc,.nilFunc,.nilFunc]⟩),
 (154,⟨9,0,0,[],1,8,.nilFunc⟩),
 (158,⟨4,0,160,[],1,8,.pointer none⟩),
 (159,⟨8,0,0,[(50,0)],17,152,.agg #[.int .i64 0,.int .i64 0,.int .i64 0,.int .i64 0,.int .i64 0,.int .i64 0,.int .i64 0,.int .i64 0,.int .i64 0,.int .i64 0,.int .i64 0,.int .i64 0,.int .i64 0,.int .i64 0,.int .i64 0,.int .i64 0,.slice none 0 0]⟩),
 (160,⟨8,0,0,[(50,0)],17,152,.agg #[.int .i64 0,.int .i64 0,.int .i64 0,.int .i64 0,.int .i64 0,.int .i64 0,.int .i64 0,.int .i64 0,.int .i64 0,.int .i64 0,.int .i64 0,.int .i64 0,.int .i64 0,.int .i64 0,.int .i64 0,.int .i64 0,.slice none 0 0]⟩),
 (161,⟨4,0,115,[],1,8,.pointer none⟩),
 (163,⟨9,0,0,[],1,8,.nilFunc⟩),
 (165,⟨9,0,0,[],1,8,.nilFunc⟩),
 (166,⟨9,0,0,[],1,8,.nilFunc⟩),
 (169,⟨9,0,0,[],1,8,.nilFunc⟩),
 (171,⟨7,35,35,[],1,8,.map none⟩),
 (180,⟨2,3,0,[],1,8,.int .i64 0⟩),
 (187,⟨2,6,0,[],1,4,.int .u32 0⟩),
 (189,⟨9,0,0,[],1,8,.nilFunc⟩),
 (192,⟨5,0,9,[],1,24,.slice none 0 0⟩),
 (193,⟨5,0,9,[],1,24,.slice none 0 0⟩),
 (194,⟨8,0,0,[(193,0),(35,1)],2,32,.agg #[.slice none 0 0,.int .u64 0]⟩),
 (195,⟨8,0,0,[(193,0),(35,1)],2,32,.agg #[.slice none 0 0,.int .u64 0]⟩),
 (236,⟨2,7,0,[],1,8,.int .u64 0⟩),
 (239,⟨4,0,3,[],1,8,.pointer none⟩),
 (241,⟨9,0,0,[],1,8,.nilFunc⟩),
 (242,⟨9,0,0,[],1,8,.nilFunc⟩),
 (244,⟨9,0,0,[],1,8,.nilFunc⟩),
 (247,⟨5,0,5,[],1,24,.slice none 0 0⟩),
 (251,⟨9,0,0,[],1,8,.nilFunc⟩),
 (253,⟨9,0,0,[],1,8,.nilFunc⟩),
 (254,⟨9,0,0,[],1,8,.nilFunc⟩),
 (255,⟨9,0,0,[],1,8,.nilFunc⟩),
 (258,⟨4,0,262,[],1,8,.pointer none⟩),
 (261,⟨8,0,0,[(58,0)],2,48,.agg #[.slice none 0 0,.slice none 0 0]⟩),
 (262,⟨8,0,0,[(58,0)],2,48,.agg #[.slice none 0 0,.slice none 0 0]⟩),
 (267,⟨6,8,4,[],8,8,.agg (ra 8 (.bool false))⟩),
 (268,⟨9,0,0,[],1,8,.nilFunc⟩),
 (269,⟨9,0,0,[],1,8,.nilFunc⟩),
 (272,⟨5,0,4,[],1,24,.slice none 0 0⟩),
 (276,⟨9,0,0,[],1,8,.nilFunc⟩),
 (277,⟨9,0,0,[],1,8,.nilFunc⟩),
 (280,⟨9,0,0,[],1,8,.nilFunc⟩),
 (284,⟨9,0,0,[],1,8,.nilFunc⟩),
 (295,⟨4,0,236,[],1,8,.pointer none⟩),
 (303,⟨6,8,5,[],8,8,.agg (ra 8 (.int .u8 0))⟩),
 (311,⟨9,0,0,[],1,8,.nilFunc⟩),
 (319,⟨4,0,321,[],1,8,.pointer none⟩),
 (320,⟨8,0,0,[(319,0),(247,1)],2,32,.agg #[.pointer none,.slice none 0 0]⟩),
 (321,⟨8,0,0,[(319,0),(247,1)],2,32,.agg #[.pointer none,.slice none 0 0]⟩),
 (323,⟨10,0,0,[],1,16,.nilIface⟩),
 (324,⟨10,0,0,[],1,16,.nilIface⟩),
 (330,⟨9,0,0,[],1,8,.nilFunc⟩),
 (336,⟨4,0,5,[],1,8,.pointer none⟩),
 (339,⟨9,0,0,[],1,8,.nilFunc⟩),
 (345,⟨0,0,0,[],1,8,.pointer none⟩),
 (350,⟨8,0,0,[(17,0),(17,1),(17,2),(9,3)],4,40,.agg #[.pointer none,.pointer none,.pointer none,.string φ]⟩),
 (351,⟨8,0,0,[(17,0),(17,1),(17,2),(9,3)],4,40,.agg #[.pointer none,.pointer none,.pointer none,.string φ]⟩),
 (352,⟨6,0,16,[],0,0,.agg #[]⟩),
 (353,⟨8,0,0,[(352,0)],0,0,.agg #[]⟩),
 (354,⟨8,0,0,[(352,0)],0,0,.agg #[]⟩),
 (355,⟨2,4,0,[],1,1,.int .u8 0⟩),
 (356,⟨2,4,0,[],1,1,.int .u8 0⟩),
 (357,⟨9,0,0,[],1,8,.nilFunc⟩),
 (358,⟨2,2,0,[],1,4,.int .i32 0⟩),
 (359,⟨2,2,0,[],1,4,.int .i32 0⟩),
 (360,⟨8,0,0,[(12,0),(12,1),(187,2),(355,3),(5,4),(5,5),(356,6),(357,7),(336,8),(358,9),(359,10)],11,48,.agg #[.int .u64 0,.int .u64 0,.int .u32 0,.int .u8 0,.int .u8 0,.int .u8 0,.int .u8 0,.nilFunc,.pointer none,.int .i32 0,.int .i32 0]⟩),
 (361,⟨8,0,0,[(12,0),(12,1),(187,2),(355,3),(5,4),(5,5),(356,6),(357,7),(336,8),(358,9),(359,10)],11,48,.agg #[.int .u64 0,.int .u64 0,.int .u32 0,.int .u8 0,.int .u8 0,.int .u8 0,.int .u8 0,.nilFunc,.pointer none,.int .i32 0,.int .i32 0]⟩)]
theorem ak:Θ.ok γ:=by repeat' (first|exact trivial|refine⟨⟨by kernel_rfl,by kernel_rfl⟩,?_⟩)
theorem mixed:γ.follows .mixedOrders=true:=by kernel_rfl
def lY:Ty ai:=(Ty.pair (Ty.int .u64) (Ty.pair (Ty.int .u64) (Ty.pair Ty.bool (Ty.int .u64)))).jM λd=>(d.aa,d.ba,d.bK,d.da)
def IN:Ty bS:=(Ty.pair (pz .i64 16) (Ty.slice lY)).jM λd=>(d.aQ,d.ae)
def nX:Ty aj:=(Ty.pair (Ty.int .u64) (Ty.pair (Ty.int .i64) (Ty.int .u64))).jM λd=>(d.aa,d.b_,d.dq)
def sS:Ty aw:=(Ty.pair (Ty.int .u64) (Ty.int .u64)).jM λd=>(d.bC,d.bj)
def IL:Ty cp:=(Ty.pair (Ty.slice sS) (Ty.int .u64)).jM λd=>(d.ae,d.bE)
def gi:Ty az:=(Ty.pair (Ty.int .u64) (Ty.int .u64)).jM λd=>(d.br,d.aa)
def pa:Ty aq:=(Ty.pair (Ty.int .u64) (Ty.slice (Ty.int .u64))).jM λd=>(d.aa,d.bt)
def kL:Ty aP:=(Ty.pair (Ty.slice gi) (Ty.slice pa)).jM λd=>(d.aA,d.au)
def IQ:Ty bo:=(Ty.pair IN (Ty.pair (Ty.slice nX) (Ty.pair IL kL))).jM λd=>(d.aC,d.aV,d.aL,d.aF)
def sQ:Ty bR:=(Ty.pair (Ty.int .u64) (pz .u64 4)).jM λd=>(d.bP,d.fArgs)
def IP:Ty cF:=(Ty.pair (Ty.int .i64) (Ty.int .u64)).jM λd=>(d.db,d.dI)
def Sd:Ty n6:=(Ty.pair (Ty.slice Ty.str) (Ty.int .u64)).jM λd=>(d.lG,d.zm)
def sR:Ty ax:=(Ty.pair (Ty.int .i64) (Ty.pair sQ (Ty.pair IP (Ty.pair (Ty.int .i64) (Ty.pair (Ty.int .i64) (Ty.int .i64)))))).jM λd=>(d.eU,d.ed,d.dd,d.cN,d.b9,d.cV)
def Sc:Ty fA:=(Ty.single (Ty.slice sR)).jM λd=>d.f_
def Qo:Ty Unit:= { agg:=false,n:=1,rep:=λ_ _ _ _=>False,tr:=λ_ h=>h,len:=λh=>h.elim,one:=λh=>h.elim,jS:=λ_=>rfl }
def BF (t:Nat):(α:Type)×Ty α:=match t with
 |3=>⟨Int,(Ty.int .i64)⟩
 |4=>⟨Bool,Ty.bool⟩
 |5=>⟨Int,(Ty.int .u8)⟩
 |9=>⟨ByteArray,Ty.str⟩
 |21=>⟨Int,(Ty.int .i32)⟩
 |22=>⟨List ax,(Ty.slice sR)⟩
 |24=>⟨fA,Sc⟩
 |27=>⟨Int,(Ty.int .i64)⟩
 |31=>⟨List Int,(Ty.slice (Ty.int .i64))⟩
 |35=>⟨Int,(Ty.int .u64)⟩
 |36=>⟨List Int,(pz .u64 4)⟩
 |38=>⟨bR,sQ⟩
 |40=>⟨cF,IP⟩
 |42=>⟨ax,sR⟩
 |47=>⟨List Int,(pz .i64 16)⟩
 |48=>⟨List ai,(Ty.slice lY)⟩
 |50=>⟨bS,IN⟩
 |51=>⟨List aj,(Ty.slice nX)⟩
 |52=>⟨List aw,(Ty.slice sS)⟩
 |54=>⟨cp,IL⟩
 |55=>⟨List az,(Ty.slice gi)⟩
 |56=>⟨List aq,(Ty.slice pa)⟩
 |58=>⟨aP,kL⟩
 |60=>⟨bo,IQ⟩
 |64=>⟨List bR,(Ty.slice sQ)⟩
 |89=>⟨List bo,(Ty.slice IQ)⟩
 |105=>⟨aj,nX⟩
 |115=>⟨ai,lY⟩
 |122=>⟨aw,sS⟩
 |127=>⟨az,gi⟩
 |130=>⟨List Int,(Ty.slice (Ty.int .u64))⟩
 |132=>⟨aq,pa⟩
 |192=>⟨List ByteArray,(Ty.slice Ty.str)⟩
 |193=>⟨List ByteArray,(Ty.slice Ty.str)⟩
 |195=>⟨n6,Sd⟩
 |_=>⟨Unit,Qo⟩
abbrev SS:bL:=⟨λt=>(BF t).1,λt=>(BF t).2⟩
def RW (t:Nat):Option (DS SS t):=match t with
 |22=>some ⟨42,id,id⟩
 |31=>some ⟨3,id,id⟩
 |48=>some ⟨115,id,id⟩
 |51=>some ⟨105,id,id⟩
 |52=>some ⟨122,id,id⟩
 |55=>some ⟨127,id,id⟩
 |56=>some ⟨132,id,id⟩
 |64=>some ⟨38,id,id⟩
 |89=>some ⟨60,id,id⟩
 |130=>some ⟨35,id,id⟩
 |192=>some ⟨9,id,id⟩
 |193=>some ⟨9,id,id⟩
 |_=>none
def RE (e:Nat):Option (Dn SS e):=match e with
 |42=>some ⟨22,id⟩
 |3=>some ⟨31,id⟩
 |115=>some ⟨48,id⟩
 |105=>some ⟨51,id⟩
 |122=>some ⟨52,id⟩
 |127=>some ⟨55,id⟩
 |132=>some ⟨56,id⟩
 |38=>some ⟨64,id⟩
 |60=>some ⟨89,id⟩
 |35=>some ⟨130,id⟩
 |9=>some ⟨192,id⟩
 |_=>none
def aaG:(t:Nat)->SS.El t->aD SS:=λt=>match t with
 |3=>λx=> .one (.v (.int .i64 x))
 |4=>λx=> .one (.v (.bool x))
 |5=>λx=> .one (.v (.int .u8 x))
 |9=>λx=> .one (.v (.string x))
 |21=>λx=> .one (.v (.int .i32 x))
 |22=>λx=> .one (.aU 22 x)
 |24=>λx=> .agg [.aU 22 x.f_]
 |27=>λx=> .one (.v (.int .i64 x))
 |31=>λx=> .one (.aU 31 x)
 |35=>λx=> .one (.v (.int .u64 x))
 |36=>λx=> .agg [.cd .u64 4 x]
 |38=>λx=> .agg [.v (.int .u64 x.bP),.cd .u64 4 x.fArgs]
 |40=>λx=> .agg [.v (.int .i64 x.db),.v (.int .u64 x.dI)]
 |42=>λx=> .agg [.v (.int .i64 x.eU),.v (.int .u64 x.ed.bP),.cd .u64 4 x.ed.fArgs,.v (.int .i64 x.dd.db),.v (.int .u64 x.dd.dI),.v (.int .i64 x.cN),.v (.int .i64 x.b9),.v (.int .i64 x.cV)]
 |47=>λx=> .agg [.cd .i64 16 x]
 |48=>λx=> .one (.aU 48 x)
 |50=>λx=> .agg [.cd .i64 16 x.aQ,.aU 48 x.ae]
 |51=>λx=> .one (.aU 51 x)
 |52=>λx=> .one (.aU 52 x)
 |54=>λx=> .agg [.aU 52 x.ae,.v (.int .u64 x.bE)]
 |55=>λx=> .one (.aU 55 x)
 |56=>λx=> .one (.aU 56 x)
 |58=>λx=> .agg [.aU 55 x.aA,.aU 56 x.au]
 |60=>λx=> .agg [.cd .i64 16 x.aC.aQ,.aU 48 x.aC.ae,.aU 51 x.aV,.aU 52 x.aL.ae,.v (.int .u64 x.aL.bE),.aU 55 x.aF.aA,.aU 56 x.aF.au]
 |64=>λx=> .one (.aU 64 x)
 |89=>λx=> .one (.aU 89 x)
 |105=>λx=> .agg [.v (.int .u64 x.aa),.v (.int .i64 x.b_),.v (.int .u64 x.dq)]
 |115=>λx=> .agg [.v (.int .u64 x.aa),.v (.int .u64 x.ba),.v (.bool x.bK),.v (.int .u64 x.da)]
 |122=>λx=> .agg [.v (.int .u64 x.bC),.v (.int .u64 x.bj)]
 |127=>λx=> .agg [.v (.int .u64 x.br),.v (.int .u64 x.aa)]
 |130=>λx=> .one (.aU 130 x)
 |132=>λx=> .agg [.v (.int .u64 x.aa),.aU 130 x.bt]
 |192=>λx=> .one (.aU 192 x)
 |193=>λx=> .one (.aU 192 x)
 |195=>λx=> .agg [.aU 192 x.lG,.v (.int .u64 x.zm)]
 |t=>λx=> .one (.aU t x)
theorem apj:fY (S:=SS) lY λx=>[.v (.int .u64 x.aa),.v (.int .u64 x.ba),.v (.bool x.bK),.v (.int .u64 x.da)]:=lT (hU gz (hU gz (hU aaE gz)))
def Ip:List (LV SS)->Option (ai×List (LV SS)):=kJ (rdPair (fV .u64) (rdPair (fV .u64) (rdPair Ik (fV .u64)))) (λ(a0,a1,a2,a3)=>⟨a0,a1,a2,a3⟩)
theorem Rt:fQ (S:=SS) lY Ip:=lU (ia gA (ia gA (ia abq gA))) λ_=>rfl
theorem aaC:fY (S:=SS) IN λx=>[.cd .i64 16 x.aQ,.aU 48 x.ae]:=lT (hU HY (iZ (S:=SS) (t:=48) rfl))
def Rl:List (LV SS)->Option (bS×List (LV SS)):=kJ (rdPair (sI .i64 16) (h_ (S:=SS) 48 (some ([]:List ai)))) (λ(a0,a1)=>⟨a0,a1⟩)
theorem abp:fQ (S:=SS) IN Rl:=lU (ia xC (ja (S:=SS) (t:=48) λx hx O w=>by cases hx;exact iX O w)) λ_=>rfl
theorem ape:fY (S:=SS) nX λx=>[.v (.int .u64 x.aa),.v (.int .i64 x.b_),.v (.int .u64 x.dq)]:=lT (hU gz (hU gz gz))
def Il:List (LV SS)->Option (aj×List (LV SS)):=kJ (rdPair (fV .u64) (rdPair (fV .i64) (fV .u64))) (λ(a0,a1,a2)=>⟨a0,a1,a2⟩)
theorem Ro:fQ (S:=SS) nX Il:=lU (ia gA (ia gA gA)) λ_=>rfl
theorem apg:fY (S:=SS) sS λx=>[.v (.int .u64 x.bC),.v (.int .u64 x.bj)]:=lT (hU gz gz)
def Im:List (LV SS)->Option (aw×List (LV SS)):=kJ (rdPair (fV .u64) (fV .u64)) (λ(a0,a1)=>⟨a0,a1⟩)
theorem Rp:fQ (S:=SS) sS Im:=lU (ia gA gA) λ_=>rfl
theorem aaB:fY (S:=SS) IL λx=>[.aU 52 x.ae,.v (.int .u64 x.bE)]:=lT (hU (iZ (S:=SS) (t:=52) rfl) gz)
def Rk:List (LV SS)->Option (cp×List (LV SS)):=kJ (rdPair (h_ (S:=SS) 52 (some ([]:List aw))) (fV .u64)) (λ(a0,a1)=>⟨a0,a1⟩)
theorem abo:fQ (S:=SS) IL Rk:=lU (ia (ja (S:=SS) (t:=52) λx hx O w=>by cases hx;exact iX O w) gA) λ_=>rfl
theorem aph:fY (S:=SS) gi λx=>[.v (.int .u64 x.br),.v (.int .u64 x.aa)]:=lT (hU gz gz)
def Io:List (LV SS)->Option (az×List (LV SS)):=kJ (rdPair (fV .u64) (fV .u64)) (λ(a0,a1)=>⟨a0,a1⟩)
theorem Rq:fQ (S:=SS) gi Io:=lU (ia gA gA) λ_=>rfl
theorem apc:fY (S:=SS) pa λx=>[.v (.int .u64 x.aa),.aU 130 x.bt]:=lT (hU gz (iZ (S:=SS) (t:=130) rfl))
def abh:List (LV SS)->Option (aq×List (LV SS)):=kJ (rdPair (fV .u64) (h_ (S:=SS) 130 (some ([]:List Int)))) (λ(a0,a1)=>⟨a0,a1⟩)
theorem aq_:fQ (S:=SS) pa abh:=lU (ia gA (ja (S:=SS) (t:=130) λx hx O w=>by cases hx;exact iX O w)) λ_=>rfl
theorem aaA:fY (S:=SS) kL λx=>[.aU 55 x.aA,.aU 56 x.au]:=lT (hU (iZ (S:=SS) (t:=55) rfl) (iZ (S:=SS) (t:=56) rfl))
def Rj:List (LV SS)->Option (aP×List (LV SS)):=kJ (rdPair (h_ (S:=SS) 55 (some ([]:List az))) (h_ (S:=SS) 56 (some ([]:List aq)))) (λ(a0,a1)=>⟨a0,a1⟩)
theorem abn:fQ (S:=SS) kL Rj:=lU (ia (ja (S:=SS) (t:=55) λx hx O w=>by cases hx;exact iX O w) (ja (S:=SS) (t:=56) λx hx O w=>by cases hx;exact iX O w)) λ_=>rfl
theorem apk:fY (S:=SS) IQ λx=>[.cd .i64 16 x.aC.aQ,.aU 48 x.aC.ae,.aU 51 x.aV,.aU 52 x.aL.ae,.v (.int .u64 x.aL.bE),.aU 55 x.aF.aA,.aU 56 x.aF.au]:=lT (hU aaC (hU (iZ (S:=SS) (t:=51) rfl) (hU aaB aaA)))
def abl:List (LV SS)->Option (bo×List (LV SS)):=kJ (rdPair Rl (rdPair (h_ (S:=SS) 51 (some ([]:List aj))) (rdPair Rk Rj))) (λ(a0,a1,a2,a3)=>⟨a0,a1,a2,a3⟩)
theorem arc:fQ (S:=SS) IQ abl:=lU (ia abp (ia (ja (S:=SS) (t:=51) λx hx O w=>by cases hx;exact iX O w) (ia abo abn))) λ_=>rfl
theorem aaz:fY (S:=SS) sQ λx=>[.v (.int .u64 x.bP),.cd .u64 4 x.fArgs]:=lT (hU gz HY)
def Ri:List (LV SS)->Option (bR×List (LV SS)):=kJ (rdPair (fV .u64) (sI .u64 4)) (λ(a0,a1)=>⟨a0,a1⟩)
theorem abm:fQ (S:=SS) sQ Ri:=lU (ia gA xC) λ_=>rfl
theorem aaD:fY (S:=SS) IP λx=>[.v (.int .i64 x.db),.v (.int .u64 x.dI)]:=lT (hU gz gz)
def Bp:List (LV SS)->Option (cF×List (LV SS)):=kJ (rdPair (fV .i64) (fV .u64)) (λ(a0,a1)=>⟨a0,a1⟩)
theorem Iq:fQ (S:=SS) IP Bp:=lU (ia gA gA) λ_=>rfl
theorem api:fY (S:=SS) Sd λx=>[.aU 192 x.lG,.v (.int .u64 x.zm)]:=lT (hU (iZ (S:=SS) (t:=192) rfl) gz)
def abk:List (LV SS)->Option (n6×List (LV SS)):=kJ (rdPair (h_ (S:=SS) 192 (some ([]:List ByteArray))) (fV .u64)) (λ(a0,a1)=>⟨a0,a1⟩)
theorem arb:fQ (S:=SS) Sd abk:=lU (ia (ja (S:=SS) (t:=192) λx hx O w=>by cases hx;exact iX O w) gA) λ_=>rfl
theorem apf:fY (S:=SS) sR λx=>[.v (.int .i64 x.eU),.v (.int .u64 x.ed.bP),.cd .u64 4 x.ed.fArgs,.v (.int .i64 x.dd.db),.v (.int .u64 x.dd.dI),.v (.int .i64 x.cN),.v (.int .i64 x.b9),.v (.int .i64 x.cV)]:=lT (hU gz (hU aaz (hU aaD (hU gz (hU gz gz)))))
def abj:List (LV SS)->Option (ax×List (LV SS)):=kJ (rdPair (fV .i64) (rdPair Ri (rdPair Bp (rdPair (fV .i64) (rdPair (fV .i64) (fV .i64)))))) (λ(a0,a1,a2,a3,a4,a5)=>⟨a0,a1,a2,a3,a4,a5⟩)
theorem ara:fQ (S:=SS) sR abj:=lU (ia gA (ia abm (ia Iq (ia gA (ia gA gA))))) λ_=>rfl
theorem apd:fY (S:=SS) Sc λx=>[.aU 22 x.f_]:=lT (apr (iZ (S:=SS) (t:=22) rfl))
def abi:List (LV SS)->Option (fA×List (LV SS)):=kJ (h_ (S:=SS) 22 (some ([]:List ax))) (λa=>⟨a⟩)
theorem aq':fQ (S:=SS) Sc abi:=lU (ard (ja (S:=SS) (t:=22) λx hx O w=>by cases hx;exact iX O w)) λ_=>rfl
def Mk:(t:Nat)->List (LV SS)->Option (SS.El t):=λt=>match t with
 |3=>λr=>dh ((fV .i64) r)
 |4=>λr=>dh (Ik r)
 |5=>λr=>dh ((fV .u8) r)
 |9=>λr=>dh (Rn r)
 |21=>λr=>dh ((fV .i32) r)
 |22=>λr=>dh ((h_ (S:=SS) 22 (some ([]:List ax))) r)
 |24=>λr=>dh (abi r)
 |27=>λr=>dh ((fV .i64) r)
 |31=>λr=>dh ((h_ (S:=SS) 31 (some ([]:List Int))) r)
 |35=>λr=>dh ((fV .u64) r)
 |36=>λr=>dh ((sI .u64 4) r)
 |38=>λr=>dh (Ri r)
 |40=>λr=>dh (Bp r)
 |42=>λr=>dh (abj r)
 |47=>λr=>dh ((sI .i64 16) r)
 |48=>λr=>dh ((h_ (S:=SS) 48 (some ([]:List ai))) r)
 |50=>λr=>dh (Rl r)
 |51=>λr=>dh ((h_ (S:=SS) 51 (some ([]:List aj))) r)
 |52=>λr=>dh ((h_ (S:=SS) 52 (some ([]:List aw))) r)
 |54=>λr=>dh (Rk r)
 |55=>λr=>dh ((h_ (S:=SS) 55 (some ([]:List az))) r)
 |56=>λr=>dh ((h_ (S:=SS) 56 (some ([]:List aq))) r)
 |58=>λr=>dh (Rj r)
 |60=>λr=>dh (abl r)
 |64=>λr=>dh ((h_ (S:=SS) 64 (some ([]:List bR))) r)
 |89=>λr=>dh ((h_ (S:=SS) 89 (some ([]:List bo))) r)
 |105=>λr=>dh (Il r)
 |115=>λr=>dh (Ip r)
 |122=>λr=>dh (Im r)
 |127=>λr=>dh (Io r)
 |130=>λr=>dh ((h_ (S:=SS) 130 (some ([]:List Int))) r)
 |132=>λr=>dh (abh r)
 |192=>λr=>dh ((h_ (S:=SS) 192 (some ([]:List ByteArray))) r)
 |193=>λr=>dh ((h_ (S:=SS) 192 (some ([]:List ByteArray))) r)
 |195=>λr=>dh (abk r)
 |t=>λr=>none
theorem V_ (d:Nat) (w:World) (x y:cF):(ξq (d+2) 40 (.agg #[.int .i64 x.db,.int .u64 x.dI]) (.agg #[.int .i64 y.db,.int .u64 y.dI])).run γ w= .ok (ir x y) w:=by
 have hS:γ.underlying 40=some (.struct (γ.fieldsOf 40)):=by kernel_rfl
 have hp:γ.stoodInHeld 40=false:=by kernel_rfl
 rw[show d+2=(d+1)+1 from rfl,run_equalIn_agg w _ 40 _ _ hS hp];simp only[ξ5,Tryz.underlying40];unfold ir
 go_simp
 by_cases h0:x.db=y.db<;>by_cases U:x.dI=y.dI<;>simp_all
theorem alK {ox oy:Operand} {w:World} (x y:cF):(do eqGuard .eql 40 ox oy (.agg #[.int .i64 x.db,.int .u64 x.dI]) (.agg #[.int .i64 y.db,.int .u64 y.dI]);binOp .eql 40 (.agg #[.int .i64 x.db,.int .u64 x.dI]) (.agg #[.int .i64 y.db,.int .u64 y.dI]):Sem Value).run γ w= .ok (.bool (ir x y)) w:=by
 simp only[θ];rw[run_eqGuard_agg w .eql 40 ox oy _ _ (by kernel_rfl)];simp only[η];rw[run_eql_struct,show(10000:Nat)=9998+2 from rfl,V_];rfl
theorem aoT {ox oy:Operand} {w:World} (x y:cF):(do eqGuard .neq 40 ox oy (.agg #[.int .i64 x.db,.int .u64 x.dI]) (.agg #[.int .i64 y.db,.int .u64 y.dI]);binOp .neq 40 (.agg #[.int .i64 x.db,.int .u64 x.dI]) (.agg #[.int .i64 y.db,.int .u64 y.dI]):Sem Value).run γ w= .ok (.bool (!ir x y)) w:=by
 simp only[θ];rw[run_eqGuard_agg w .neq 40 ox oy _ _ (by kernel_rfl)];simp only[η];rw[run_neq_struct,show(10000:Nat)=9998+2 from rfl,V_];rfl
theorem V7 (d:Nat) (w:World) (x y:ai):(ξq (d+2) 115 (.agg #[.int .u64 x.aa,.int .u64 x.ba,.bool x.bK,.int .u64 x.da]) (.agg #[.int .u64 y.aa,.int .u64 y.ba,.bool y.bK,.int .u64 y.da])).run γ w= .ok (kA x y) w:=by
 have hS:γ.underlying 115=some (.struct (γ.fieldsOf 115)):=by kernel_rfl
 have hp:γ.stoodInHeld 115=false:=by kernel_rfl
 rw[show d+2=(d+1)+1 from rfl,run_equalIn_agg w _ 115 _ _ hS hp];simp only[ξ5,Tryz.underlying115];unfold kA
 go_simp
 by_cases h0:x.aa=y.aa<;>by_cases U:x.ba=y.ba<;>by_cases h2:x.bK=y.bK<;>by_cases h3:x.da=y.da<;>simp_all
theorem alH {ox oy:Operand} {w:World} (x y:ai):(do eqGuard .eql 115 ox oy (.agg #[.int .u64 x.aa,.int .u64 x.ba,.bool x.bK,.int .u64 x.da]) (.agg #[.int .u64 y.aa,.int .u64 y.ba,.bool y.bK,.int .u64 y.da]);binOp .eql 115 (.agg #[.int .u64 x.aa,.int .u64 x.ba,.bool x.bK,.int .u64 x.da]) (.agg #[.int .u64 y.aa,.int .u64 y.ba,.bool y.bK,.int .u64 y.da]):Sem Value).run γ w= .ok (.bool (kA x y)) w:=by
 simp only[θ];rw[run_eqGuard_agg w .eql 115 ox oy _ _ (by kernel_rfl)];simp only[η];rw[run_eql_struct,show(10000:Nat)=9998+2 from rfl,V7];rfl
theorem aoQ {ox oy:Operand} {w:World} (x y:ai):(do eqGuard .neq 115 ox oy (.agg #[.int .u64 x.aa,.int .u64 x.ba,.bool x.bK,.int .u64 x.da]) (.agg #[.int .u64 y.aa,.int .u64 y.ba,.bool y.bK,.int .u64 y.da]);binOp .neq 115 (.agg #[.int .u64 x.aa,.int .u64 x.ba,.bool x.bK,.int .u64 x.da]) (.agg #[.int .u64 y.aa,.int .u64 y.ba,.bool y.bK,.int .u64 y.da]):Sem Value).run γ w= .ok (.bool (!kA x y)) w:=by
 simp only[θ];rw[run_eqGuard_agg w .neq 115 ox oy _ _ (by kernel_rfl)];simp only[η];rw[run_neq_struct,show(10000:Nat)=9998+2 from rfl,V7];rfl
theorem V6 (d:Nat) (w:World) (x y:aj):(ξq (d+2) 105 (.agg #[.int .u64 x.aa,.int .i64 x.b_,.int .u64 x.dq]) (.agg #[.int .u64 y.aa,.int .i64 y.b_,.int .u64 y.dq])).run γ w= .ok (mO x y) w:=by
 have hS:γ.underlying 105=some (.struct (γ.fieldsOf 105)):=by kernel_rfl
 have hp:γ.stoodInHeld 105=false:=by kernel_rfl
 rw[show d+2=(d+1)+1 from rfl,run_equalIn_agg w _ 105 _ _ hS hp];simp only[ξ5,Tryz.underlying105];unfold mO
 go_simp
 by_cases h0:x.aa=y.aa<;>by_cases U:x.b_=y.b_<;>by_cases h2:x.dq=y.dq<;>simp_all
theorem alG {ox oy:Operand} {w:World} (x y:aj):(do eqGuard .eql 105 ox oy (.agg #[.int .u64 x.aa,.int .i64 x.b_,.int .u64 x.dq]) (.agg #[.int .u64 y.aa,.int .i64 y.b_,.int .u64 y.dq]);binOp .eql 105 (.agg #[.int .u64 x.aa,.int .i64 x.b_,.int .u64 x.dq]) (.agg #[.int .u64 y.aa,.int .i64 y.b_,.int .u64 y.dq]):Sem Value).run γ w= .ok (.bool (mO x y)) w:=by
 simp only[θ];rw[run_eqGuard_agg w .eql 105 ox oy _ _ (by kernel_rfl)];simp only[η];rw[run_eql_struct,show(10000:Nat)=9998+2 from rfl,V6];rfl
theorem aoP {ox oy:Operand} {w:World} (x y:aj):(do eqGuard .neq 105 ox oy (.agg #[.int .u64 x.aa,.int .i64 x.b_,.int .u64 x.dq]) (.agg #[.int .u64 y.aa,.int .i64 y.b_,.int .u64 y.dq]);binOp .neq 105 (.agg #[.int .u64 x.aa,.int .i64 x.b_,.int .u64 x.dq]) (.agg #[.int .u64 y.aa,.int .i64 y.b_,.int .u64 y.dq]):Sem Value).run γ w= .ok (.bool (!mO x y)) w:=by
 simp only[θ];rw[run_eqGuard_agg w .neq 105 ox oy _ _ (by kernel_rfl)];simp only[η];rw[run_neq_struct,show(10000:Nat)=9998+2 from rfl,V6];rfl
theorem V8 (d:Nat) (w:World) (x y:aw):(ξq (d+2) 122 (.agg #[.int .u64 x.bC,.int .u64 x.bj]) (.agg #[.int .u64 y.bC,.int .u64 y.bj])).run γ w= .ok (pJ x y) w:=by
 have hS:γ.underlying 122=some (.struct (γ.fieldsOf 122)):=by kernel_rfl
 have hp:γ.stoodInHeld 122=false:=by kernel_rfl
 rw[show d+2=(d+1)+1 from rfl,run_equalIn_agg w _ 122 _ _ hS hp];simp only[ξ5,Tryz.underlying122];unfold pJ
 go_simp
 by_cases h0:x.bC=y.bC<;>by_cases U:x.bj=y.bj<;>simp_all
theorem alI {ox oy:Operand} {w:World} (x y:aw):(do eqGuard .eql 122 ox oy (.agg #[.int .u64 x.bC,.int .u64 x.bj]) (.agg #[.int .u64 y.bC,.int .u64 y.bj]);binOp .eql 122 (.agg #[.int .u64 x.bC,.int .u64 x.bj]) (.agg #[.int .u64 y.bC,.int .u64 y.bj]):Sem Value).run γ w= .ok (.bool (pJ x y)) w:=by
 simp only[θ];rw[run_eqGuard_agg w .eql 122 ox oy _ _ (by kernel_rfl)];simp only[η];rw[run_eql_struct,show(10000:Nat)=9998+2 from rfl,V8];rfl
theorem aoR {ox oy:Operand} {w:World} (x y:aw):(do eqGuard .neq 122 ox oy (.agg #[.int .u64 x.bC,.int .u64 x.bj]) (.agg #[.int .u64 y.bC,.int .u64 y.bj]);binOp .neq 122 (.agg #[.int .u64 x.bC,.int .u64 x.bj]) (.agg #[.int .u64 y.bC,.int .u64 y.bj]):Sem Value).run γ w= .ok (.bool (!pJ x y)) w:=by
 simp only[θ];rw[run_eqGuard_agg w .neq 122 ox oy _ _ (by kernel_rfl)];simp only[η];rw[run_neq_struct,show(10000:Nat)=9998+2 from rfl,V8];rfl
theorem V9 (d:Nat) (w:World) (x y:az):(ξq (d+2) 127 (.agg #[.int .u64 x.br,.int .u64 x.aa]) (.agg #[.int .u64 y.br,.int .u64 y.aa])).run γ w= .ok (pK x y) w:=by
 have hS:γ.underlying 127=some (.struct (γ.fieldsOf 127)):=by kernel_rfl
 have hp:γ.stoodInHeld 127=false:=by kernel_rfl
 rw[show d+2=(d+1)+1 from rfl,run_equalIn_agg w _ 127 _ _ hS hp];simp only[ξ5,Tryz.underlying127];unfold pK
 go_simp
 by_cases h0:x.br=y.br<;>by_cases U:x.aa=y.aa<;>simp_all
theorem alJ {ox oy:Operand} {w:World} (x y:az):(do eqGuard .eql 127 ox oy (.agg #[.int .u64 x.br,.int .u64 x.aa]) (.agg #[.int .u64 y.br,.int .u64 y.aa]);binOp .eql 127 (.agg #[.int .u64 x.br,.int .u64 x.aa]) (.agg #[.int .u64 y.br,.int .u64 y.aa]):Sem Value).run γ w= .ok (.bool (pK x y)) w:=by
 simp only[θ];rw[run_eqGuard_agg w .eql 127 ox oy _ _ (by kernel_rfl)];simp only[η];rw[run_eql_struct,show(10000:Nat)=9998+2 from rfl,V9];rfl
theorem aoS {ox oy:Operand} {w:World} (x y:az):(do eqGuard .neq 127 ox oy (.agg #[.int .u64 x.br,.int .u64 x.aa]) (.agg #[.int .u64 y.br,.int .u64 y.aa]);binOp .neq 127 (.agg #[.int .u64 x.br,.int .u64 x.aa]) (.agg #[.int .u64 y.br,.int .u64 y.aa]):Sem Value).run γ w= .ok (.bool (!pK x y)) w:=by
 simp only[θ];rw[run_eqGuard_agg w .neq 127 ox oy _ _ (by kernel_rfl)];simp only[η];rw[run_neq_struct,show(10000:Nat)=9998+2 from rfl,V9];rfl
def MG (t:Nat) (ls ms:List (LV SS)):Option Bool:=match t with
 |40=>(match dh (Bp ls),dh (Bp ms) with|some x,some y=>some (ir x y)|_,_=>none)
 |115=>(match dh (Ip ls),dh (Ip ms) with|some x,some y=>some (kA x y)|_,_=>none)
 |47=>(match dh ((sI .i64 16) ls),dh ((sI .i64 16) ms) with|some x,some y=>some (x==y)|_,_=>none)
 |105=>(match dh (Il ls),dh (Il ms) with|some x,some y=>some (mO x y)|_,_=>none)
 |122=>(match dh (Im ls),dh (Im ms) with|some x,some y=>some (pJ x y)|_,_=>none)
 |127=>(match dh (Io ls),dh (Io ms) with|some x,some y=>some (pK x y)|_,_=>none)
 |_=>none
def Nj (g:Nat):Option ((t:Nat)×SS.El t):=match g with
 |0=>some ⟨115,F2⟩
 |_=>none
def KK:bG SS:=⟨Θ,RW,RE,aaG,Mk,Nj,MG⟩
theorem asd {t:Nat} (h:t∉([3,4,5,9,21,22,24,27,31,35,36,38,40,42,47,48,50,51,52,54,55,56,58,60,64,89,105,115,122,127,130,132,192,193,195]:List Nat)):BF t=⟨Unit,Qo⟩:=by
 unfold BF;split<;>first|rfl|(exfalso;exact h (by decide))
theorem aoY {t:Nat} (h:t∉([3,4,5,9,21,22,24,27,31,35,36,38,40,42,47,48,50,51,52,54,55,56,58,60,64,89,105,115,122,127,130,132,192,193,195]:List Nat)) {O:List Nat} {w:World} {cs:List Value} {x:SS.El t}: ¬(SS.ty t).rep O w cs x:=by
 have key: ∀(p:(α:Type)×Ty α) (_:p=⟨Unit,Qo⟩) (x:p.1),¬p.2.rep O w cs x:=by
  rintro _ rfl x hx;exact hx
 exact key (BF t) (asd h) x
theorem Z5 {t:Nat} {p:Prop} (h:t∈([3,4,5,9,21,22,24,27,31,35,36,38,40,42,47,48,50,51,52,54,55,56,58,60,64,89,105,115,122,127,130,132,192,193,195]:List Nat)) (h3:t=3->p) (h4:t=4->p) (h5:t=5->p) (h9:t=9->p) (h21:t=21->p) (h22:t=22->p) (h24:t=24->p) (h27:t=27->p) (h31:t=31->p) (h35:t=35->p) (h36:t=36->p) (h38:t=38->p) (h40:t=40->p) (h42:t=42->p) (F7:t=47->p) (h48:t=48->p) (h50:t=50->p) (h51:t=51->p) (h52:t=52->p) (h54:t=54->p) (h55:t=55->p) (h56:t=56->p) (h58:t=58->p) (h60:t=60->p) (wA:t=64->p) (h89:t=89->p) (amD:t=105->p) (amE:t=115->p) (amF:t=122->p) (amG:t=127->p) (amI:t=130->p) (amJ:t=132->p) (amL:t=192->p) (amM:t=193->p) (amN:t=195->p):p:=by
 simp only[ξx,ξl,or_false] at h;rcases h with h|h|h|h|h|h|h|h|h|h|h|h|h|h|h|h|h|h|h|h|h|h|h|h|h|h|h|h|h|h|h|h|h|h|h
 ·exact h3 h
 ·exact h4 h
 ·exact h5 h
 ·exact h9 h
 ·exact h21 h
 ·exact h22 h
 ·exact h24 h
 ·exact h27 h
 ·exact h31 h
 ·exact h35 h
 ·exact h36 h
 ·exact h38 h
 ·exact h40 h
 ·exact h42 h
 ·exact F7 h
 ·exact h48 h
 ·exact h50 h
 ·exact h51 h
 ·exact h52 h
 ·exact h54 h
 ·exact h55 h
 ·exact h56 h
 ·exact h58 h
 ·exact h60 h
 ·exact wA h
 ·exact h89 h
 ·exact amD h
 ·exact amE h
 ·exact amF h
 ·exact amG h
 ·exact amI h
 ·exact amJ h
 ·exact amL h
 ·exact amM h
 ·exact amN h
theorem apC (A:Pl) (O:List Nat) (w:World) (t:Nat) (x:SS.El t) (cs:List Value) (h:(SS.ty t).rep O w cs x):bV A O w (aaG t x).cells cs:=by
 by_cases hm:t∈([3,4,5,9,21,22,24,27,31,35,36,38,40,42,47,48,50,51,52,54,55,56,58,60,64,89,105,115,122,127,130,132,192,193,195]:List Nat)
 ·refine Z5 hm ?_ ?_ ?_ ?_ ?_ ?_ ?_ ?_ ?_ ?_ ?_ ?_ ?_ ?_ ?_ ?_ ?_ ?_ ?_ ?_ ?_ ?_ ?_ ?_ ?_ ?_ ?_ ?_ ?_ ?_ ?_ ?_ ?_ ?_ ?_
  ·intro e;subst e;exact gz A O w x cs h
  ·intro e;subst e;exact aaE A O w x cs h
  ·intro e;subst e;exact gz A O w x cs h
  ·intro e;subst e;exact aps A O w x cs h
  ·intro e;subst e;exact gz A O w x cs h
  ·intro e;subst e;exact(iZ (S:=SS) (t:=22) rfl) A O w x cs h
  ·intro e;subst e;exact apd A O w x cs h
  ·intro e;subst e;exact gz A O w x cs h
  ·intro e;subst e;exact(iZ (S:=SS) (t:=31) rfl) A O w x cs h
  ·intro e;subst e;exact gz A O w x cs h
  ·intro e;subst e;exact HY A O w x cs h
  ·intro e;subst e;exact aaz A O w x cs h
  ·intro e;subst e;exact aaD A O w x cs h
  ·intro e;subst e;exact apf A O w x cs h
  ·intro e;subst e;exact HY A O w x cs h
  ·intro e;subst e;exact(iZ (S:=SS) (t:=48) rfl) A O w x cs h
  ·intro e;subst e;exact aaC A O w x cs h
  ·intro e;subst e;exact(iZ (S:=SS) (t:=51) rfl) A O w x cs h
  ·intro e;subst e;exact(iZ (S:=SS) (t:=52) rfl) A O w x cs h
  ·intro e;subst e;exact aaB A O w x cs h
  ·intro e;subst e;exact(iZ (S:=SS) (t:=55) rfl) A O w x cs h
  ·intro e;subst e;exact(iZ (S:=SS) (t:=56) rfl) A O w x cs h
  ·intro e;subst e;exact aaA A O w x cs h
  ·intro e;subst e;exact apk A O w x cs h
  ·intro e;subst e;exact(iZ (S:=SS) (t:=64) rfl) A O w x cs h
  ·intro e;subst e;exact(iZ (S:=SS) (t:=89) rfl) A O w x cs h
  ·intro e;subst e;exact ape A O w x cs h
  ·intro e;subst e;exact apj A O w x cs h
  ·intro e;subst e;exact apg A O w x cs h
  ·intro e;subst e;exact aph A O w x cs h
  ·intro e;subst e;exact(iZ (S:=SS) (t:=130) rfl) A O w x cs h
  ·intro e;subst e;exact apc A O w x cs h
  ·intro e;subst e;exact(iZ (S:=SS) (t:=192) rfl) A O w x cs h
  ·intro e;subst e;exact(iZ (S:=SS) (t:=192) rfl) A O w x cs h
  ·intro e;subst e;exact api A O w x cs h
 ·exact absurd h (aoY hm)
theorem ahJ (A:Pl) (O:List Nat) (w:World) (t:Nat) (ls:List (LV SS)) (x:SS.El t) (cs:List Value) (hc:Mk t ls=some x) (h:bV A O w ls cs):(SS.ty t).rep O w cs x:=by
 by_cases hm:t∈([3,4,5,9,21,22,24,27,31,35,36,38,40,42,47,48,50,51,52,54,55,56,58,60,64,89,105,115,122,127,130,132,192,193,195]:List Nat)
 ·refine Z5 hm ?_ ?_ ?_ ?_ ?_ ?_ ?_ ?_ ?_ ?_ ?_ ?_ ?_ ?_ ?_ ?_ ?_ ?_ ?_ ?_ ?_ ?_ ?_ ?_ ?_ ?_ ?_ ?_ ?_ ?_ ?_ ?_ ?_ ?_ ?_
  ·intro e;subst e;exact du (S:=SS) gA hc h
  ·intro e;subst e;exact du (S:=SS) abq hc h
  ·intro e;subst e;exact du (S:=SS) gA hc h
  ·intro e;subst e;exact du (S:=SS) are hc h
  ·intro e;subst e;exact du (S:=SS) gA hc h
  ·intro e;subst e;exact du (S:=SS) (ja (S:=SS) (t:=22) λx hx O w=>by cases hx;exact iX O w) hc h
  ·intro e;subst e;exact du (S:=SS) aq' hc h
  ·intro e;subst e;exact du (S:=SS) gA hc h
  ·intro e;subst e;exact du (S:=SS) (ja (S:=SS) (t:=31) λx hx O w=>by cases hx;exact iX O w) hc h
  ·intro e;subst e;exact du (S:=SS) gA hc h
  ·intro e;subst e;exact du (S:=SS) xC hc h
  ·intro e;subst e;exact du (S:=SS) abm hc h
  ·intro e;subst e;exact du (S:=SS) Iq hc h
  ·intro e;subst e;exact du (S:=SS) ara hc h
  ·intro e;subst e;exact du (S:=SS) xC hc h
  ·intro e;subst e;exact du (S:=SS) (ja (S:=SS) (t:=48) λx hx O w=>by cases hx;exact iX O w) hc h
  ·intro e;subst e;exact du (S:=SS) abp hc h
  ·intro e;subst e;exact du (S:=SS) (ja (S:=SS) (t:=51) λx hx O w=>by cases hx;exact iX O w) hc h
  ·intro e;subst e;exact du (S:=SS) (ja (S:=SS) (t:=52) λx hx O w=>by cases hx;exact iX O w) hc h
  ·intro e;subst e;exact du (S:=SS) abo hc h
  ·intro e;subst e;exact du (S:=SS) (ja (S:=SS) (t:=55) λx hx O w=>by cases hx;exact iX O w) hc h
  ·intro e;subst e;exact du (S:=SS) (ja (S:=SS) (t:=56) λx hx O w=>by cases hx;exact iX O w) hc h
  ·intro e;subst e;exact du (S:=SS) abn hc h
  ·intro e;subst e;exact du (S:=SS) arc hc h
  ·intro e;subst e;exact du (S:=SS) (ja (S:=SS) (t:=64) λx hx O w=>by cases hx;exact iX O w) hc h
  ·intro e;subst e;exact du (S:=SS) (ja (S:=SS) (t:=89) λx hx O w=>by cases hx;exact iX O w) hc h
  ·intro e;subst e;exact du (S:=SS) Ro hc h
  ·intro e;subst e;exact du (S:=SS) Rt hc h
  ·intro e;subst e;exact du (S:=SS) Rp hc h
  ·intro e;subst e;exact du (S:=SS) Rq hc h
  ·intro e;subst e;exact du (S:=SS) (ja (S:=SS) (t:=130) λx hx O w=>by cases hx;exact iX O w) hc h
  ·intro e;subst e;exact du (S:=SS) aq_ hc h
  ·intro e;subst e;exact du (S:=SS) (ja (S:=SS) (t:=192) λx hx O w=>by cases hx;exact iX O w) hc h
  ·intro e;subst e;exact du (S:=SS) (ja (S:=SS) (t:=192) λx hx O w=>by cases hx;exact iX O w) hc h
  ·intro e;subst e;exact du (S:=SS) arb hc h
 ·unfold Mk at hc;split at hc<;>first|cases hc|(exfalso;exact hm (by decide))
theorem ar_ (t:Nat) (I:DS SS t) (h:RW t=some I):(SS.ty t).agg=false/\(∀(O:List Nat) (w:World) (v:Value) (x:SS.El t),(SS.ty t).is O w v x->(SS.ty I.e).slice.is O w v (I.to x))/\ ∀(O:List Nat) (w:World) (v:Value) (xs:List (SS.El I.e)),(SS.ty I.e).slice.is O w v xs->(SS.ty t).is O w v (I.of xs):=by
 unfold RW at h;split at h<;>first|(cases h;exact⟨rfl,λ_ _ _ _ h=>h,λ_ _ _ _ h=>h⟩)|cases h
theorem arz (e:Nat) (I:Dn SS e) (h:RE e=some I):(SS.ty I.t).agg=false/\ ∀(O:List Nat) (w:World) (v:Value) (xs:List (SS.El e)),(SS.ty e).slice.is O w v xs->(SS.ty I.t).is O w v (I.of xs):=by
 unfold RE at h;split at h<;>first|(cases h;exact⟨rfl,λ_ _ _ _ h=>h⟩)|cases h
theorem alO (A:Pl) (O:List Nat) (w:World) (t:Nat) (ls ms:List (LV SS)) (b:Bool) (xs ys:List Value) (ox oy:Operand) (h:MG t ls ms=some b) (hx:bV A O w ls xs) (hy:bV A O w ms ys):
  (do eqGuard .eql t ox oy (.agg xs.toArray) (.agg ys.toArray);binOp .eql t (.agg xs.toArray) (.agg ys.toArray):Sem Value).run γ w= .ok (.bool b) w/\
  (do eqGuard .neq t ox oy (.agg xs.toArray) (.agg ys.toArray);binOp .neq t (.agg xs.toArray) (.agg ys.toArray):Sem Value).run γ w= .ok (.bool (!b)) w:=by
 unfold MG at h;split at h
 ·split at h
  ·rename_i x y U h2;cases h;have q1:=du (S:=SS) Iq U hx;have q2:=du (S:=SS) Iq h2 hy;obtain⟨_,_,rfl,rfl,rfl⟩:=q1;obtain⟨_,_,rfl,rfl,rfl⟩:=q2;exact⟨alK x y,aoT x y⟩
  ·cases h
 ·split at h
  ·rename_i x y U h2;cases h;have q1:=du (S:=SS) Rt U hx;have q2:=du (S:=SS) Rt h2 hy;obtain⟨_,_,rfl,rfl,⟨_,_,rfl,rfl,⟨_,_,rfl,rfl,rfl⟩⟩⟩:=q1;obtain⟨_,_,rfl,rfl,⟨_,_,rfl,rfl,⟨_,_,rfl,rfl,rfl⟩⟩⟩:=q2;exact⟨alH x y,aoQ x y⟩
  ·cases h
 ·split at h
  ·rename_i x y U h2;cases h;have q1:=du (S:=SS) xC U hx;have q2:=du (S:=SS) xC h2 hy;obtain⟨l1,rfl⟩:=q1;obtain⟨l2,rfl⟩:=q2;exact arO w 47 3 16 .i64 .i64 Tryz.underlying47 ξI (λw=>by go_simp) (by kernel_rfl) x y l1 l2 ox oy
  ·cases h
 ·split at h
  ·rename_i x y U h2;cases h;have q1:=du (S:=SS) Ro U hx;have q2:=du (S:=SS) Ro h2 hy;obtain⟨_,_,rfl,rfl,⟨_,_,rfl,rfl,rfl⟩⟩:=q1;obtain⟨_,_,rfl,rfl,⟨_,_,rfl,rfl,rfl⟩⟩:=q2;exact⟨alG x y,aoP x y⟩
  ·cases h
 ·split at h
  ·rename_i x y U h2;cases h;have q1:=du (S:=SS) Rp U hx;have q2:=du (S:=SS) Rp h2 hy;obtain⟨_,_,rfl,rfl,rfl⟩:=q1;obtain⟨_,_,rfl,rfl,rfl⟩:=q2;exact⟨alI x y,aoR x y⟩
  ·cases h
 ·split at h
  ·rename_i x y U h2;cases h;have q1:=du (S:=SS) Rq U hx;have q2:=du (S:=SS) Rq h2 hy;obtain⟨_,_,rfl,rfl,rfl⟩:=q1;obtain⟨_,_,rfl,rfl,rfl⟩:=q2;exact⟨alJ x y,aoS x y⟩
  ·cases h
 ·cases h
theorem eP:cI KK γ:=⟨ak,ar_,arz,apC,ahJ,alO⟩
theorem bn:Dk γ:=by
 have h:γ.funcs.toList.all (λfn=>fn.name != "runtime.NumGoroutine" ||fn.body.isNone)=true:=by kernel_rfl
 intro f fn hf hb;rw[List.all_eq_true] at h;have:=h fn (by rw[Array.mem_toList_iff];exact Array.mem_of_getElem? hf);cases XD:fn.body with
 |none=>rw[XD] at hb;cases hb
 |some c=>rw[XD] at this;simpa using this
def ZW:List (Nat×List Nat)->Nat->List Nat|[],_=>[]|(a,b)::r,k=>bif μ a k then b else ZW r k
def ZX:List (Nat×List (Nat×List Nat)×List (List Nat))->Nat->Nat->List Nat|[],_,_=>[]|(a,b,c)::r,f,k=>bif μ a f then(bif Nat.ble 1000000 k&&Nat.ble k 1000049 then c.getD (Nat.sub k 1000000) [] else ZW b k) else ZX r f k
def ar:Nat->Nat->List Nat:=ZX [(6,[(8,[1,5,6,7,23,24,25])],[[4],[1,5,6,7],[1,5,6,7,23,24,25]]),(7,[],[[0]]),(8,[],[[2]]),(9,[],[[2,3],[1]]),(12,[(11,[1,5,6,8,36,37,38]),(21,[1,5,13,73,74,75])],[[2,3],[1,5,8],[1,5,6,8,36,37,38],[13],[1,5,13,73,74,75]]),(14,[],[[2]]),(15,[(5,[0,1,12,13])],[[4],[],[0,1,12,13]]),(16,[],[[2,3]]),(17,[(7,[2,5,6,19,20,21]),(12,[2,5,6,8,19,20,21,40,41,42]),(23,[5,78,79,80])],[[4],[2,5],[2,5,6,19,20,21],[2,5,6,8,19,20,21],[2,5,6,8,19,20,21,40,41,42],[],[5,78,79,80]]),(18,[],[[0]]),(19,[],[[4,5,6]]),(20,[],[[4]]),(21,[],[[6]]),(22,[],[[6]]),(23,[(6,[1,3,19,20,21])],[[2],[],[1,3,19,20,21]]),(24,[(3,[0,9,10,11])],[[2],[],[0,9,10,11]]),(25,[(2000008,[2,3,4,5,7,14])],[[6],[7],[2,3,4,5,7]]),(26,[],[[2]]),(27,[],[[4,5],[3,4,6,7]]),(32,[(4,[1,3,7,8,9])],[[2],[1,3],[1,3,7,8,9]]),(33,[(4,[2,6,14,15,16])],[[4,5],[6],[2,6,14,15,16]]),(34,[(3,[1,2,4,7,15,16])],[[8,9],[],[1,2,4,7,15,16]]),(36,[],[[5]]),(37,[],[[4]]),(38,[],[[4]]),(39,[],[[0]]),(40,[],[[0]]),(41,[(6,[1,3,4,37,38,39]),(12,[1,3,4,52,53,54])],[[2],[1,3,4],[1,3,4,37,38,39],[1,3,4],[1,3,4,52,53,54]]),(42,[],[[4,5]]),(43,[(6,[1,2,31,32,33])],[[2],[1,2],[1,2,31,32,33]]),(44,[],[[4]]),(45,[(5,[0,1,12,13])],[[4],[],[0,1,12,13]]),(46,[],[[4]]),(47,[],[[4]]),(48,[],[[4]]),(49,[],[[2]]),(50,[],[[3]]),(51,[(2,[0,1,12,13,14]),(7,[0,1,3,4,5,12,13,14,29,30,31])],[[],[],[0,1,12,13,14],[0,1,3,5,12,13,14],[0,1,3,4,5,12,13,14,29,30,31]]),(52,[],[[2]]),(57,[],[[5]]),(58,[(3,[0,1,2,6,7,8]),(8,[0,1,2,6]),(10,[0,1,2,6,7,8])],[[],[0,1,2,6,7],[0,1,2,6,7,8],[],[0,1,2,6],[0,1,2,6,7],[0,1,2,6,7,8]]),(59,[],[[2]]),(60,[(2000011,[1,2,4,33])],[[2],[2],[1,2,4]]),(61,[(5,[0,8,9,10])],[[2],[],[0,8,9,10]]),(62,[(4,[1,3,7,8,9])],[[2],[1],[1,3,7,8,9]]),(63,[(5,[1,12,13,14]),(11,[1,47,48,49])],[[2],[1],[1,12,13,14],[],[1,47,48,49]]),(64,[(4,[1,5,8,9,10])],[[4],[5],[1,5,8,9,10]]),(65,[],[[4]]),(66,[(4,[1,5,8,9,10])],[[4],[5],[1,5,8,9,10]]),(67,[],[[3]]),(68,[(4,[1,5,8,9,10])],[[4],[5],[1,5,8,9,10]]),(69,[],[[3]]),(72,[],[[2]]),(73,[],[[4]]),(74,[],[[2]]),(75,[],[[0]]),(76,[],[[2]]),(77,[],[[2]]),(78,[],[[2]]),(79,[],[[2]]),(80,[],[[2]]),(81,[(5,[0,1,12,13])],[[4],[],[0,1,12,13]]),(82,[(5,[0,1,12,13])],[[4],[],[0,1,12,13]]),(83,[(5,[0,1,12,13])],[[4],[],[0,1,12,13]]),(84,[(5,[1,2,15,16,17])],[[6],[],[1,2,15,16,17]]),(85,[],[[4]]),(86,[(5,[0,1,12,13])],[[4],[],[0,1,12,13]]),(87,[],[[4]]),(88,[],[[3]]),(92,[(3,[0,1,2,3,4,10,11])],[[],[],[0,1,2,3,4,10,11]]),(93,[],[[2]]),(94,[(2,[0,1,2,3,8]),(5,[0,1,2,3,8,9])],[[],[],[0,1,2,3,8],[0,1,2,3,8],[0,1,2,3,8,9]]),(95,[(4,[0,1,4,10,11]),(10,[0,10,13]),(16,[0,2,4,14,15]),(22,[0,14,17]),(34,[0,1,2,3,4,18,19,20,21,22])],[[],[0,1,10],[0,1,4,10,11],[],[0,10,13],[0,2,14],[0,2,4,14,15],[],[0,14,17],[0,1,2,3,4,18,19,20],[0,1,2,3,4,18,19,20,21,22]]),(96,[],[[3]]),(97,[(2000005,[3,4,8])],[[4],[4],[3,4]]),(98,[],[[2]]),(99,[],[[4]]),(100,[],[[2]]),(101,[],[[2]]),(102,[],[[2]]),(103,[],[[4]]),(104,[],[[2]]),(105,[(4,[3,8,9,10])],[[2],[3],[3,8,9,10]]),(106,[(5,[5,20])],[[2],[5],[5,20]]),(107,[],[[2]]),(108,[],[[4,5]]),(109,[],[[2]]),(110,[],[[2]]),(111,[],[[2]]),(112,[],[[2]]),(113,[],[[2]]),(114,[],[[2]]),(115,[],[[2]]),(116,[],[[2]]),(117,[],[[2]]),(118,[],[[2]]),(119,[],[[2]]),(120,[],[[2]]),(121,[],[[2]]),(122,[],[[2]]),(123,[(3,[0,1,7,8])],[[4],[],[0,1,7,8]]),(131,[(5,[0,3,8,9,10,11]),(9,[0,3,8,9,12])],[[],[0,3,8,9,10],[0,3,8,9,10,11],[],[0,3,8,9,12]]),(132,[(6,[0,1,8,9,10,11])],[[],[],[0,1,8,9,10,11]]),(133,[],[[8,9],[8,9]]),(134,[(3,[0,8,9])],[[],[],[0,8,9]]),(135,[(4,[0,1,2,3,9,10]),(6,[0,1,2,3,9,10]),(15,[0,1,2,3,9,10,11]),(21,[0,1,2,3,9,10,12])],[[8],[],[0,1,2,3,9,10],[0,1,2,3,9,10],[0,1,2,3,9,10],[0,1,2,3,9,10],[0,1,2,3,9,10,11],[0,1,2,3,9,10],[0,1,2,3,9,10,12]]),(136,[(4,[0,1,4,11,12]),(6,[0,1,4,11,12])],[[10],[11],[0,1,4,11,12],[0,1,4,11,12],[0,1,4,11,12],[0,1,4,11,12],[0,1,4,11,12]]),(137,[(4,[0,1,4,12,13]),(6,[0,1,4,12,13]),(14,[0,1,4,12,13]),(16,[0,1,4,12,13])],[[10,11],[0,1,4,12,13],[0,1,4,12,13],[0,1,4,12,13],[0,1,4,12,13],[0,1,13],[0,1,4,12,13],[0,1,4,12,13],[0,1,4,12,13],[0,1,4,12,13],[0,1,4,12,13]]),(138,[],[[2]]),(139,[],[[2]]),(140,[(3,[0,2,4,10,11])],[[],[0,2,4,10],[0,2,4,10,11]]),(141,[(3,[0,1,7,8])],[[4],[],[0,1,7,8]]),(142,[(2,[0,1,9,10])],[[],[],[0,1,9,10]]),(143,[(4,[3,6,7,8])],[[2],[3],[3,6,7,8]]),(144,[],[[4]]),(145,[(2000010,[0,2,4,6,7,26])],[[2,3],[0,2,6,7],[0,2,4,6,7]]),(146,[(4,[0,4,5])],[[2,3],[0,4],[0,4,5]]),(147,[],[[4,5,6]]),(148,[],[[4]]),(149,[],[[6,7]]),(150,[(2000008,[5,12])],[[4],[5],[5]]),(151,[],[[4,5]]),(152,[],[[4,5,6]]),(153,[],[[4]]),(154,[],[[6,7,8]]),(155,[],[[4]]),(156,[(10,[10,11,28,29,30])],[[4,5],[11],[10,11,28,29,30]]),(157,[(2000010,[0,1,2,9,25])],[[6,7,8],[0,1,2],[0,1,2,9],[9]]),(158,[],[[4]]),(159,[(8,[1,9,10,23,24,25])],[[6,7],[9,10],[1,9,10,23,24,25]]),(160,[],[[2]]),(161,[],[[6,7,8],[0,1,2]]),(162,[],[[4,5,6],[1,2,4]]),(163,[],[[4]]),(164,[],[[4,5]]),(165,[],[[4]]),(166,[(2000010,[2,3,4,5,28])],[[4,5],[2,3,4,5],[4,5]]),(167,[],[[6,7],[1,2,6,8],[1,2,6,8,10]]),(168,[],[[4,5],[1,4,6]]),(169,[],[[4,5],[1,2]]),(170,[],[[6,7]]),(171,[],[[4,5,6]]),(179,[(2,[0,2,3,4,10])],[[],[],[0,2,3,4,10]]),(180,[],[[2]]),(181,[],[[2]]),(182,[],[[8]]),(183,[],[[12]]),(184,[(2,[0,1,2,3,10])],[[],[],[0,1,2,3,10]]),(185,[],[[2]]),(186,[],[[2]]),(187,[(3,[0,6])],[[2],[0],[0,6]]),(188,[],[[2,3]]),(189,[(8,[0,5,14,15])],[[2,3],[5],[0,5,14,15]]),(190,[],[[4,5]]),(192,[],[[4]]),(193,[(3,[0,3])],[[2],[3],[0,3]]),(195,[(2000009,[1,40])],[[],[],[1]]),(197,[(4,[1,5,8,9,10])],[[4],[5],[1,5,8,9,10]]),(198,[],[[4]]),(199,[],[[4]]),(200,[(4,[1,5,8,9,10])],[[4],[5],[1,5,8,9,10]]),(201,[],[[3]]),(202,[],[[4,5,6],[1,7]]),(205,[],[[3]]),(206,[],[[4]]),(207,[(7,[4,6,7])],[[2,3],[6],[4,6,7]]),(208,[],[[3]]),(209,[],[[4]]),(210,[(3,[0,1,7,8])],[[4],[],[0,1,7,8]]),(211,[(4,[0,2,4,8,9,10])],[[6,7],[0,2,4,8,9],[0,2,4,8,9,10]]),(212,[],[[6]]),(213,[(2000007,[5,6,7,14])],[[6,7],[6,7],[5,6,7]]),(214,[],[[3]]),(215,[],[[3]]),(216,[],[[4]]),(217,[(4,[1,5,8,9,10])],[[4],[5],[1,5,8,9,10]]),(218,[],[[3]]),(219,[(7,[5,20,21,22])],[[2,3],[5],[5,20,21,22]]),(220,[],[[6,7]]),(221,[],[[2]]),(222,[],[[6]]),(223,[],[[6]]),(247,[],[[10,11]]),(248,[(1,[0,1])],[[],[],[0,1]]),(249,[],[[4]]),(250,[],[[4]]),(251,[],[[2]]),(252,[(13,[0,1,5,39,40,41]),(23,[1,8,63,64,65])],[[4],[0,1],[0,1,5],[0,1,5,39,40,41],[8],[1,8,63,64,65]]),(253,[],[[4]]),(255,[],[[4]]),(256,[],[[3]]),(257,[(3,[0,1,7,8])],[[4],[],[0,1,7,8]]),(258,[],[[3]]),(259,[],[[6]]),(260,[(2,[0,2,7,8,9])],[[],[],[0,2,7,8,9]]),(261,[],[[4]]),(262,[(6,[0,1,5,6])],[[4],[0,5],[0,1,5,6]]),(263,[],[[2]]),(264,[(2,[0,2,6,7,8])],[[],[],[0,2,6,7,8]]),(267,[(2,[0,2,7,8,9])],[[],[],[0,2,7,8,9]]),(268,[],[[4]]),(269,[(4,[0,1,2,8,9,10])],[[6,7],[0,1,2,8,9],[0,1,2,8,9,10]]),(270,[],[[5]]),(282,[],[[4]]),(283,[],[[4]]),(285,[],[[4,5]]),(286,[],[[2]]),(287,[],[[4]]),(288,[],[[3]]),(291,[],[[6,7]]),(292,[],[[2]]),(293,[],[[6]]),(294,[(3,[0,1,7,8])],[[4],[],[0,1,7,8]]),(296,[],[[4]]),(305,[(3,[0,1,7,8])],[[4],[],[0,1,7,8]]),(307,[(4,[0,1,2,8,9,10])],[[6,7],[0,1,2,8,9],[0,1,2,8,9,10]]),(308,[],[[5]]),(311,[(2,[0,2,3])],[[],[],[0,2,3]]),(312,[(5,[0,1,12,13])],[[4],[],[0,1,12,13]]),(313,[(2,[0,2,3])],[[],[],[0,2,3]]),(316,[(2,[0,2,3])],[[],[],[0,2,3]]),(318,[(2,[0,2,3])],[[],[],[0,2,3]])]
noncomputable def G0:ay SS:=⟨KK,[],[],[],BI γ ar,[]⟩
theorem Jv:an G0 γ:=⟨eP,⟨λf cn h=>by cases h⟩,(λf hc h=>by cases h),(λg dc h=>by cases h),mixed,bn⟩
end Go.Proofs.YtoggponeookhbaaGreatDoor
end
section
namespace Go.Proofs.YtoggponeookhbaaGreatDoor
open Go.RowKit Go.Dc Go.Vx
set_option maxRecDepth 100000 in
set_option maxHeartbeats 12000000 in
theorem rA:(∀ {O:List Nat} {w:World},OB O w-> ∀ {v0:Value} {x0:List ai},(Ty.slice lY).is O w v0 x0-> ∀ {r:List ai},app 32 [] x0=some r->let T:=lY;Calls γ 76 #[v0] w (ig lY 115 w.heap.size O w (.slice none 0 0) r))/\(∀ {O:List Nat} {w:World},OB O w-> ∀ {v0:Value} {x0:List aj},(Ty.slice nX).is O w v0 x0-> ∀ {r:List aj},app 24 [] x0=some r->let T:=nX;Calls γ 77 #[v0] w (ig nX 105 w.heap.size O w (.slice none 0 0) r))/\(∀ {O:List Nat} {w:World},OB O w-> ∀ {v0:Value} {x0:List aw},(Ty.slice sS).is O w v0 x0-> ∀ {r:List aw},app 16 [] x0=some r->let T:=sS;Calls γ 78 #[v0] w (ig sS 122 w.heap.size O w (.slice none 0 0) r))/\(∀ {O:List Nat} {w:World},OB O w-> ∀ {v0:Value} {x0:List az},(Ty.slice gi).is O w v0 x0-> ∀ {r:List az},app 16 [] x0=some r->let T:=gi;Calls γ 79 #[v0] w (ig gi 127 w.heap.size O w (.slice none 0 0) r))/\(∀ {O:List Nat} {w:World},OB O w-> ∀ {v0:Value} {x0:List Int},(Ty.slice (Ty.int .u64)).is O w v0 x0-> ∀ {r:List Int},app 8 [] x0=some r->let T:=(Ty.int .u64);Calls γ 80 #[v0] w (ig (Ty.int .u64) 35 w.heap.size O w (.slice none 0 0) r))/\(∀ {O:List Nat} {w:World},OB O w-> ∀ {v0:Value} {x0:List ax},(Ty.slice sR).is O w v0 x0-> ∀ {r:List ax},app 88 [] x0=some r->let T:=sR;Calls γ 14 #[v0] w (ig sR 42 w.heap.size O w (.slice none 0 0) r)):=by
 refine⟨?_,?_,?_,?_,?_,?_⟩
 all_goals
  intro O w hO v0 x0 h0 r h T;have hF:=Fr.refl [] w;have zC:=hO;have hS:=Dc.Sub.refl O;have hB:=ξ2 w.heap.size;refine lC (args:=[v0]) (N:=8) (by first|exact ζe|exact ζf|exact ζg|exact ζh|exact ζi|exact ζj) rfl rfl rfl ?_;refine aS ?_;refine bl (l:=[0]) rfl ?_;refine aK ak [0] [(0,v0)] rfl ⟨rfl,trivial⟩ ?_;refine bc ?_;refine aT ?_;refine aS ?_;refine aS ?_;refine bl (l:=[0,1]) rfl ?_;refine aK ak [0] [(0,v0),(3,v0)] rfl ⟨rfl,rfl,trivial⟩ ?_;obtain⟨A2,c3,rfl,anm,anp⟩:=iJ h0;refine aK ak [1] [(0,(.slice A2 x0.length c3)),(4,(.bool A2.isNone))] rfl ⟨rfl,rfl,trivial⟩ ?_;refine bc ?_;refine aT ?_;rcases A2 with _|ag9
  ·obtain rfl:=II h0;simp[app] at h;subst h;refine xO rfl ?_;refine aS ?_;refine bl (l:=[0]) rfl ?_;refine aK ak [0] [(2,(.slice none 0 0))] rfl ⟨rfl,trivial⟩ ?_;refine bc ?_;refine aT ?_;refine fz ?_;exact jW (iL rfl (Wx Own.oT hS hF zC hB))
  refine sT rfl ?_;refine gW ?_;refine aT ?_;refine aS ?_;refine bl (l:=[0,1,2,3]) rfl ?_;refine adG ak rfl rfl rfl rfl rfl rfl rfl rfl rfl rfl (T:=T) (xs:=[]) (vs:=[]) rfl trivial rfl rfl rfl hO (λb4 w5 q6=>?_);obtain⟨_,Qs,_⟩:=q6.new;have h7:=q6.own hF.size;have h0:=h0.tr Qs.tr;have hO:=Qs.ob;have hF:=hF.trans Qs.fr;have hS:=Sub.cons hS b4;generalize (ζk (some ⟨b4,0,none⟩) 0 0)=v8 at*
  refine aK ak [1] [(5,v8),(6,(.slice (some ag9) x0.length c3))] rfl ⟨rfl,rfl,trivial⟩ ?_;refine adC ak rfl rfl rfl rfl rfl rfl rfl rfl rfl rfl rfl rfl rfl rfl hF hO h7 h0 h (λv11 Sr O13 EZ=>?_);have hF:=EZ.c7 h7 hF;have hS:=Sub.trans hS EZ.sub;have hO:=EZ.ob;have h15:=EZ.own;refine aK ak [3] [(2,v11)] rfl ⟨rfl,trivial⟩ ?_;refine bc ?_;refine aT ?_;refine fz ?_;exact iL rfl (Wx h15 hS hF zC hB)
def Me:iM SS:=sv KK 76 115 (λxs=>app 32 [] xs)
theorem ahD {R:Type} (xs:List (aD SS)) (h:AH SS) (k:Rs SS->AH SS->List Nat->Option R) (z:R) (hz:(Me).out xs h k=some z): ∃r h' dt,k r h' dt=some z/\ic KK γ 76 xs h r h' dt:=
 xn (e:=115) (cl:=λxs=>app 32 [] xs) eP (eI bn ζe rfl) (λ_ _ _ _ _ _ h=>h) (λO w v xs zs hO hv hz=>rA.1 hO hv hz) xs h k z hz
def Mf:iM SS:=sv KK 77 105 (λxs=>app 24 [] xs)
theorem ahE {R:Type} (xs:List (aD SS)) (h:AH SS) (k:Rs SS->AH SS->List Nat->Option R) (z:R) (hz:(Mf).out xs h k=some z): ∃r h' dt,k r h' dt=some z/\ic KK γ 77 xs h r h' dt:=
 xn (e:=105) (cl:=λxs=>app 24 [] xs) eP (eI bn ζf rfl) (λ_ _ _ _ _ _ h=>h) (λO w v xs zs hO hv hz=>rA.2.1 hO hv hz) xs h k z hz
def Mg:iM SS:=sv KK 78 122 (λxs=>app 16 [] xs)
theorem ahF {R:Type} (xs:List (aD SS)) (h:AH SS) (k:Rs SS->AH SS->List Nat->Option R) (z:R) (hz:(Mg).out xs h k=some z): ∃r h' dt,k r h' dt=some z/\ic KK γ 78 xs h r h' dt:=
 xn (e:=122) (cl:=λxs=>app 16 [] xs) eP (eI bn ζg rfl) (λ_ _ _ _ _ _ h=>h) (λO w v xs zs hO hv hz=>rA.2.2.1 hO hv hz) xs h k z hz
def Mh:iM SS:=sv KK 79 127 (λxs=>app 16 [] xs)
theorem ahG {R:Type} (xs:List (aD SS)) (h:AH SS) (k:Rs SS->AH SS->List Nat->Option R) (z:R) (hz:(Mh).out xs h k=some z): ∃r h' dt,k r h' dt=some z/\ic KK γ 79 xs h r h' dt:=
 xn (e:=127) (cl:=λxs=>app 16 [] xs) eP (eI bn ζh rfl) (λ_ _ _ _ _ _ h=>h) (λO w v xs zs hO hv hz=>rA.2.2.2.1 hO hv hz) xs h k z hz
def Mi:iM SS:=sv KK 80 35 (λxs=>app 8 [] xs)
theorem ahH {R:Type} (xs:List (aD SS)) (h:AH SS) (k:Rs SS->AH SS->List Nat->Option R) (z:R) (hz:(Mi).out xs h k=some z): ∃r h' dt,k r h' dt=some z/\ic KK γ 80 xs h r h' dt:=
 xn (e:=35) (cl:=λxs=>app 8 [] xs) eP (eI bn ζi rfl) (λ_ _ _ _ _ _ h=>h) (λO w v xs zs hO hv hz=>rA.2.2.2.2.1 hO hv hz) xs h k z hz
def Md:iM SS:=sv KK 14 42 (λxs=>app 88 [] xs)
theorem ahC {R:Type} (xs:List (aD SS)) (h:AH SS) (k:Rs SS->AH SS->List Nat->Option R) (z:R) (hz:(Md).out xs h k=some z): ∃r h' dt,k r h' dt=some z/\ic KK γ 14 xs h r h' dt:=
 xn (e:=42) (cl:=λxs=>app 88 [] xs) eP (eI bn ζj rfl) (λ_ _ _ _ _ _ h=>h) (λO w v xs zs hO hv hz=>rA.2.2.2.2.2 hO hv hz) xs h k z hz
set_option maxRecDepth 100000
noncomputable def Jq:ay SS:= { G0 with H:=Me::G0.H }
theorem afb:an Jq γ:=an.mS (c:=Me) Jv ahD
noncomputable def Jr:ay SS:= { Jq with H:=Mf::Jq.H }
theorem afc:an Jr γ:=an.mS (c:=Mf) afb ahE
noncomputable def Js:ay SS:= { Jr with H:=Mg::Jr.H }
theorem afd:an Js γ:=an.mS (c:=Mg) afc ahF
noncomputable def Jt:ay SS:= { Js with H:=Mh::Js.H }
theorem afe:an Jt γ:=an.mS (c:=Mh) afd ahG
noncomputable def Ju:ay SS:= { Jt with H:=Mi::Jt.H }
theorem aff:an Ju γ:=an.mS (c:=Mi) afe ahH
noncomputable def G1:ay SS:= { Ju with H:=Md::Ju.H }
theorem afg:an G1 γ:=an.mS (c:=Md) aff ahC
end Go.Proofs.YtoggponeookhbaaGreatDoor
end
section
namespace Go.Proofs.YtoggponeookhbaaGreatDoor
open Go.RowKit Go.Dc Go.Vx
set_option maxRecDepth 100000 in
set_option maxHeartbeats 4000000 in
theorem an7 {w:World} (s:ByteArray) (c:Int):Calls γ 283 #[.string s,.int .u8 c] w (λe w'=>e= .returned (.int .i64 (ψ s.data.toList c.toNat.toUInt8))/\Fr [] w w'):=by
 have hF:=Fr.refl [] w;refine lC (args:=[.string s,.int .u8 c]) (N:=8) ξX rfl rfl rfl ?_;refine aS ?_;refine bl (l:=[0]) rfl ?_;refine aK ak [0] [(0,.string s),(1,.int .u8 c)] rfl ⟨rfl,rfl,trivial⟩ ?_;refine bc ?_;refine aT ?_;refine aS ?_;refine bl (l:=[0,1,2,3]) rfl ?_;refine aK ak [0,1] [(5,.string s),(6,.int .u8 c)] rfl ⟨rfl,rfl,trivial⟩ ?_;have iv:(callFunc 302 #[.string s,.int .u8 c]).run γ w= .ok (.value (.int .i64 (ψ s.data.toList c.toNat.toUInt8))) w:=by
  rw[run_callFunc_extern Tryz.func302 rfl rfl rfl rfl,Lib.run_indexByteString];rfl
 refine gE rfl rfl rfl rfl (by intro c h;cases h) (λa hA=>?_) (v:= .int .i64 (ψ s.data.toList c.toNat.toUInt8)) (w':=w) (d:=7) ?_
 ·have U:=hA.get 5 _ rfl;have h2:=hA.get 6 _ rfl;simp only[execOp,θ,resolve,Act.eval,Deferred.ofValue,Sem.run_pure,η,invoke];simpa[Act.eval,U,h2] using iv
 refine aK ak [3] [(4,.int .i64 (ψ s.data.toList c.toNat.toUInt8))] rfl ⟨rfl,trivial⟩ ?_;refine bc ?_;refine aT ?_;refine fz ?_;exact iL rfl ⟨rfl,hF⟩
def Hr:bO SS:=⟨283,λxs k=>match xs with
 |[.one (.v (.string s)),.one (.v (.int .u8 c))]=>k (.ret (.s (.one (.v (.int .i64 (ψ s.data.toList c.toNat.toUInt8))))))
 |_=>none⟩
theorem an8 {R:Type} (xs:List (aD SS)) (k:Rs SS->Option R) (z:R) (_:xs.all aD.pure=true) (hz:Hr.out xs k=some z): ∃r,k r=some z/\gH KK γ 283 xs r:=by
 simp only[Hr] at hz;split at hz
 ·rename_i s c h0;refine⟨_,hz,eI bn ξX rfl,λA O w vs hv hO hG=>?_⟩;obtain⟨y,ys,rfl,⟨U,_⟩,y2,nZ,rfl,⟨h2,_⟩,h3⟩:=hv;cases U;cases h2;rw[show nZ=[] from h3];refine(an7 s c).mono ?_;rintro e w' ⟨rfl,hF⟩;exact⟨⟨_,rfl,rfl,rfl⟩,hF⟩
 ·cases hz
set_option maxRecDepth 100000
noncomputable def G2:ay SS:= { G1 with C:=Hr::G1.C }
theorem afh:an G2 γ:=an.l_ (c:=Hr) afg an8
end Go.Proofs.YtoggponeookhbaaGreatDoor
end
section
namespace Go.Proofs.YtoggponeookhbaaGreatDoor
open Go.RowKit Go.Dc Go.Vx
theorem ac6 (e:Int) (w:World):(ξd (.iface 27 (.int .i64 e)) 20 27 true).run γ w= .ok (.tuple #[.int .i64 e,.bool true]) w:=by
 simp[ξd,run_underlying Tryz.underlying27]
theorem aae (e:Int) (w:World) (ox oy:Operand):(do eqGuard .neq 20 ox oy (.iface 27 (.int .i64 e)) .nilIface;binOp .neq 20 (.iface 27 (.int .i64 e)) .nilIface:Sem Value).run γ w= .ok (.bool true) w:=by
 simp[go_sem]
theorem aah (w:World) (ox:Operand):(do eqGuard .neq 20 ox (.const .nilIface) .nilIface .nilIface;binOp .neq 20 .nilIface .nilIface:Sem Value).run γ w= .ok (.bool false) w:=by
 simp[go_sem,eqGuard]
set_option maxHeartbeats 4000000 in
theorem ai4 {w:World} {p1 p2:Value}:
  CallsDIn (fw none) 0 γ 254 #[p1,p2] .returning w (λe' u' w'=>(∃v,e'= .returned v)/\u'= .returning/\w'=w):=by
 refine callsDIn_of_wpSIn ξn rfl (by simp[fw]) λMr cs hu=>?_;apply wpSIn_seq;apply wpSIn_region;simp[wpOpsSIn,go_sem,recoverD,hu,ξS,ξF];refine wpSIn_of_wpIn rfl ?_;obtain⟨E0,nF⟩: ∃E0:Env,E0=[(0,p1),(1,p2),(2,.nilIface)]:=⟨_,rfl⟩;refine(show WC γ none 18 _ _ E0 [] w from ?_) _ ⟨by simp,rfl,cJ (by subst nF;refine⟨?_,?_,?_,trivial⟩<;>simp)⟩;subst nF;refine aS ?_;refine bl (l:=[0,1]) rfl ?_;refine aK ak [0] [(6,.nilIface)] rfl ⟨rfl,trivial⟩ ?_;refine gE (d:=7) rfl rfl rfl rfl (by intro c h;cases h) (λa hA=>?_) (v:= .bool false) (w':=w) ?_
 ·have h:=hA.get 6 _ rfl;show(do let v<-(do eqGuard .neq 20 (.tmp 6) (.const .nilIface) (a.tmps.getD 6 undef) .nilIface;binOp .neq 20 (a.tmps.getD 6 undef) .nilIface:Sem Value);pure (ξj v):Sem Next).run _ w=_;rw[θ,h,aah];rfl
 refine bc ?_;refine aT ?_;refine sT rfl ?_;refine gW λa ha=>?_;have fU:(results Tryz.f254 a.tmps).run γ w= .ok (.tuple #[]) w:=by simp[results,ξM]
 simp only[bodyPostS];refine⟨ha.defers,.returning,?_,.tuple #[],fU,?_⟩
 ·rw[<-hu]
 ·simp
set_option maxHeartbeats 4000000 in
theorem ai6 {w:World} {b1 b2:Nat} {kS ku:List Value} (e:Int) (U:ck w b1 50 kS) (h2:ck w b2 27 ku) (r7:kS.length=17) (iz:ku.length=1) (aN:b1≠b2):
  CallsDIn (fw none) 0 γ 254 #[.pointer (some ⟨b1,0,none⟩),.pointer (some ⟨b2,0,none⟩)] (.panicking [{ v:= .iface 27 (.int .i64 e),recovered:=false }]) w
   (λe' u' w'=>(∃v,e'= .returned v)/\settle u'= .returning/\ ∃w1,Fr [b1] w w1/\ck w1 b1 50 (ω 16 (.int .i64 0)++[.slice none 0 0])/\Fr [b2] w1 w'/\ck w' b2 27 [.int .i64 e]):=by
 refine callsDIn_of_wpSIn ξn rfl (by simp[fw]) λMr cs hu=>?_;apply wpSIn_seq;apply wpSIn_region;simp[wpOpsSIn,go_sem,recoverD,hu,ξS,ξF];refine wpSIn_of_wpIn rfl ?_;obtain⟨E0,nF⟩: ∃E0:Env,E0=[(0,.pointer (some ⟨b1,0,none⟩)),(1,.pointer (some ⟨b2,0,none⟩)),(2,.iface 27 (.int .i64 e))]:=⟨_,rfl⟩;refine(show WC γ none 18 _ _ E0 [] w from ?_) _ ⟨by simp,rfl,cJ (by subst nF;refine⟨?_,?_,?_,trivial⟩<;>simp)⟩;subst nF;refine aS ?_;refine bl (l:=[0,1]) rfl ?_;refine aK ak [0] [(0,.pointer (some ⟨b1,0,none⟩)),(1,.pointer (some ⟨b2,0,none⟩)),(2,.iface 27 (.int .i64 e)),(6,.iface 27 (.int .i64 e))] rfl ⟨rfl,rfl,rfl,rfl,trivial⟩ ?_;refine gE (d:=7) rfl rfl rfl rfl (by intro c h;cases h) (λa hA=>?_) (v:= .bool true) (w':=w) ?_
 ·have h:=hA.get 6 _ rfl;show(do let v<-(do eqGuard .neq 20 (.tmp 6) (.const .nilIface) (a.tmps.getD 6 undef) .nilIface;binOp .neq 20 (a.tmps.getD 6 undef) .nilIface:Sem Value);pure (ξj v):Sem Next).run _ w=_;rw[θ,h,aae];rfl
 refine bc ?_;refine aT ?_;refine xO rfl ?_;refine aS ?_;refine bl (l:=[0,1,2,3,4,5,6]) rfl ?_;refine aK ak [0] [(0,.pointer (some ⟨b1,0,none⟩)),(1,.pointer (some ⟨b2,0,none⟩)),(9,.iface 27 (.int .i64 e))] rfl ⟨rfl,rfl,rfl,trivial⟩ ?_;refine gE (d:=10) rfl rfl rfl rfl (by intro c h;cases h) (λa hA=>?_) (v:= .tuple #[.int .i64 e,.bool true]) (w':=w) ?_
 ·have h:=hA.get 9 _ rfl;show(do let v<-ξd (a.tmps.getD 9 undef) 20 27 true;pure (ξj v):Sem Next).run _ w=_;rw[θ,h,ac6];rfl
 refine aK ak [2,3,4,5,6] [(0,.pointer (some ⟨b1,0,none⟩)),(1,.pointer (some ⟨b2,0,none⟩)),(3,.int .i64 e),(4,.bool true)] rfl ⟨rfl,rfl,rfl,rfl,trivial⟩ ?_;refine bc ?_;refine aT ?_;refine aS ?_;refine aS ?_;refine bl (l:=[0,1]) rfl ?_;refine aK ak [0,1] [(0,.pointer (some ⟨b1,0,none⟩)),(1,.pointer (some ⟨b2,0,none⟩)),(3,.int .i64 e),(14,.bool false)] rfl ⟨rfl,rfl,rfl,rfl,trivial⟩ ?_;refine bc ?_;refine aT ?_;refine sT rfl ?_;refine gW ?_;refine aT ?_;refine bl (l:=[0,1,2,3]) rfl ?_;refine aK ak [0,1] [(0,.pointer (some ⟨b1,0,none⟩)),(1,.pointer (some ⟨b2,0,none⟩)),(16,.agg (ω 16 (ξa .i64 0)++[ζk none 0 0]).toArray),(17,.int .i64 e)] rfl ⟨rfl,rfl,rfl,rfl,trivial⟩ ?_;refine iK ak rfl rfl rfl rfl rfl rfl rfl U (ω 16 (.int .i64 0)++[.slice none 0 0]) rfl rfl (by simp[ω,ξt]) (by rw[r7];rfl) (ω 16 (.int .i64 0)++[.slice none 0 0]) (by unfold putAt;rw[ξ1 (by simp[r7,iz])];rfl) (λw1 k1 f1=>?_);have h2:=h2.fr f1 (by simpa using aN.symm);refine iK ak rfl rfl rfl rfl rfl rfl rfl h2 [.int .i64 e] rfl rfl (by simp[ξt]) (by rw[iz];rfl) [.int .i64 e] (by unfold putAt;rw[ξ1 (by simp[r7,iz])];rfl) (λw2 k2 f2=>?_);refine bc λa ha=>?_;have fU:(results Tryz.f254 a.tmps).run γ w2= .ok (.tuple #[]) w2:=by simp[results,ξM]
 simp only[bodyPostS];refine⟨ha.defers,.panicking [{ v:= .iface 27 (.int .i64 e),recovered:=true }],rfl,.tuple #[],fU,⟨.tuple #[],rfl⟩,rfl,w1,f1,k1,f2,k2⟩
def I8:List Value:=ω 16 (.int .i64 0)++[.slice none 0 0]
def Fh:vh SS:=⟨254,λcs p eV k=>match cs with
 |[.one (.bp i 0),.one (.bp j 0)]=>(match p with
  |none=>k none []
  |some (.iface 27 (.int .i64 e))=>(match eV i,eV j with
   |some (.box 50 kS),some (.box 27 ku)=>bif !(μ i j)&&(μ (fW kS) 17&&μ (fW ku) 1) then k none [(i,some (.box 50 (I8.map .v))),(j,some (.box 27 [.v (.int .i64 e)]))] else none
   |_,_=>none)
  |_=>none)
 |_=>none⟩
theorem aad {i j:Nat} (h:(!(μ i j))=true):i≠j:=λe=>by subst e;simp at h
theorem ai5 {R:Type} (cs:List (aD SS)) (p:Option Value) (eV:Nat->Option (Ob SS)) (k:Option Value->Up SS->Option R) (z:R) (hz:Fh.out cs p eV k=some z): ∃q up,k q up=some z/\vj KK γ 254 cs p eV q up:=by
 simp only[Fh] at hz;split at hz
 rotate_left
 ·cases hz
 rename_i i j;split at hz
 ·refine⟨_,_,hz,eI bn ξn rfl,λA O w xs u hx hg hO hG hm=>?_⟩;obtain⟨x1,ys,rfl,⟨b1,_,e1⟩,x2,nZ,rfl,⟨b2,_,e2⟩,e3⟩:=hx;cases e1;cases e2;rw[show nZ=[] from e3,show u=_ from hm];refine ai4.mono ?_;rintro e u' w' ⟨U,rfl,rfl⟩;exact⟨U,rfl,A,O,cW.none hO⟩
 ·rename_i e;split at hz
  rotate_left
  ·cases hz
  rename_i kS ku U h2;cases hb:(!(μ i j)&&(μ (fW kS) 17&&μ (fW ku) 1))<;>rw[hb] at hz
  ·cases hz
  simp only[ξc] at hb;obtain⟨cC,ei,k_⟩:=hb;have cC:=aad cC;refine⟨_,_,hz,eI bn ξn rfl,λA O w xs u hx hg hO hG hm=>?_⟩;obtain⟨b1,vs1,p1,k1,r1,o1⟩:=Bd hg U;obtain⟨b2,vs2,p2,k2,r2,o2⟩:=Bd hg h2;obtain⟨x1,ys,rfl,⟨b1',q1,e1⟩,x2,nZ,rfl,⟨b2',q2,e2⟩,e3⟩:=hx;rw[p1] at q1;rw[p2] at q2;cases q1;cases q2;cases e1;cases e2;rw[show nZ=[] from e3,show u=_ from hm];have aN:b1≠b2:=λe=>hg.dj i j _ _ _ _ b1 cC U h2 p1 p2 rfl (by rw[e];rfl);refine(ai6 e k1 k2 ((lV r1).trans (κ ei)) ((lV r2).trans (κ k_)) aN).mono ?_;rintro en u' w' ⟨h3,h4,w1,f1,m1,f2,m2⟩;have E1:cW A O w eV [(i,some (.box 50 (I8.map .v)))] A O w1:=Fm hg hO U p1 f1 m1 (abC (by decide));have wL:=hg.cX hO E1;have wz:cK eV [(i,some (.box 50 (I8.map LV.v)))] j=some (.box 27 ku):=by
   rw[gC (λV hV=>cC (by simp at hV;exact hV.1.symm))];exact h2
  have E2:cW A O w1 (cK eV [(i,some (.box 50 (I8.map .v)))]) [(j,some (.box 27 [.v (.int .i64 e)]))] A O w':=Fm wL E1.ob wz p2 f2 m2 ⟨[.int .i64 e],[],rfl,⟨rfl,rfl⟩,rfl⟩;exact⟨h3,h4,A,O,cW.two hg cC E1 E2 hO⟩
 ·cases hz
set_option maxHeartbeats 4000000 in
theorem ai1 {w:World} {p1 p2 p3:Value}:
  CallsDIn (fw none) 0 γ 70 #[p1,p2,p3] .returning w (λe' u' w'=>(∃v,e'= .returned v)/\u'= .returning/\w'=w):=by
 refine callsDIn_of_wpSIn ξv rfl (by simp[fw]) λMr cs hu=>?_;apply wpSIn_seq;apply wpSIn_region;simp[wpOpsSIn,go_sem,recoverD,hu,ξY,ξF];refine wpSIn_of_wpIn rfl ?_;obtain⟨E0,nF⟩: ∃E0:Env,E0=[(0,p1),(1,p2),(2,p3),(3,.nilIface)]:=⟨_,rfl⟩;refine(show WC γ none 20 _ _ E0 [] w from ?_) _ ⟨by simp,rfl,cJ (by subst nF;refine⟨?_,?_,?_,?_,trivial⟩<;>simp)⟩;subst nF;refine aS ?_;refine bl (l:=[0,1]) rfl ?_;refine aK ak [0] [(7,.nilIface)] rfl ⟨rfl,trivial⟩ ?_;refine gE (d:=8) rfl rfl rfl rfl (by intro c h;cases h) (λa hA=>?_) (v:= .bool false) (w':=w) ?_
 ·have h:=hA.get 7 _ rfl;show(do let v<-(do eqGuard .neq 20 (.tmp 7) (.const .nilIface) (a.tmps.getD 7 undef) .nilIface;binOp .neq 20 (a.tmps.getD 7 undef) .nilIface:Sem Value);pure (ξj v):Sem Next).run _ w=_;rw[θ,h,aah];rfl
 refine bc ?_;refine aT ?_;refine sT rfl ?_;refine gW λa ha=>?_;have fU:(results Tryz.f70 a.tmps).run γ w= .ok (.tuple #[]) w:=by simp[results,ξP]
 simp only[bodyPostS];refine⟨ha.defers,.returning,?_,.tuple #[],fU,?_⟩
 ·rw[<-hu]
 ·simp
set_option maxHeartbeats 4000000 in
theorem ai3 {w:World} {b0 b1 b2:Nat} {j3 kS ku:List Value} (e:Int) (h0:ck w b0 60 j3) (U:ck w b1 60 kS) (h2:ck w b2 40 ku) (oI:j3.length=22) (r7:kS.length=22) (iz:ku.length=2) (ho: ∀u∈j3,u.oneCell'=true) (aN:b1≠b2):
  CallsDIn (fw none) 0 γ 70 #[.pointer (some ⟨b0,0,none⟩),.pointer (some ⟨b1,0,none⟩),.pointer (some ⟨b2,0,none⟩)] (.panicking [{ v:= .iface 27 (.int .i64 e),recovered:=false }]) w
   (λe' u' w'=>(∃v,e'= .returned v)/\settle u'= .returning/\ ∃w1,Fr [b1] w w1/\ck w1 b1 60 j3/\Fr [b2] w1 w'/\ck w' b2 40 [.int .i64 e,.int .u64 0]):=by
 refine callsDIn_of_wpSIn ξv rfl (by simp[fw]) λMr cs hu=>?_;apply wpSIn_seq;apply wpSIn_region;simp[wpOpsSIn,go_sem,recoverD,hu,ξY,ξF];refine wpSIn_of_wpIn rfl ?_;obtain⟨E0,nF⟩: ∃E0:Env,E0=[(0,.pointer (some ⟨b0,0,none⟩)),(1,.pointer (some ⟨b1,0,none⟩)),(2,.pointer (some ⟨b2,0,none⟩)),(3,.iface 27 (.int .i64 e))]:=⟨_,rfl⟩;refine(show WC γ none 20 _ _ E0 [] w from ?_) _ ⟨by simp,rfl,cJ (by subst nF;refine⟨?_,?_,?_,?_,trivial⟩<;>simp)⟩;subst nF;refine aS ?_;refine bl (l:=[0,1]) rfl ?_;refine aK ak [0] [(0,.pointer (some ⟨b0,0,none⟩)),(1,.pointer (some ⟨b1,0,none⟩)),(2,.pointer (some ⟨b2,0,none⟩)),(3,.iface 27 (.int .i64 e)),(7,.iface 27 (.int .i64 e))] rfl ⟨rfl,rfl,rfl,rfl,rfl,trivial⟩ ?_;refine gE (d:=8) rfl rfl rfl rfl (by intro c h;cases h) (λa hA=>?_) (v:= .bool true) (w':=w) ?_
 ·have h:=hA.get 7 _ rfl;show(do let v<-(do eqGuard .neq 20 (.tmp 7) (.const .nilIface) (a.tmps.getD 7 undef) .nilIface;binOp .neq 20 (a.tmps.getD 7 undef) .nilIface:Sem Value);pure (ξj v):Sem Next).run _ w=_;rw[θ,h,aae];rfl
 refine bc ?_;refine aT ?_;refine xO rfl ?_;refine aS ?_;refine bl (l:=[0,1,2,3,4,5,6]) rfl ?_;refine aK ak [0] [(0,.pointer (some ⟨b0,0,none⟩)),(1,.pointer (some ⟨b1,0,none⟩)),(2,.pointer (some ⟨b2,0,none⟩)),(10,.iface 27 (.int .i64 e))] rfl ⟨rfl,rfl,rfl,rfl,trivial⟩ ?_;refine gE (d:=11) rfl rfl rfl rfl (by intro c h;cases h) (λa hA=>?_) (v:= .tuple #[.int .i64 e,.bool true]) (w':=w) ?_
 ·have h:=hA.get 10 _ rfl;show(do let v<-ξd (a.tmps.getD 10 undef) 20 27 true;pure (ξj v):Sem Next).run _ w=_;rw[θ,h,ac6];rfl
 refine aK ak [2,3,4,5,6] [(0,.pointer (some ⟨b0,0,none⟩)),(1,.pointer (some ⟨b1,0,none⟩)),(2,.pointer (some ⟨b2,0,none⟩)),(4,.int .i64 e),(5,.bool true)] rfl ⟨rfl,rfl,rfl,rfl,rfl,trivial⟩ ?_;refine bc ?_;refine aT ?_;refine aS ?_;refine aS ?_;refine bl (l:=[0,1]) rfl ?_;refine aK ak [0,1] [(0,.pointer (some ⟨b0,0,none⟩)),(1,.pointer (some ⟨b1,0,none⟩)),(2,.pointer (some ⟨b2,0,none⟩)),(4,.int .i64 e),(15,.bool false)] rfl ⟨rfl,rfl,rfl,rfl,rfl,trivial⟩ ?_;refine bc ?_;refine aT ?_;refine sT rfl ?_;refine gW ?_;refine aT ?_;refine bl (l:=[0,1,2,3,4]) rfl ?_;refine fX ak rfl rfl rfl rfl rfl rfl rfl h0 j3 (by rw[ξQ];exact List.take_of_length_le (by rw[oI];decide)) oI (.inl rfl) (.agg j3.toArray) rfl ?_;refine aK ak [1,2] [(1,.pointer (some ⟨b1,0,none⟩)),(2,.pointer (some ⟨b2,0,none⟩)),(17,.agg j3.toArray),(19,.agg #[.int .i64 e,.int .u64 0])] rfl ⟨rfl,rfl,rfl,rfl,trivial⟩ ?_;refine iK ak rfl rfl rfl rfl rfl rfl rfl U j3 rfl oI ho (by rw[r7];rfl) j3 (by unfold putAt;rw[ξ1 (by simp[r7,oI]),ξm];rfl) (λw1 k1 f1=>?_);have h2:=h2.fr f1 (by simpa using aN.symm);refine iK ak rfl rfl rfl rfl rfl rfl rfl h2 [.int .i64 e,.int .u64 0] rfl rfl (by simp[ξt]) (by rw[iz];rfl) [.int .i64 e,.int .u64 0] (by unfold putAt;rw[ξ1 (by simp[iz])];rfl) (λw2 k2 f2=>?_);refine bc λa ha=>?_;have fU:(results Tryz.f70 a.tmps).run γ w2= .ok (.tuple #[]) w2:=by simp[results,ξP]
 simp only[bodyPostS];refine⟨ha.defers,.panicking [{ v:= .iface 27 (.int .i64 e),recovered:=true }],rfl,.tuple #[],fU,⟨.tuple #[],rfl⟩,rfl,w1,f1,k1,f2,k2⟩
def Fg:vh SS:=⟨70,λcs p eV k=>match cs with
 |[.one (.bp h 0),.one (.bp i 0),.one (.bp j 0)]=>(match p with
  |none=>k none []
  |some (.iface 27 (.int .i64 e))=>(match eV h,eV i,eV j with
   |some (.box 60 j3),some (.box 60 kS),some (.box 40 ku)=>bif !(μ i j)&&(μ (fW j3) 22&&(μ (fW kS) 22&&μ (fW ku) 2)) then k none [(i,some (.box 60 j3)),(j,some (.box 40 [.v (.int .i64 e),.v (.int .u64 0)]))] else none
   |_,_,_=>none)
  |_=>none)
 |_=>none⟩
theorem ai2 {R:Type} (cs:List (aD SS)) (p:Option Value) (eV:Nat->Option (Ob SS)) (k:Option Value->Up SS->Option R) (z:R) (hz:Fg.out cs p eV k=some z): ∃q up,k q up=some z/\vj KK γ 70 cs p eV q up:=by
 simp only[Fg] at hz;split at hz
 rotate_left
 ·cases hz
 rename_i h i j;split at hz
 ·refine⟨_,_,hz,eI bn ξv rfl,λA O w xs u hx hg hO hG hm=>?_⟩;obtain⟨x0,ys0,rfl,⟨b0,_,e0⟩,x1,ys,rfl,⟨b1,_,e1⟩,x2,nZ,rfl,⟨b2,_,e2⟩,e3⟩:=hx;cases e0;cases e1;cases e2;rw[show nZ=[] from e3,show u=_ from hm];refine ai1.mono ?_;rintro e u' w' ⟨U,rfl,rfl⟩;exact⟨U,rfl,A,O,cW.none hO⟩
 ·rename_i e;split at hz
  rotate_left
  ·cases hz
  rename_i j3 kS ku h0 U h2;cases hb:(!(μ i j)&&(μ (fW j3) 22&&(μ (fW kS) 22&&μ (fW ku) 2)))<;>rw[hb] at hz
  ·cases hz
  simp only[ξc] at hb;obtain⟨cC,hs0,ei,k_⟩:=hb;have cC:=aad cC;refine⟨_,_,hz,eI bn ξv rfl,λA O w xs u hx hg hO hG hm=>?_⟩;obtain⟨b0,Sq,p0,k0,r0,o0⟩:=Bd hg h0;obtain⟨b1,vs1,p1,k1,r1,o1⟩:=Bd hg U;obtain⟨b2,vs2,p2,k2,r2,o2⟩:=Bd hg h2;obtain⟨x0,ys0,rfl,⟨b0',q0,e0⟩,x1,ys,rfl,⟨b1',q1,e1⟩,x2,nZ,rfl,⟨b2',q2,e2⟩,e3⟩:=hx;rw[p0] at q0;rw[p1] at q1;rw[p2] at q2;cases q0;cases q1;cases q2;cases e0;cases e1;cases e2;rw[show nZ=[] from e3,show u=_ from hm];have aN:b1≠b2:=λe=>hg.dj i j _ _ _ _ b1 cC U h2 p1 p2 rfl (by rw[e];rfl);refine(ai3 e k0 k1 k2 ((lV r0).trans (κ hs0)) ((lV r1).trans (κ ei)) ((lV r2).trans (κ k_)) (abA r0) aN).mono ?_;rintro en u' w' ⟨h3,h4,w1,f1,m1,f2,m2⟩;have E1:cW A O w eV [(i,some (.box 60 j3))] A O w1:=Fm hg hO U p1 f1 m1 (qN (f1.tr (lS o1)) (Pl.le.refl A) r0);have wL:=hg.cX hO E1;have wz:cK eV [(i,some (.box 60 j3))] j=some (.box 40 ku):=by
   rw[gC (λV hV=>cC (by simp at hV;exact hV.1.symm))];exact h2
  have E2:cW A O w1 (cK eV [(i,some (.box 60 j3))]) [(j,some (.box 40 [.v (.int .i64 e),.v (.int .u64 0)]))] A O w':=Fm wL E1.ob wz p2 f2 m2 ⟨[.int .i64 e],[.int .u64 0],rfl,⟨rfl,rfl⟩,[.int .u64 0],[],rfl,⟨rfl,rfl⟩,rfl⟩;exact⟨h3,h4,A,O,cW.two hg cC E1 E2 hO⟩
 ·cases hz
noncomputable def Jw:ay SS:= { G2 with D:=Fh::G2.D }
theorem afj:an Jw γ:=an.VT (c:=Fh) afh ai5
noncomputable def G3:ay SS:= { Jw with D:=Fg::Jw.D }
theorem afi:an G3 γ:=an.VT (c:=Fg) afj ai2
end Go.Proofs.YtoggponeookhbaaGreatDoor
end
section
namespace Go.Proofs
open Go.Shelf
def Tryz.Y1:Go.Shelf.Ren:=⟨λ|156=>252|165=>284|166=>285|169=>286|240=>303|241=>304|276=>314|277=>315|n=>n,λ|31=>192|9=>9|3=>3|4=>4|0=>0|20=>20|72=>321|76=>325|70=>319|37=>247|75=>324|127=>336|164=>345|5=>5|80=>327|n=>n,λ|n=>n⟩
theorem Tryz.YZ:ζl γ Tryz.Y1:= {
 mixed:=by kernel_rfl
 f156:=ξZ.trans (congrArg some (by kernel_rfl))
 f165:=Tryz.func284.trans (congrArg some (by kernel_rfl))
 f166:=Tryz.func285.trans (congrArg some (by kernel_rfl))
 f169:=Tryz.func286.trans (congrArg some (by kernel_rfl))
 f240:=Tryz.func303.trans (congrArg some (by kernel_rfl))
 f241:=Tryz.func304.trans (congrArg some (by kernel_rfl))
 f276:=Tryz.func314.trans (congrArg some (by kernel_rfl))
 f277:=Tryz.func315.trans (congrArg some (by kernel_rfl))
 t0:=Tryz.underlying0
 a0:=Tryz.isAgg0
 z0:=Tryz.sizeOf0
 v0:=Tryz.zeroValue0
 t3:=ξI
 a3:=Tryz.isAgg3
 z3:=Tryz.sizeOf3
 v3:=Tryz.zeroValue3
 t4:=Tryz.underlying4
 a4:=Tryz.isAgg4
 z4:=Tryz.sizeOf4
 v4:=Tryz.zeroValue4
 t9:=Tryz.underlying9
 a9:=Tryz.isAgg9
 z9:=Tryz.sizeOf9
 v9:=Tryz.zeroValue9
 t20:=Tryz.underlying20
 a20:=Tryz.isAgg20
 z20:=Tryz.sizeOf20
 v20:=Tryz.zeroValue20
 t31:=Tryz.underlying192
 a31:=Tryz.isAgg192
 z31:=Tryz.sizeOf192
 v31:=Tryz.zeroValue192
 t37:=Tryz.underlying247
 a37:=Tryz.isAgg247
 z37:=Tryz.sizeOf247
 v37:=Tryz.zeroValue247
 t70:=Tryz.underlying319
 a70:=Tryz.isAgg319
 z70:=Tryz.sizeOf319
 v70:=Tryz.zeroValue319
 t72:=Tryz.underlying321
 a72:=Tryz.isAgg321
 z72:=Tryz.sizeOf321
 v72:=Tryz.zeroValue321
 t75:=Tryz.underlying324
 a75:=Tryz.isAgg324
 z75:=Tryz.sizeOf324
 v75:=Tryz.zeroValue324
 t76:=Tryz.underlying325
 a76:=Tryz.isAgg325
 z76:=Tryz.sizeOf325
 v76:=Tryz.zeroValue325
 t127:=Tryz.underlying336
 a127:=Tryz.isAgg336
 z127:=Tryz.sizeOf336
 v127:=Tryz.zeroValue336
 t164:=Tryz.underlying345
 a164:=Tryz.isAgg345
 z164:=Tryz.sizeOf345
 v164:=Tryz.zeroValue345 }
theorem Tryz.SX:Builder.Extra γ Tryz.Y1:= {
 sizeBuilder:=by kernel_rfl
 liesBuilder:=by kernel_rfl
 t5:=Tryz.underlying5
 a5:=Tryz.isAgg5
 z5:=Tryz.sizeOf5
 v5:=Tryz.zeroValue5
 infoByte:=by kernel_rfl
 cellsByte:=by kernel_rfl
 sizeByte:=by kernel_rfl
 neB5:=by decide }
open Go.RowKit in
theorem Tryz.strings_Join_none (a:Option Addr) (c:Nat) (sep:ByteArray) (w:World):
 Calls γ 252 #[.slice a 0 c,.string sep] w λe w'=>e= .returned (.string ⟨#[]⟩)/\w'=w:=Any.strings_Join_none Tryz.YZ Tryz.SX a c sep w
open Go.RowKit in
theorem Tryz.strings_Join (bk o c:Nat) (xs:List ByteArray) (sep:ByteArray) (w:World) (pY: ∀(j:Nat) x,xs[j]? =some x->w.cell? ⟨bk,o+j,none⟩=some (.string x)) (zV:bk<w.heap.size) (hN:xs.length<=140737488355328) (zX:xs.length<=c) (hlen:(ζm (xs.map (·.data.toList)) sep.data.toList).length<=140737488355328):
 Calls γ 252 #[.slice (some ⟨bk,o,none⟩) xs.length c,.string sep] w λe w'=>e= .returned (.string ⟨(ζm (xs.map (·.data.toList)) sep.data.toList).toArray⟩)/\Below w.heap.size w w':=Any.strings_Join Tryz.YZ Tryz.SX bk o c xs sep w pY zV hN zX hlen
end Go.Proofs
end
section
namespace Go.Proofs.YtoggponeookhbaaGreatDoor
open Go.RowKit Go.Dc Go.Vx
def my (es:List ByteArray) (sep:ByteArray):ByteArray:=⟨(ζm (es.map (·.data.toList)) sep.data.toList).toArray⟩
theorem ash {w:World} {ad:Addr} {v:Value} (h:w.cell? ad=some v):ad.spot=none:=by
 unfold World.cell? at h;split at h
 ·split at h
  ·cases h
  ·rename_i hs;simpa using hs
 ·cases h
theorem aom {O:List Nat} {w:World} {v:Value} {es:List ByteArray} (sep:ByteArray) (hv:(Ty.slice Ty.str).is O w v es) (hN:es.length<=140737488355328) (hlen:(my es sep).size<=140737488355328):
  Calls γ 252 #[v,.string sep] w (λe w'=>e= .returned (.string (my es sep))/\Fr [] w w'):=by
 obtain⟨cs,⟨A,c,hc,hl,hx⟩,jJ⟩:=hv;subst hc;have jJ:v= .slice A es.length c:=jJ;subst jJ;cases es with
 |nil=>
  refine(Tryz.strings_Join_none A c sep w).mono ?_;rintro e w' ⟨rfl,rfl⟩;exact⟨rfl,Fr.refl _ _⟩
 |cons e0 es=>
  obtain⟨ad,u,hA,hb,ho,hr,he⟩:=hx 0 e0 rfl;subst hA;have hr:u=[.string e0]:=hr;subst hr;have h0:(ad.add (0*Ty.str.n)).add 0=ad:=by simp[Addr.add]
  have U:=he.1 0 (.string e0) rfl;rw[h0] at U;have hs:=ash U;obtain⟨b,o,sp⟩:=ad;have hs:sp=none:=hs;subst hs;refine(Tryz.strings_Join b o c (e0::es) sep w (λj x hj=>?_) hb hN hl.1 (by simpa[my,ByteArray.size] using hlen)).mono ?_
  ·obtain⟨EY,u,hA,_,_,hr,he⟩:=hx j x hj;cases hA;have hr:u=[.string x]:=hr;subst hr;have h2:=he.1 0 (.string x) rfl;have e1:((⟨b,o,none⟩:Addr).add (j*Ty.str.n)).add 0=⟨b,o+j,none⟩:=by
    rw[add_add,show j*Ty.str.n+0=j by show j*1+0=j;omega];unfold Addr.add;split<;>simp_all
   rw[e1] at h2;exact h2
  ·rintro e w' ⟨rfl,hB⟩;exact⟨rfl,hB.os,hB.tape,hB.output,hB.size,λk hk _=>hB.block k hk⟩
def Hx:bO SS:=⟨252,λxs k=>match xs with
 |[.one l,.one (.v (.string sep))]=>(match gr KK (λ_=>none) 9 l with
  |some es=>bif decide (List.length (α:=ByteArray) es<=140737488355328)&&decide ((my es sep).size<=140737488355328) then k (.ret (.s (.one (.v (.string (my es sep)))))) else none
  |none=>none)
 |_=>none⟩
theorem aon {R:Type} (xs:List (aD SS)) (k:Rs SS->Option R) (z:R) (nM:xs.all aD.pure=true) (hz:Hx.out xs k=some z): ∃r,k r=some z/\gH KK γ 252 xs r:=by
 clear nM;simp only[Hx] at hz;split at hz
 rotate_left
 ·cases hz
 rename_i l sep;split at hz
 rotate_left
 ·cases hz
 rename_i es Oy;rcases oq hz with⟨hc,hz⟩|⟨_,hz⟩
 rotate_left
 ·cases hz
 simp only[ξc,decide_eq_true_eq] at hc;refine⟨_,hz,eI bn ξZ rfl,λA O w vs hv hO hG=>?_⟩;obtain⟨y,ys,rfl,U,y2,nZ,rfl,⟨h2,_⟩,h3⟩:=hv;cases h2;rw[show nZ=[] from h3];have hg:cv A O w (λ_=>(none:Option (Ob SS))):=⟨(λi X h=>nomatch h),(λi j X Y p q b _ h=>nomatch h)⟩;have hd:=pI eP hg Oy U;refine(aom sep hd hc.1 hc.2).mono ?_;rintro e w' ⟨rfl,hF⟩;exact⟨⟨_,rfl,rfl,rfl⟩,hF⟩
noncomputable def G4:ay SS:= { G3 with C:=Hx::G3.C }
theorem afk:an G4 γ:=an.l_ (c:=Hx) afi aon
end Go.Proofs.YtoggponeookhbaaGreatDoor
end
section
namespace Go.Dc
open Go.RowKit
def sG (k:IntKind):Ty (Int×Value) where
 agg:=true
 n:=2
 rep _ _ cs x:=cs=[.int k x.1,x.2]/\ ∃A n c,x.2= .slice A n c
 tr _ h:=h
 len:=λ⟨h,_⟩=>by rw[h];rfl
 one:=λ⟨h,A,n,c,h2⟩ u hu=>by
  rw[h,h2] at hu;simp only[ξx,ξl,or_false] at hu;rcases hu with rfl|rfl<;>rfl
 jS h:=by cases h
theorem Re (k:IntKind):(sG k).Flat:=λh=>h
structure ey {α:Type} (T:Ty α) (e B:Nat) (w:World) (v:Value) (xs:List α):Prop where
 ex: ∃cs,w.ownsRow B e T.n v xs.length cs/\cz T [] w cs xs
section
variable {α:Type} {T:Ty α} {e B:Nat} {O O':List Nat} {w w':World} {v:Value} {xs:List α}
theorem Own.oz (h:Own T e B O w v xs):ey T e B w v xs:=by
 obtain⟨cs,U,h2⟩:=h.ex;exact⟨cs,U,h2.tr (Tr.less (aso _))⟩
theorem ey.own (hT:T.Flat) (h:ey T e B w v xs) (hO: ∀g,v.ownBlock=some g->g∈O):Own T e B O w v xs:=by
 obtain⟨cs,U,h2⟩:=h.ex;exact⟨⟨cs,U,Iu hT h2⟩,hO⟩
theorem ey.lt (h:ey T e B w v xs): ∀g,v.ownBlock=some g->B<=g/\g<w.heap.size:=by
 obtain⟨cs,U,_⟩:=h.ex;exact U.lt
theorem ey.keep (hT:T.Flat) (h:ey T e B w v xs) (hk: ∀g,v.ownBlock=some g->w'.heap[g]? =w.heap[g]?):ey T e B w' v xs:=by
 obtain⟨cs,⟨h0,U⟩,h2⟩:=h.ex;refine⟨cs,⟨h0,?_⟩,Iu hT h2⟩;rcases U with U|⟨g,cap,cur,hv,hg,hh,r⟩
 ·exact .inl U
 ·refine .inr ⟨g,cap,cur,hv,hg,?_,r⟩;rw[hk g (by rw[hv];rfl)];exact hh
theorem ey.c7 (hT:T.Flat) (h:ey T e B w v xs) (hf:Fr [] w w'):ey T e B w' v xs:=h.keep hT λg hg=>hf.block g (h.lt g hg).2 (by simp)
theorem ey.less {B':Nat} (h:ey T e B w v xs) (hb:B'<=B):ey T e B' w v xs:=by
 obtain⟨cs,⟨h0,U⟩,h2⟩:=h.ex;refine⟨cs,⟨h0,?_⟩,h2⟩;rcases U with U|⟨g,cap,cur,hv,hg,r⟩
 ·exact .inl U
 ·exact .inr ⟨g,cap,cur,hv,ξW hb hg,r⟩
theorem ey.form (h:ey T e B w v xs): ∃A c,v= .slice A xs.length c/\xs.length<=c/\c<=maxLen:=by
 obtain⟨cs,⟨_,U⟩,_⟩:=h.ex;rcases U with⟨rfl,h2⟩|⟨g,cap,cur,rfl,_,_,h3,h4,_⟩
 ·exact⟨none,0,by rw[h2],by omega,by unfold maxLen;omega⟩
 ·exact⟨_,cap,rfl,h3,h4⟩
theorem ey.data (hT:T.Flat) (h:ey T e B w v xs) (hn: ∀g,v.ownBlock=some g->g∉O):T.slice.is O w v xs:=by
 obtain⟨cs,⟨h0,U⟩,h2⟩:=h.ex;rcases U with⟨rfl,hl⟩|⟨g,cap,cur,rfl,hg,hh,h3,h4,h5,h6⟩
 ·have:xs=[]:=ξe hl;subst this;exact lX _ _ _
 ·have wz:cz T O w cs xs:=Iu hT h2;exact RY hh (hn g rfl) wz (by rw[wz.len];exact h6) h3 h4
theorem ey.oT:ey T e B w (.slice none 0 0) []:=⟨[],World.ownsRow_nil w B e T.n,rfl⟩
end
def SP.oz {α:Type} (T:Ty α) (hT:T.Flat) (e B:Nat) (xs:List α):SP:=⟨λw v=>ey T e B w v xs,λhf h=>h.c7 hT hf⟩
theorem WN {α:Type} {T:Ty α} {e B:Nat} {O:List Nat} {w w':World} {zs:List α} {en:Ending} (hB:w.heap.size=B) (h:ig T e B O w (.slice none 0 0) zs en w'):ll (λ_ w v zs=>ey T e B w v zs) O w zs en w':=by
 subst hB;obtain⟨v',O',he,ap⟩:=h;exact⟨v',he,ap.own.oz,ap.c7 Own.oT (Fr.refl [] w)⟩
def eD {β:Type} (T:Ty β) (e B:Nat) (w:World):List Nat->List (Int×Value)->List (Int×List β)->Prop
 |S,[],[]=>S=[]
 |S,x::r,y::r'=> ∃S2,x.1=y.1/\S=x.2.ownBlock.toList++S2/\ey T e B w x.2 y.2/\eD T e B w S2 r r'
 |_,_,_=>False
section
variable {β:Type} {T:Ty β} {e B:Nat} {w w':World}
theorem eD.keep (hT:T.Flat): ∀ {S:List Nat} {rs:List (Int×Value)} {xs:List (Int×List β)},eD T e B w S rs xs->(∀g∈S,w'.heap[g]? =w.heap[g]?)->eD T e B w' S rs xs
 |_,[],[],h,_=>h
 |_,_::_,_::_,⟨S2,U,h2,h3,h4⟩,hk=>by
  subst h2;exact⟨S2,U,rfl,h3.keep hT λg hg=>hk g (ξg _ (by rw[hg];simp)),eD.keep hT h4 λg hg=>hk g (υ _ hg)⟩
 |_,[],_::_,h,_=>h.elim
 |_,_::_,[],h,_=>h.elim
theorem eD.lt: ∀ {S:List Nat} {rs:List (Int×Value)} {xs:List (Int×List β)},eD T e B w S rs xs-> ∀g∈S,B<=g/\g<w.heap.size
 |_,[],[],h,g,hg=>by rw[show _=[] from h] at hg;cases hg
 |_,_::_,_::_,⟨S2,U,h2,h3,h4⟩,g,hg=>by
  subst h2;rcases ξh.1 hg with hg|hg
  ·exact h3.lt g (by simpa using hg)
  ·exact eD.lt h4 g hg
 |_,[],_::_,h,_,_=>h.elim
 |_,_::_,[],h,_,_=>h.elim
theorem eD.c7 (hT:T.Flat) {S:List Nat} {rs:List (Int×Value)} {xs:List (Int×List β)} (h:eD T e B w S rs xs) (hf:Fr [] w w'):eD T e B w' S rs xs:=h.keep hT λg hg=>hf.block g (h.lt g hg).2 (by simp)
theorem eD.len: ∀ {S:List Nat} {rs:List (Int×Value)} {xs:List (Int×List β)},eD T e B w S rs xs->rs.length=xs.length
 |_,[],[],_=>rfl
 |_,_::_,_::_,⟨_,_,_,_,h4⟩=>by simp[eD.len h4]
 |_,[],_::_,h=>h.elim
 |_,_::_,[],h=>h.elim
theorem eD.app: ∀ {S S':List Nat} {rs uR:List (Int×Value)} {xs ki:List (Int×List β)},eD T e B w S rs xs->eD T e B w S' uR ki->eD T e B w (S++S') (rs++uR) (xs++ki)
 |_,_,[],_,[],_,h,k=>by rw[show _=[] from h];exact k
 |_,_,_::_,_,_::_,_,⟨S2,U,h2,h3,h4⟩,k=>by subst h2;exact⟨S2++_,U,by simp,h3,eD.app h4 k⟩
 |_,_,[],_,_::_,_,h,_=>h.elim
 |_,_,_::_,_,[],_,h,_=>h.elim
theorem eD.at_: ∀ {S:List Nat} {rs:List (Int×Value)} {xs:List (Int×List β)} {j:Nat} {x:Int×List β},eD T e B w S rs xs->xs[j]? =some x->
  ∃v S1 S2,rs[j]? =some (x.1,v)/\S=S1++v.ownBlock.toList++S2/\ey T e B w v x.2/\
   ∀ {w':World} {v':Value} {ys:List β},(∀g∈S1++S2,w'.heap[g]? =w.heap[g]?)->T.Flat->ey T e B w' v' ys->eD T e B w' (S1++v'.ownBlock.toList++S2) (rs.set j (x.1,v')) (xs.set j (x.1,ys))
 |_,[],[],_,_,_,hj=>by simp at hj
 |_,r::rs,y::xs,0,x,⟨S2,U,h2,h3,h4⟩,hj=>by
  simp at hj;subst hj;refine⟨r.2,[],S2,by simp[<-U],by simpa using h2,h3,λ{w' v' ys} hk hT hf=>?_⟩;exact⟨S2,rfl,by simp,hf,h4.keep hT λg hg=>hk g (by simpa using hg)⟩
 |_,r::rs,y::xs,j+1,x,⟨S2,U,h2,h3,h4⟩,hj=>by
  obtain⟨v,U1,U2,e1,e2,e3,e4⟩:=eD.at_ h4 (by simpa using hj);refine⟨v,r.2.ownBlock.toList++U1,U2,by simpa using e1,by rw[h2,e2];simp,e3,λ{w' v' ys} hk hT hf=>?_⟩;exact⟨U1++v'.ownBlock.toList++U2,U,by simp,h3.keep hT λg hg=>hk g (by simp[hg]),e4 (λg hg=>hk g (by simp at hg ⊢;exact .inr hg)) hT hf⟩
 |_,[],_::_,_,_,h,_=>h.elim
 |_,_::_,[],_,_,_,hj=>by simp at hj
theorem eD.ins: ∀ {S:List Nat} {rs:List (Int×Value)} {xs:List (Int×List β)} (j:Nat) (p:Int),j<=rs.length->eD T e B w S rs xs->eD T e B w S (rs.take j++[(p,.slice none 0 0)]++rs.drop j) (xs.take j++[(p,[])]++xs.drop j)
 |S,rs,xs,0,p,_,h=>by
  simp only[List.take_zero,List.nil_append,ξQ,List.singleton_append];exact⟨S,rfl,rfl,ey.oT,h⟩
 |_,r::rs,y::xs,j+1,p,hj,⟨S2,U,h2,h3,h4⟩=>by
  simp only[List.take_succ_cons,List.drop_succ_cons,List.cons_append];exact⟨S2,U,h2,h3,eD.ins j p (by simpa using hj) h4⟩
 |_,[],_,j+1,p,hj,_=>by simp at hj
 |_,_::_,[],j+1,p,_,h=>h.elim
end
end Go.Dc
end
section
namespace Go.Proofs.YtoggponeookhbaaGreatDoor
open Go.RowKit Go.Dc Go.Vx
def wU (xs:List aj) (j:Int) (ys:List aj):Option (List aj):=m7 24 xs j ys
def wV (xs:List az) (j:Int) (ys:List az):Option (List az):=m7 16 xs j ys
def uv (xs:List ai) (j:Int) (ys:List ai):Option (List ai):=m7 32 xs j ys
def IG (xs:List (Int×Value)) (j:Int) (ys:List (Int×Value)):Option (List (Int×Value)):=m7 32 xs j ys
set_option maxRecDepth 100000 in
set_option maxHeartbeats 12000000 in
theorem Hv:(∀ {O:List Nat} {w:World},OB O w-> ∀ {B:Nat},B<=w.heap.size-> ∀ {v:Value} {xs:List aj},Go.Dc.Own nX 105 B O w v xs-> ∀ {v1:Value} {j:Int},(Ty.int .i64).is O w v1 j-> ∀ {u:Value} {ys:List aj},(Ty.slice nX).is O w u ys->Plain w u-> ∀ {zs:List aj},wU xs j ys=some zs->let T:Ty aj:=nX;let e:Nat:=105;let S:Nat:=3;Calls γ 212 #[v,v1,u] w (ig T e B O w v zs))/\(∀ {O:List Nat} {w:World},OB O w-> ∀ {B:Nat},B<=w.heap.size-> ∀ {v:Value} {xs:List az},Go.Dc.Own gi 127 B O w v xs-> ∀ {v1:Value} {j:Int},(Ty.int .i64).is O w v1 j-> ∀ {u:Value} {ys:List az},(Ty.slice gi).is O w u ys->Plain w u-> ∀ {zs:List az},wV xs j ys=some zs->let T:Ty az:=gi;let e:Nat:=127;let S:Nat:=2;Calls γ 222 #[v,v1,u] w (ig T e B O w v zs))/\(∀ {O:List Nat} {w:World},OB O w-> ∀ {B:Nat},B<=w.heap.size-> ∀ {v:Value} {xs:List ai},Go.Dc.Own lY 115 B O w v xs-> ∀ {v1:Value} {j:Int},(Ty.int .i64).is O w v1 j-> ∀ {u:Value} {ys:List ai},(Ty.slice lY).is O w u ys->Plain w u-> ∀ {zs:List ai},uv xs j ys=some zs->let T:Ty ai:=lY;let e:Nat:=115;let S:Nat:=4;Calls γ 259 #[v,v1,u] w (ig T e B O w v zs))/\(∀ {O:List Nat} {w:World},OB O w-> ∀ {B:Nat},B<=w.heap.size-> ∀ {v:Value} {xs:List (Int×Value)},Go.Dc.Own (sG .u64) 132 B O w v xs-> ∀ {v1:Value} {j:Int},(Ty.int .i64).is O w v1 j-> ∀ {u:Value} {ys:List (Int×Value)},(Ty.slice (sG .u64)).is O w u ys->Plain w u-> ∀ {zs:List (Int×Value)},IG xs j ys=some zs->let T:Ty (Int×Value):=(sG .u64);let e:Nat:=132;let S:Nat:=2;Calls γ 293 #[v,v1,u] w (ig T e B O w v zs)):=by
 refine⟨?_,?_,?_,?_⟩
 all_goals
  intro O w hO B hB v xs hv v1 j U u ys hu hp zs hz T e S;obtain rfl:=fk.1 U;obtain⟨hj0,hj1,bz,rfl⟩:=YJ hz;obtain⟨k,rfl⟩: ∃k:Nat,j=k:=⟨j.toNat,by omega⟩;simp only[ξD] at*
  have qn:k<=xs.length:=by omega
  obtain⟨A,c,rfl,fI,mR⟩:=hv.form;obtain⟨Au,cu,rfl,Yc,hmm⟩:=iJ hu;refine lC (args:=[.slice A xs.length c,.int .i64 k,.slice Au ys.length cu]) (N:=95) (by first|exact ζ0|exact ζ1|exact ζ2|exact Tryz.func293) rfl rfl rfl ?_;refine aS ?_;refine bl (l:=[0]) rfl ?_;refine aK ak [0] [(0,.slice A xs.length c),(1,.int .i64 k),(2,.slice Au ys.length cu)] rfl ⟨rfl,rfl,rfl,trivial⟩ ?_;refine bc ?_;refine aT ?_;refine aS ?_;refine bl (l:=[0,1,2]) rfl ?_;refine aK ak [0,1] [(0,.slice A xs.length c),(1,.int .i64 k),(2,.slice Au ys.length cu),(10,.slice A xs.length c),(11,.int .i64 k)] rfl ⟨rfl,rfl,rfl,rfl,rfl,trivial⟩ ?_;refine BS ak rfl rfl rfl rfl rfl rfl rfl rfl rfl rfl fI qn ?_;refine bc ?_;refine aT ?_;refine aS ?_;refine bl (l:=[0,1,2]) rfl ?_;refine aK ak [0,1,2] [(0,.slice A xs.length c),(1,.int .i64 k),(2,.slice Au ys.length cu),(7,.int .i64 (ys.length:Int))] rfl ⟨rfl,rfl,rfl,rfl,trivial⟩ ?_;refine bc ?_;refine aT ?_;refine aS ?_;refine aS ?_;refine bl (l:=[0,1]) rfl ?_;refine aK ak [0,1] [(0,.slice A xs.length c),(1,.int .i64 k),(2,.slice Au ys.length cu),(7,.int .i64 (ys.length:Int)),(16,.bool ((ys.length:Int)==0))] rfl ⟨rfl,rfl,rfl,rfl,rfl,trivial⟩ ?_;refine bc ?_;refine aT ?_
  by_cases OU:ys.length=0
  ·have ej:ys=[]:=ξe OU;refine jV rfl (by simp[OU]) ?_;refine aS ?_;refine bl (l:=[0,1]) rfl ?_;refine aK ak [0,1] [(6,.slice A xs.length c)] rfl ⟨rfl,trivial⟩ ?_;refine bc ?_;refine aT ?_;refine fz ?_;refine jW (iL rfl ⟨_,O,rfl,?_⟩);have e:xs.take k++ys++xs.drop k=xs:=by rw[ej];simp
   rw[e];exact⟨hv,Tr.refl _ _,hO,Sub.refl _,λ_ _ _=>rfl,λ_ _ h=>h⟩
  refine ke rfl (beq_eq_false_iff_ne.2 (by omega)) ?_;refine gW ?_;refine aT ?_;refine aS ?_;refine bl (l:=[0,1,2]) rfl ?_;refine aK ak [0,1,2] [(0,.slice A xs.length c),(1,.int .i64 k),(2,.slice Au ys.length cu),(7,.int .i64 (ys.length:Int)),(8,.int .i64 (xs.length:Int))] rfl ⟨rfl,rfl,rfl,rfl,rfl,trivial⟩ ?_;refine bc ?_;refine aT ?_;refine aS ?_;refine aS ?_;refine bl (l:=[0,1,2]) rfl ?_;refine aK ak [0,1,2] [(0,.slice A xs.length c),(1,.int .i64 k),(2,.slice Au ys.length cu),(7,.int .i64 (ys.length:Int)),(8,.int .i64 (xs.length:Int)),(22,.bool ((k:Int)==(xs.length:Int)))] rfl ⟨rfl,rfl,rfl,rfl,rfl,rfl,trivial⟩ ?_;refine bc ?_;refine aT ?_
  by_cases X5:k=xs.length
  ·refine jV rfl (by simp[X5]) ?_;refine aS ?_;refine bl (l:=[0,1,2,3]) rfl ?_;refine aK ak [0,1] [(23,.slice A xs.length c),(24,.slice Au ys.length cu)] rfl ⟨rfl,rfl,trivial⟩ ?_;refine adD ak rfl rfl rfl rfl rfl rfl rfl rfl rfl (by decide) rfl (by decide) rfl rfl hB hO hv hu (by simp only[ξT] at bz ⊢;omega) (λv' w' O' jB=>?_);refine aK ak [3] [(6,v')] rfl ⟨rfl,trivial⟩ ?_;refine bc ?_;refine aT ?_;refine fz ?_;refine jW (iL rfl ⟨_,O',rfl,?_⟩);have e:xs.take k++ys++xs.drop k=xs++ys:=by subst X5;simp
   rw[e];exact jB
  refine ke rfl (by simp;omega) ?_;refine gW ?_;refine aT ?_;obtain⟨cs,⟨bN,jl⟩,fK⟩:=hv.ex;rcases jl with⟨_,oI⟩|⟨g,c2,cur,jl,jA,hh,mo,tR,fi,lJ⟩
  ·omega
  injection jl with hA qu j5;subst hA;subst j5;have gZ:=hv.mem g rfl;cases Au with
  |none=>exact absurd (II hu) (λh=>OU (by rw[h];rfl))
  |some ad=>
  obtain⟨au3,cu',tu,OK⟩:=hp ad _ _ rfl;obtain⟨_,us,jk,mT⟩:=BE hu;have fp:us.length=ys.length*S:=jk.len;have bN:cs.length=xs.length*S:=bN;have hT:T.n=S:=rfl;rw[hT] at fi lJ;have Xu:ad.block≠g:=by
   intro e;obtain⟨y,hy⟩: ∃y,ys[0]? =some y:=⟨_,List.getElem?_eq_getElem (by omega)⟩;obtain⟨EY,e',ua⟩:=RX hu hy;cases e';obtain⟨_,⟨_,_,Oa,_,j8,_⟩,j5⟩:=ua;subst Oa;have j5:Value.pointer (some (ad.add (0*T.n)))= .pointer (some _):=j5;injection j5 with j5;injection j5 with j5;rw[<-j5,mI,e] at j8;exact j8 gZ
  have pY: ∀j,w.cell? ⟨g,j,none⟩=cur[j]? :=λj=>cell_of_row w g j cur e (0,0) hh;have am7: ∀j x,cs[j]? =some x->cur.toList[j]? =some x:=λj x hx=>by
   rw[<-lJ,ξz] at hx;split at hx
   ·exact hx
   ·cases hx
  have Oh: ∀q,fP w ⟨g,q,none⟩ (cs.drop q):=λq j x hx=>by
   rw[jf,pY,<-Array.getElem?_toList];rw[List.getElem?_drop] at hx;exact am7 _ x hx
  have hkS:k*S<=xs.length*S:=ξ4 _ qn;have auB:xs.length*S<=c*S:=ξ4 _ mo;have oJ: ∀x∈cs,x.oneCell'=true:=fK.one;refine aS ?_;refine aS ?_;refine bl (l:=[0,1,2,3,4,5]) rfl ?_;have Ps:ε.wrap ((xs.length:Int)+(ys.length:Int))=((xs.length+ys.length:Nat):Int):=by
   rw[ξf];unfold maxLen at*;omega
  refine aK ak [0,1,2,3,4,5] [(0,.slice (some ⟨g,0,none⟩) xs.length c),(1,.int .i64 k),(2,.slice (some ad) ys.length cu),(7,.int .i64 (ys.length:Int)),(8,.int .i64 (xs.length:Int)),(31,.bool (decide (ε.wrap ((xs.length:Int)+(ys.length:Int))>(c:Int))))] rfl ⟨rfl,rfl,rfl,rfl,rfl,rfl,trivial⟩ ?_;refine bc ?_;refine aT ?_;rw[Ps]
  by_cases auF:c<xs.length+ys.length
  ·refine jV rfl (by simp;omega) ?_;refine aS ?_;refine bl (l:=[0,1,2,3,4,5,6,7,8,9]) rfl ?_;refine aK ak [0,1] [(0,.slice (some ⟨g,0,none⟩) xs.length c),(1,.int .i64 k),(2,.slice (some ad) ys.length cu),(7,.int .i64 (ys.length:Int)),(8,.int .i64 (xs.length:Int)),(32,.slice (some ⟨g,0,none⟩) xs.length c),(33,.int .i64 k)] rfl ⟨rfl,rfl,rfl,rfl,rfl,rfl,rfl,trivial⟩ ?_;refine SB ak rfl rfl rfl rfl rfl rfl rfl rfl rfl rfl mo (by omega) ?_;refine aK ak [3,4,5,6,7] [(0,.slice (some ⟨g,0,none⟩) xs.length c),(1,.int .i64 k),(2,.slice (some ad) ys.length cu),(7,.int .i64 (ys.length:Int)),(34,.slice (some ⟨g,0,none⟩) k c),(39,.int .i64 (ε.wrap (ε.wrap ((xs.length:Int)+(ys.length:Int))-(k:Int))))] rfl ⟨rfl,rfl,rfl,rfl,rfl,rfl,trivial⟩ ?_;have mw:ε.wrap (ε.wrap ((xs.length:Int)+(ys.length:Int))-(k:Int))=((xs.length+ys.length-k:Nat):Int):=by
    rw[Ps,ξf];unfold maxLen at*;omega
   rw[mw];have iB:(cs.take (k*S)).length=k*S:=by rw[ξ6];omega
   refine aue ak rfl rfl rfl rfl rfl rfl rfl rfl rfl rfl rfl rfl rfl (us:=cs.take (k*S)) (λj x hx=>by
    rw[ξz] at hx;split at hx
    ·have:=Oh 0 j x (by simpa using hx);exact this
    ·cases hx) iB (by omega) (by omega) (by simp only[ξT] at bz ⊢;omega) rfl ?_
   have Yg:k+(xs.length+ys.length-k)=xs.length+ys.length:=by omega
   rw[Yg];generalize hC:grownCap w (xs.length+ys.length) c e=C;have No:xs.length+ys.length<=C:=by rw[<-hC];exact grownCap_ge _ _ _ _
   have hCm:C<=maxLen:=by rw[<-hC];exact grownCap_le_maxLen _ _ _ _ (by unfold maxLen at*;omega)
   have hCS:(xs.length+ys.length)*S<=C*S:=ξ4 _ No;refine aK ak [9] [(0,.slice (some ⟨g,0,none⟩) xs.length c),(1,.int .i64 k),(2,.slice (some ad) ys.length cu),(7,.int .i64 (ys.length:Int)),(9,.slice (some ⟨w.heap.size,0,none⟩) (xs.length+ys.length) C)] rfl ⟨rfl,rfl,rfl,rfl,rfl,trivial⟩ ?_;refine bc ?_;refine aT ?_;obtain⟨Z,zJ,Nu⟩:=arA (cs:=cs.take (k*S)) (xs.length+ys.length-k) (C-(xs.length+ys.length)) (by first|exact(show(ξw (.agg #[(.int .u64 0),(.int .i64 0),(.int .u64 0)])).size=S from(λ(_:e=105)=>rfl) rfl)|exact(show(ξw (.agg #[(.int .u64 0),(.int .u64 0)])).size=S from(λ(_:e=127)=>rfl) rfl)|exact(show(ξw (.agg #[(.int .u64 0),(.int .u64 0),(.bool false),(.int .u64 0)])).size=S from(λ(_:e=115)=>rfl) rfl)|exact(show(ξw (.agg #[.int .u64 0,.slice none 0 0])).size=S from(λ(_:e=132)=>rfl) rfl));rw[show xs.length+ys.length-k+(C-(xs.length+ys.length))=C-k by omega] at Nu;generalize (cs.take (k*S)).toArray++ξG _ (xs.length+ys.length-k)++ξG _ (C-(xs.length+ys.length))=row at*
   have hCk:(C-k)*S+k*S=C*S:=by rw[<-ξ3];congr 1;omega
   have au1:row.size=C*S:=by rw[<-τ,zJ,ζ,Nu,iB];omega
   have r9:=qF (O:=O) (w:=w.drew) hO e row.toList;simp only[Array.toArray_toList] at r9;generalize kG:w.drew.alloc (.cells row e)=w1 at*
   have Nq:w1.heap[w.heap.size]? =some (.cells row e (0,0)):=by have:=r9.cf;unfold ck at this;simpa using this
   have rT:Fr [] w w1:=(Fr.drew [] w).trans r9.fr;have Pk:(xs.length+ys.length)*S=k*S+ys.length*S+(xs.length-k)*S:=by rw[<-ξ3,<-ξ3];congr 1;omega
   have X4:(k+ys.length)*S=k*S+ys.length*S:=ξ3 _ _ _;have ant:(xs.length-k)*S+k*S=xs.length*S:=by rw[<-ξ3];congr 1;omega
   refine aS ?_;refine bl (l:=[0,1,2,3,4]) rfl ?_;refine aK ak [0,1] [(0,.slice (some ⟨g,0,none⟩) xs.length c),(1,.int .i64 k),(2,.slice (some ad) ys.length cu),(7,.int .i64 (ys.length:Int)),(9,.slice (some ⟨w.heap.size,0,none⟩) (xs.length+ys.length) C),(41,.slice (some ⟨w.heap.size,0,none⟩) (xs.length+ys.length) C),(42,.int .i64 k)] rfl ⟨rfl,rfl,rfl,rfl,rfl,rfl,rfl,trivial⟩ ?_;refine BS ak rfl rfl rfl rfl rfl rfl rfl rfl rfl rfl No (by omega) ?_;rw[if_neg (by omega),χ,jf,ξ7];refine aK ak [3] [(0,.slice (some ⟨g,0,none⟩) xs.length c),(1,.int .i64 k),(7,.int .i64 (ys.length:Int)),(9,.slice (some ⟨w.heap.size,0,none⟩) (xs.length+ys.length) C),(43,.slice (some ⟨w.heap.size,k*S,none⟩) (xs.length+ys.length-k) (C-k)),(44,.slice (some ad) ys.length cu)] rfl ⟨rfl,rfl,rfl,rfl,rfl,rfl,trivial⟩ ?_;have N8:ad.block<w.heap.size:=(ι.1 OK).1;refine SA ak rfl rfl rfl rfl rfl rfl rfl rfl rfl rfl Nq (mT.keep (rT.block _ N8 (by simp))) fp jk.one (by omega) (by omega) (λz=>?_);rw[zJ,ξ8 iB];generalize eN:(cs.take (k*S)++us++ξN (k*S+us.length) (cs.take (k*S)++Z)).toArray=uQ;obtain⟨Z2,Xq,Xr⟩: ∃Z2:List Value,uQ.toList=cs.take (k*S)++us++Z2/\Z2.length=C*S-(k*S+ys.length*S):=by
    refine⟨_,by rw[<-eN],?_⟩;simp only[ρ,ζ,iB,Nu,fp];omega
   clear eN;have wK:=qS (new:=uQ) Nq;have Xd:(w1.setRow w.heap.size uQ).heap[w.heap.size]? =some (.cells uQ e (0,0)):=setRow_heap w1 _ _ _ _ _ Nq;generalize au4:w1.setRow w.heap.size uQ=w2 at*
   have rN:Fr [] w w2:=rT.own wK (ξ2 _);refine bc ?_;refine aT ?_;refine aS ?_;have sg:ε.wrap ((k:Int)+(ys.length:Int))=((k+ys.length:Nat):Int):=by rw[ξf];unfold maxLen at*;omega
   refine I1 mixed [⟨46,[],[9]⟩,⟨47,[],[1]⟩,⟨48,[],[7]⟩,⟨49,[1,2],[]⟩,⟨50,[0,3],[]⟩,⟨51,[],[0]⟩,⟨52,[],[1]⟩,⟨53,[5,6],[]⟩] [SP.eq (.slice (some ⟨w.heap.size,0,none⟩) (xs.length+ys.length) C),SP.eq (.int .i64 k),SP.eq (.int .i64 (ys.length:Int)),SP.eq (.int .i64 (ε.wrap ((k:Int)+(ys.length:Int)))),SP.eq (.slice (some ⟨w.heap.size,(k+ys.length)*S,none⟩) (xs.length-k) (C-(k+ys.length))),SP.eq (.slice (some ⟨g,0,none⟩) xs.length c),SP.eq (.int .i64 k),SP.eq (.slice (some ⟨g,k*S,none⟩) (xs.length-k) (c-k))] rfl rfl rfl rfl ⟨?_,?_,?_,?_,?_,?_,?_,?_,trivial⟩ ?_
   ·intro a w3 bY hN aY hb hd;exact eu ak ⟨hN,aY,cJ (E:=[(9,.slice (some ⟨w.heap.size,0,none⟩) (xs.length+ys.length) C)]) ⟨hb 9 rfl _ rfl,trivial⟩⟩ rfl rfl rfl rfl rfl
   ·intro a w3 bY hN aY hb hd;exact eu ak ⟨hN,aY,cJ (E:=[(1,.int .i64 k)]) ⟨hb 1 rfl _ rfl,trivial⟩⟩ rfl rfl rfl rfl rfl
   ·intro a w3 bY hN aY hb hd;exact eu ak ⟨hN,aY,cJ (E:=[(7,.int .i64 (ys.length:Int))]) ⟨hb 7 rfl _ rfl,trivial⟩⟩ rfl rfl rfl rfl rfl
   ·intro a w3 bY hN aY hb hd;exact eu ak ⟨hN,aY,cJ (E:=[(47,.int .i64 k),(48,.int .i64 (ys.length:Int))]) ⟨(hd 1 rfl _ _ rfl rfl),(hd 2 rfl _ _ rfl rfl),trivial⟩⟩ rfl rfl rfl rfl rfl
   ·intro a w3 bY hN aY hb hd;have h49:a.tmps.getD 49 undef= .int .i64 ((k+ys.length:Nat):Int):=by rw[<-sg];exact hd 3 rfl _ _ rfl rfl
    refine(Be ak ⟨hN,aY,cJ (E:=[(46,.slice (some ⟨w.heap.size,0,none⟩) (xs.length+ys.length) C),(49,.int .i64 ((k+ys.length:Nat):Int))]) ⟨(hd 0 rfl _ _ rfl rfl),h49,trivial⟩⟩ rfl rfl rfl rfl rfl rfl rfl rfl rfl No (by omega)).weaken (λu w4 ⟨hu,hf⟩=>⟨?_,hf⟩);rw[hu,if_neg (by omega),χ,jf,ξ7,show xs.length+ys.length-(k+ys.length)=xs.length-k by omega];rfl
   ·intro a w3 bY hN aY hb hd;exact eu ak ⟨hN,aY,cJ (E:=[(0,.slice (some ⟨g,0,none⟩) xs.length c)]) ⟨hb 0 rfl _ rfl,trivial⟩⟩ rfl rfl rfl rfl rfl
   ·intro a w3 bY hN aY hb hd;exact eu ak ⟨hN,aY,cJ (E:=[(1,.int .i64 k)]) ⟨hb 1 rfl _ rfl,trivial⟩⟩ rfl rfl rfl rfl rfl
   ·intro a w3 bY hN aY hb hd;refine(Be ak ⟨hN,aY,cJ (E:=[(51,.slice (some ⟨g,0,none⟩) xs.length c),(52,.int .i64 k)]) ⟨(hd 5 rfl _ _ rfl rfl),(hd 6 rfl _ _ rfl rfl),trivial⟩⟩ rfl rfl rfl rfl rfl rfl rfl rfl rfl mo qn).weaken (λu w4 ⟨hu,hf⟩=>⟨?_,hf⟩);rw[hu,if_neg (by omega),χ,jf,ξ7];rfl
   intro a w3 f3 hN aY hb hr;have tJ:w3.heap[w.heap.size]? =some (.cells uQ e (0,0)):=(f3.block _ (ι.1 Xd).1 (by simp)).trans Xd;have W_:Fr [] w w3:=rN.trans f3;refine BT (E:=[(9,.slice (some ⟨w.heap.size,0,none⟩) (xs.length+ys.length) C),(50,.slice (some ⟨w.heap.size,(k+ys.length)*S,none⟩) (xs.length-k) (C-(k+ys.length))),(53,.slice (some ⟨g,k*S,none⟩) (xs.length-k) (c-k))]) (l:=[8]) hN aY ⟨hb 9 _ rfl rfl,(hr 4 _ _ rfl rfl),(hr 7 _ _ rfl rfl),trivial⟩ rfl ?_;have qd:g<w.heap.size:=(ι.1 hh).1;have auW:uQ.size=C*S:=by rw[<-τ,Xq,ζ,ζ,iB,fp,Xr];omega
   have fT:(cs.drop (k*S)).length=(xs.length-k)*S:=by rw[ρ];omega
   refine SA ak rfl rfl rfl rfl rfl rfl rfl rfl rfl rfl tJ ((Oh (k*S)).keep (W_.block _ qd (by simp))) fT (λu hu=>oJ u (ξs hu)) (ξ2 _) (by omega) (λz=>?_);rw[Xq,ξ8 (by rw[ζ,iB,fp,X4])];generalize uc:(cs.take (k*S)++us++cs.drop (k*S)++ξN ((k+ys.length)*S+(cs.drop (k*S)).length) (cs.take (k*S)++us++Z2)).toArray=lW;obtain⟨Z3,zK,F'⟩: ∃Z3:List Value,lW.toList=cs.take (k*S)++us++cs.drop (k*S)++Z3/\Z3.length=C*S-(xs.length+ys.length)*S:=by
    refine⟨_,by rw[<-uc],?_⟩;simp only[ρ,ζ,iB,Xr,fp,bN];omega
   clear uc;have Ae:=qS (new:=lW) tJ;have zy:(w3.setRow w.heap.size lW).heap[w.heap.size]? =some (.cells lW e (0,0)):=setRow_heap w3 _ _ _ _ _ tJ;generalize w3.setRow w.heap.size lW=w4 at*
   have zx:Fr [] w w4:=W_.own Ae (ξ2 _);refine bc ?_;refine aT ?_;refine aS ?_;refine bl (l:=[0,1]) rfl ?_;refine aK ak [0,1] [(6,.slice (some ⟨w.heap.size,0,none⟩) (xs.length+ys.length) C)] rfl ⟨rfl,trivial⟩ ?_;refine bc ?_;refine aT ?_;refine fz ?_;refine jW (iL rfl ⟨_,w.heap.size::O,rfl,?_⟩);have iV:(xs.take k++ys++xs.drop k).length=xs.length+ys.length:=by simp only[ζ,ξ6,ρ];omega
   have eK:Tr O w (w.heap.size::O) w4:=Se zx (ξ2 _);have:=WZ (T:=T) (e:=e) (B:=B) (v:= .slice (some ⟨g,0,none⟩) xs.length c) (zs:=xs.take k++ys++xs.drop k) (cap:=C) (cs:=cs.take (k*S)++us++cs.drop (k*S)) hO (ξ2 _) hB zx zy (by rw[hT,<-τ,zK];simp only[ζ,iB,fp,fT,F'];omega) hCm (by omega)
    ((((fK.take k).app jk).app (fK.drop k)).tr eK) (by rw[iV,hT,zK];exact ξ8 (by simp only[ζ,iB,fp,fT];omega))
   rw[iV] at this;exact this
  ·
   refine ke rfl (by simp;omega) ?_;refine gW ?_;refine aT ?_;have au0:(xs.length+ys.length)*S<=c*S:=ξ4 _ (by omega);have Pk:(xs.length+ys.length)*S=k*S+ys.length*S+(xs.length-k)*S:=by rw[<-ξ3,<-ξ3];congr 1;omega
   have X4:(k+ys.length)*S=k*S+ys.length*S:=ξ3 _ _ _;have ant:(xs.length-k)*S+k*S=xs.length*S:=by rw[<-ξ3];congr 1;omega
   have fT:(cs.drop (k*S)).length=(xs.length-k)*S:=by rw[ρ];omega
   have iB:(cs.take (k*S)).length=k*S:=by rw[ξ6];omega
   refine aS ?_;refine bl (l:=[0,1,2,3,4,5]) rfl ?_;refine aK ak [0,1,2,3] [(1,.int .i64 k),(2,.slice (some ad) ys.length cu),(7,.int .i64 (ys.length:Int)),(8,.int .i64 (xs.length:Int)),(56,.slice (some ⟨g,0,none⟩) xs.length c),(59,.int .i64 (ε.wrap ((xs.length:Int)+(ys.length:Int))))] rfl ⟨rfl,rfl,rfl,rfl,rfl,rfl,trivial⟩ ?_;rw[Ps];refine SB ak rfl rfl rfl rfl rfl rfl rfl rfl rfl rfl mo (by omega) ?_;refine aK ak [5] [(0,.slice (some ⟨g,0,none⟩) (xs.length+ys.length) c),(1,.int .i64 k),(2,.slice (some ad) ys.length cu),(7,.int .i64 (ys.length:Int)),(8,.int .i64 (xs.length:Int))] rfl ⟨rfl,rfl,rfl,rfl,rfl,trivial⟩ ?_;refine bc ?_;refine aT ?_;refine aS ?_;refine aS ?_;refine bl (l:=[0,1,2,3,4,5,6,7]) rfl ?_;have sg:ε.wrap ((k:Int)+(ys.length:Int))=((k+ys.length:Nat):Int):=by rw[ξf];unfold maxLen at*;omega
   refine aK ak [0,1,2,3,4] [(0,.slice (some ⟨g,0,none⟩) (xs.length+ys.length) c),(1,.int .i64 k),(2,.slice (some ad) ys.length cu),(7,.int .i64 (ys.length:Int)),(8,.int .i64 (xs.length:Int)),(61,.slice (some ad) ys.length cu),(62,.slice (some ⟨g,0,none⟩) (xs.length+ys.length) c),(65,.int .i64 (ε.wrap ((k:Int)+(ys.length:Int))))] rfl ⟨rfl,rfl,rfl,rfl,rfl,rfl,rfl,rfl,trivial⟩ ?_;rw[sg];refine BS ak rfl rfl rfl rfl rfl rfl rfl rfl rfl rfl (by omega) (by omega) ?_;rw[if_neg (by omega),χ,jf,ξ7];refine aul ak rfl rfl rfl rfl rfl (by first|exact Tryz.func265|exact Tryz.func271|exact Tryz.func289|exact Tryz.func309) rfl rfl rfl rfl rfl rfl rfl rfl rfl Xu OK hh (by rw[fi];omega) ?_;refine aK ak [7] [(0,.slice (some ⟨g,0,none⟩) (xs.length+ys.length) c),(1,.int .i64 k),(2,.slice (some ad) ys.length cu),(7,.int .i64 (ys.length:Int)),(68,.bool (!false))] rfl ⟨rfl,rfl,rfl,rfl,rfl,trivial⟩ ?_;refine bc ?_;refine aT ?_;refine jV rfl rfl ?_;refine aS ?_;refine I1 mixed [⟨69,[],[0]⟩,⟨70,[],[1]⟩,⟨71,[],[7]⟩,⟨72,[1,2],[]⟩,⟨73,[0,3],[]⟩,⟨74,[],[0]⟩,⟨75,[],[1]⟩,⟨76,[5,6],[]⟩] [SP.eq (.slice (some ⟨g,0,none⟩) (xs.length+ys.length) c),SP.eq (.int .i64 k),SP.eq (.int .i64 (ys.length:Int)),SP.eq (.int .i64 (ε.wrap ((k:Int)+(ys.length:Int)))),SP.eq (.slice (some ⟨g,(k+ys.length)*S,none⟩) (xs.length-k) (c-(k+ys.length))),SP.eq (.slice (some ⟨g,0,none⟩) (xs.length+ys.length) c),SP.eq (.int .i64 k),SP.eq (.slice (some ⟨g,k*S,none⟩) (xs.length+ys.length-k) (c-k))] rfl rfl rfl rfl ⟨?_,?_,?_,?_,?_,?_,?_,?_,trivial⟩ ?_
   ·intro a w3 bY hN aY hb hd;exact eu ak ⟨hN,aY,cJ (E:=[(0,.slice (some ⟨g,0,none⟩) (xs.length+ys.length) c)]) ⟨hb 0 rfl _ rfl,trivial⟩⟩ rfl rfl rfl rfl rfl
   ·intro a w3 bY hN aY hb hd;exact eu ak ⟨hN,aY,cJ (E:=[(1,.int .i64 k)]) ⟨hb 1 rfl _ rfl,trivial⟩⟩ rfl rfl rfl rfl rfl
   ·intro a w3 bY hN aY hb hd;exact eu ak ⟨hN,aY,cJ (E:=[(7,.int .i64 (ys.length:Int))]) ⟨hb 7 rfl _ rfl,trivial⟩⟩ rfl rfl rfl rfl rfl
   ·intro a w3 bY hN aY hb hd;exact eu ak ⟨hN,aY,cJ (E:=[(70,.int .i64 k),(71,.int .i64 (ys.length:Int))]) ⟨(hd 1 rfl _ _ rfl rfl),(hd 2 rfl _ _ rfl rfl),trivial⟩⟩ rfl rfl rfl rfl rfl
   ·intro a w3 bY hN aY hb hd;have h72:a.tmps.getD 72 undef= .int .i64 ((k+ys.length:Nat):Int):=by rw[<-sg];exact hd 3 rfl _ _ rfl rfl
    refine(Be ak ⟨hN,aY,cJ (E:=[(69,.slice (some ⟨g,0,none⟩) (xs.length+ys.length) c),(72,.int .i64 ((k+ys.length:Nat):Int))]) ⟨(hd 0 rfl _ _ rfl rfl),h72,trivial⟩⟩ rfl rfl rfl rfl rfl rfl rfl rfl rfl (by omega) (by omega)).weaken (λu w4 ⟨hu,hf⟩=>⟨?_,hf⟩);rw[hu,if_neg (by omega),χ,jf,ξ7,show xs.length+ys.length-(k+ys.length)=xs.length-k by omega];rfl
   ·intro a w3 bY hN aY hb hd;exact eu ak ⟨hN,aY,cJ (E:=[(0,.slice (some ⟨g,0,none⟩) (xs.length+ys.length) c)]) ⟨hb 0 rfl _ rfl,trivial⟩⟩ rfl rfl rfl rfl rfl
   ·intro a w3 bY hN aY hb hd;exact eu ak ⟨hN,aY,cJ (E:=[(1,.int .i64 k)]) ⟨hb 1 rfl _ rfl,trivial⟩⟩ rfl rfl rfl rfl rfl
   ·intro a w3 bY hN aY hb hd;refine(Be ak ⟨hN,aY,cJ (E:=[(74,.slice (some ⟨g,0,none⟩) (xs.length+ys.length) c),(75,.int .i64 k)]) ⟨(hd 5 rfl _ _ rfl rfl),(hd 6 rfl _ _ rfl rfl),trivial⟩⟩ rfl rfl rfl rfl rfl rfl rfl rfl rfl (by omega) (by omega)).weaken (λu w4 ⟨hu,hf⟩=>⟨?_,hf⟩);rw[hu,if_neg (by omega),χ,jf,ξ7];rfl
   intro a w3 f3 hN aY hb hr;have tJ:w3.heap[g]? =some (.cells cur e (0,0)):=(f3.block _ (ι.1 hh).1 (by simp)).trans hh;refine BT (E:=[(0,.slice (some ⟨g,0,none⟩) (xs.length+ys.length) c),(1,.int .i64 k),(2,.slice (some ad) ys.length cu),(73,.slice (some ⟨g,(k+ys.length)*S,none⟩) (xs.length-k) (c-(k+ys.length))),(76,.slice (some ⟨g,k*S,none⟩) (xs.length+ys.length-k) (c-k))]) (l:=[8]) hN aY ⟨hb 0 _ rfl rfl,hb 1 _ rfl rfl,hb 2 _ rfl rfl,(hr 4 _ _ rfl rfl),(hr 7 _ _ rfl rfl),trivial⟩ rfl ?_;have qd:g<w.heap.size:=(ι.1 hh).1;have N8:ad.block<w.heap.size:=(ι.1 OK).1;refine aug ak rfl rfl rfl rfl rfl rfl rfl rfl rfl rfl tJ ((Oh (k*S)).keep (f3.block _ qd (by simp))) fT (λu hu=>oJ u (ξs hu)) (by omega) (by omega) (λz=>?_);generalize uc:(cur.toList.take ((k+ys.length)*S)++cs.drop (k*S)++ξN ((k+ys.length)*S+(cs.drop (k*S)).length) cur.toList).toArray=lW;have mj:cur.toList.length=c*S:=by rw[τ,fi]
   obtain⟨Y,Z3,zK,hY,F'⟩: ∃Y Z3:List Value,lW.toList=cs.take (k*S)++Y++cs.drop (k*S)++Z3/\Y.length=ys.length*S/\Z3.length=c*S-(xs.length+ys.length)*S:=by
    refine⟨(cur.toList.take ((k+ys.length)*S)).drop (k*S),ξN ((k+ys.length)*S+(cs.drop (k*S)).length) cur.toList,?_,?_,?_⟩
    ·rw[<-uc];have e:cs.take (k*S)=(cur.toList.take ((k+ys.length)*S)).take (k*S):=by
      rw[<-lJ,ξR,ξR];congr 1;omega
     rw[e,List.take_append_drop]
    ·rw[ρ,ξ6,mj];omega
    ·rw[ρ,mj,fT];omega
   clear uc;have Ae:=qS (new:=lW) tJ;have zy:(w3.setRow g lW).heap[g]? =some (.cells lW e (0,0)):=setRow_heap w3 _ _ _ _ _ tJ;generalize w3.setRow g lW=w4 at*
   have zx:Fr [g] w w4:=(f3.more (by simp)).trans Ae;refine bc ?_;refine aT ?_;refine aS ?_;refine bl (l:=[0,1,2,3,4]) rfl ?_;refine aK ak [0,1] [(0,.slice (some ⟨g,0,none⟩) (xs.length+ys.length) c),(2,.slice (some ad) ys.length cu),(78,.slice (some ⟨g,0,none⟩) (xs.length+ys.length) c),(79,.int .i64 k)] rfl ⟨rfl,rfl,rfl,rfl,trivial⟩ ?_;refine BS ak rfl rfl rfl rfl rfl rfl rfl rfl rfl rfl (by omega) (by omega) ?_;rw[if_neg (by omega),χ,jf,ξ7];refine aK ak [3] [(0,.slice (some ⟨g,0,none⟩) (xs.length+ys.length) c),(80,.slice (some ⟨g,k*S,none⟩) (xs.length+ys.length-k) (c-k)),(81,.slice (some ad) ys.length cu)] rfl ⟨rfl,rfl,rfl,trivial⟩ ?_;have auX:lW.size=c*S:=by rw[<-τ,zK];simp only[ζ,iB,hY,fT,F'];omega
   refine SA ak rfl rfl rfl rfl rfl rfl rfl rfl rfl rfl zy (mT.keep (zx.block _ N8 (by simp[Xu]))) fp jk.one (by omega) (by omega) (λz=>?_);have e5:(lW.toList.take (k*S)++us++lW.toList.drop (k*S+us.length))=cs.take (k*S)++us++(cs.drop (k*S)++Z3):=by
    rw[zK,ξ9 (cs.take (k*S)++Y),ξ9 (cs.take (k*S)),ξ8 iB,<-ξ9 (cs.take (k*S)),List.drop_left' (by rw[ζ,iB,hY,fp])]
   rw[e5];generalize Yp:(cs.take (k*S)++us++(cs.drop (k*S)++Z3)).toArray=Bz;have Xs:Bz.toList=cs.take (k*S)++us++cs.drop (k*S)++Z3:=by rw[<-Yp,<-ξ9]
   clear Yp;have hf6:=qS (new:=Bz) zy;have hG6:(w4.setRow g Bz).heap[g]? =some (.cells Bz e (0,0)):=setRow_heap w4 _ _ _ _ _ zy;generalize w4.setRow g Bz=w6 at*
   have Xa:Fr [g] w w6:=zx.trans hf6;refine bc ?_;refine aT ?_;refine aS ?_;refine bl (l:=[0,1]) rfl ?_;refine aK ak [0,1] [(6,.slice (some ⟨g,0,none⟩) (xs.length+ys.length) c)] rfl ⟨rfl,trivial⟩ ?_;refine bc ?_;refine aT ?_;refine fz ?_;refine jW (iL rfl ⟨_,O,rfl,?_⟩);have iV:(xs.take k++ys++xs.drop k).length=xs.length+ys.length:=by simp only[ζ,ξ6,ρ];omega
   have eK:Tr O w O w6:=Xa.tr (lS gZ);have:=SF (T:=T) (e:=e) (B:=B) (n0:=xs.length) (zs:=xs.take k++ys++xs.drop k) (cap:=c) (cs:=cs.take (k*S)++us++cs.drop (k*S)) hO gZ jA Xa hG6 (by rw[hT,<-τ,Xs];simp only[ζ,iB,fp,fT,F'];omega) tR (by omega)
    ((((fK.take k).app jk).app (fK.drop k)).tr eK) (by rw[iV,hT,Xs];exact ξ8 (by simp only[ζ,iB,fp,fT];omega))
   rw[iV] at this;exact this
def PG:iM SS:=AP KK 212 105 wU
theorem an' {R:Type} (xs:List (aD SS)) (h:AH SS) (k:Rs SS->AH SS->List Nat->Option R) (z:R) (hz:(PG).out xs h k=some z): ∃r h' dt,k r h' dt=some z/\ic KK γ 212 xs h r h' dt:=
 PJ (e:=105) (ins:=wU) eP (eI bn ζ0 rfl) (λO w v u xs ys zs j hO hv hu hp hz=>Hv.1 hO (ξu _) hv (fk.2 rfl) hu hp hz) xs h k z hz
def PH:iM SS:=AP KK 222 127 wV
theorem aoa {R:Type} (xs:List (aD SS)) (h:AH SS) (k:Rs SS->AH SS->List Nat->Option R) (z:R) (hz:(PH).out xs h k=some z): ∃r h' dt,k r h' dt=some z/\ic KK γ 222 xs h r h' dt:=
 PJ (e:=127) (ins:=wV) eP (eI bn ζ1 rfl) (λO w v u xs ys zs j hO hv hu hp hz=>Hv.2.1 hO (ξu _) hv (fk.2 rfl) hu hp hz) xs h k z hz
def PI:iM SS:=AP KK 259 115 uv
theorem aob {R:Type} (xs:List (aD SS)) (h:AH SS) (k:Rs SS->AH SS->List Nat->Option R) (z:R) (hz:(PI).out xs h k=some z): ∃r h' dt,k r h' dt=some z/\ic KK γ 259 xs h r h' dt:=
 PJ (e:=115) (ins:=uv) eP (eI bn ζ2 rfl) (λO w v u xs ys zs j hO hv hu hp hz=>Hv.2.2.1 hO (ξu _) hv (fk.2 rfl) hu hp hz) xs h k z hz
theorem ar3 {O:List Nat} {w:World} (hO:OB O w) {B:Nat} (hB:B<=w.heap.size) {v:Value} {xs:List (Int×Value)} (hv:Go.Dc.Own (sG .u64) 132 B O w v xs) {v1:Value} {j:Int} (U:(Ty.int .i64).is O w v1 j) {u:Value} {ys:List (Int×Value)} (hu:(Ty.slice (sG .u64)).is O w u ys) (hp:Plain w u) {zs:List (Int×Value)} (hz:IG xs j ys=some zs):
 Calls γ 293 #[v,v1,u] w (ig (sG .u64) 132 B O w v zs):=Hv.2.2.2 hO hB hv U hu hp hz
set_option maxRecDepth 100000
noncomputable def Jx:ay SS:= { G4 with H:=PG::G4.H }
theorem afl:an Jx γ:=an.mS (c:=PG) afk an'
noncomputable def Jy:ay SS:= { Jx with H:=PH::Jx.H }
theorem afm:an Jy γ:=an.mS (c:=PH) afl aoa
noncomputable def G5:ay SS:= { Jy with H:=PI::Jy.H }
theorem Uc:an G5 γ:=an.mS (c:=PI) afm aob
end Go.Proofs.YtoggponeookhbaaGreatDoor
end
section

/- Words for the entries of au7. -/
namespace Go.Vx
def vs {S:bL} (x:LV S):AV S:= .s (.one x)
def li {S:bL} (x:Int):LV S:= .v (.int .i64 x)
def lu {S:bL} (x:Int):LV S:= .v (.int .u64 x)
def vi {S:bL} (x:Int):AV S:= .s (.one (.v (.int .i64 x)))
def vu {S:bL} (x:Int):AV S:= .s (.one (.v (.int .u64 x)))
def vb {S:bL} (x:Bool):AV S:= .s (.one (.v (.bool x)))
def va {S:bL} (x y:Nat):AV S:= .s (.one (.bp x y))
def vd {S:bL} (t:Nat) (x:S.El t):AV S:= .s (.one (.aU t x))
def vo {S:bL} (x:Nat):AV S:= .s (.one (.own x))
def vc {S:bL} (x:Nat):AV S:= .s (.one (.bI x))
def bX {S:bL} (t:Nat) (x:List (LV S)):Option (Ob S):=some (.box t x)
def rX {S:bL} (t:Nat) (x:List (S.El t)):Option (Ob S):=some (.row t x)
def vl {S:bL} {α:Type} (x:List α):AV S:= .s (.one (.v (.int .i64 (x.length:Int))))
def cq {S:bL} (c:bO S) (G:ay S):ay S:= { G with C:=c::G.C }
def xe {S:bL} (l:aW S) (st:AS S):AS S:= { st with env:=l++st.env }
section
variable {S:bL} {P:Program} {G E:ay S} {K:bG S}
def b5 (K:bG S) (t:Nat) {R:Type} (k:Rs S->Option R) (r:S.El t):Option R:=k (.ret (.s (K.bA t r)))
def dE (K:bG S) (t u:Nat) {R:Type} (k:Rs S->Option R) (r:S.El t×S.El u):Option R:=k (.ret (.bD [K.bA t r.1,K.bA u r.2]))
def m_ (K:bG S) (t u v:Nat) {R:Type} (k:Rs S->Option R) (r:S.El t×S.El u×S.El v):Option R:=k (.ret (.bD [K.bA t r.1,K.bA u r.2.1,K.bA v r.2.2]))
abbrev KF (S:bL) (X:Type):= {R:Type}->(Rs S->Option R)->X->Option R
def yR (K:bG S) (f:Nat) {X:Type} (F:Option X) (kf:KF S X):bO S:=kR K f [] (λ{R} xs k=>match xs with| .nil=>(F).bind (kf k))
def R0 (K:bG S) (E:ay S) (f:Nat) {X:Type} (rs:List Nat) (T:T X) (kf:KF S X):Prop:= ∀ {R:Type} (k:Rs S->Option R),kQ E 100 f [] [] (nS K rs k)=(T).run (kf k)
theorem Mm {f:Nat} {X:Type} {rs:List Nat} {T:T X} {kf:KF S X} (h:an G P) (hE:aJ E P) (U:G.K=K) (h2:E.K=K) (ht:R0 K E f rs T kf):an { G with C:=yR K f (shut.s _ (T).val) kf::G.C } P:=by
 subst U;refine an.l_ (c:=yR G.K f (shut.s _ (T).val) kf) h λxs k z _ hz=>?_;rw[<-h2] at hz ⊢;refine tq hE (rs:=rs) (λ{R} xs k z zh=>?_) hz
 match xs,zh with
 | .nil,zh=>exact⟨100,by rw[h2];exact(ht k).trans (wq zh)⟩
def fS (K:bG S) (f t0:Nat) {X:Type} (F:S.El t0->Option X) (kf:KF S X):bO S:=kR K f [t0] (λ{R} xs k=>match xs with| .cons a .nil=>(F a).bind (kf k))
def R1 (K:bG S) (E:ay S) (f t0:Nat) {X:Type} (rs:List Nat) (T:S.El t0->T X) (kf:KF S X):Prop:= ∀ {R:Type} (a:S.El t0) (k:Rs S->Option R),kQ E 100 f [K.bA t0 a] [] (nS K rs k)=(T a).run (kf k)
theorem gm {f t0:Nat} {X:Type} {rs:List Nat} {T:S.El t0->T X} {kf:KF S X} (h:an G P) (hE:aJ E P) (U:G.K=K) (h2:E.K=K) (ht:R1 K E f t0 rs T kf):an { G with C:=fS K f t0 (λa=>shut.s _ (T a).val) kf::G.C } P:=by
 subst U;refine an.l_ (c:=fS G.K f t0 (λa=>shut.s _ (T a).val) kf) h λxs k z _ hz=>?_;rw[<-h2] at hz ⊢;refine tq hE (rs:=rs) (λ{R} xs k z zh=>?_) hz
 match xs,zh with
 | .cons a .nil,zh=>exact⟨100,by rw[h2];exact(ht a k).trans (wq zh)⟩
def eH (K:bG S) (f t0 t1:Nat) {X:Type} (F:S.El t0->S.El t1->Option X) (kf:KF S X):bO S:=kR K f [t0,t1] (λ{R} xs k=>match xs with| .cons a (.cons b .nil)=>(F a b).bind (kf k))
def R2 (K:bG S) (E:ay S) (f t0 t1:Nat) {X:Type} (rs:List Nat) (T:S.El t0->S.El t1->T X) (kf:KF S X):Prop:= ∀ {R:Type} (a:S.El t0) (b:S.El t1) (k:Rs S->Option R),kQ E 100 f [K.bA t0 a,K.bA t1 b] [] (nS K rs k)=(T a b).run (kf k)
theorem eS {f t0 t1:Nat} {X:Type} {rs:List Nat} {T:S.El t0->S.El t1->T X} {kf:KF S X} (h:an G P) (hE:aJ E P) (U:G.K=K) (h2:E.K=K) (ht:R2 K E f t0 t1 rs T kf):an { G with C:=eH K f t0 t1 (λa b=>shut.s _ (T a b).val) kf::G.C } P:=by
 subst U;refine an.l_ (c:=eH G.K f t0 t1 (λa b=>shut.s _ (T a b).val) kf) h λxs k z _ hz=>?_;rw[<-h2] at hz ⊢;refine tq hE (rs:=rs) (λ{R} xs k z zh=>?_) hz
 match xs,zh with
 | .cons a (.cons b .nil),zh=>exact⟨100,by rw[h2];exact(ht a b k).trans (wq zh)⟩
def pD (K:bG S) (f t0 t1 t2:Nat) {X:Type} (F:S.El t0->S.El t1->S.El t2->Option X) (kf:KF S X):bO S:=kR K f [t0,t1,t2] (λ{R} xs k=>match xs with| .cons a (.cons b (.cons c .nil))=>(F a b c).bind (kf k))
def R3 (K:bG S) (E:ay S) (f t0 t1 t2:Nat) {X:Type} (rs:List Nat) (T:S.El t0->S.El t1->S.El t2->T X) (kf:KF S X):Prop:= ∀ {R:Type} (a:S.El t0) (b:S.El t1) (c:S.El t2) (k:Rs S->Option R),kQ E 100 f [K.bA t0 a,K.bA t1 b,K.bA t2 c] [] (nS K rs k)=(T a b c).run (kf k)
theorem tp {f t0 t1 t2:Nat} {X:Type} {rs:List Nat} {T:S.El t0->S.El t1->S.El t2->T X} {kf:KF S X} (h:an G P) (hE:aJ E P) (U:G.K=K) (h2:E.K=K) (ht:R3 K E f t0 t1 t2 rs T kf):an { G with C:=pD K f t0 t1 t2 (λa b c=>shut.s _ (T a b c).val) kf::G.C } P:=by
 subst U;refine an.l_ (c:=pD G.K f t0 t1 t2 (λa b c=>shut.s _ (T a b c).val) kf) h λxs k z _ hz=>?_;rw[<-h2] at hz ⊢;refine tq hE (rs:=rs) (λ{R} xs k z zh=>?_) hz
 match xs,zh with
 | .cons a (.cons b (.cons c .nil)),zh=>exact⟨100,by rw[h2];exact(ht a b c k).trans (wq zh)⟩
def Ml (K:bG S) (f t0 t1 t2 t3:Nat) {X:Type} (F:S.El t0->S.El t1->S.El t2->S.El t3->Option X) (kf:KF S X):bO S:=kR K f [t0,t1,t2,t3] (λ{R} xs k=>match xs with| .cons a (.cons b (.cons c (.cons d .nil)))=>(F a b c d).bind (kf k))
def R4 (K:bG S) (E:ay S) (f t0 t1 t2 t3:Nat) {X:Type} (rs:List Nat) (T:S.El t0->S.El t1->S.El t2->S.El t3->T X) (kf:KF S X):Prop:= ∀ {R:Type} (a:S.El t0) (b:S.El t1) (c:S.El t2) (d:S.El t3) (k:Rs S->Option R),kQ E 100 f [K.bA t0 a,K.bA t1 b,K.bA t2 c,K.bA t3 d] [] (nS K rs k)=(T a b c d).run (kf k)
theorem ahL {f t0 t1 t2 t3:Nat} {X:Type} {rs:List Nat} {T:S.El t0->S.El t1->S.El t2->S.El t3->T X} {kf:KF S X} (h:an G P) (hE:aJ E P) (U:G.K=K) (h2:E.K=K) (ht:R4 K E f t0 t1 t2 t3 rs T kf):an { G with C:=Ml K f t0 t1 t2 t3 (λa b c d=>shut.s _ (T a b c d).val) kf::G.C } P:=by
 subst U;refine an.l_ (c:=Ml G.K f t0 t1 t2 t3 (λa b c d=>shut.s _ (T a b c d).val) kf) h λxs k z _ hz=>?_;rw[<-h2] at hz ⊢;refine tq hE (rs:=rs) (λ{R} xs k z zh=>?_) hz
 match xs,zh with
 | .cons a (.cons b (.cons c (.cons d .nil))),zh=>exact⟨100,by rw[h2];exact(ht a b c d k).trans (wq zh)⟩
def VL (K:bG S) (f t0 t1 t2 t3 t4:Nat) {X:Type} (F:S.El t0->S.El t1->S.El t2->S.El t3->S.El t4->Option X) (kf:KF S X):bO S:=kR K f [t0,t1,t2,t3,t4] (λ{R} xs k=>match xs with| .cons a (.cons b (.cons c (.cons d (.cons e .nil))))=>(F a b c d e).bind (kf k))
def R5 (K:bG S) (E:ay S) (f t0 t1 t2 t3 t4:Nat) {X:Type} (rs:List Nat) (T:S.El t0->S.El t1->S.El t2->S.El t3->S.El t4->T X) (kf:KF S X):Prop:= ∀ {R:Type} (a:S.El t0) (b:S.El t1) (c:S.El t2) (d:S.El t3) (e:S.El t4) (k:Rs S->Option R),kQ E 100 f [K.bA t0 a,K.bA t1 b,K.bA t2 c,K.bA t3 d,K.bA t4 e] [] (nS K rs k)=(T a b c d e).run (kf k)
theorem auy {f t0 t1 t2 t3 t4:Nat} {X:Type} {rs:List Nat} {T:S.El t0->S.El t1->S.El t2->S.El t3->S.El t4->T X} {kf:KF S X} (h:an G P) (hE:aJ E P) (U:G.K=K) (h2:E.K=K) (ht:R5 K E f t0 t1 t2 t3 t4 rs T kf):an { G with C:=VL K f t0 t1 t2 t3 t4 (λa b c d e=>shut.s _ (T a b c d e).val) kf::G.C } P:=by
 subst U;refine an.l_ (c:=VL G.K f t0 t1 t2 t3 t4 (λa b c d e=>shut.s _ (T a b c d e).val) kf) h λxs k z _ hz=>?_;rw[<-h2] at hz ⊢;refine tq hE (rs:=rs) (λ{R} xs k z zh=>?_) hz
 match xs,zh with
 | .cons a (.cons b (.cons c (.cons d (.cons e .nil)))),zh=>exact⟨100,by rw[h2];exact(ht a b c d e k).trans (wq zh)⟩
end
end Go.Vx
end
section
namespace Go.Proofs.YtoggponeookhbaaGreatDoor
open Go.RowKit Go.Dc Go.Vx
noncomputable def U5 (sh:Sh) (pid:Int):T (Int):=
 .ok (ε.wrap (pid.tmod 64))
noncomputable def tB (sh:Sh) (pid:Int):Option (Int):=sh.s _ (U5 sh pid).val
theorem asr:R1 KK G5 101 35 [3] (U5 shut) (b5 KK 3):=by intro R pid k;kernel_rfl
noncomputable def ahM (sh:Sh):bO SS:=fS KK 101 35 (tB sh) (b5 KK 3)
noncomputable def q_ (sh:Sh):ay SS:=cq (ahM sh) G5
theorem Cw:an (q_ shut) γ:=gm Uc (an.all Uc rfl) rfl rfl asr
noncomputable def zL (p0:List Int) (p1:List ai) (p2:Int):AS SS:=⟨[(0,(vs (.jZ 0 0 16))),(1,(vs (.v (.func (.func 98) (.mk []) (.mk []))))),(7,(vi 16)),(8,(vi p2))],[(bX 50 [(.cd .i64 16 p0),(.aU 48 p1)])],1,none,false,[],[]⟩
noncomputable def aju (p0:List Int) (p1:List ai) (a0:Int):AS SS:= { zL p0 p1 a0 with env:=[(4,(vi a0))] }
noncomputable def ajv (p0:List Int) (p1:List ai) (a0:Bool) (a1:Int):AS SS:=xe [(9,(vb a0))] (zL p0 p1 a1)
noncomputable def LF (sh:Sh) (p0:List Int) (p1:List ai) (a:Int):T (Int ⊕ Int ⊕ (Bool×Int)):=
 .bf (decide (a<16)) (
  .bd (fq a 16) λz0=>
   .bf (decide (aI p0 z0<0)) (
    .ok (.inr (.inl a)))<|
   .bf (decide (aI p0 z0>65536)) (
    .ok (.inr (.inl a)))<|
   .ok (.inl (ε.wrap (a+1))))<|
 .ok (.inr (.inr ((decide (a<16)),a)))
noncomputable def KN (sh:Sh) (p0:List Int) (p1:List ai) (p2:Int):Option (Int ⊕ (Bool×Int)):=cA sh (LF sh p0 p1) 1000000 p2
noncomputable def afU {R:Type} (k:AX->AS SS->Option R) (p0:List Int) (p1:List ai) (x:Int ⊕ (Bool×Int)):Option R:=(λx=>ο (λv=>k .ret (aju p0 p1 v)) (λv=>k (.exit 0) (ajv p0 p1 v.1 v.2)) x) x
noncomputable def HD:bH SS:=bT 3 (λst=>(jy (bg st 0 0)).bind λp0=>(bB 48 (bg st 0 1)).bind λp1=>(bq (aZ st 8 0)).bind λp2=>some (p0,p1,p2)) (λp=>zL p.1 p.2.1 p.2.2) (λp=>KN shut p.1 p.2.1 p.2.2) (λk p=>afU k p.1 p.2.1)
theorem aa6:aG KK γ ⟨ξA,ar 141⟩ (bQ (a_ ξA) 3) HD:=
 aG.cA (π:=List Int×List ai×Int) (σ:=Int) (an.all Cw rfl) (ao.nil) rfl 60 (λp a=>zL p.1 p.2.1 a) (λp=>p.2.2) (St:=λp=>LF shut p.1 p.2.1) (λp=>1000000) (λp=>rfl)
  (λm p a k=>by kernel_rfl)
noncomputable def NI (p0:List Int) (p1:List ai) (p2 p3:Int):AS SS:=⟨[(0,(vs .eL)),(1,(va 4 0)),(9,(vl p1)),(10,(vi p3))],[(bX 160 [(.cd .i64 16 p0),(.aU 48 p1)]),(bX 35 [(lu p2)]),(bX 161 [(.v (.pointer none))]),(some (.bI 142 [] [(.one (.bp 4 0))])),(bX 158 [(.bp 0 0)])],5,(some ⟨⟨ξB,ar 97⟩,[9,10],(iG (a_ ξB) 4),(iH (a_ ξB) 4),[(3,(va 1 0)),(4,(va 2 0)),(8,(vc 3))],none⟩),false,[],[]⟩
noncomputable def qR (p0:List Int) (p1:List ai) (p2:Int):AS SS:=NI p0 p1 p2 0
noncomputable def ajH (p0:List Int) (p1:List ai) (p2:Int) (a0:ai):AS SS:=⟨[],[(bX 160 [(.cd .i64 16 p0),(.aU 48 p1)]),(bX 35 [(lu p2)]),(bX 161 [(.ptr 115 a0 0)]),(some (.bI 142 [] [(.one (.bp 4 0))])),(bX 158 [(.bp 0 0)])],5,(some ⟨⟨ξB,ar 97⟩,[9,10],(iG (a_ ξB) 4),(iH (a_ ξB) 4),[(3,(va 1 0)),(4,(va 2 0)),(8,(vc 3))],(some .ret)⟩),false,[],[2]⟩
noncomputable def ajI (p0:List Int) (p1:List ai) (p2:Int) (a0:Bool) (a1:Int):AS SS:= { NI p0 p1 p2 p2 with env:=[(11,(vb a0)),(0,(vs .eL)),(1,(va 4 0)),(9,(vl p1)),(10,(vi a1))] }
noncomputable def Dt (sh:Sh) (p0:List Int) (p1:List ai) (p2 p3:Int) (z0:ai) (a:Unit):T (Unit ⊕ ai ⊕ (Bool×Int)):=
 .bf (z0.aa==p2) (
  .ok (.inr (.inl z0)))<|
 .ok (.inl ())
noncomputable def B4 (sh:Sh) (p0:List Int) (p1:List ai) (p2 p3:Int) (a:Unit):T (ai ⊕ (Bool×Int)):=
 .ok (.inr ((decide (p3<(↑p1.length:Int))),p3))
noncomputable def oa (sh:Sh) (p0:List Int) (p1:List ai) (p2:Int):Option (ai ⊕ (Bool×Int)):=cS sh (Dt sh p0 p1 p2) (B4 sh p0 p1 p2) p1 ()
noncomputable def af1 {R:Type} (k:AX->AS SS->Option R) (p0:List Int) (p1:List ai) (p2:Int) (x:ai ⊕ (Bool×Int)):Option R:=(λx=>ο (λv=>k .ret (ajH p0 p1 p2 v)) (λv=>k (.exit 0) (ajI p0 p1 p2 v.1 v.2)) x) x
noncomputable def P2:bH SS:=bT 2 (λst=>((dB st 3 142).bind λ_=>lQ st 18 4).bind λ_=>(jy (bg st 0 0)).bind λp0=>(bB 48 (bg st 0 1)).bind λp1=>(bq (bg st 1 0)).bind λp2=>some (p0,p1,p2)) (λp=>qR p.1 p.2.1 p.2.2) (λp=>oa shut p.1 p.2.1 p.2.2) (λk p=>af1 k p.1 p.2.1 p.2.2)
noncomputable def ae0:ay SS:= { (q_ shut) with T:=bm ((q_ shut).T) 141 ⟨⟨ξA,ar 141⟩,[HD]⟩ }
theorem T2:aJ ae0 γ:=(aJ.b8 (an.all Cw rfl) ζ3 rfl bn λc hc=>by cases hc;exact ao.cons (ao.nil) (by kernel_rfl) aa6)
theorem aa8:aG KK γ ⟨ξo,ar 142⟩ (bQ (a_ ξo) 2) P2:=
 aG.c6 (π:=List Int×List ai×Int) (σ:=Unit) T2 (ao.nil) rfl 60 (λp i a=>NI p.1 p.2.1 p.2.2 i) (λp=>p.2.1) (λp=>()) (St:=λp=>Dt shut p.1 p.2.1 p.2.2) (F:=λp=>B4 shut p.1 p.2.1 p.2.2) (λp=>rfl)
  (λm p i a k=>by kernel_rfl) (by rintro p (x|x)<;>exact⟨_,_,λ_=>rfl⟩) (λp N C A O w a hr=>Qj hr (j:=0) (n:=1) (t:=48) rfl rfl λv h=>h)
noncomputable def NH (p0:List Int) (p1:List ai) (p2:Int):AS SS:=⟨[(0,(vs .eL)),(1,(va 7 0)),(9,(vl p1)),(10,(vi p2))],[(bX 50 [(.cd .i64 16 p0),(.aU 48 p1)]),(bX 27 [(li 0)]),(bX 163 [(.bI 3)]),(some (.bI 96 [] [(.one (.bp 4 0))])),(bX 158 [(.bp 5 0)]),(bX 160 [(.cd .i64 16 p0),(.aU 48 p1)]),(some (.bI 142 [] [(.one (.bp 7 0))])),(bX 158 [(.bp 5 0)])],8,(some ⟨⟨ξC,ar 60⟩,[34,35],(iG (a_ ξC) 10),(iH (a_ ξC) 10),[(1,(va 0 0)),(2,(va 1 0)),(4,(va 2 0)),(33,(vc 6))],none⟩),false,[],[]⟩
noncomputable def RN (p0:List Int) (p1:List ai):AS SS:=NH p0 p1 0
noncomputable def ajF (p0:List Int) (p1:List ai):AS SS:=⟨[],[(bX 50 [(.cd .i64 16 p0),(.aU 48 p1)]),(bX 27 [(li 320)]),(bX 163 [(.bI 3)]),(some (.bI 96 [] [(.one (.bp 4 0))])),(bX 158 [(.bp 5 0)]),(bX 160 [(.cd .i64 16 p0),(.aU 48 p1)]),(some (.bI 142 [] [(.one (.bp 7 0))])),(bX 158 [(.bp 5 0)])],8,(some ⟨⟨ξC,ar 60⟩,[34,35],(iG (a_ ξC) 10),(iH (a_ ξC) 10),[(1,(va 0 0)),(2,(va 1 0)),(4,(va 2 0)),(33,(vc 6))],(some .ret)⟩),false,[],[1]⟩
noncomputable def ajG (p0:List Int) (p1:List ai) (a0:Bool) (a1:Int):AS SS:=xe [(11,(vb a0))] (NH p0 p1 a1)
noncomputable def Ds (sh:Sh) (p0:List Int) (p1:List ai) (p2:Int) (z0:ai) (a:Unit):T (Unit ⊕ Unit ⊕ (Bool×Int)):=
 .bd (tB sh z0.aa) λy1=>
  .bf (decide (y1>=1)) (
   .bf (decide (y1<=16)) (
    .bf (p2==0) (
     .bd (fq (ε.wrap (y1-1)) 16) λz2=>
      .bf (ν.wrap (ν.wrap (z0.aa.tdiv 64)+1) !=ν.wrap (aI p0 z2)) (
       .ok (.inr (.inl ())))<|
      .bf (z0.bK) (
       .bf (z0.ba==0) (
        .ok (.inr (.inl ())))<|
       .bf (!z0.bK) (
        .bf (z0.da !=0) (
         .ok (.inr (.inl ())))<|
        .bf (z0.ba !=0) (
         .bf (z0.ba==z0.aa) (
          .ok (.inr (.inl ())))<|
         .gd (qR p0 p1 z0.ba)<|
          .bd (oa sh p0 p1 z0.ba) λu_=> .cs u_ (λy3=>
           .bf (!!y3.bK) (
            .ok (.inr (.inl ())))<|
           .ok (.inl ())) λy3=>
           .ok (.inr (.inl ())))<|
        .ok (.inl ()))<|
       .bf (z0.ba !=0) (
        .bf (z0.ba==z0.aa) (
         .ok (.inr (.inl ())))<|
        .gd (qR p0 p1 z0.ba)<|
         .bd (oa sh p0 p1 z0.ba) λBW=> .cs BW (λy3=>
          .bf (!!y3.bK) (
           .ok (.inr (.inl ())))<|
          .ok (.inl ())) λy3=>
          .ok (.inr (.inl ())))<|
       .ok (.inl ()))<|
      .bf (!z0.bK) (
       .bf (z0.da !=0) (
        .ok (.inr (.inl ())))<|
       .bf (z0.ba !=0) (
        .bf (z0.ba==z0.aa) (
         .ok (.inr (.inl ())))<|
        .gd (qR p0 p1 z0.ba)<|
         .bd (oa sh p0 p1 z0.ba) λBW=> .cs BW (λy3=>
          .bf (!!y3.bK) (
           .ok (.inr (.inl ())))<|
          .ok (.inl ())) λy3=>
          .ok (.inr (.inl ())))<|
       .ok (.inl ()))<|
      .bf (z0.ba !=0) (
       .bf (z0.ba==z0.aa) (
        .ok (.inr (.inl ())))<|
       .gd (qR p0 p1 z0.ba)<|
        .bd (oa sh p0 p1 z0.ba) λx9=> .cs x9 (λy3=>
         .bf (!!y3.bK) (
          .ok (.inr (.inl ())))<|
         .ok (.inl ())) λy3=>
         .ok (.inr (.inl ())))<|
      .ok (.inl ()))<|
    .bd (idx p1 (ε.wrap (p2-1))) λz2=>
     .bd (tB sh z2.aa) λy3=>
      .bf (!decide (y3<y1)) (
       .ok (.inr (.inl ())))<|
      .bd (fq (ε.wrap (y1-1)) 16) λz4=>
       .bf (ν.wrap (ν.wrap (z0.aa.tdiv 64)+1) !=ν.wrap (aI p0 z4)) (
        .ok (.inr (.inl ())))<|
       .bf (z0.bK) (
        .bf (z0.ba==0) (
         .ok (.inr (.inl ())))<|
        .bf (!z0.bK) (
         .bf (z0.da !=0) (
          .ok (.inr (.inl ())))<|
         .bf (z0.ba !=0) (
          .bf (z0.ba==z0.aa) (
           .ok (.inr (.inl ())))<|
          .gd (qR p0 p1 z0.ba)<|
           .bd (oa sh p0 p1 z0.ba) λx12=> .cs x12 (λy5=>
            .bf (!!y5.bK) (
             .ok (.inr (.inl ())))<|
            .ok (.inl ())) λy5=>
            .ok (.inr (.inl ())))<|
         .ok (.inl ()))<|
        .bf (z0.ba !=0) (
         .bf (z0.ba==z0.aa) (
          .ok (.inr (.inl ())))<|
         .gd (qR p0 p1 z0.ba)<|
          .bd (oa sh p0 p1 z0.ba) λu_=> .cs u_ (λy5=>
           .bf (!!y5.bK) (
            .ok (.inr (.inl ())))<|
           .ok (.inl ())) λy5=>
           .ok (.inr (.inl ())))<|
        .ok (.inl ()))<|
       .bf (!z0.bK) (
        .bf (z0.da !=0) (
         .ok (.inr (.inl ())))<|
        .bf (z0.ba !=0) (
         .bf (z0.ba==z0.aa) (
          .ok (.inr (.inl ())))<|
         .gd (qR p0 p1 z0.ba)<|
          .bd (oa sh p0 p1 z0.ba) λu_=> .cs u_ (λy5=>
           .bf (!!y5.bK) (
            .ok (.inr (.inl ())))<|
           .ok (.inl ())) λy5=>
           .ok (.inr (.inl ())))<|
        .ok (.inl ()))<|
       .bf (z0.ba !=0) (
        .bf (z0.ba==z0.aa) (
         .ok (.inr (.inl ())))<|
        .gd (qR p0 p1 z0.ba)<|
         .bd (oa sh p0 p1 z0.ba) λBW=> .cs BW (λy5=>
          .bf (!!y5.bK) (
           .ok (.inr (.inl ())))<|
          .ok (.inl ())) λy5=>
          .ok (.inr (.inl ())))<|
       .ok (.inl ()))<|
   .ok (.inr (.inl ())))<|
  .ok (.inr (.inl ()))
noncomputable def B3 (sh:Sh) (p0:List Int) (p1:List ai) (p2:Int) (a:Unit):T (Unit ⊕ (Bool×Int)):=
 .ok (.inr ((decide (p2<(↑p1.length:Int))),p2))
noncomputable def C8 (sh:Sh) (p0:List Int) (p1:List ai):Option (Unit ⊕ (Bool×Int)):=cS sh (Ds sh p0 p1) (B3 sh p0 p1) p1 ()
noncomputable def af0 {R:Type} (k:AX->AS SS->Option R) (p0:List Int) (p1:List ai) (x:Unit ⊕ (Bool×Int)):Option R:=(λx=>ο (λv=>k .ret (ajF p0 p1)) (λv=>k (.exit 0) (ajG p0 p1 v.1 v.2)) x) x
noncomputable def Y9:bH SS:=bT 2 (λst=>((dB st 3 96).bind λ_=>(dB st 6 142).bind λ_=>lQ st 132 10).bind λ_=>(jy (bg st 0 0)).bind λp0=>(bB 48 (bg st 0 1)).bind λp1=>some (p0,p1)) (λp=>RN p.1 p.2) (λp=>C8 shut p.1 p.2) (λk p=>af0 k p.1 p.2)
noncomputable def ae1:ay SS:= { (q_ shut) with T:=bm (bm ((q_ shut).T) 141 ⟨⟨ξA,ar 141⟩,[HD]⟩) 142 ⟨⟨ξo,ar 142⟩,[P2]⟩ }
theorem ae2:aJ ae1 γ:=(aJ.b8 T2 ζ4 rfl bn λc hc=>by cases hc;exact ao.cons (ao.nil) (by kernel_rfl) aa8)
theorem aqf:aG KK γ ⟨ξo,ar 142⟩ (bQ (a_ ξo) 2) Y9:=
 aG.c6 (π:=List Int×List ai) (σ:=Unit) ae2 (ao.nil) rfl 60 (λp i a=>NH p.1 p.2 i) (λp=>p.2) (λp=>()) (St:=λp=>Ds shut p.1 p.2) (F:=λp=>B3 shut p.1 p.2) (λp=>rfl)
  (λm p i a k=>by kernel_rfl) (by rintro p (x|x)<;>exact⟨_,_,λ_=>rfl⟩) (λp N C A O w a hr=>Qj hr (j:=0) (n:=1) (t:=48) rfl rfl λv h=>h)
noncomputable def T3:ay SS:= { (q_ shut) with T:=bm (bm ((q_ shut).T) 141 ⟨⟨ξA,ar 141⟩,[HD]⟩) 142 ⟨⟨ξo,ar 142⟩,[td (λst=>(dB st 3 142).bind λ_=>lQ st 18 4) P2 (Y9)]⟩ }
theorem ae3:aJ T3 γ:=(aJ.b8 (aJ.b8 (an.all Cw rfl) ζ3 rfl bn λc hc=>by cases hc;exact ao.cons (ao.nil) (by kernel_rfl) aa6) ζ4 rfl bn λc hc=>by cases hc;exact ao.cons (ao.nil) (by kernel_rfl) (aG.alt aa8 aqf))
noncomputable def EL (sh:Sh) (p:bS):T (Int):=
 .bf ((↑p.ae.length:Int)==0) (
  .ok 320)<|
 .bd (idx p.ae 0) λz0=>
  .bf (!kA z0 (ai.mk 1 0 false 0)) (
   .ok 320)<|
  .gd (zL p.aQ p.ae 0)<|
   .bd (KN sh p.aQ p.ae 0) λx4=> .cs x4 (λy1=>
    .bf (decide (y1>=0)) (
     .ok 320)<|
    .gd (RN p.aQ p.ae)<|
     .bd (C8 sh p.aQ p.ae) λx6=> .cs x6 (λ_=>
      .ok 320) λy2=>
      .ok 0) λy1=>
    .gd (RN p.aQ p.ae)<|
     .bd (C8 sh p.aQ p.ae) λx6=> .cs x6 (λ_=>
      .ok 320) λy2=>
      .ok 0
noncomputable def rG (sh:Sh) (p:bS):Option (Int):=sh.s _ (EL sh p).val
theorem atn:R1 KK T3 60 50 [27] (EL shut) (b5 KK 27):=by intro R p k;kernel_rfl
noncomputable def aiL (sh:Sh):bO SS:=fS KK 60 50 (rG sh) (b5 KK 27)
noncomputable def Kt (sh:Sh):ay SS:=cq (aiL sh) (q_ sh)
theorem UD:an (Kt shut) γ:=gm Cw ae3 rfl rfl atn
noncomputable def DU (sh:Sh) (d:aj):T (Bool):=
 .bf (decide (d.aa<4294967296)) (
  .bf (decide (d.b_>=0)) (
   .ok (decide (d.b_<8)))<|
  .ok false)<|
 .ok false
noncomputable def MM (sh:Sh) (d:aj):Option (Bool):=sh.s _ (DU sh d).val
theorem ass:R1 KK (Kt shut) 102 105 [4] (DU shut) (b5 KK 4):=by intro R d k;kernel_rfl
noncomputable def ahN (sh:Sh):bO SS:=fS KK 102 105 (MM sh) (b5 KK 4)
noncomputable def JE (sh:Sh):ay SS:=cq (ahN sh) (Kt sh)
theorem Ug:an (JE shut) γ:=gm UD (an.all UD rfl) rfl rfl ass
noncomputable def DZ (sh:Sh) (x y:Int):T (Int):=
 .bf (x !=x) (
  .bf (y !=y) (
   .ok 0)<|
  .ok (-1))<|
 .bf (y !=y) (
  .ok 1)<|
 .bf (decide (x<y)) (
  .ok (-1))<|
 .bf (decide (x>y)) (
  .ok 1)<|
 .ok 0
noncomputable def nB (sh:Sh) (x y:Int):Option (Int):=sh.s _ (DZ sh x y).val
theorem asy:R2 KK (JE shut) 144 35 35 [3] (DZ shut) (b5 KK 3):=by intro R x y k;kernel_rfl
noncomputable def ahV (sh:Sh):bO SS:=eH KK 144 35 35 (nB sh) (b5 KK 3)
noncomputable def JK (sh:Sh):ay SS:=cq (ahV sh) (JE sh)
theorem Uj:an (JK shut) γ:=eS Ug (an.all Ug rfl) rfl rfl asy
noncomputable def U8 (sh:Sh) (x y:Int):T (Int):=
 .bf (x !=x) (
  .bf (y !=y) (
   .ok 0)<|
  .ok (-1))<|
 .bf (y !=y) (
  .ok 1)<|
 .bf (decide (x<y)) (
  .ok (-1))<|
 .bf (decide (x>y)) (
  .ok 1)<|
 .ok 0
noncomputable def MS (sh:Sh) (x y:Int):Option (Int):=sh.s _ (U8 sh x y).val
theorem ata:R2 KK (JK shut) 37 3 3 [3] (U8 shut) (b5 KK 3):=by intro R x y k;kernel_rfl
noncomputable def aiy (sh:Sh):bO SS:=eH KK 37 3 3 (MS sh) (b5 KK 3)
noncomputable def CS (sh:Sh):ay SS:=cq (aiy sh) (JK sh)
theorem Kh:an (CS shut) γ:=eS Uj (an.all Uj rfl) rfl rfl ata
noncomputable def zM (p0:List Int) (p1:Int):AS SS:=⟨[(3,(vi 0)),(6,(vo 0)),(7,(vi 2)),(8,(vi p1))],[(rX 3 p0)],1,none,false,[],[]⟩
noncomputable def ajJ (p0:List Int) (a0:Int):AS SS:= { zM p0 a0 with env:=[(2,(vi a0))] }
noncomputable def ajK (p0:List Int) (a0:Bool) (a1:Int):AS SS:=xe [(9,(vb a0))] (zM p0 a1)
noncomputable def rl (sh:Sh) (p0:List Int) (a:Int):T (Int ⊕ Int ⊕ (Bool×Int)):=
 .bf (decide (a<2)) (
  .bd (idx p0 a) λz0=>
   .bd (p0[a.toNat]?) λz1=>
    .bf (z1 !=0) (
     .ok (.inr (.inl z1)))<|
    .ok (.inl (ε.wrap (a+1))))<|
 .ok (.inr (.inr ((decide (a<2)),a)))
noncomputable def KS (sh:Sh) (p0:List Int) (p1:Int):Option (Int ⊕ (Bool×Int)):=cA sh (rl sh p0) 1000000 p1
noncomputable def af2 {R:Type} (k:AX->AS SS->Option R) (p0:List Int) (x:Int ⊕ (Bool×Int)):Option R:=(λx=>ο (λv=>k .ret (ajJ p0 v)) (λv=>k (.exit 0) (ajK p0 v.1 v.2)) x) x
noncomputable def Y_:bH SS:=bT 4 (λst=>(c9 st 0 3).bind λp0=>(bq (aZ st 8 0)).bind λp1=>some (p0,p1)) (λp=>zM p.1 p.2) (λp=>KS shut p.1 p.2) (λk p=>af2 k p.1)
theorem aqg:aG KK γ ⟨ζ5,ar 143⟩ (bQ (a_ ζ5) 4) Y_:=
 aG.cA (π:=List Int×Int) (σ:=Int) (an.all Kh rfl) (ao.nil) rfl 60 (λp a=>zM p.1 a) (λp=>p.2) (St:=λp=>rl shut p.1) (λp=>1000000) (λp=>rfl)
  (λm p a k=>by kernel_rfl)
noncomputable def SZ:ay SS:= { (CS shut) with T:=bm ((CS shut).T) 143 ⟨⟨ζ5,ar 143⟩,[Y_]⟩ }
theorem adS:aJ SZ γ:=(aJ.b8 (an.all Kh rfl) Tryz.func143 rfl bn λc hc=>by cases hc;exact ao.cons (ao.nil) (by kernel_rfl) aqg)
noncomputable def DV (sh:Sh) (a b:aj):T (Int):=
 .bd (nB sh a.aa b.aa) λy0=>
  .bd (MS sh a.b_ b.b_) λy1=>
   .gd (zM [y0,y1] 0)<|
    .bd (KS sh [y0,y1] 0) λx5=> .cs x5 (λy2=>
     .ok y2) λy2=>
     .ok 0
noncomputable def yZ (sh:Sh) (a b:aj):Option (Int):=sh.s _ (DV sh a b).val
theorem ast:R2 KK SZ 103 105 105 [3] (DV shut) (b5 KK 3):=by intro R a b k;kernel_rfl
noncomputable def ahO (sh:Sh):bO SS:=eH KK 103 105 105 (yZ sh) (b5 KK 3)
noncomputable def Cx (sh:Sh):ay SS:=cq (ahO sh) (CS sh)
theorem JF:an (Cx shut) γ:=eS Kh adS rfl rfl ast
noncomputable def GI (p0:List aj) (p1:Int):AS SS:=⟨[(0,(vd 51 p0)),(8,(vd 51 p0)),(9,(vl p0)),(10,(vi p1))],[],0,none,false,[],[]⟩
noncomputable def acB (p0:List aj):AS SS:=GI p0 0
noncomputable def akN (p0:List aj):AS SS:= { GI p0 0 with env:=[(2,(vi 330))] }
noncomputable def akO (p0:List aj) (a0:Bool) (a1:Int):AS SS:=xe [(11,(vb a0))] (GI p0 a1)
noncomputable def yy (sh:Sh) (p0:List aj) (p1:Int) (z0:aj) (a:Unit):T (Unit ⊕ Unit ⊕ (Bool×Int)):=
 .bd (MM sh z0) λy1=>
  .bf (!y1) (
   .ok (.inr (.inl ())))<|
  .bf (decide (p1>0)) (
   .bd (idx p0 (ε.wrap (p1-1))) λz2=>
    .bd (yZ sh z2 z0) λy3=>
     .bf (decide (y3>=0)) (
      .ok (.inr (.inl ())))<|
     .ok (.inl ()))<|
  .ok (.inl ())
noncomputable def Cn (sh:Sh) (p0:List aj) (p1:Int) (a:Unit):T (Unit ⊕ (Bool×Int)):=
 .ok (.inr ((decide (p1<(↑p0.length:Int))),p1))
noncomputable def Lr (sh:Sh) (p0:List aj):Option (Unit ⊕ (Bool×Int)):=cS sh (yy sh p0) (Cn sh p0) p0 ()
noncomputable def agN {R:Type} (k:AX->AS SS->Option R) (p0:List aj) (x:Unit ⊕ (Bool×Int)):Option R:=(λx=>ο (λv=>k .ret (akN p0)) (λv=>k (.exit 0) (akO p0 v.1 v.2)) x) x
noncomputable def ZD:bH SS:=bT 5 (λst=>(bB 51 (aZ st 0 0)).bind λp0=>some p0) (λp=>acB p) (λp=>Lr shut p) (λk p=>agN k p)
theorem aqT:aG KK γ ⟨ζn,ar 61⟩ (bQ (a_ ζn) 5) ZD:=
 aG.c6 (π:=List aj) (σ:=Unit) (an.all JF rfl) (ao.nil) rfl 60 (λp i a=>GI p i) (λp=>p) (λp=>()) (St:=λp=>yy shut p) (F:=λp=>Cn shut p) (λp=>rfl)
  (λm p i a k=>by kernel_rfl) (by rintro p (x|x)<;>exact⟨_,_,λ_=>rfl⟩) (λp N C A O w a hr=>dQ hr (t:=51) (sl:=0) rfl λv h=>h)
noncomputable def T4:ay SS:= { (Cx shut) with T:=bm ((Cx shut).T) 61 ⟨⟨ζn,ar 61⟩,[ZD]⟩ }
theorem ae4:aJ T4 γ:=(aJ.b8 (an.all JF rfl) Tryz.func61 rfl bn λc hc=>by cases hc;exact ao.cons (ao.nil) (by kernel_rfl) aqT)
noncomputable def EM (sh:Sh) (l:List aj):T (Int):=
 .bf (decide ((↑l.length:Int)>64)) (
  .ok 330)<|
 .gd (acB l)<|
  .bd (Lr sh l) λx3=> .cs x3 (λ_=>
   .ok 330) λy0=>
   .ok 0
noncomputable def ow (sh:Sh) (l:List aj):Option (Int):=sh.s _ (EM sh l).val
theorem ato:R1 KK T4 61 51 [27] (EM shut) (b5 KK 27):=by intro R l k;kernel_rfl
noncomputable def aiM (sh:Sh):bO SS:=fS KK 61 51 (ow sh) (b5 KK 27)
noncomputable def CX (sh:Sh):ay SS:=cq (aiM sh) (Cx sh)
theorem Ku:an (CX shut) γ:=gm JF ae4 rfl rfl ato
noncomputable def vL (sh:Sh) (p:Int):T (Bool):=
 .bf (decide (p>=1)) (
  .ok (decide (p<4294967296)))<|
 .ok false
noncomputable def wg (sh:Sh) (p:Int):Option (Bool):=sh.s _ (vL sh p).val
theorem ac4:R1 KK (CX shut) 107 35 [4] (vL shut) (b5 KK 4):=by intro R p k;kernel_rfl
noncomputable def ahR (sh:Sh):bO SS:=fS KK 107 35 (wg sh) (b5 KK 4)
noncomputable def CA (sh:Sh):ay SS:=cq (ahR sh) (CX sh)
theorem JH:an (CA shut) γ:=gm Ku (an.all Ku rfl) rfl rfl ac4
noncomputable def zN (p0:ByteArray) (p1:List Int) (p2 p3:Int):AS SS:=⟨[(0,(vs (.v (.string p0)))),(5,(vu p2)),(14,(.s (.agg [(.cd .u8 8 p1)]))),(15,(vi p3))],[],0,none,false,[],[]⟩
noncomputable def aj0 (p0:ByteArray) (p1:List Int):AS SS:= { zN p0 p1 0 0 with env:=[(2,(vu 0)),(3,(vi 2))] }
noncomputable def aj1 (p0:ByteArray) (p1:List Int) (a0:Bool) (a1 a2:Int):AS SS:= { zN p0 p1 a1 a1 with env:=[(16,(vb a0)),(0,(vs (.v (.string p0)))),(5,(vu a1)),(14,(.s (.agg [(.cd .u8 8 p1)]))),(15,(vi a2))] }
noncomputable def yn (sh:Sh) (p0:ByteArray) (p1:List Int) (a:Int×Int):T ((Int×Int) ⊕ Unit ⊕ (Bool×Int×Int)):=
 .bf (decide (a.2<8)) (
  .bd (fq a.2 8) λz0=>
   .bf (aI p1 z0==0) (
    .bf (decide (a.2<(↑p0.size:Int))) (
     .ok (.inr (.inl ())))<|
    .bd (uW ν (ν.wrap (aI p1 z0)) (ε.wrap (8*a.2))) λz1=>
     .ok (.inl ((bits BinOp.or ν a.1 z1),(ε.wrap (a.2+1)))))<|
   .bd (uW ν (ν.wrap (aI p1 z0)) (ε.wrap (8*a.2))) λz1=>
    .ok (.inl ((bits BinOp.or ν a.1 z1),(ε.wrap (a.2+1)))))<|
 .ok (.inr (.inr ((decide (a.2<8)),a.1,a.2)))
noncomputable def KZ (sh:Sh) (p0:ByteArray) (p1:List Int) (p2 p3:Int):Option (Unit ⊕ (Bool×Int×Int)):=cA sh (yn sh p0 p1) 1000000 (p2,p3)
noncomputable def af' {R:Type} (k:AX->AS SS->Option R) (p0:ByteArray) (p1:List Int) (x:Unit ⊕ (Bool×Int×Int)):Option R:=(λx=>ο (λv=>k .ret (aj0 p0 p1)) (λv=>k (.exit 0) (aj1 p0 p1 v.1 v.2.1 v.2.2)) x) x
noncomputable def Zh:bH SS:=bT 8 (λst=>(Fs (aZ st 0 0)).bind λp0=>(jy (aZ st 14 0)).bind λp1=>(bq (aZ st 5 0)).bind λp2=>(bq (aZ st 15 0)).bind λp3=>some (p0,p1,p2,p3)) (λp=>zN p.1 p.2.1 p.2.2.1 p.2.2.2) (λp=>KZ shut p.1 p.2.1 p.2.2.1 p.2.2.2) (λk p=>af' k p.1 p.2.1)
theorem aqo:aG KK γ ⟨ζ6,ar 189⟩ (bQ (a_ ζ6) 8) Zh:=
 aG.cA (π:=ByteArray×List Int×Int×Int) (σ:=Int×Int) (an.all JH rfl) (ao.nil) rfl 60 (λp a=>zN p.1 p.2.1 a.1 a.2) (λp=>(p.2.2.1,p.2.2.2)) (St:=λp=>yn shut p.1 p.2.1) (λp=>1000000) (λp=>rfl)
  (λm p a k=>by kernel_rfl)
noncomputable def TG:ay SS:= { (CA shut) with T:=bm ((CA shut).T) 189 ⟨⟨ζ6,ar 189⟩,[Zh]⟩ }
theorem aeG:aJ TG γ:=(aJ.b8 (an.all JH rfl) Tryz.func189 rfl bn λc hc=>by cases hc;exact ao.cons (ao.nil) (by kernel_rfl) aqo)
noncomputable def En (sh:Sh) (s:ByteArray):T (Int×Int):=
 .bf (decide ((↑s.size:Int)>8)) (
  .ok (0,111))<|
 .bd (IJ KK (aH (gP (gP (gP (gP (gP (gP (gP (gP [] []++[]) []++[]) []++[]) []++[]) []++[]) []++[some (Ob.box 303 (List.map LV.v [ξa ξ0 0,ξa ξ0 0,ξa ξ0 0,ξa ξ0 0,ξa ξ0 0,ξa ξ0 0,ξa ξ0 0,ξa ξ0 0]))]) []++[]) []++[])) 5 ξ0 8 (LV.v (Value.string s))) λz0=>
  .gd (zN s (ez [0,0,0,0,0,0,0,0] z0) 0 0)<|
   .bd (KZ sh s (ez [0,0,0,0,0,0,0,0] z0) 0 0) λx4=> .cs x4 (λ_=>
    .ok (0,2)) λy1=>
    .ok (y1.2.1,0)
noncomputable def FO (sh:Sh) (s:ByteArray):Option (Int×Int):=sh.s _ (En sh s).val
theorem asW:R1 KK TG 189 9 [35,27] (En shut) (dE KK 35 27):=by intro R s k;kernel_rfl
noncomputable def ail (sh:Sh):bO SS:=fS KK 189 9 (FO sh) (dE KK 35 27)
noncomputable def CJ (sh:Sh):ay SS:=cq (ail sh) (CA sh)
theorem J8:an (CJ shut) γ:=gm JH aeG rfl rfl asW
noncomputable def Ge (p0 p1:Int) (p2:List Int):AS SS:=⟨[(0,(vu p0)),(4,(vo 0)),(5,(vu p1))],[(rX 5 p2)],0,none,false,[],[]⟩
noncomputable def ajL (p0:Int) (a0:Bool) (a1 a2:Int) (a3:List Int):AS SS:= { Ge p0 p0 a3 with env:=[(12,(vb a0)),(11,(vu a1)),(10,(vu a2)),(0,(vu p0)),(4,(vo 0)),(5,(vu a2))] }
noncomputable def yl (sh:Sh) (p0:Int) (a:Int×List Int):T ((Int×List Int) ⊕ (Bool×Int×Int×List Int)):=
 .bf (bits ζ7 ν a.1 255 !=0) (
  .bd (app 1 a.2 [ξ0.wrap a.1]) λz0=>
   .ok (.inl ((a.1.fdiv 256),z0)))<|
 .ok (.inr ((bits ζ7 ν a.1 255 !=0),(bits ζ7 ν a.1 255),a.1,a.2))
noncomputable def KT (sh:Sh) (p0 p1:Int) (p2:List Int):Option ((Bool×Int×Int×List Int)):=cA sh (yl sh p0) 1000000 (p1,p2)
noncomputable def af3 {R:Type} (k:AX->AS SS->Option R) (p0:Int) (x:(Bool×Int×Int×List Int)):Option R:=(λv=>k (.exit 0) (ajL p0 v.1 v.2.1 v.2.2.1 v.2.2.2)) x
noncomputable def Za:bH SS:=bT 4 (λst=>(bq (aZ st 0 0)).bind λp0=>(bq (aZ st 5 0)).bind λp1=>(c9 st 0 5).bind λp2=>some (p0,p1,p2)) (λp=>Ge p.1 p.2.1 p.2.2) (λp=>KT shut p.1 p.2.1 p.2.2) (λk p=>af3 k p.1)
theorem aqh:aG KK γ ⟨ζ8,ar 146⟩ (bQ (a_ ζ8) 4) Za:=
 aG.cA (π:=Int×Int×List Int) (σ:=Int×List Int) (an.all J8 rfl) (ao.nil) rfl 60 (λp a=>Ge p.1 a.1 a.2) (λp=>(p.2.1,p.2.2)) (St:=λp=>yl shut p.1) (λp=>1000000) (λp=>rfl)
  (λm p a k=>by kernel_rfl)
noncomputable def Tb:ay SS:= { (CJ shut) with T:=bm ((CJ shut).T) 146 ⟨⟨ζ8,ar 146⟩,[Za]⟩ }
theorem ad5:aJ Tb γ:=(aJ.b8 (an.all J8 rfl) Tryz.func146 rfl bn λc hc=>by cases hc;exact ao.cons (ao.nil) (by kernel_rfl) aqh)
noncomputable def D3 (sh:Sh) (w:Int):T (ByteArray×Int):=
 .gd (Ge w w [])<|
  .bd (KT sh w w []) λy0=>
   .bd (oO KK 5 ξ0 y0.2.2.2) λz1=>
    .bd (FO sh (strOf z1)) λy2=>
     .bf (y2.2 !=0) (
      .ok ((ξ #[]),2))<|
     .bf (y2.1 !=w) (
      .ok ((ξ #[]),2))<|
     .ok ((strOf z1),0)
noncomputable def Fw (sh:Sh) (w:Int):Option (ByteArray×Int):=sh.s _ (D3 sh w).val
theorem asA:R1 KK Tb 146 35 [9,27] (D3 shut) (dE KK 9 27):=by intro R w k;kernel_rfl
noncomputable def ahX (sh:Sh):bO SS:=fS KK 146 35 (Fw sh) (dE KK 9 27)
noncomputable def CB (sh:Sh):ay SS:=cq (ahX sh) (CJ sh)
theorem JM:an (CB shut) γ:=gm J8 ad5 rfl rfl asA
noncomputable def oE (p0:Bool) (p1:ByteArray) (p2:Nat):AS SS:=⟨[(5,(vb p0)),(20,(vs (.ep 0)))],[(some (.ep p1 p2))],0,none,false,[],[]⟩
noncomputable def ajh (p1:ByteArray) (a0 a1:Bool) (a2:Int) (a3 a4 a5 a6:Bool) (a7:Int) (a8:Nat):AS SS:= { oE a0 p1 a8 with env:=[(42,(vb a0)),(41,(vb a1)),(5,(vb a1)),(40,(vb a1)),(39,(vb a1)),(25,(vb true)),(38,(vb a1)),(32,(vb false)),(37,(vb a1)),(35,(vb true)),(36,(vs (.v (.int .i32 a2)))),(35,(vb true)),(35,(vb a3)),(32,(vb false)),(34,(vb a3)),(32,(vb false)),(33,(vs (.v (.int .i32 a2)))),(32,(vb false)),(32,(vb a4)),(25,(vb true)),(31,(vb a4)),(25,(vb true)),(30,(vb a4)),(28,(vb true)),(29,(vs (.v (.int .i32 a2)))),(28,(vb true)),(28,(vb a5)),(25,(vb true)),(27,(vb a5)),(25,(vb true)),(26,(vs (.v (.int .i32 a2)))),(25,(vb true)),(25,(vb a6)),(24,(vb a6)),(7,(vs (.v (.int .i32 a2)))),(23,(vs (.v (.int .i32 a2)))),(22,(vb true)),(21,(.bD [(.one (.v (.bool true))),(.one (li a7)),(.one (.v (.int .i32 a2)))])),(5,(vb a6)),(20,(vs (.ep 0)))] }
noncomputable def aji (p1:ByteArray) (a0:Bool) (a1:Int) (a2 a3 a4:Bool) (a5:Int) (a6:Nat):AS SS:= { oE a0 p1 a6 with env:=[(42,(vb true)),(41,(vb false)),(5,(vb false)),(40,(vb false)),(39,(vb false)),(25,(vb true)),(38,(vb false)),(32,(vb false)),(37,(.bD [])),(35,(vb false)),(36,(.bD [])),(35,(vb false)),(35,(vb a0)),(32,(vb false)),(34,(vb a0)),(32,(vb false)),(33,(vs (.v (.int .i32 a1)))),(32,(vb false)),(32,(vb a2)),(25,(vb true)),(31,(vb a2)),(25,(vb true)),(30,(vb a2)),(28,(vb true)),(29,(vs (.v (.int .i32 a1)))),(28,(vb true)),(28,(vb a3)),(25,(vb true)),(27,(vb a3)),(25,(vb true)),(26,(vs (.v (.int .i32 a1)))),(25,(vb true)),(25,(vb a4)),(24,(vb a4)),(7,(vs (.v (.int .i32 a1)))),(23,(vs (.v (.int .i32 a1)))),(22,(vb true)),(21,(.bD [(.one (.v (.bool true))),(.one (li a5)),(.one (.v (.int .i32 a1)))])),(5,(vb a4)),(20,(vs (.ep 0)))] }
noncomputable def ajj (p1:ByteArray) (a0 a1:Bool) (a2:Int) (a3 a4 a5:Bool) (a6:Int) (a7:Nat):AS SS:= { oE a0 p1 a7 with env:=[(42,(vb a0)),(41,(vb a1)),(5,(vb a1)),(40,(vb a1)),(39,(vb a1)),(25,(vb true)),(38,(vb a1)),(32,(vb false)),(37,(vb a1)),(35,(vb true)),(36,(vs (.v (.int .i32 a2)))),(35,(vb true)),(35,(vb a3)),(32,(vb false)),(34,(vb a3)),(32,(vb false)),(33,(vs (.v (.int .i32 a2)))),(32,(vb false)),(32,(vb false)),(25,(vb true)),(31,(vb false)),(25,(vb true)),(30,(.bD [])),(28,(vb false)),(29,(.bD [])),(28,(vb false)),(28,(vb a4)),(25,(vb true)),(27,(vb a4)),(25,(vb true)),(26,(vs (.v (.int .i32 a2)))),(25,(vb true)),(25,(vb a5)),(24,(vb a5)),(7,(vs (.v (.int .i32 a2)))),(23,(vs (.v (.int .i32 a2)))),(22,(vb true)),(21,(.bD [(.one (.v (.bool true))),(.one (li a6)),(.one (.v (.int .i32 a2)))])),(5,(vb a5)),(20,(vs (.ep 0)))] }
noncomputable def ajk (p1:ByteArray) (a0:Bool) (a1:Int) (a2 a3:Bool) (a4:Int) (a5:Nat):AS SS:= { oE a0 p1 a5 with env:=[(42,(vb true)),(41,(vb false)),(5,(vb false)),(40,(vb false)),(39,(vb false)),(25,(vb true)),(38,(vb false)),(32,(vb false)),(37,(.bD [])),(35,(vb false)),(36,(.bD [])),(35,(vb false)),(35,(vb a0)),(32,(vb false)),(34,(vb a0)),(32,(vb false)),(33,(vs (.v (.int .i32 a1)))),(32,(vb false)),(32,(vb false)),(25,(vb true)),(31,(vb false)),(25,(vb true)),(30,(.bD [])),(28,(vb false)),(29,(.bD [])),(28,(vb false)),(28,(vb a2)),(25,(vb true)),(27,(vb a2)),(25,(vb true)),(26,(vs (.v (.int .i32 a1)))),(25,(vb true)),(25,(vb a3)),(24,(vb a3)),(7,(vs (.v (.int .i32 a1)))),(23,(vs (.v (.int .i32 a1)))),(22,(vb true)),(21,(.bD [(.one (.v (.bool true))),(.one (li a4)),(.one (.v (.int .i32 a1)))])),(5,(vb a3)),(20,(vs (.ep 0)))] }
noncomputable def ajl (p1:ByteArray) (a0:Bool) (a1 a2:Int) (a3:Nat):AS SS:=xe [(42,(vb true)),(41,(vb false)),(5,(vb false)),(40,(vb false)),(39,(.bD [])),(25,(vb false)),(38,(.bD [])),(37,(.bD [])),(36,(.bD [])),(35,(.bD [])),(34,(.bD [])),(33,(.bD [])),(32,(.bD [])),(25,(vb false)),(31,(.bD [])),(25,(vb false)),(30,(.bD [])),(29,(.bD [])),(28,(.bD [])),(25,(vb false)),(27,(.bD [])),(25,(vb false)),(26,(.bD [])),(25,(vb false)),(25,(vb a0)),(24,(vb a0)),(7,(vs (.v (.int .i32 a1)))),(23,(vs (.v (.int .i32 a1)))),(22,(vb true)),(21,(.bD [(.one (.v (.bool true))),(.one (li a2)),(.one (.v (.int .i32 a1)))]))] (oE a0 p1 a3)
noncomputable def ajm (p1:ByteArray) (a0:Bool) (a1:Nat):AS SS:=xe [(22,(vb false)),(21,(.bD [(.one (.v (.bool false)))]))] (oE a0 p1 a1)
noncomputable def rk (sh:Sh) (p1:ByteArray) (a:Bool×Nat):T ((Bool×Nat) ⊕ (Bool×Bool×Int×Bool×Bool×Bool×Bool×Int×Nat) ⊕ (Bool×Int×Bool×Bool×Bool×Int×Nat) ⊕ (Bool×Bool×Int×Bool×Bool×Bool×Int×Nat) ⊕ (Bool×Int×Bool×Bool×Int×Nat) ⊕ (Bool×Int×Int×Nat) ⊕ (Bool×Nat)):=
 .bf (decide (a.2<p1.size)) (
  .bf (a.1) (
   .bf (decide ((↑(δ p1 a.2).fst:Int)>=97)) (
    .bf (decide ((↑(δ p1 a.2).fst:Int)<=122)) (
     .ok (.inl (true,(a.2+(δ p1 a.2).snd))))<|
    .bf (decide ((↑(δ p1 a.2).fst:Int)>=48)) (
     .bf (!decide ((↑(δ p1 a.2).fst:Int)<=57)) (
      .ok (.inr (.inl ((!decide ((↑(δ p1 a.2).fst:Int)<=57)),(decide ((↑(δ p1 a.2).fst:Int)<=57)),((↑(δ p1 a.2).fst:Int)),(decide ((↑(δ p1 a.2).fst:Int)>=48)),(decide ((↑(δ p1 a.2).fst:Int)<=122)),(decide ((↑(δ p1 a.2).fst:Int)>=97)),a.1,(↑a.2:Int),(a.2+(δ p1 a.2).snd)))))<|
     .ok (.inl ((decide ((↑(δ p1 a.2).fst:Int)<=57)),(a.2+(δ p1 a.2).snd))))<|
    .ok (.inr (.inr (.inl ((decide ((↑(δ p1 a.2).fst:Int)>=48)),((↑(δ p1 a.2).fst:Int)),(decide ((↑(δ p1 a.2).fst:Int)<=122)),(decide ((↑(δ p1 a.2).fst:Int)>=97)),a.1,(↑a.2:Int),(a.2+(δ p1 a.2).snd))))))<|
   .bf (decide ((↑(δ p1 a.2).fst:Int)>=48)) (
    .bf (!decide ((↑(δ p1 a.2).fst:Int)<=57)) (
     .ok (.inr (.inr (.inr (.inl ((!decide ((↑(δ p1 a.2).fst:Int)<=57)),(decide ((↑(δ p1 a.2).fst:Int)<=57)),((↑(δ p1 a.2).fst:Int)),(decide ((↑(δ p1 a.2).fst:Int)>=48)),(decide ((↑(δ p1 a.2).fst:Int)>=97)),a.1,(↑a.2:Int),(a.2+(δ p1 a.2).snd)))))))<|
    .ok (.inl ((decide ((↑(δ p1 a.2).fst:Int)<=57)),(a.2+(δ p1 a.2).snd))))<|
   .ok (.inr (.inr (.inr (.inr (.inl ((decide ((↑(δ p1 a.2).fst:Int)>=48)),((↑(δ p1 a.2).fst:Int)),(decide ((↑(δ p1 a.2).fst:Int)>=97)),a.1,(↑a.2:Int),(a.2+(δ p1 a.2).snd))))))))<|
  .ok (.inr (.inr (.inr (.inr (.inr (.inl (a.1,((↑(δ p1 a.2).fst:Int)),(↑a.2:Int),(a.2+(δ p1 a.2).snd)))))))))<|
 .ok (.inr (.inr (.inr (.inr (.inr (.inr (a.1,a.2)))))))
noncomputable def yg (sh:Sh) (p0:Bool) (p1:ByteArray) (p2:Nat):Option ((Bool×Bool×Int×Bool×Bool×Bool×Bool×Int×Nat) ⊕ (Bool×Int×Bool×Bool×Bool×Int×Nat) ⊕ (Bool×Bool×Int×Bool×Bool×Bool×Int×Nat) ⊕ (Bool×Int×Bool×Bool×Int×Nat) ⊕ (Bool×Int×Int×Nat) ⊕ (Bool×Nat)):=cA sh (rk sh p1) 1000000 (p0,p2)
noncomputable def afP {R:Type} (k:AX->AS SS->Option R) (p1:ByteArray) (x:(Bool×Bool×Int×Bool×Bool×Bool×Bool×Int×Nat) ⊕ (Bool×Int×Bool×Bool×Bool×Int×Nat) ⊕ (Bool×Bool×Int×Bool×Bool×Bool×Int×Nat) ⊕ (Bool×Int×Bool×Bool×Int×Nat) ⊕ (Bool×Int×Int×Nat) ⊕ (Bool×Nat)):Option R:=(λx=>ο (λv=>k (.exit 0) (ajh p1 v.1 v.2.1 v.2.2.1 v.2.2.2.1 v.2.2.2.2.1 v.2.2.2.2.2.1 v.2.2.2.2.2.2.1 v.2.2.2.2.2.2.2.1 v.2.2.2.2.2.2.2.2)) (λx=>ο (λv=>k (.exit 0) (aji p1 v.1 v.2.1 v.2.2.1 v.2.2.2.1 v.2.2.2.2.1 v.2.2.2.2.2.1 v.2.2.2.2.2.2)) (λx=>ο (λv=>k (.exit 0) (ajj p1 v.1 v.2.1 v.2.2.1 v.2.2.2.1 v.2.2.2.2.1 v.2.2.2.2.2.1 v.2.2.2.2.2.2.1 v.2.2.2.2.2.2.2)) (λx=>ο (λv=>k (.exit 0) (ajk p1 v.1 v.2.1 v.2.2.1 v.2.2.2.1 v.2.2.2.2.1 v.2.2.2.2.2)) (λx=>ο (λv=>k (.exit 0) (ajl p1 v.1 v.2.1 v.2.2.1 v.2.2.2)) (λv=>k (.exit 0) (ajm p1 v.1 v.2)) x) x) x) x) x) x
noncomputable def Y5:bH SS:=bT 5 (λst=>(tA (aZ st 5 0)).bind λp0=>(hpS st 0).bind λp1=>(Yk st 0).bind λp2=>some (p0,p1,p2)) (λp=>oE p.1 p.2.1 p.2.2) (λp=>yg shut p.1 p.2.1 p.2.2) (λk p=>afP k p.2.1)
theorem ap_:aG KK γ ⟨ζ9,ar 106⟩ (bQ (a_ ζ9) 5) Y5:=
 aG.cA (π:=Bool×ByteArray×Nat) (σ:=Bool×Nat) (an.all JM rfl) (ao.nil) rfl 60 (λp a=>oE a.1 p.2.1 a.2) (λp=>(p.1,p.2.2)) (St:=λp=>rk shut p.2.1) (λp=>1000000) (λp=>rfl)
  (λm p a k=>by kernel_rfl)
noncomputable def S3:ay SS:= { (CB shut) with T:=bm ((CB shut).T) 106 ⟨⟨ζ9,ar 106⟩,[Y5]⟩ }
theorem adT:aJ S3 γ:=(aJ.b8 (an.all JM rfl) Tryz.func106 rfl bn λc hc=>by cases hc;exact ao.cons (ao.nil) (by kernel_rfl) ap_)
noncomputable def DX (sh:Sh) (w:Int):T (Bool):=
 .bd (Fw sh w) λy0=>
  .bf (y0.2==0) (
   .gd (oE (!y0.1.toList==(ξ #[]).toList) y0.1 0)<|
    .bd (yg sh (!y0.1.toList==(ξ #[]).toList) y0.1 0) λx5=> .cs x5 (λy1=>
     .ok y1.2.1) λSI=> .cs SI (λy1=>
     .ok false) λSJ=> .cs SJ (λy1=>
     .ok y1.2.1) λSK=> .cs SK (λy1=>
     .ok false) λSL=> .cs SL (λy1=>
     .ok false) λy1=>
     .ok y1.1)<|
  .gd (oE false y0.1 0)<|
   .bd (yg sh false y0.1 0) λx4=> .cs x4 (λy1=>
    .ok y1.2.1) λSH=> .cs SH (λy1=>
    .ok false) λaus=> .cs aus (λy1=>
    .ok y1.2.1) λaut=> .cs aut (λy1=>
    .ok false) λauu=> .cs auu (λy1=>
    .ok false) λy1=>
    .ok y1.1
noncomputable def pM (sh:Sh) (w:Int):Option (Bool):=sh.s _ (DX sh w).val
theorem asv:R1 KK S3 106 35 [4] (DX shut) (b5 KK 4):=by intro R w k;kernel_rfl
noncomputable def ahQ (sh:Sh):bO SS:=fS KK 106 35 (pM sh) (b5 KK 4)
noncomputable def Cy (sh:Sh):ay SS:=cq (ahQ sh) (CB sh)
theorem Cz:an (Cy shut) γ:=gm JM adT rfl rfl asv
noncomputable def N2 (p0:List az) (p1:List aq) (p2:Int):AS SS:=⟨[(1,(va 0 0)),(12,(vd 55 p0)),(13,(vl p0)),(14,(vi p2))],[(bX 58 [(.aU 55 p0),(.aU 56 p1)])],0,none,false,[],[]⟩
noncomputable def acE (p0:List az) (p1:List aq):AS SS:=N2 p0 p1 0
noncomputable def akT (p0:List az) (p1:List aq):AS SS:=⟨[(2,(vi 350))],[],0,none,false,[],[]⟩
noncomputable def akU (p0:List az) (p1:List aq) (a0:Bool) (a1:Int):AS SS:=xe [(15,(vb a0))] (N2 p0 p1 a1)
noncomputable def DO (sh:Sh) (p0:List az) (p1:List aq) (p2:Int) (z0:az) (a:Unit):T (Unit ⊕ Unit ⊕ (Bool×Int)):=
 .bd (pM sh z0.br) λy1=>
  .bf (!y1) (
   .ok (.inr (.inl ())))<|
  .bd (wg sh z0.aa) λy2=>
   .bf (!y2) (
    .ok (.inr (.inl ())))<|
   .bf (decide (p2>0)) (
    .bd (idx p0 (ε.wrap (p2-1))) λz3=>
     .bf (decide (z3.br>=z0.br)) (
      .ok (.inr (.inl ())))<|
     .ok (.inl ()))<|
   .ok (.inl ())
noncomputable def Cq (sh:Sh) (p0:List az) (p1:List aq) (p2:Int) (a:Unit):T (Unit ⊕ (Bool×Int)):=
 .ok (.inr ((decide (p2<(↑p0.length:Int))),p2))
noncomputable def Lt (sh:Sh) (p0:List az) (p1:List aq):Option (Unit ⊕ (Bool×Int)):=cS sh (DO sh p0 p1) (Cq sh p0 p1) p0 ()
noncomputable def agQ {R:Type} (k:AX->AS SS->Option R) (p0:List az) (p1:List aq) (x:Unit ⊕ (Bool×Int)):Option R:=(λx=>ο (λv=>k .ret (akT p0 p1)) (λv=>k (.exit 0) (akU p0 p1 v.1 v.2)) x) x
noncomputable def ZF:bH SS:=bT 5 (λst=>(bB 55 (aZ st 12 0)).bind λp0=>(bB 56 (bg st 0 1)).bind λp1=>some (p0,p1)) (λp=>acE p.1 p.2) (λp=>Lt shut p.1 p.2) (λk p=>agQ k p.1 p.2)
theorem aqW:aG KK γ ⟨ξJ,ar 63⟩ (bQ (a_ ξJ) 5) ZF:=
 aG.c6 (π:=List az×List aq) (σ:=Unit) (an.all Cz rfl) (ao.nil) rfl 60 (λp i a=>N2 p.1 p.2 i) (λp=>p.1) (λp=>()) (St:=λp=>DO shut p.1 p.2) (F:=λp=>Cq shut p.1 p.2) (λp=>rfl)
  (λm p i a k=>by kernel_rfl) (by rintro p (x|x)<;>exact⟨_,_,λ_=>rfl⟩) (λp N C A O w a hr=>dQ hr (t:=55) (sl:=12) rfl λv h=>h)
noncomputable def N1 (p0:List aq) (p1:List az) (p2:Int):AS SS:=⟨[(1,(va 0 0)),(47,(vd 56 p0)),(48,(vl p0)),(49,(vi p2))],[(bX 58 [(.aU 55 p1),(.aU 56 p0)])],0,none,false,[],[]⟩
noncomputable def acD (p0:List aq) (p1:List az):AS SS:=N1 p0 p1 0
noncomputable def akR (p0:List aq) (p1:List az):AS SS:=⟨[(2,(vi 350))],[],0,none,false,[],[]⟩
noncomputable def akS (p0:List aq) (p1:List az) (a0:Bool) (a1:Int):AS SS:=xe [(50,(vb a0))] (N1 p0 p1 a1)
noncomputable def DN (sh:Sh) (p0:List aq) (p1:List az) (p2:Int) (z0:aq) (a:Unit):T (Unit ⊕ Unit ⊕ (Bool×Int)):=
 .bd (wg sh z0.aa) λy1=>
  .bf (!y1) (
   .ok (.inr (.inl ())))<|
  .bf (decide ((↑z0.bt.length:Int)<1)) (
   .ok (.inr (.inl ())))<|
  .bf (decide ((↑z0.bt.length:Int)>4)) (
   .ok (.inr (.inl ())))<|
  .bf (decide (p2>0)) (
   .bd (idx p0 (ε.wrap (p2-1))) λz2=>
    .bf (decide (z2.aa>=z0.aa)) (
     .ok (.inr (.inl ())))<|
    .ok (.inl ()))<|
  .ok (.inl ())
noncomputable def Cp (sh:Sh) (p0:List aq) (p1:List az) (p2:Int) (a:Unit):T (Unit ⊕ (Bool×Int)):=
 .ok (.inr ((decide (p2<(↑p0.length:Int))),p2))
noncomputable def Ls (sh:Sh) (p0:List aq) (p1:List az):Option (Unit ⊕ (Bool×Int)):=cS sh (DN sh p0 p1) (Cp sh p0 p1) p0 ()
noncomputable def agP {R:Type} (k:AX->AS SS->Option R) (p0:List aq) (p1:List az) (x:Unit ⊕ (Bool×Int)):Option R:=(λx=>ο (λv=>k .ret (akR p0 p1)) (λv=>k (.exit 2) (akS p0 p1 v.1 v.2)) x) x
noncomputable def ZE:bH SS:=bT 11 (λst=>(bB 56 (aZ st 47 0)).bind λp0=>(bB 55 (bg st 0 0)).bind λp1=>some (p0,p1)) (λp=>acD p.1 p.2) (λp=>Ls shut p.1 p.2) (λk p=>agP k p.1 p.2)
theorem aqV:aG KK γ ⟨ξJ,ar 63⟩ (bQ (a_ ξJ) 11) ZE:=
 aG.c6 (π:=List aq×List az) (σ:=Unit) (an.all Cz rfl) (ao.nil) rfl 60 (λp i a=>N1 p.1 p.2 i) (λp=>p.1) (λp=>()) (St:=λp=>DN shut p.1 p.2) (F:=λp=>Cp shut p.1 p.2) (λp=>rfl)
  (λm p i a k=>by kernel_rfl) (by rintro p (x|x)<;>exact⟨_,_,λ_=>rfl⟩) (λp N C A O w a hr=>dQ hr (t:=56) (sl:=47) rfl λv h=>h)
noncomputable def Jb:ay SS:= { (Cy shut) with T:=bm ((Cy shut).T) 63 ⟨⟨ξJ,ar 63⟩,[ZF,ZE]⟩ }
theorem T7:aJ Jb γ:=(aJ.b8 (an.all Cz rfl) Tryz.func63 rfl bn λc hc=>by cases hc;exact ao.cons (ao.cons (ao.nil) (by kernel_rfl) aqV) (by kernel_rfl) aqW)
noncomputable def EO (sh:Sh) (s:aP):T (Int):=
 .bf (decide ((↑s.aA.length:Int)>16)) (
  .ok 350)<|
 .gd (acE s.aA s.au)<|
  .bd (Lt sh s.aA s.au) λx3=> .cs x3 (λ_=>
   .ok 350) λy0=>
   .gd (acD s.au s.aA)<|
    .bd (Ls sh s.au s.aA) λx5=> .cs x5 (λ_=>
     .ok 350) λy1=>
     .ok 0
noncomputable def pP (sh:Sh) (s:aP):Option (Int):=sh.s _ (EO sh s).val
theorem ac5:R1 KK Jb 63 58 [27] (EO shut) (b5 KK 27):=by intro R s k;kernel_rfl
noncomputable def aiO (sh:Sh):bO SS:=fS KK 63 58 (pP sh) (b5 KK 27)
noncomputable def CZ (sh:Sh):ay SS:=cq (aiO sh) (Cy sh)
theorem Kw:an (CZ shut) γ:=gm Cz T7 rfl rfl ac5
noncomputable def Gj (p0:ByteArray) (p1:Nat):AS SS:=⟨[(0,(vs (.v (.string p0)))),(6,(vs (.ep 0)))],[(some (.ep p0 p1))],0,none,false,[],[]⟩
noncomputable def ajY (p0:ByteArray):AS SS:=⟨[(2,(vb false))],[],0,none,false,[],[]⟩
noncomputable def ajZ (p0:ByteArray) (a0:Nat):AS SS:=xe [(8,(vb false)),(7,(.bD [(.one (.v (.bool false)))]))] (Gj p0 a0)
noncomputable def vE (sh:Sh) (p0:ByteArray) (a:Nat):T (Nat ⊕ Unit ⊕ Nat):=
 .bf (decide (a<p0.size)) (
  .bf (decide ((↑(δ p0 a).fst:Int)>=97)) (
   .bf (decide ((↑(δ p0 a).fst:Int)<=122)) (
    .ok (.inl (a+(δ p0 a).snd)))<|
   .bf (decide ((↑(δ p0 a).fst:Int)>=48)) (
    .bf (!decide ((↑(δ p0 a).fst:Int)<=57)) (
     .ok (.inr (.inl ())))<|
    .ok (.inl (a+(δ p0 a).snd)))<|
   .ok (.inr (.inl ())))<|
  .bf (decide ((↑(δ p0 a).fst:Int)>=48)) (
   .bf (!decide ((↑(δ p0 a).fst:Int)<=57)) (
    .ok (.inr (.inl ())))<|
   .ok (.inl (a+(δ p0 a).snd)))<|
  .ok (.inr (.inl ())))<|
 .ok (.inr (.inr a))
noncomputable def KY (sh:Sh) (p0:ByteArray) (p1:Nat):Option (Unit ⊕ Nat):=cA sh (vE sh p0) 1000000 p1
noncomputable def af_ {R:Type} (k:AX->AS SS->Option R) (p0:ByteArray) (x:Unit ⊕ Nat):Option R:=(λx=>ο (λv=>k .ret (ajY p0)) (λv=>k (.exit 0) (ajZ p0 v)) x) x
noncomputable def Zg:bH SS:=bT 3 (λst=>(Fs (aZ st 0 0)).bind λp0=>(Yk st 0).bind λp1=>some (p0,p1)) (λp=>Gj p.1 p.2) (λp=>KY shut p.1 p.2) (λk p=>af_ k p.1)
theorem aqn:aG KK γ ⟨ζa,ar 187⟩ (bQ (a_ ζa) 3) Zg:=
 aG.cA (π:=ByteArray×Nat) (σ:=Nat) (an.all Kw rfl) (ao.nil) rfl 60 (λp a=>Gj p.1 a) (λp=>p.2) (St:=λp=>vE shut p.1) (λp=>1000000) (λp=>rfl)
  (λm p a k=>by kernel_rfl)
noncomputable def TE:ay SS:= { (CZ shut) with T:=bm ((CZ shut).T) 187 ⟨⟨ζa,ar 187⟩,[Zg]⟩ }
theorem aeE:aJ TE γ:=(aJ.b8 (an.all Kw rfl) Tryz.func187 rfl bn λc hc=>by cases hc;exact ao.cons (ao.nil) (by kernel_rfl) aqn)
noncomputable def Ek (sh:Sh) (s:ByteArray):T (Bool):=
 .gd (Gj s 0)<|
  .bd (KY sh s 0) λx3=> .cs x3 (λ_=>
   .ok false) λy0=>
   .ok (!s.toList==(ξ #[]).toList)
noncomputable def zb (sh:Sh) (s:ByteArray):Option (Bool):=sh.s _ (Ek sh s).val
theorem asU:R1 KK TE 187 9 [4] (Ek shut) (b5 KK 4):=by intro R s k;kernel_rfl
noncomputable def aij (sh:Sh):bO SS:=fS KK 187 9 (zb sh) (b5 KK 4)
noncomputable def CH (sh:Sh):ay SS:=cq (aij sh) (CZ sh)
theorem J6:an (CH shut) γ:=gm Kw aeE rfl rfl asU
noncomputable def Gy (p0:List ByteArray) (p1:Int):AS SS:=⟨[(0,(vd 192 p0)),(1,(vc 0)),(7,(vl p0)),(8,(vi p1))],[(some (.bI 288 [] [(.one (.bp 1 0))])),(bX 244 [(.v (.func (.func 187) (.mk []) (.mk [])))])],2,none,false,[],[]⟩
noncomputable def acu (p0:List ByteArray):AS SS:=Gy p0 0
noncomputable def akv (p0:List ByteArray) (a0:Int):AS SS:= { Gy p0 a0 with env:=[(4,(vi a0))] }
noncomputable def akw (p0:List ByteArray) (a0:Bool) (a1:Int):AS SS:=xe [(9,(vb a0))] (Gy p0 a1)
noncomputable def DJ (sh:Sh) (p0:List ByteArray) (p1:Int) (z0:ByteArray) (a:Unit):T (Unit ⊕ Int ⊕ (Bool×Int)):=
 .bd (zb sh z0) λy1=>
  .bf (!y1) (
   .ok (.inr (.inl p1)))<|
  .ok (.inl ())
noncomputable def Ch (sh:Sh) (p0:List ByteArray) (p1:Int) (a:Unit):T (Int ⊕ (Bool×Int)):=
 .ok (.inr ((decide (p1<(↑p0.length:Int))),p1))
noncomputable def Lk (sh:Sh) (p0:List ByteArray):Option (Int ⊕ (Bool×Int)):=cS sh (DJ sh p0) (Ch sh p0) p0 ()
noncomputable def agA {R:Type} (k:AX->AS SS->Option R) (p0:List ByteArray) (x:Int ⊕ (Bool×Int)):Option R:=(λx=>ο (λv=>k .ret (akv p0 v)) (λv=>k (.exit 0) (akw p0 v.1 v.2)) x) x
noncomputable def Zw:bH SS:=bT 3 (λst=>(dB st 0 288).bind λ_=>(bB 192 (aZ st 0 0)).bind λp0=>some p0) (λp=>acu p) (λp=>Lk shut p) (λk p=>agA k p)
theorem aqJ:aG KK γ ⟨ζb,ar 305⟩ (bQ (a_ ζb) 3) Zw:=
 aG.c6 (π:=List ByteArray) (σ:=Unit) (an.all J6 rfl) (ao.nil) rfl 60 (λp i a=>Gy p i) (λp=>p) (λp=>()) (St:=λp=>DJ shut p) (F:=λp=>Ch shut p) (λp=>rfl)
  (λm p i a k=>by kernel_rfl) (by rintro p (x|x)<;>exact⟨_,_,λ_=>rfl⟩) (λp N C A O w a hr=>dQ hr (t:=192) (sl:=0) rfl λv h=>h)
noncomputable def TF:ay SS:= { (CH shut) with T:=bm ((CH shut).T) 305 ⟨⟨ζb,ar 305⟩,[Zw]⟩ }
theorem aeF:aJ TF γ:=(aJ.b8 (an.all J6 rfl) Tryz.func305 rfl bn λc hc=>by cases hc;exact ao.cons (ao.nil) (by kernel_rfl) aqJ)
noncomputable def Em (sh:Sh) (p:List ByteArray):T (Int×Bool):=
 .bf (decide (p.length<=140737488355328)&&decide ((my p (ξ #[47])).size<=140737488355328)) (
  .bd (uU (ξ #[47]) (my p (ξ #[47]))) λz0=>
   .bd (FO sh z0) λy1=>
    .bf (y1.2==0) (
     .bf (decide ((↑p.length:Int)<=4)) (
      .gd (acu p)<|
       .bd (Lk sh p) λx8=> .cs x8 (λy2=>
        .ok (y1.1,(!decide (y2>=0)))) λy2=>
        .ok (y1.1,true))<|
     .ok (y1.1,false))<|
    .ok (y1.1,false))<|
 .no
noncomputable def pN (sh:Sh) (p:List ByteArray):Option (Int×Bool):=sh.s _ (Em sh p).val
theorem asV:R1 KK TF 188 193 [35,4] (Em shut) (dE KK 35 4):=by intro R p k;kernel_rfl
noncomputable def aik (sh:Sh):bO SS:=fS KK 188 193 (pN sh) (dE KK 35 4)
noncomputable def CI (sh:Sh):ay SS:=cq (aik sh) (CH sh)
theorem J7:an (CI shut) γ:=gm J6 aeF rfl rfl asV
noncomputable def Gr (p0:ByteArray) (p1:Int) (p2:Bool) (p3:ByteArray) (p4:List ByteArray):AS SS:=⟨[(0,(vs .eL)),(1,(va 5 0))],[(bX 195 [(.v (.slice none 0 0)),(lu 0)]),(bX 9 [(.v (.string p0))]),(bX 195 [(.own 6),(lu p1)]),(bX 4 [(.v (.bool p2))]),(some (.bI 248 [] [(.one (.bp 5 0))])),(bX 9 [(.v (.string p3))]),(rX 9 p4)],6,(some ⟨⟨ξp,ar 145⟩,[27],(iG (a_ ξp) 9),(iH (a_ ξp) 9),[(0,(vu p1)),(2,(va 0 0)),(4,(va 1 0)),(6,(va 2 0)),(7,(va 3 0)),(26,(vc 4))],none⟩),false,[],[3,2,5]⟩
noncomputable def akg (p0:ByteArray) (p1:Int) (a0:Bool) (a1:ByteArray) (a2:List ByteArray):AS SS:=⟨[],[(bX 195 [(.v (.slice none 0 0)),(lu 0)]),(bX 9 [(.v (.string p0))]),(bX 195 [(.own 6),(lu p1)]),(bX 4 [(.v (.bool a0))]),(some (.bI 248 [] [(.one (.bp 5 0))])),(bX 9 [(.v (.string a1))]),(rX 9 a2)],6,(some ⟨⟨ξp,ar 145⟩,[27],(iG (a_ ξp) 9),(iH (a_ ξp) 9),[(0,(vu p1)),(2,(va 0 0)),(4,(va 1 0)),(6,(va 2 0)),(7,(va 3 0)),(26,(vc 4))],(some (.exit 0))⟩),false,[],[3,2,5]⟩
noncomputable def akh (p0:ByteArray) (p1:Int) (a0:Bool) (a1:ByteArray) (a2:Bool) (a3:List ByteArray):AS SS:=xe [(5,(vb a0)),(4,(vs (.v (.string a1))))] (Gr p0 p1 a2 a1 a3)
noncomputable def lr (sh:Sh) (p0:ByteArray) (p1:Int) (a:Bool×ByteArray×List ByteArray):T ((Bool×ByteArray×List ByteArray) ⊕ (Bool×ByteArray×List ByteArray) ⊕ (Bool×ByteArray×Bool×List ByteArray)):=
 .bf (decide ((↑a.2.1.size:Int)>=1)) (
  .bd (iP a.2.1 none (some 1)) λz0=>
   .bf (z0.toList==(ξ #[47]).toList) (
    .bd (iP a.2.1 (some 1) none) λz1=>
     .bf (ε.wrap (ψ z1.data.toList (ξO 47)+1)==0) (
      .bd (iP a.2.1 (some 1) (some (↑a.2.1.size:Int))) λz2=>
       .bf (p0.toList==(ξ #[47]).toList) (
        .ok (.inr (.inl (a.1,a.2.1,a.2.2))))<|
       .bd (zb sh z2) λy3=>
        .bf (!y3) (
         .ok (.inr (.inl (y3,a.2.1,a.2.2))))<|
        .bd (app 16 a.2.2 [z2]) λz4=>
         .bd (iP a.2.1 (some (↑a.2.1.size:Int)) none) λz5=>
          .ok (.inl (y3,z5,z4)))<|
     .bd (iP a.2.1 (some 1) (some (ε.wrap (ψ z1.data.toList (ξO 47)+1)))) λz2=>
      .bf (p0.toList==(ξ #[47]).toList) (
       .ok (.inr (.inl (a.1,a.2.1,a.2.2))))<|
      .bd (zb sh z2) λy3=>
       .bf (!y3) (
        .ok (.inr (.inl (y3,a.2.1,a.2.2))))<|
       .bd (app 16 a.2.2 [z2]) λz4=>
        .bd (iP a.2.1 (some (ε.wrap (ψ z1.data.toList (ξO 47)+1))) none) λz5=>
         .ok (.inl (y3,z5,z4)))<|
   .ok (.inr (.inr ((z0.toList==(ξ #[47]).toList),a.2.1,a.1,a.2.2))))<|
 .ok (.inr (.inr (false,a.2.1,a.1,a.2.2)))
noncomputable def vz (sh:Sh) (p0:ByteArray) (p1:Int) (p2:Bool) (p3:ByteArray) (p4:List ByteArray):Option ((Bool×ByteArray×List ByteArray) ⊕ (Bool×ByteArray×Bool×List ByteArray)):=cA sh (lr sh p0 p1) 1000000 (p2,p3,p4)
noncomputable def ago {R:Type} (k:AX->AS SS->Option R) (p0:ByteArray) (p1:Int) (x:(Bool×ByteArray×List ByteArray) ⊕ (Bool×ByteArray×Bool×List ByteArray)):Option R:=(λx=>ο (λv=>k .ret (akg p0 p1 v.1 v.2.1 v.2.2)) (λv=>k (.exit 0) (akh p0 p1 v.1 v.2.1 v.2.2.1 v.2.2.2)) x) x
noncomputable def Zp:bH SS:=oQ (λst=>gc (ar 248 1) (me [3,2,5] (jP 2 0 9 (st))))<|bT 1 (λst=>((dB st 4 248).bind λ_=>lQ st 59 9).bind λ_=>(Fs (bg st 1 0)).bind λp0=>(bq (bg st 2 1)).bind λp1=>(tA (bg st 3 0)).bind λp2=>(Fs (bg st 5 0)).bind λp3=>(c9 st 6 9).bind λp4=>some (p0,p1,p2,p3,p4)) (λp=>Gr p.1 p.2.1 p.2.2.1 p.2.2.2.1 p.2.2.2.2) (λp=>vz shut p.1 p.2.1 p.2.2.1 p.2.2.2.1 p.2.2.2.2) (λk p=>ago k p.1 p.2.1)
theorem aqA:aG KK γ ⟨ζc,ar 248⟩ (bQ (a_ ζc) 1) Zp:=aG.pre (dA.comp (dA.gc (ar 248 1)) (dA.comp (dA.me [3,2,5]) (dA.jP 2 0 9)))<|
 aG.cA (π:=ByteArray×Int×Bool×ByteArray×List ByteArray) (σ:=Bool×ByteArray×List ByteArray) (an.all J7 rfl) (ao.nil) rfl 60 (λp a=>Gr p.1 p.2.1 a.1 a.2.1 a.2.2) (λp=>(p.2.2.1,p.2.2.2.1,p.2.2.2.2)) (St:=λp=>lr shut p.1 p.2.1) (λp=>1000000) (λp=>rfl)
  (λm p a k=>by kernel_rfl)
noncomputable def Ta:ay SS:= { (CI shut) with T:=bm ((CI shut).T) 248 ⟨⟨ζc,ar 248⟩,[Zp]⟩ }
theorem ad4:aJ Ta γ:=(aJ.b8 (an.all J7 rfl) Tryz.func248 rfl bn λc hc=>by cases hc;exact ao.cons (ao.nil) (by kernel_rfl) aqA)
noncomputable def D2 (sh:Sh) (w:Int):T (n6×Bool):=
 .bd (Fw sh w) λy0=>
  .bf (y0.2 !=0) (
   .ok (⟨[],0⟩,false))<|
  .bf (y0.1.toList==(ξ #[]).toList) (
   .ok (⟨[],0⟩,false))<|
  .gd (Gr y0.1 w true y0.1 [])<|
   .bd (vz sh y0.1 w true y0.1 []) λx4=> .cs x4 (λy1=>
    .bd (pN sh y1.2.2) λy2=>
     .bf (!y1.1) (
      .ok (⟨[],0⟩,false))<|
     .bf (!y2.2) (
      .ok (⟨[],0⟩,false))<|
     .bf (y2.1 !=w) (
      .ok (⟨[],0⟩,false))<|
     .ok (⟨y1.2.2,w⟩,true)) λy1=>
    .bd (pN sh y1.2.2.2) λy2=>
     .bf (!y1.2.2.1) (
      .ok (⟨[],0⟩,false))<|
     .bf (!y2.2) (
      .ok (⟨[],0⟩,false))<|
     .bf (y2.1 !=w) (
      .ok (⟨[],0⟩,false))<|
     .ok (⟨y1.2.2.2,w⟩,true)
noncomputable def tC (sh:Sh) (w:Int):Option (n6×Bool):=sh.s _ (D2 sh w).val
theorem asz:R1 KK Ta 145 35 [195,4] (D2 shut) (dE KK 195 4):=by intro R w k;kernel_rfl
noncomputable def ahW (sh:Sh):bO SS:=fS KK 145 35 (tC sh) (dE KK 195 4)
noncomputable def JL (sh:Sh):ay SS:=cq (ahW sh) (CI sh)
theorem Uk:an (JL shut) γ:=gm J7 ad4 rfl rfl asz
noncomputable def DW (sh:Sh) (w:Int):T (Int):=
 .bd (tC sh w) λy0=>
  .bf (!y0.2) (
   .ok 310)<|
  .ok 0
noncomputable def y9 (sh:Sh) (w:Int):Option (Int):=sh.s _ (DW sh w).val
theorem asu:R1 KK (JL shut) 104 35 [27] (DW shut) (b5 KK 27):=by intro R w k;kernel_rfl
noncomputable def ahP (sh:Sh):bO SS:=fS KK 104 35 (y9 sh) (b5 KK 27)
noncomputable def vm (sh:Sh):ay SS:=cq (ahP sh) (JL sh)
theorem JG:an (vm shut) γ:=gm Uk (an.all Uk rfl) rfl rfl asu
noncomputable def N0 (p0:List aw) (p1 p2 p3:Int):AS SS:=⟨[(1,(va 0 0)),(3,(vu p2)),(7,(vd 52 p0)),(8,(vl p0)),(9,(vi p3))],[(bX 54 [(.aU 52 p0),(lu p1)])],0,none,false,[],[]⟩
noncomputable def acC (p0:List aw) (p1 p2:Int):AS SS:=N0 p0 p1 p2 0
noncomputable def akP (p0:List aw) (p1:Int):AS SS:=⟨[(2,(vi 340))],[],0,none,false,[],[]⟩
noncomputable def akQ (p0:List aw) (p1:Int) (a0:Bool) (a1 a2:Int):AS SS:= { N0 p0 p1 p1 p1 with env:=[(10,(vb a0)),(1,(va 0 0)),(3,(vu a1)),(7,(vd 52 p0)),(8,(vl p0)),(9,(vi a2))] }
noncomputable def rm (sh:Sh) (p0:List aw) (p1 p3:Int) (z0:aw) (a:Int):T (Int ⊕ Unit ⊕ (Bool×Int×Int)):=
 .bd (y9 sh z0.bC) λy1=>
  .bf (y1 !=0) (
   .ok (.inr (.inl ())))<|
  .bf (decide (z0.bj<=a)) (
   .ok (.inr (.inl ())))<|
  .bf (decide (z0.bj>=p1)) (
   .ok (.inr (.inl ())))<|
  .ok (.inl z0.bj)
noncomputable def Co (sh:Sh) (p0:List aw) (p1 p3 a:Int):T (Unit ⊕ (Bool×Int×Int)):=
 .ok (.inr ((decide (p3<(↑p0.length:Int))),a,p3))
noncomputable def Df (sh:Sh) (p0:List aw) (p1 p2:Int):Option (Unit ⊕ (Bool×Int×Int)):=cS sh (rm sh p0 p1) (Co sh p0 p1) p0 p2
noncomputable def agO {R:Type} (k:AX->AS SS->Option R) (p0:List aw) (p1:Int) (x:Unit ⊕ (Bool×Int×Int)):Option R:=(λx=>ο (λv=>k .ret (akP p0 p1)) (λv=>k (.exit 0) (akQ p0 p1 v.1 v.2.1 v.2.2)) x) x
noncomputable def Qc:bH SS:=bT 4 (λst=>(bB 52 (aZ st 7 0)).bind λp0=>(bq (bg st 0 1)).bind λp1=>(bq (aZ st 3 0)).bind λp2=>some (p0,p1,p2)) (λp=>acC p.1 p.2.1 p.2.2) (λp=>Df shut p.1 p.2.1 p.2.2) (λk p=>agO k p.1 p.2.1)
theorem aqU:aG KK γ ⟨ξU,ar 62⟩ (bQ (a_ ξU) 4) Qc:=
 aG.c6 (π:=List aw×Int×Int) (σ:=Int) (an.all JG rfl) (ao.nil) rfl 60 (λp i a=>N0 p.1 p.2.1 a i) (λp=>p.1) (λp=>p.2.2) (St:=λp=>rm shut p.1 p.2.1) (F:=λp=>Co shut p.1 p.2.1) (λp=>rfl)
  (λm p i a k=>by kernel_rfl) (by rintro p (x|x)<;>exact⟨_,_,λ_=>rfl⟩) (λp N C A O w a hr=>dQ hr (t:=52) (sl:=7) rfl λv h=>h)
noncomputable def Nz (p0:List aw) (p1:Int) (p2:List (Int×Int)):AS SS:=⟨[(3,(vs (.mp 0))),(8,(vd 52 p0)),(9,(vl p0)),(10,(vi p1))],[(some (.map .u64 .u64 p2))],0,none,false,[],[]⟩
noncomputable def ab7 (p0:List aw) (p2:List (Int×Int)):AS SS:=Nz p0 0 p2
noncomputable def ajg (p0:List aw) (a0:Bool) (a1:Int) (a2:List (Int×Int)):AS SS:=xe [(11,(vb a0))] (Nz p0 a1 a2)
noncomputable def LD (sh:Sh) (p0:List aw) (p1:Int) (z0:aw) (a:(List (Int×Int))):T (((List (Int×Int))) ⊕ (Bool×Int×(List (Int×Int)))):=
 .ok (.inl (dk a z0.bC z0.bj))
noncomputable def BZ (sh:Sh) (p0:List aw) (p1:Int) (a:(List (Int×Int))):T ((Bool×Int×(List (Int×Int)))):=
 .ok ((decide (p1<(↑p0.length:Int))),p1,a)
noncomputable def C4 (sh:Sh) (p0:List aw) (p2:List (Int×Int)):Option ((Bool×Int×(List (Int×Int)))):=cS sh (LD sh p0) (BZ sh p0) p0 p2
noncomputable def afO {R:Type} (k:AX->AS SS->Option R) (p0:List aw) (x:(Bool×Int×(List (Int×Int)))):Option R:=(λv=>k (.exit 0) (ajg p0 v.1 v.2.1 v.2.2)) x
noncomputable def Y4:bH SS:=bT 4 (λst=>(bB 52 (aZ st 8 0)).bind λp0=>(lM st 0).bind λp2=>some (p0,p2)) (λp=>ab7 p.1 p.2) (λp=>C4 shut p.1 p.2) (λk p=>afO k p.1)
noncomputable def ae5:ay SS:= { (vm shut) with T:=bm ((vm shut).T) 62 ⟨⟨ξU,ar 62⟩,[Qc]⟩ }
theorem T5:aJ ae5 γ:=(aJ.b8 (an.all JG rfl) Tryz.func62 rfl bn λc hc=>by cases hc;exact ao.cons (ao.nil) (by kernel_rfl) aqU)
theorem ap9:aG KK γ ⟨ζd,ar 105⟩ (bQ (a_ ζd) 4) Y4:=
 aG.c6 (π:=List aw×(List (Int×Int))) (σ:=(List (Int×Int))) T5 (ao.nil) rfl 60 (λp i a=>Nz p.1 i a) (λp=>p.1) (λp=>p.2) (St:=λp=>LD shut p.1) (F:=λp=>BZ shut p.1) (λp=>rfl)
  (λm p i a k=>by kernel_rfl) (λp x=>⟨_,_,λ_=>rfl⟩) (λp N C A O w a hr=>dQ hr (t:=52) (sl:=8) rfl λv h=>h)
noncomputable def T6:ay SS:= { (vm shut) with T:=bm (bm ((vm shut).T) 62 ⟨⟨ξU,ar 62⟩,[Qc]⟩) 105 ⟨⟨ζd,ar 105⟩,[Y4]⟩ }
theorem ae6:aJ T6 γ:=(aJ.b8 T5 Tryz.func105 rfl bn λc hc=>by cases hc;exact ao.cons (ao.nil) (by kernel_rfl) ap9)
noncomputable def EN (sh:Sh) (m:cp):T (Int):=
 .gd (acC m.ae m.bE 0)<|
  .bd (Df sh m.ae m.bE 0) λx3=> .cs x3 (λ_=>
   .ok 340) λy0=>
   .bf (decide ((↑m.ae.length:Int)>16)) (
    .ok 340)<|
   .gd (ab7 m.ae [])<|
    .bd (C4 sh m.ae []) λy1=>
     .bf (decide ((↑y1.2.2.length:Int)<(↑m.ae.length:Int))) (
      .ok 340)<|
     .bf (decide (m.bE<1)) (
      .ok 340)<|
     .bf (decide (m.bE>1073741825)) (
      .ok 340)<|
     .ok 0
noncomputable def zd (sh:Sh) (m:cp):Option (Int):=sh.s _ (EN sh m).val
theorem atp:R1 KK T6 62 54 [27] (EN shut) (b5 KK 27):=by intro R m k;kernel_rfl
noncomputable def aiN (sh:Sh):bO SS:=fS KK 62 54 (zd sh) (b5 KK 27)
noncomputable def CY (sh:Sh):ay SS:=cq (aiN sh) (vm sh)
theorem Kv:an (CY shut) γ:=gm JG ae6 rfl rfl atp
noncomputable def GD (p0 p1:List aj) (p2:Int):AS SS:=⟨[(0,(vd 51 p0)),(1,(vd 51 p1)),(12,(vl p0)),(13,(vi p2))],[],0,none,false,[],[]⟩
noncomputable def acA (p0 p1:List aj):AS SS:=GD p0 p1 0
noncomputable def akI (p0 p1:List aj):AS SS:= { GD p0 p1 0 with env:=[(4,(vb false))] }
noncomputable def akJ (p0 p1:List aj) (a0:Bool) (a1:Int):AS SS:=xe [(14,(vb a0))] (GD p0 p1 a1)
noncomputable def LH (sh:Sh) (p0 p1:List aj) (p2:Int) (z0:aj) (a:Unit):T (Unit ⊕ Unit ⊕ (Bool×Int)):=
 .bd (idx p1 p2) λz1=>
  .bf (!mO z0 z1) (
   .ok (.inr (.inl ())))<|
  .ok (.inl ())
noncomputable def Cm (sh:Sh) (p0 p1:List aj) (p2:Int) (a:Unit):T (Unit ⊕ (Bool×Int)):=
 .ok (.inr ((decide (p2<(↑p0.length:Int))),p2))
noncomputable def UJ (sh:Sh) (p0 p1:List aj):Option (Unit ⊕ (Bool×Int)):=cS sh (LH sh p0 p1) (Cm sh p0 p1) p0 ()
noncomputable def agJ {R:Type} (k:AX->AS SS->Option R) (p0 p1:List aj) (x:Unit ⊕ (Bool×Int)):Option R:=(λx=>ο (λv=>k .ret (akI p0 p1)) (λv=>k (.exit 0) (akJ p0 p1 v.1 v.2)) x) x
noncomputable def ZC:bH SS:=bT 5 (λst=>(bB 51 (aZ st 0 0)).bind λp0=>(bB 51 (aZ st 1 0)).bind λp1=>some (p0,p1)) (λp=>acA p.1 p.2) (λp=>UJ shut p.1 p.2) (λk p=>agJ k p.1 p.2)
theorem aqS:aG KK γ ⟨ζo,ar 45⟩ (bQ (a_ ζo) 5) ZC:=
 aG.c6 (π:=List aj×List aj) (σ:=Unit) (an.all Kv rfl) (ao.nil) rfl 60 (λp i a=>GD p.1 p.2 i) (λp=>p.1) (λp=>()) (St:=λp=>LH shut p.1 p.2) (F:=λp=>Cm shut p.1 p.2) (λp=>rfl)
  (λm p i a k=>by kernel_rfl) (by rintro p (x|x)<;>exact⟨_,_,λ_=>rfl⟩) (λp N C A O w a hr=>dQ hr (t:=51) (sl:=0) rfl λv h=>h)
noncomputable def T0:ay SS:= { (CY shut) with T:=bm ((CY shut).T) 45 ⟨⟨ζo,ar 45⟩,[ZC]⟩ }
theorem aeY:aJ T0 γ:=(aJ.b8 (an.all Kv rfl) Tryz.func45 rfl bn λc hc=>by cases hc;exact ao.cons (ao.nil) (by kernel_rfl) aqS)
noncomputable def EF (sh:Sh) (a b:List aj):T (Bool):=
 .bf ((↑a.length:Int) !=(↑b.length:Int)) (
  .ok false)<|
 .gd (acA a b)<|
  .bd (UJ sh a b) λx3=> .cs x3 (λ_=>
   .ok false) λy0=>
   .ok true
noncomputable def MW (sh:Sh) (a b:List aj):Option (Bool):=sh.s _ (EF sh a b).val
theorem ati:R2 KK T0 45 51 51 [4] (EF shut) (b5 KK 4):=by intro R a b k;kernel_rfl
noncomputable def aiG (sh:Sh):bO SS:=eH KK 45 51 51 (MW sh) (b5 KK 4)
noncomputable def CV (sh:Sh):ay SS:=cq (aiG sh) (CY sh)
theorem Ko:an (CV shut) γ:=eS Kv aeY rfl rfl ati
noncomputable def GJ (p0 p1:List ai) (p2:Int):AS SS:=⟨[(0,(vd 48 p0)),(1,(vd 48 p1)),(12,(vl p0)),(13,(vi p2))],[],0,none,false,[],[]⟩
noncomputable def acH (p0 p1:List ai):AS SS:=GJ p0 p1 0
noncomputable def ak4 (p0 p1:List ai):AS SS:= { GJ p0 p1 0 with env:=[(4,(vb false))] }
noncomputable def ak5 (p0 p1:List ai) (a0:Bool) (a1:Int):AS SS:=xe [(14,(vb a0))] (GJ p0 p1 a1)
noncomputable def LJ (sh:Sh) (p0 p1:List ai) (p2:Int) (z0:ai) (a:Unit):T (Unit ⊕ Unit ⊕ (Bool×Int)):=
 .bd (idx p1 p2) λz1=>
  .bf (!kA z0 z1) (
   .ok (.inr (.inl ())))<|
  .ok (.inl ())
noncomputable def Cr (sh:Sh) (p0 p1:List ai) (p2:Int) (a:Unit):T (Unit ⊕ (Bool×Int)):=
 .ok (.inr ((decide (p2<(↑p0.length:Int))),p2))
noncomputable def UL (sh:Sh) (p0 p1:List ai):Option (Unit ⊕ (Bool×Int)):=cS sh (LJ sh p0 p1) (Cr sh p0 p1) p0 ()
noncomputable def agV {R:Type} (k:AX->AS SS->Option R) (p0 p1:List ai) (x:Unit ⊕ (Bool×Int)):Option R:=(λx=>ο (λv=>k .ret (ak4 p0 p1)) (λv=>k (.exit 0) (ak5 p0 p1 v.1 v.2)) x) x
noncomputable def ZH:bH SS:=bT 5 (λst=>(bB 48 (aZ st 0 0)).bind λp0=>(bB 48 (aZ st 1 0)).bind λp1=>some (p0,p1)) (λp=>acH p.1 p.2) (λp=>UL shut p.1 p.2) (λk p=>agV k p.1 p.2)
theorem aq1:aG KK γ ⟨ζp,ar 81⟩ (bQ (a_ ζp) 5) ZH:=
 aG.c6 (π:=List ai×List ai) (σ:=Unit) (an.all Ko rfl) (ao.nil) rfl 60 (λp i a=>GJ p.1 p.2 i) (λp=>p.1) (λp=>()) (St:=λp=>LJ shut p.1 p.2) (F:=λp=>Cr shut p.1 p.2) (λp=>rfl)
  (λm p i a k=>by kernel_rfl) (by rintro p (x|x)<;>exact⟨_,_,λ_=>rfl⟩) (λp N C A O w a hr=>dQ hr (t:=48) (sl:=0) rfl λv h=>h)
noncomputable def T9:ay SS:= { (CV shut) with T:=bm ((CV shut).T) 81 ⟨⟨ζp,ar 81⟩,[ZH]⟩ }
theorem ae9:aJ T9 γ:=(aJ.b8 (an.all Ko rfl) Tryz.func81 rfl bn λc hc=>by cases hc;exact ao.cons (ao.nil) (by kernel_rfl) aq1)
noncomputable def ES (sh:Sh) (a b:List ai):T (Bool):=
 .bf ((↑a.length:Int) !=(↑b.length:Int)) (
  .ok false)<|
 .gd (acH a b)<|
  .bd (UL sh a b) λx3=> .cs x3 (λ_=>
   .ok false) λy0=>
   .ok true
noncomputable def M5 (sh:Sh) (a b:List ai):Option (Bool):=sh.s _ (ES sh a b).val
theorem ats:R2 KK T9 81 48 48 [4] (ES shut) (b5 KK 4):=by intro R a b k;kernel_rfl
noncomputable def aiR (sh:Sh):bO SS:=eH KK 81 48 48 (M5 sh) (b5 KK 4)
noncomputable def C1 (sh:Sh):ay SS:=cq (aiR sh) (CV sh)
theorem Ky:an (C1 shut) γ:=eS Ko ae9 rfl rfl ats
noncomputable def GK (p0 p1:List aw) (p2:Int):AS SS:=⟨[(0,(vd 52 p0)),(1,(vd 52 p1)),(12,(vl p0)),(13,(vi p2))],[],0,none,false,[],[]⟩
noncomputable def acI (p0 p1:List aw):AS SS:=GK p0 p1 0
noncomputable def ak6 (p0 p1:List aw):AS SS:= { GK p0 p1 0 with env:=[(4,(vb false))] }
noncomputable def ak7 (p0 p1:List aw) (a0:Bool) (a1:Int):AS SS:=xe [(14,(vb a0))] (GK p0 p1 a1)
noncomputable def LK (sh:Sh) (p0 p1:List aw) (p2:Int) (z0:aw) (a:Unit):T (Unit ⊕ Unit ⊕ (Bool×Int)):=
 .bd (idx p1 p2) λz1=>
  .bf (!pJ z0 z1) (
   .ok (.inr (.inl ())))<|
  .ok (.inl ())
noncomputable def Cs (sh:Sh) (p0 p1:List aw) (p2:Int) (a:Unit):T (Unit ⊕ (Bool×Int)):=
 .ok (.inr ((decide (p2<(↑p0.length:Int))),p2))
noncomputable def UM (sh:Sh) (p0 p1:List aw):Option (Unit ⊕ (Bool×Int)):=cS sh (LK sh p0 p1) (Cs sh p0 p1) p0 ()
noncomputable def agW {R:Type} (k:AX->AS SS->Option R) (p0 p1:List aw) (x:Unit ⊕ (Bool×Int)):Option R:=(λx=>ο (λv=>k .ret (ak6 p0 p1)) (λv=>k (.exit 0) (ak7 p0 p1 v.1 v.2)) x) x
noncomputable def ZI:bH SS:=bT 5 (λst=>(bB 52 (aZ st 0 0)).bind λp0=>(bB 52 (aZ st 1 0)).bind λp1=>some (p0,p1)) (λp=>acI p.1 p.2) (λp=>UM shut p.1 p.2) (λk p=>agW k p.1 p.2)
theorem aq2:aG KK γ ⟨ζq,ar 82⟩ (bQ (a_ ζq) 5) ZI:=
 aG.c6 (π:=List aw×List aw) (σ:=Unit) (an.all Ky rfl) (ao.nil) rfl 60 (λp i a=>GK p.1 p.2 i) (λp=>p.1) (λp=>()) (St:=λp=>LK shut p.1 p.2) (F:=λp=>Cs shut p.1 p.2) (λp=>rfl)
  (λm p i a k=>by kernel_rfl) (by rintro p (x|x)<;>exact⟨_,_,λ_=>rfl⟩) (λp N C A O w a hr=>dQ hr (t:=52) (sl:=0) rfl λv h=>h)
noncomputable def T_:ay SS:= { (C1 shut) with T:=bm ((C1 shut).T) 82 ⟨⟨ζq,ar 82⟩,[ZI]⟩ }
theorem ae_:aJ T_ γ:=(aJ.b8 (an.all Ky rfl) Tryz.func82 rfl bn λc hc=>by cases hc;exact ao.cons (ao.nil) (by kernel_rfl) aq2)
noncomputable def ET (sh:Sh) (a b:List aw):T (Bool):=
 .bf ((↑a.length:Int) !=(↑b.length:Int)) (
  .ok false)<|
 .gd (acI a b)<|
  .bd (UM sh a b) λx3=> .cs x3 (λ_=>
   .ok false) λy0=>
   .ok true
noncomputable def M6 (sh:Sh) (a b:List aw):Option (Bool):=sh.s _ (ET sh a b).val
theorem att:R2 KK T_ 82 52 52 [4] (ET shut) (b5 KK 4):=by intro R a b k;kernel_rfl
noncomputable def aiS (sh:Sh):bO SS:=eH KK 82 52 52 (M6 sh) (b5 KK 4)
noncomputable def C2 (sh:Sh):ay SS:=cq (aiS sh) (C1 sh)
theorem Kz:an (C2 shut) γ:=eS Ky ae_ rfl rfl att
noncomputable def GL (p0 p1:List az) (p2:Int):AS SS:=⟨[(0,(vd 55 p0)),(1,(vd 55 p1)),(12,(vl p0)),(13,(vi p2))],[],0,none,false,[],[]⟩
noncomputable def acJ (p0 p1:List az):AS SS:=GL p0 p1 0
noncomputable def ak8 (p0 p1:List az):AS SS:= { GL p0 p1 0 with env:=[(4,(vb false))] }
noncomputable def ak9 (p0 p1:List az) (a0:Bool) (a1:Int):AS SS:=xe [(14,(vb a0))] (GL p0 p1 a1)
noncomputable def LL (sh:Sh) (p0 p1:List az) (p2:Int) (z0:az) (a:Unit):T (Unit ⊕ Unit ⊕ (Bool×Int)):=
 .bd (idx p1 p2) λz1=>
  .bf (!pK z0 z1) (
   .ok (.inr (.inl ())))<|
  .ok (.inl ())
noncomputable def Ct (sh:Sh) (p0 p1:List az) (p2:Int) (a:Unit):T (Unit ⊕ (Bool×Int)):=
 .ok (.inr ((decide (p2<(↑p0.length:Int))),p2))
noncomputable def UN (sh:Sh) (p0 p1:List az):Option (Unit ⊕ (Bool×Int)):=cS sh (LL sh p0 p1) (Ct sh p0 p1) p0 ()
noncomputable def agX {R:Type} (k:AX->AS SS->Option R) (p0 p1:List az) (x:Unit ⊕ (Bool×Int)):Option R:=(λx=>ο (λv=>k .ret (ak8 p0 p1)) (λv=>k (.exit 0) (ak9 p0 p1 v.1 v.2)) x) x
noncomputable def ZJ:bH SS:=bT 5 (λst=>(bB 55 (aZ st 0 0)).bind λp0=>(bB 55 (aZ st 1 0)).bind λp1=>some (p0,p1)) (λp=>acJ p.1 p.2) (λp=>UN shut p.1 p.2) (λk p=>agX k p.1 p.2)
theorem aq3:aG KK γ ⟨ζr,ar 83⟩ (bQ (a_ ζr) 5) ZJ:=
 aG.c6 (π:=List az×List az) (σ:=Unit) (an.all Kz rfl) (ao.nil) rfl 60 (λp i a=>GL p.1 p.2 i) (λp=>p.1) (λp=>()) (St:=λp=>LL shut p.1 p.2) (F:=λp=>Ct shut p.1 p.2) (λp=>rfl)
  (λm p i a k=>by kernel_rfl) (by rintro p (x|x)<;>exact⟨_,_,λ_=>rfl⟩) (λp N C A O w a hr=>dQ hr (t:=55) (sl:=0) rfl λv h=>h)
noncomputable def T':ay SS:= { (C2 shut) with T:=bm ((C2 shut).T) 83 ⟨⟨ζr,ar 83⟩,[ZJ]⟩ }
theorem ae':aJ T' γ:=(aJ.b8 (an.all Kz rfl) Tryz.func83 rfl bn λc hc=>by cases hc;exact ao.cons (ao.nil) (by kernel_rfl) aq3)
noncomputable def EU (sh:Sh) (a b:List az):T (Bool):=
 .bf ((↑a.length:Int) !=(↑b.length:Int)) (
  .ok false)<|
 .gd (acJ a b)<|
  .bd (UN sh a b) λx3=> .cs x3 (λ_=>
   .ok false) λy0=>
   .ok true
noncomputable def M7 (sh:Sh) (a b:List az):Option (Bool):=sh.s _ (EU sh a b).val
theorem atu:R2 KK T' 83 55 55 [4] (EU shut) (b5 KK 4):=by intro R a b k;kernel_rfl
noncomputable def aiT (sh:Sh):bO SS:=eH KK 83 55 55 (M7 sh) (b5 KK 4)
noncomputable def C3 (sh:Sh):ay SS:=cq (aiT sh) (C2 sh)
theorem KA:an (C3 shut) γ:=eS Kz ae' rfl rfl atu
noncomputable def GN (p0 p1:List Int) (p2:Int):AS SS:=⟨[(0,(vd 130 p0)),(1,(vd 130 p1)),(12,(vl p0)),(13,(vi p2))],[],0,none,false,[],[]⟩
noncomputable def acL (p0 p1:List Int):AS SS:=GN p0 p1 0
noncomputable def ala (p0 p1:List Int):AS SS:= { GN p0 p1 0 with env:=[(4,(vb false))] }
noncomputable def alb (p0 p1:List Int) (a0:Bool) (a1:Int):AS SS:=xe [(14,(vb a0))] (GN p0 p1 a1)
noncomputable def LM (sh:Sh) (p0 p1:List Int) (p2 z0:Int) (a:Unit):T (Unit ⊕ Unit ⊕ (Bool×Int)):=
 .bd (idx p1 p2) λz1=>
  .bf (z0 !=z1) (
   .ok (.inr (.inl ())))<|
  .ok (.inl ())
noncomputable def Cv (sh:Sh) (p0 p1:List Int) (p2:Int) (a:Unit):T (Unit ⊕ (Bool×Int)):=
 .ok (.inr ((decide (p2<(↑p0.length:Int))),p2))
noncomputable def UO (sh:Sh) (p0 p1:List Int):Option (Unit ⊕ (Bool×Int)):=cS sh (LM sh p0 p1) (Cv sh p0 p1) p0 ()
noncomputable def agZ {R:Type} (k:AX->AS SS->Option R) (p0 p1:List Int) (x:Unit ⊕ (Bool×Int)):Option R:=(λx=>ο (λv=>k .ret (ala p0 p1)) (λv=>k (.exit 0) (alb p0 p1 v.1 v.2)) x) x
noncomputable def ZL:bH SS:=bT 5 (λst=>(bB 130 (aZ st 0 0)).bind λp0=>(bB 130 (aZ st 1 0)).bind λp1=>some (p0,p1)) (λp=>acL p.1 p.2) (λp=>UO shut p.1 p.2) (λk p=>agZ k p.1 p.2)
theorem aq5:aG KK γ ⟨ζs,ar 86⟩ (bQ (a_ ζs) 5) ZL:=
 aG.c6 (π:=List Int×List Int) (σ:=Unit) (an.all KA rfl) (ao.nil) rfl 60 (λp i a=>GN p.1 p.2 i) (λp=>p.1) (λp=>()) (St:=λp=>LM shut p.1 p.2) (F:=λp=>Cv shut p.1 p.2) (λp=>rfl)
  (λm p i a k=>by kernel_rfl) (by rintro p (x|x)<;>exact⟨_,_,λ_=>rfl⟩) (λp N C A O w a hr=>dQ hr (t:=130) (sl:=0) rfl λv h=>h)
noncomputable def Ua:ay SS:= { (C3 shut) with T:=bm ((C3 shut).T) 86 ⟨⟨ζs,ar 86⟩,[ZL]⟩ }
theorem afa:aJ Ua γ:=(aJ.b8 (an.all KA rfl) Tryz.func86 rfl bn λc hc=>by cases hc;exact ao.cons (ao.nil) (by kernel_rfl) aq5)
noncomputable def EV (sh:Sh) (a b:List Int):T (Bool):=
 .bf ((↑a.length:Int) !=(↑b.length:Int)) (
  .ok false)<|
 .gd (acL a b)<|
  .bd (UO sh a b) λx3=> .cs x3 (λ_=>
   .ok false) λy0=>
   .ok true
noncomputable def M8 (sh:Sh) (a b:List Int):Option (Bool):=sh.s _ (EV sh a b).val
theorem atv:R2 KK Ua 86 130 130 [4] (EV shut) (b5 KK 4):=by intro R a b k;kernel_rfl
noncomputable def aiU (sh:Sh):bO SS:=eH KK 86 130 130 (M8 sh) (b5 KK 4)
noncomputable def KB (sh:Sh):ay SS:=cq (aiU sh) (C3 sh)
theorem UF:an (KB shut) γ:=eS KA afa rfl rfl atv
noncomputable def EE (sh:Sh) (a b:bS):T (Bool):=
 .bf (a.aQ==b.aQ) (
  .bd (M5 sh a.ae b.ae) λy0=>
   .ok y0)<|
 .ok false
noncomputable def MV (sh:Sh) (a b:bS):Option (Bool):=sh.s _ (EE sh a b).val
theorem ath:R2 KK (KB shut) 44 50 50 [4] (EE shut) (b5 KK 4):=by intro R a b k;kernel_rfl
noncomputable def aiF (sh:Sh):bO SS:=eH KK 44 50 50 (MV sh) (b5 KK 4)
noncomputable def Kn (sh:Sh):ay SS:=cq (aiF sh) (KB sh)
theorem Uz:an (Kn shut) γ:=eS UF (an.all UF rfl) rfl rfl ath
noncomputable def EG (sh:Sh) (a b:cp):T (Bool):=
 .bf (a.bE==b.bE) (
  .bd (M6 sh a.ae b.ae) λy0=>
   .ok y0)<|
 .ok false
noncomputable def MX (sh:Sh) (a b:cp):Option (Bool):=sh.s _ (EG sh a b).val
theorem atj:R2 KK (Kn shut) 46 54 54 [4] (EG shut) (b5 KK 4):=by intro R a b k;kernel_rfl
noncomputable def aiH (sh:Sh):bO SS:=eH KK 46 54 54 (MX sh) (b5 KK 4)
noncomputable def CW (sh:Sh):ay SS:=cq (aiH sh) (Kn sh)
theorem Kp:an (CW shut) γ:=eS Uz (an.all Uz rfl) rfl rfl atj
noncomputable def GM (p0 p1:List aq) (p2:Int):AS SS:=⟨[(1,(vd 56 p0)),(2,(vs (.v (.func (.func 85) (.mk []) (.mk []))))),(15,(vd 56 p1)),(16,(vl p1)),(17,(vi p2))],[],0,none,false,[],[]⟩
noncomputable def acK (p0 p1:List aq):AS SS:=GM p0 p1 0
noncomputable def ak_ (p0 p1:List aq):AS SS:= { GM p0 p1 0 with env:=[(6,(vb false))] }
noncomputable def ak' (p0 p1:List aq) (a0:Bool) (a1:Int):AS SS:=xe [(18,(vb a0))] (GM p0 p1 a1)
noncomputable def DP (sh:Sh) (p0 p1:List aq) (p2:Int) (z0:aq) (a:Unit):T (Unit ⊕ Unit ⊕ (Bool×Int)):=
 .bd (idx p0 p2) λz1=>
  .bf (z0.aa==z1.aa) (
   .bd (M8 sh z0.bt z1.bt) λy2=>
    .bf (!y2) (
     .ok (.inr (.inl ())))<|
    .ok (.inl ()))<|
  .ok (.inr (.inl ()))
noncomputable def Cu (sh:Sh) (p0 p1:List aq) (p2:Int) (a:Unit):T (Unit ⊕ (Bool×Int)):=
 .ok (.inr ((decide (p2<(↑p1.length:Int))),p2))
noncomputable def Lv (sh:Sh) (p0 p1:List aq):Option (Unit ⊕ (Bool×Int)):=cS sh (DP sh p0 p1) (Cu sh p0 p1) p1 ()
noncomputable def agY {R:Type} (k:AX->AS SS->Option R) (p0 p1:List aq) (x:Unit ⊕ (Bool×Int)):Option R:=(λx=>ο (λv=>k .ret (ak_ p0 p1)) (λv=>k (.exit 0) (ak' p0 p1 v.1 v.2)) x) x
noncomputable def ZK:bH SS:=bT 5 (λst=>(bB 56 (aZ st 1 0)).bind λp0=>(bB 56 (aZ st 15 0)).bind λp1=>some (p0,p1)) (λp=>acK p.1 p.2) (λp=>Lv shut p.1 p.2) (λk p=>agY k p.1 p.2)
theorem aq4:aG KK γ ⟨ζt,ar 84⟩ (bQ (a_ ζt) 5) ZK:=
 aG.c6 (π:=List aq×List aq) (σ:=Unit) (an.all Kp rfl) (ao.nil) rfl 60 (λp i a=>GM p.1 p.2 i) (λp=>p.2) (λp=>()) (St:=λp=>DP shut p.1 p.2) (F:=λp=>Cu shut p.1 p.2) (λp=>rfl)
  (λm p i a k=>by kernel_rfl) (by rintro p (x|x)<;>exact⟨_,_,λ_=>rfl⟩) (λp N C A O w a hr=>dQ hr (t:=56) (sl:=15) rfl λv h=>h)
noncomputable def T1:ay SS:= { (CW shut) with T:=bm ((CW shut).T) 84 ⟨⟨ζt,ar 84⟩,[ZK]⟩ }
theorem aeZ:aJ T1 γ:=(aJ.b8 (an.all Kp rfl) Tryz.func84 rfl bn λc hc=>by cases hc;exact ao.cons (ao.nil) (by kernel_rfl) aq4)
noncomputable def EH (sh:Sh) (a b:aP):T (Bool):=
 .bd (M7 sh a.aA b.aA) λy0=>
  .bf (y0) (
   .bf ((↑a.au.length:Int) !=(↑b.au.length:Int)) (
    .ok false)<|
   .gd (acK b.au a.au)<|
    .bd (Lv sh b.au a.au) λx5=> .cs x5 (λ_=>
     .ok false) λy1=>
     .ok true)<|
  .ok false
noncomputable def MY (sh:Sh) (a b:aP):Option (Bool):=sh.s _ (EH sh a b).val
theorem atk:R2 KK T1 47 58 58 [4] (EH shut) (b5 KK 4):=by intro R a b k;kernel_rfl
noncomputable def aiI (sh:Sh):bO SS:=eH KK 47 58 58 (MY sh) (b5 KK 4)
noncomputable def Kq (sh:Sh):ay SS:=cq (aiI sh) (CW sh)
theorem UA:an (Kq shut) γ:=eS Kp aeZ rfl rfl atk
noncomputable def Ep (sh:Sh) (a b:bo):T (Bool):=
 .bd (MV sh a.aC b.aC) λy0=>
  .bf (y0) (
   .bd (MW sh a.aV b.aV) λy1=>
    .bf (y1) (
     .bd (MX sh a.aL b.aL) λy2=>
      .bf (y2) (
       .bd (MY sh a.aF b.aF) λy3=>
        .ok y3)<|
      .ok false)<|
    .ok false)<|
  .ok false
noncomputable def nC (sh:Sh) (a b:bo):Option (Bool):=sh.s _ (Ep sh a b).val
theorem asY:R2 KK (Kq shut) 20 60 60 [4] (Ep shut) (b5 KK 4):=by intro R a b k;kernel_rfl
noncomputable def ain (sh:Sh):bO SS:=eH KK 20 60 60 (nC sh) (b5 KK 4)
noncomputable def J_ (sh:Sh):ay SS:=cq (ain sh) (Kq sh)
theorem Uu:an (J_ shut) γ:=eS UA (an.all UA rfl) rfl rfl asY
noncomputable def U9 (sh:Sh):T (bS):=
 .ok (⟨[1,0,0,0,0,0,0,0,0,0,0,0,0,0,0,0],[ai.mk 1 0 false 0]⟩)
noncomputable def We (sh:Sh):Option (bS):=sh.s _ (U9 sh).val
theorem atc:R0 KK (J_ shut) 39 [50] (U9 shut) (b5 KK 50):=by intro R k;kernel_rfl
noncomputable def aiA (sh:Sh):bO SS:=yR KK 39 (We sh) (b5 KK 50)
noncomputable def Kj (sh:Sh):ay SS:=cq (aiA sh) (J_ sh)
theorem Uw:an (Kj shut) γ:=Mm Uu (an.all Uu rfl) rfl rfl atc
noncomputable def U_ (sh:Sh):T (cp):=
 .ok (⟨[],1⟩)
noncomputable def Wf (sh:Sh):Option (cp):=sh.s _ (U_ sh).val
theorem atd:R0 KK (Kj shut) 40 [54] (U_ shut) (b5 KK 54):=by intro R k;kernel_rfl
noncomputable def aiB (sh:Sh):bO SS:=yR KK 40 (Wf sh) (b5 KK 54)
noncomputable def Kk (sh:Sh):ay SS:=cq (aiB sh) (Kj sh)
theorem Ux:an (Kk shut) γ:=Mm Uw (an.all Uw rfl) rfl rfl atd
noncomputable def U6 (sh:Sh):T (bo):=
 .bd (We sh) λy0=>
  .bd (Wf sh) λy1=>
   .ok (⟨y0,[],y1,⟨[],[]⟩⟩)
noncomputable def za (sh:Sh):Option (bo):=sh.s _ (U6 sh).val
theorem asT:R0 KK (Kk shut) 18 [60] (U6 shut) (b5 KK 60):=by intro R k;kernel_rfl
noncomputable def aii (sh:Sh):bO SS:=yR KK 18 (za sh) (b5 KK 60)
noncomputable def J5 (sh:Sh):ay SS:=cq (aii sh) (Kk sh)
theorem Us:an (J5 shut) γ:=Mm Ux (an.all Ux rfl) rfl rfl asT
noncomputable def ER (sh:Sh) (c:bR):T (Bool):=
 .bf (c.bP==9) (
  .ok true)<|
 .ok (c.bP==12)
noncomputable def M4 (sh:Sh) (c:bR):Option (Bool):=sh.s _ (ER sh c).val
theorem atr:R1 KK (J5 shut) 74 38 [4] (ER shut) (b5 KK 4):=by intro R c k;kernel_rfl
noncomputable def aiQ (sh:Sh):bO SS:=fS KK 74 38 (M4 sh) (b5 KK 4)
noncomputable def C0 (sh:Sh):ay SS:=cq (aiQ sh) (J5 sh)
theorem Kx:an (C0 shut) γ:=gm Us (an.all Us rfl) rfl rfl atr
noncomputable def GC (p0:List aq) (p1:List Int) (p2:Int) (p3:List ai) (p4:List aj) (p5:List aw) (p6:List az) (p7 p8:Int) (p9:List aq):AS SS:=⟨[(1,(va 0 0)),(2,(va 6 0)),(31,(vd 56 p0)),(32,(vi p7)),(33,(vi p8))],[(bX 60 [(.cd .i64 16 p1),(.own 1),(.own 2),(.own 3),(lu p2),(.own 4),(.own 5)]),(rX 115 p3),(rX 105 p4),(rX 122 p5),(rX 127 p6),(rX 132 p9),(bX 60 [(li 0),(li 0),(li 0),(li 0),(li 0),(li 0),(li 0),(li 0),(li 0),(li 0),(li 0),(li 0),(li 0),(li 0),(li 0),(li 0),(.v (.slice none 0 0)),(.v (.slice none 0 0)),(.v (.slice none 0 0)),(lu 0),(.v (.slice none 0 0)),(.v (.slice none 0 0))])],0,none,false,[],[]⟩
noncomputable def akH (p0:List aq) (p1:List Int) (p2:Int) (p3:List ai) (p4:List aj) (p5:List aw) (p6:List az) (p7:Int) (a0:Bool) (a1:Int) (a2:List aq):AS SS:= { GC p0 p1 p2 p3 p4 p5 p6 p7 p2 a2 with env:=[(34,(vb a0)),(1,(va 0 0)),(2,(va 6 0)),(31,(vd 56 p0)),(32,(vi p7)),(33,(vi a1))] }
noncomputable def U3 (sh:Sh) (p0:List aq) (p1:List Int) (p2:Int) (p3:List ai) (p4:List aj) (p5:List aw) (p6:List az) (p7:Int) (a:Int×List aq):T ((Int×List aq) ⊕ (Bool×Int×List aq)):=
 .bf (decide (a.1<p7)) (
  .bd (idx p0 a.1) λz0=>
   .bd (app 8 [] z0.bt) λz1=>
    .bd (app 32 a.2 [aq.mk z0.aa z1]) λz2=>
     .ok (.inl ((ε.wrap (a.1+1)),z2)))<|
 .ok (.inr ((decide (a.1<p7)),a.1,a.2))
noncomputable def Lo (sh:Sh) (p0:List aq) (p1:List Int) (p2:Int) (p3:List ai) (p4:List aj) (p5:List aw) (p6:List az) (p7 p8:Int) (p9:List aq):Option ((Bool×Int×List aq)):=cA sh (U3 sh p0 p1 p2 p3 p4 p5 p6 p7) 1000000 (p8,p9)
noncomputable def agI {R:Type} (k:AX->AS SS->Option R) (p0:List aq) (p1:List Int) (p2:Int) (p3:List ai) (p4:List aj) (p5:List aw) (p6:List az) (p7:Int) (x:(Bool×Int×List aq)):Option R:=(λv=>k (.exit 0) (akH p0 p1 p2 p3 p4 p5 p6 p7 v.1 v.2.1 v.2.2)) x
noncomputable def ZB:bH SS:=oQ (λst=>gc (ar 43 6) (jP 0 6 132 (st)))<|bT 6 (λst=>(bB 56 (aZ st 31 0)).bind λp0=>(jy (bg st 0 0)).bind λp1=>(bq (bg st 0 4)).bind λp2=>(c9 st 1 115).bind λp3=>(c9 st 2 105).bind λp4=>(c9 st 3 122).bind λp5=>(c9 st 4 127).bind λp6=>(bq (aZ st 32 0)).bind λp7=>(bq (aZ st 33 0)).bind λp8=>(c9 st 5 132).bind λp9=>some (p0,p1,p2,p3,p4,p5,p6,p7,p8,p9)) (λp=>GC p.1 p.2.1 p.2.2.1 p.2.2.2.1 p.2.2.2.2.1 p.2.2.2.2.2.1 p.2.2.2.2.2.2.1 p.2.2.2.2.2.2.2.1 p.2.2.2.2.2.2.2.2.1 p.2.2.2.2.2.2.2.2.2) (λp=>Lo shut p.1 p.2.1 p.2.2.1 p.2.2.2.1 p.2.2.2.2.1 p.2.2.2.2.2.1 p.2.2.2.2.2.2.1 p.2.2.2.2.2.2.2.1 p.2.2.2.2.2.2.2.2.1 p.2.2.2.2.2.2.2.2.2) (λk p=>agI k p.1 p.2.1 p.2.2.1 p.2.2.2.1 p.2.2.2.2.1 p.2.2.2.2.2.1 p.2.2.2.2.2.2.1 p.2.2.2.2.2.2.2.1)
theorem aqR:aG KK γ ⟨ζu,ar 43⟩ (bQ (a_ ζu) 6) ZB:=aG.pre (dA.comp (dA.gc (ar 43 6)) (dA.jP 0 6 132))<|
 aG.cA (π:=List aq×List Int×Int×List ai×List aj×List aw×List az×Int×Int×List aq) (σ:=Int×List aq) (an.all Kx rfl) (ao.nil) rfl 60 (λp a=>GC p.1 p.2.1 p.2.2.1 p.2.2.2.1 p.2.2.2.2.1 p.2.2.2.2.2.1 p.2.2.2.2.2.2.1 p.2.2.2.2.2.2.2.1 a.1 a.2) (λp=>(p.2.2.2.2.2.2.2.2.1,p.2.2.2.2.2.2.2.2.2)) (St:=λp=>U3 shut p.1 p.2.1 p.2.2.1 p.2.2.2.1 p.2.2.2.2.1 p.2.2.2.2.2.1 p.2.2.2.2.2.2.1 p.2.2.2.2.2.2.2.1) (λp=>1000000) (λp=>rfl)
  (λm p a k=>by kernel_rfl)
noncomputable def TZ:ay SS:= { (C0 shut) with T:=bm ((C0 shut).T) 43 ⟨⟨ζu,ar 43⟩,[ZB]⟩ }
theorem aeX:aJ TZ γ:=(aJ.b8 (an.all Kx rfl) Tryz.func43 rfl bn λc hc=>by cases hc;exact ao.cons (ao.nil) (by kernel_rfl) aqR)
noncomputable def ED (sh:Sh) (s:bo):T (bo):=
 .bd (app 32 [] s.aC.ae) λz0=>
  .bd (app 24 [] s.aV) λz1=>
   .bd (app 16 [] s.aL.ae) λz2=>
    .bd (app 16 [] s.aF.aA) λz3=>
     .gd (GC s.aF.au s.aC.aQ s.aL.bE z0 z1 z2 z3 ((↑s.aF.au.length:Int)) 0 [])<|
      .bd (Lo sh s.aF.au s.aC.aQ s.aL.bE z0 z1 z2 z3 ((↑s.aF.au.length:Int)) 0 []) λy4=>
       .ok (⟨⟨s.aC.aQ,z0⟩,z1,⟨z2,s.aL.bE⟩,⟨z3,y4.2.2⟩⟩)
noncomputable def MU (sh:Sh) (s:bo):Option (bo):=sh.s _ (ED sh s).val
theorem atg:R1 KK TZ 43 60 [60] (ED shut) (b5 KK 60):=by intro R s k;kernel_rfl
noncomputable def aiE (sh:Sh):bO SS:=fS KK 43 60 (MU sh) (b5 KK 60)
noncomputable def n9 (sh:Sh):ay SS:=cq (aiE sh) (C0 sh)
theorem CU:an (n9 shut) γ:=gm Kx aeX rfl rfl atg
noncomputable def NZ (p0:List ai) (p1:List Int) (p2:List aj) (p3:List aw) (p4:Int) (p5:List az) (p6:List aq) (p7:Int) (p8:List (Int×Int)):AS SS:=⟨[(1,(va 0 0)),(3,(va 1 0)),(4,(va 3 0)),(37,(vd 48 p0)),(38,(vl p0)),(39,(vi p7))],[(bX 60 [(.cd .i64 16 p1),(.aU 48 p0),(.aU 51 p2),(.aU 52 p3),(lu p4),(.aU 55 p5),(.aU 56 p6)]),(bX 120 [(.mp 2)]),(some (.map .u64 .i64 p8)),(bX 120 [(.mp 4)]),(some (.map .u64 .i64 []))],0,none,false,[],[]⟩
noncomputable def acz (p0:List ai) (p1:List Int) (p2:List aj) (p3:List aw) (p4:Int) (p5:List az) (p6:List aq) (p8:List (Int×Int)):AS SS:=NZ p0 p1 p2 p3 p4 p5 p6 0 p8
noncomputable def akG (p0:List ai) (p1:List Int) (p2:List aj) (p3:List aw) (p4:Int) (p5:List az) (p6:List aq) (a0:Bool) (a1:Int) (a2:List (Int×Int)):AS SS:= { NZ p0 p1 p2 p3 p4 p5 p6 p4 a2 with env:=[(40,(vb a0)),(1,(va 0 0)),(3,(va 1 0)),(4,(va 3 0)),(37,(vd 48 p0)),(38,(vl p0)),(39,(vi a1))] }
noncomputable def yx (sh:Sh) (p0:List ai) (p1:List Int) (p2:List aj) (p3:List aw) (p4:Int) (p5:List az) (p6:List aq) (p7:Int) (z0:ai) (a:(List (Int×Int))):T (((List (Int×Int))) ⊕ (Bool×Int×(List (Int×Int)))):=
 .bf (!z0.bK) (
  .ok (.inl (dk a z0.aa 1)))<|
 .ok (.inl a)
noncomputable def Cl (sh:Sh) (p0:List ai) (p1:List Int) (p2:List aj) (p3:List aw) (p4:Int) (p5:List az) (p6:List aq) (p7:Int) (a:(List (Int×Int))):T ((Bool×Int×(List (Int×Int)))):=
 .ok ((decide (p7<(↑p0.length:Int))),p7,a)
noncomputable def De (sh:Sh) (p0:List ai) (p1:List Int) (p2:List aj) (p3:List aw) (p4:Int) (p5:List az) (p6:List aq) (p8:List (Int×Int)):Option ((Bool×Int×(List (Int×Int)))):=cS sh (yx sh p0 p1 p2 p3 p4 p5 p6) (Cl sh p0 p1 p2 p3 p4 p5 p6) p0 p8
noncomputable def agH {R:Type} (k:AX->AS SS->Option R) (p0:List ai) (p1:List Int) (p2:List aj) (p3:List aw) (p4:Int) (p5:List az) (p6:List aq) (x:(Bool×Int×(List (Int×Int)))):Option R:=(λv=>k (.exit 0) (akG p0 p1 p2 p3 p4 p5 p6 v.1 v.2.1 v.2.2)) x
noncomputable def AZ:bH SS:=bT 6 (λst=>(bB 48 (aZ st 37 0)).bind λp0=>(jy (bg st 0 0)).bind λp1=>(bB 51 (bg st 0 2)).bind λp2=>(bB 52 (bg st 0 3)).bind λp3=>(bq (bg st 0 4)).bind λp4=>(bB 55 (bg st 0 5)).bind λp5=>(bB 56 (bg st 0 6)).bind λp6=>(lM st 2).bind λp8=>some (p0,p1,p2,p3,p4,p5,p6,p8)) (λp=>acz p.1 p.2.1 p.2.2.1 p.2.2.2.1 p.2.2.2.2.1 p.2.2.2.2.2.1 p.2.2.2.2.2.2.1 p.2.2.2.2.2.2.2) (λp=>De shut p.1 p.2.1 p.2.2.1 p.2.2.2.1 p.2.2.2.2.1 p.2.2.2.2.2.1 p.2.2.2.2.2.2.1 p.2.2.2.2.2.2.2) (λk p=>agH k p.1 p.2.1 p.2.2.1 p.2.2.2.1 p.2.2.2.2.1 p.2.2.2.2.2.1 p.2.2.2.2.2.2.1)
theorem aqQ:aG KK γ ⟨ξk,ar 41⟩ (bQ (a_ ξk) 6) AZ:=
 aG.c6 (π:=List ai×List Int×List aj×List aw×Int×List az×List aq×(List (Int×Int))) (σ:=(List (Int×Int))) (an.all CU rfl) (ao.nil) rfl 60 (λp i a=>NZ p.1 p.2.1 p.2.2.1 p.2.2.2.1 p.2.2.2.2.1 p.2.2.2.2.2.1 p.2.2.2.2.2.2.1 i a) (λp=>p.1) (λp=>p.2.2.2.2.2.2.2) (St:=λp=>yx shut p.1 p.2.1 p.2.2.1 p.2.2.2.1 p.2.2.2.2.1 p.2.2.2.2.2.1 p.2.2.2.2.2.2.1) (F:=λp=>Cl shut p.1 p.2.1 p.2.2.1 p.2.2.2.1 p.2.2.2.2.1 p.2.2.2.2.2.1 p.2.2.2.2.2.2.1) (λp=>rfl)
  (λm p i a k=>by kernel_rfl) (λp x=>⟨_,_,λ_=>rfl⟩) (λp N C A O w a hr=>dQ hr (t:=48) (sl:=37) rfl λv h=>h)
noncomputable def NY (p0:List aw) (p1:List Int) (p2:List ai) (p3:List aj) (p4:Int) (p5:List az) (p6:List aq) (p7:List (Int×Int)) (p8:Int) (p9:List (Int×Int)):AS SS:=⟨[(1,(va 0 0)),(3,(va 1 0)),(4,(va 3 0)),(52,(vd 52 p0)),(53,(vl p0)),(54,(vi p8))],[(bX 60 [(.cd .i64 16 p1),(.aU 48 p2),(.aU 51 p3),(.aU 52 p0),(lu p4),(.aU 55 p5),(.aU 56 p6)]),(bX 120 [(.mp 2)]),(some (.map .u64 .i64 p7)),(bX 120 [(.mp 4)]),(some (.map .u64 .i64 p9))],0,none,false,[],[]⟩
noncomputable def acy (p0:List aw) (p1:List Int) (p2:List ai) (p3:List aj) (p4:Int) (p5:List az) (p6:List aq) (p7 p9:List (Int×Int)):AS SS:=NY p0 p1 p2 p3 p4 p5 p6 p7 0 p9
noncomputable def akF (p0:List aw) (p1:List Int) (p2:List ai) (p3:List aj) (p4:Int) (p5:List az) (p6:List aq) (p7:List (Int×Int)) (a0:Bool) (a1:Int) (a2:List (Int×Int)):AS SS:= { NY p0 p1 p2 p3 p4 p5 p6 p7 p4 a2 with env:=[(55,(vb a0)),(1,(va 0 0)),(3,(va 1 0)),(4,(va 3 0)),(52,(vd 52 p0)),(53,(vl p0)),(54,(vi a1))] }
noncomputable def LG (sh:Sh) (p0:List aw) (p1:List Int) (p2:List ai) (p3:List aj) (p4:Int) (p5:List az) (p6:List aq) (p7:List (Int×Int)) (p8:Int) (z0:aw) (a:(List (Int×Int))):T (((List (Int×Int))) ⊕ (Bool×Int×(List (Int×Int)))):=
 .ok (.inl (dk a z0.bj 1))
noncomputable def Ck (sh:Sh) (p0:List aw) (p1:List Int) (p2:List ai) (p3:List aj) (p4:Int) (p5:List az) (p6:List aq) (p7:List (Int×Int)) (p8:Int) (a:(List (Int×Int))):T ((Bool×Int×(List (Int×Int)))):=
 .ok ((decide (p8<(↑p0.length:Int))),p8,a)
noncomputable def Dd (sh:Sh) (p0:List aw) (p1:List Int) (p2:List ai) (p3:List aj) (p4:Int) (p5:List az) (p6:List aq) (p7 p9:List (Int×Int)):Option ((Bool×Int×(List (Int×Int)))):=cS sh (LG sh p0 p1 p2 p3 p4 p5 p6 p7) (Ck sh p0 p1 p2 p3 p4 p5 p6 p7) p0 p9
noncomputable def agG {R:Type} (k:AX->AS SS->Option R) (p0:List aw) (p1:List Int) (p2:List ai) (p3:List aj) (p4:Int) (p5:List az) (p6:List aq) (p7:List (Int×Int)) (x:(Bool×Int×(List (Int×Int)))):Option R:=(λv=>k (.exit 2) (akF p0 p1 p2 p3 p4 p5 p6 p7 v.1 v.2.1 v.2.2)) x
noncomputable def AY:bH SS:=bT 12 (λst=>(bB 52 (aZ st 52 0)).bind λp0=>(jy (bg st 0 0)).bind λp1=>(bB 48 (bg st 0 1)).bind λp2=>(bB 51 (bg st 0 2)).bind λp3=>(bq (bg st 0 4)).bind λp4=>(bB 55 (bg st 0 5)).bind λp5=>(bB 56 (bg st 0 6)).bind λp6=>(lM st 2).bind λp7=>(lM st 4).bind λp9=>some (p0,p1,p2,p3,p4,p5,p6,p7,p9)) (λp=>acy p.1 p.2.1 p.2.2.1 p.2.2.2.1 p.2.2.2.2.1 p.2.2.2.2.2.1 p.2.2.2.2.2.2.1 p.2.2.2.2.2.2.2.1 p.2.2.2.2.2.2.2.2) (λp=>Dd shut p.1 p.2.1 p.2.2.1 p.2.2.2.1 p.2.2.2.2.1 p.2.2.2.2.2.1 p.2.2.2.2.2.2.1 p.2.2.2.2.2.2.2.1 p.2.2.2.2.2.2.2.2) (λk p=>agG k p.1 p.2.1 p.2.2.1 p.2.2.2.1 p.2.2.2.2.1 p.2.2.2.2.2.1 p.2.2.2.2.2.2.1 p.2.2.2.2.2.2.2.1)
theorem aqP:aG KK γ ⟨ξk,ar 41⟩ (bQ (a_ ξk) 12) AY:=
 aG.c6 (π:=List aw×List Int×List ai×List aj×Int×List az×List aq×(List (Int×Int))×(List (Int×Int))) (σ:=(List (Int×Int))) (an.all CU rfl) (ao.nil) rfl 60 (λp i a=>NY p.1 p.2.1 p.2.2.1 p.2.2.2.1 p.2.2.2.2.1 p.2.2.2.2.2.1 p.2.2.2.2.2.2.1 p.2.2.2.2.2.2.2.1 i a) (λp=>p.1) (λp=>p.2.2.2.2.2.2.2.2) (St:=λp=>LG shut p.1 p.2.1 p.2.2.1 p.2.2.2.1 p.2.2.2.2.1 p.2.2.2.2.2.1 p.2.2.2.2.2.2.1 p.2.2.2.2.2.2.2.1) (F:=λp=>Ck shut p.1 p.2.1 p.2.2.1 p.2.2.2.1 p.2.2.2.2.1 p.2.2.2.2.2.1 p.2.2.2.2.2.2.1 p.2.2.2.2.2.2.2.1) (λp=>rfl)
  (λm p i a k=>by kernel_rfl) (λp x=>⟨_,_,λ_=>rfl⟩) (λp N C A O w a hr=>dQ hr (t:=52) (sl:=52) rfl λv h=>h)
noncomputable def N3 (p0:List aj) (p1 p2:List (Int×Int)) (p3:Bool) (p4:Int):AS SS:=⟨[(1,(vc 0)),(5,(vb p3)),(8,(vd 51 p0)),(9,(vl p0)),(10,(vi p4))],[(some (.bI 65 [] [(.one (.bp 1 0)),(.one (.bp 3 0))])),(bX 120 [(.mp 2)]),(some (.map .u64 .i64 p1)),(bX 120 [(.mp 4)]),(some (.map .u64 .i64 p2))],5,none,false,[],[]⟩
noncomputable def acF (p0:List aj) (p1 p2:List (Int×Int)) (p3:Bool):AS SS:=N3 p0 p1 p2 p3 0
noncomputable def akV (p0:List aj) (p1 p2:List (Int×Int)) (a0 a1:Bool) (a2 a3 a4:Int) (a5:aj) (a6 a7:Bool) (a8:Int):AS SS:=⟨[(18,(vb a0)),(17,(vb a1)),(5,(vb a1)),(16,(vb a1)),(15,(.s (.agg [(lu a2),(li a3),(lu a4)]))),(14,(vc 0)),(7,(va 5 0)),(13,(.s (.agg [(lu a2),(li a3),(lu a4)]))),(12,(vs (.ptr 105 a5 0))),(11,(vb a6)),(1,(vc 0)),(5,(vb a7)),(8,(vd 51 p0)),(9,(vl p0)),(10,(vi a8))],[(some (.bI 65 [] [(.one (.bp 1 0)),(.one (.bp 3 0))])),(bX 120 [(.mp 2)]),(some (.map .u64 .i64 p1)),(bX 120 [(.mp 4)]),(some (.map .u64 .i64 p2)),(bX 105 [(lu a2),(li a3),(lu a4)])],5,none,false,[],[]⟩
noncomputable def akW (p0:List aj) (p1 p2:List (Int×Int)) (a0 a1:Bool) (a2:Int):AS SS:= { N3 p0 p1 p2 a0 a2 with env:=[(11,(vb a0)),(1,(vc 0)),(5,(vb a1)),(8,(vd 51 p0)),(9,(vl p0)),(10,(vi a2))] }
noncomputable def vI (sh:Sh) (p0:List aj) (p1 p2:List (Int×Int)) (p4:Int) (z0:aj) (a:Bool):T (Bool ⊕ (Bool×Bool×Int×Int×Int×aj×Bool×Bool×Int) ⊕ (Bool×Bool×Int)):=
 .bf ((match b6 p1 z0.aa with
 |some x=>x
 |none=>0)==
 1) (
  .bf (!(match b6 p2 z0.dq with
   |some x=>x
   |none=>0)==
   1) (
   .ok (.inr (.inl ((!(match b6 p2 z0.dq with
   |some x=>x
   |none=>0)==
   1),((match b6 p2 z0.dq with
 |some x=>x
 |none=>0)==
 1),z0.aa,z0.b_,z0.dq,z0,(decide (p4<(↑p0.length:Int))),a,p4))))<|
  .ok (.inl ((match b6 p2 z0.dq with
 |some x=>x
 |none=>0)==
 1)))<|
 .ok (.inr (.inl (true,false,z0.aa,z0.b_,z0.dq,z0,(decide (p4<(↑p0.length:Int))),a,p4)))
noncomputable def Jm (sh:Sh) (p0:List aj) (p1 p2:List (Int×Int)) (p4:Int) (a:Bool):T ((Bool×Bool×Int×Int×Int×aj×Bool×Bool×Int) ⊕ (Bool×Bool×Int)):=
 .ok (.inr ((decide (p4<(↑p0.length:Int))),a,p4))
noncomputable def Lu (sh:Sh) (p0:List aj) (p1 p2:List (Int×Int)) (p3:Bool):Option ((Bool×Bool×Int×Int×Int×aj×Bool×Bool×Int) ⊕ (Bool×Bool×Int)):=cS sh (vI sh p0 p1 p2) (Jm sh p0 p1 p2) p0 p3
noncomputable def agR {R:Type} (k:AX->AS SS->Option R) (p0:List aj) (p1 p2:List (Int×Int)) (x:(Bool×Bool×Int×Int×Int×aj×Bool×Bool×Int) ⊕ (Bool×Bool×Int)):Option R:=(λx=>ο (λv=>k (.exit 0) (akV p0 p1 p2 v.1 v.2.1 v.2.2.1 v.2.2.2.1 v.2.2.2.2.1 v.2.2.2.2.2.1 v.2.2.2.2.2.2.1 v.2.2.2.2.2.2.2.1 v.2.2.2.2.2.2.2.2)) (λv=>k (.exit 0) (akW p0 p1 p2 v.1 v.2.1 v.2.2)) x) x
noncomputable def HG:bH SS:=bT 4 (λst=>(dB st 0 65).bind λ_=>(bB 51 (aZ st 8 0)).bind λp0=>(lM st 2).bind λp1=>(lM st 4).bind λp2=>(tA (aZ st 5 0)).bind λp3=>some (p0,p1,p2,p3)) (λp=>acF p.1 p.2.1 p.2.2.1 p.2.2.2) (λp=>Lu shut p.1 p.2.1 p.2.2.1 p.2.2.2) (λk p=>agR k p.1 p.2.1 p.2.2.1)
noncomputable def aeT:ay SS:= { (n9 shut) with T:=bm ((n9 shut).T) 41 ⟨⟨ξk,ar 41⟩,[AZ,AY]⟩ }
theorem TU:aJ aeT γ:=(aJ.b8 (an.all CU rfl) Tryz.func41 rfl bn λc hc=>by cases hc;exact ao.cons (ao.cons (ao.nil) (by kernel_rfl) aqP) (by kernel_rfl) aqQ)
theorem aqX:aG KK γ ⟨ξK,ar 64⟩ (bQ (a_ ξK) 4) HG:=
 aG.c6 (π:=List aj×(List (Int×Int))×(List (Int×Int))×Bool) (σ:=Bool) TU (ao.nil) rfl 60 (λp i a=>N3 p.1 p.2.1 p.2.2.1 a i) (λp=>p.1) (λp=>p.2.2.2) (St:=λp=>vI shut p.1 p.2.1 p.2.2.1) (F:=λp=>Jm shut p.1 p.2.1 p.2.2.1) (λp=>rfl)
  (λm p i a k=>by kernel_rfl) (by rintro p (x|x)<;>exact⟨_,_,λ_=>rfl⟩) (λp N C A O w a hr=>dQ hr (t:=51) (sl:=8) rfl λv h=>h)
noncomputable def N4 (p0:List az) (p1:List (Int×Int)) (p2:Bool) (p3:Int):AS SS:=⟨[(1,(vc 0)),(5,(vb p2)),(8,(vd 55 p0)),(9,(vl p0)),(10,(vi p3))],[(some (.bI 67 [] [(.one (.bp 1 0))])),(bX 120 [(.mp 2)]),(some (.map .u64 .i64 p1))],3,none,false,[],[]⟩
noncomputable def RQ (p0:List az) (p1:List (Int×Int)) (p2:Bool):AS SS:=N4 p0 p1 p2 0
noncomputable def akX (p0:List az) (p1:List (Int×Int)) (a0 a1:Bool) (a2 a3:Int) (a4:az) (a5 a6:Bool) (a7:Int):AS SS:=⟨[(18,(vb a0)),(17,(vb a1)),(5,(vb a1)),(16,(vb a1)),(15,(.s (.agg [(lu a2),(lu a3)]))),(14,(vc 0)),(7,(va 3 0)),(13,(.s (.agg [(lu a2),(lu a3)]))),(12,(vs (.ptr 127 a4 0))),(11,(vb a5)),(1,(vc 0)),(5,(vb a6)),(8,(vd 55 p0)),(9,(vl p0)),(10,(vi a7))],[(some (.bI 67 [] [(.one (.bp 1 0))])),(bX 120 [(.mp 2)]),(some (.map .u64 .i64 p1)),(bX 127 [(lu a2),(lu a3)])],3,none,false,[],[]⟩
noncomputable def akY (p0:List az) (p1:List (Int×Int)) (a0 a1:Bool) (a2:Int):AS SS:= { N4 p0 p1 a0 a2 with env:=[(11,(vb a0)),(1,(vc 0)),(5,(vb a1)),(8,(vd 55 p0)),(9,(vl p0)),(10,(vi a2))] }
noncomputable def vJ (sh:Sh) (p0:List az) (p1:List (Int×Int)) (p3:Int) (z0:az) (a:Bool):T (Bool ⊕ (Bool×Bool×Int×Int×az×Bool×Bool×Int) ⊕ (Bool×Bool×Int)):=
 .bf (!(match b6 p1 z0.aa with
   |some x=>x
   |none=>0)==
   1) (
  .ok (.inr (.inl ((!(match b6 p1 z0.aa with
   |some x=>x
   |none=>0)==
   1),((match b6 p1 z0.aa with
 |some x=>x
 |none=>0)==
 1),z0.br,z0.aa,z0,(decide (p3<(↑p0.length:Int))),a,p3))))<|
 .ok (.inl ((match b6 p1 z0.aa with
 |some x=>x
 |none=>0)==
 1))
noncomputable def Jn (sh:Sh) (p0:List az) (p1:List (Int×Int)) (p3:Int) (a:Bool):T ((Bool×Bool×Int×Int×az×Bool×Bool×Int) ⊕ (Bool×Bool×Int)):=
 .ok (.inr ((decide (p3<(↑p0.length:Int))),a,p3))
noncomputable def Dg (sh:Sh) (p0:List az) (p1:List (Int×Int)) (p2:Bool):Option ((Bool×Bool×Int×Int×az×Bool×Bool×Int) ⊕ (Bool×Bool×Int)):=cS sh (vJ sh p0 p1) (Jn sh p0 p1) p0 p2
noncomputable def agS {R:Type} (k:AX->AS SS->Option R) (p0:List az) (p1:List (Int×Int)) (x:(Bool×Bool×Int×Int×az×Bool×Bool×Int) ⊕ (Bool×Bool×Int)):Option R:=(λx=>ο (λv=>k (.exit 0) (akX p0 p1 v.1 v.2.1 v.2.2.1 v.2.2.2.1 v.2.2.2.2.1 v.2.2.2.2.2.1 v.2.2.2.2.2.2.1 v.2.2.2.2.2.2.2)) (λv=>k (.exit 0) (akY p0 p1 v.1 v.2.1 v.2.2)) x) x
noncomputable def Qd:bH SS:=bT 4 (λst=>(dB st 0 67).bind λ_=>(bB 55 (aZ st 8 0)).bind λp0=>(lM st 2).bind λp1=>(tA (aZ st 5 0)).bind λp2=>some (p0,p1,p2)) (λp=>RQ p.1 p.2.1 p.2.2) (λp=>Dg shut p.1 p.2.1 p.2.2) (λk p=>agS k p.1 p.2.1)
noncomputable def aeU:ay SS:= { (n9 shut) with T:=bm (bm ((n9 shut).T) 41 ⟨⟨ξk,ar 41⟩,[AZ,AY]⟩) 64 ⟨⟨ξK,ar 64⟩,[HG]⟩ }
theorem TV:aJ aeU γ:=(aJ.b8 TU Tryz.func64 rfl bn λc hc=>by cases hc;exact ao.cons (ao.nil) (by kernel_rfl) aqX)
theorem aqY:aG KK γ ⟨ξV,ar 66⟩ (bQ (a_ ξV) 4) Qd:=
 aG.c6 (π:=List az×(List (Int×Int))×Bool) (σ:=Bool) TV (ao.nil) rfl 60 (λp i a=>N4 p.1 p.2.1 a i) (λp=>p.1) (λp=>p.2.2) (St:=λp=>vJ shut p.1 p.2.1) (F:=λp=>Jn shut p.1 p.2.1) (λp=>rfl)
  (λm p i a k=>by kernel_rfl) (by rintro p (x|x)<;>exact⟨_,_,λ_=>rfl⟩) (λp N C A O w a hr=>dQ hr (t:=55) (sl:=8) rfl λv h=>h)
noncomputable def N5 (p0:List aq) (p1:List (Int×Int)) (p2:Bool) (p3:Int):AS SS:=⟨[(1,(vc 0)),(5,(vb p2)),(8,(vd 56 p0)),(9,(vl p0)),(10,(vi p3))],[(some (.bI 69 [] [(.one (.bp 1 0))])),(bX 120 [(.mp 2)]),(some (.map .u64 .i64 p1))],3,none,false,[],[]⟩
noncomputable def BD (p0:List aq) (p1:List (Int×Int)) (p2:Bool):AS SS:=N5 p0 p1 p2 0
noncomputable def akZ (p0:List aq) (p1:List (Int×Int)) (a0 a1:Bool) (a2:Int) (a3:List Int) (a4:aq) (a5 a6:Bool) (a7:Int):AS SS:=⟨[(18,(vb a0)),(17,(vb a1)),(5,(vb a1)),(16,(vb a1)),(15,(.s (.agg [(lu a2),(.aU 130 a3)]))),(14,(vc 0)),(7,(va 3 0)),(13,(.s (.agg [(lu a2),(.aU 130 a3)]))),(12,(vs (.ptr 132 a4 0))),(11,(vb a5)),(1,(vc 0)),(5,(vb a6)),(8,(vd 56 p0)),(9,(vl p0)),(10,(vi a7))],[(some (.bI 69 [] [(.one (.bp 1 0))])),(bX 120 [(.mp 2)]),(some (.map .u64 .i64 p1)),(bX 132 [(lu a2),(.aU 130 a3)])],3,none,false,[],[]⟩
noncomputable def ak0 (p0:List aq) (p1:List (Int×Int)) (a0 a1:Bool) (a2:Int):AS SS:= { N5 p0 p1 a0 a2 with env:=[(11,(vb a0)),(1,(vc 0)),(5,(vb a1)),(8,(vd 56 p0)),(9,(vl p0)),(10,(vi a2))] }
noncomputable def vK (sh:Sh) (p0:List aq) (p1:List (Int×Int)) (p3:Int) (z0:aq) (a:Bool):T (Bool ⊕ (Bool×Bool×Int×List Int×aq×Bool×Bool×Int) ⊕ (Bool×Bool×Int)):=
 .bf (!(match b6 p1 z0.aa with
   |some x=>x
   |none=>0)==
   1) (
  .ok (.inr (.inl ((!(match b6 p1 z0.aa with
   |some x=>x
   |none=>0)==
   1),((match b6 p1 z0.aa with
 |some x=>x
 |none=>0)==
 1),z0.aa,z0.bt,z0,(decide (p3<(↑p0.length:Int))),a,p3))))<|
 .ok (.inl ((match b6 p1 z0.aa with
 |some x=>x
 |none=>0)==
 1))
noncomputable def Jo (sh:Sh) (p0:List aq) (p1:List (Int×Int)) (p3:Int) (a:Bool):T ((Bool×Bool×Int×List Int×aq×Bool×Bool×Int) ⊕ (Bool×Bool×Int)):=
 .ok (.inr ((decide (p3<(↑p0.length:Int))),a,p3))
noncomputable def vA (sh:Sh) (p0:List aq) (p1:List (Int×Int)) (p2:Bool):Option ((Bool×Bool×Int×List Int×aq×Bool×Bool×Int) ⊕ (Bool×Bool×Int)):=cS sh (vK sh p0 p1) (Jo sh p0 p1) p0 p2
noncomputable def agT {R:Type} (k:AX->AS SS->Option R) (p0:List aq) (p1:List (Int×Int)) (x:(Bool×Bool×Int×List Int×aq×Bool×Bool×Int) ⊕ (Bool×Bool×Int)):Option R:=(λx=>ο (λv=>k (.exit 0) (akZ p0 p1 v.1 v.2.1 v.2.2.1 v.2.2.2.1 v.2.2.2.2.1 v.2.2.2.2.2.1 v.2.2.2.2.2.2.1 v.2.2.2.2.2.2.2)) (λv=>k (.exit 0) (ak0 p0 p1 v.1 v.2.1 v.2.2)) x) x
noncomputable def ZG:bH SS:=bT 4 (λst=>(dB st 0 69).bind λ_=>(bB 56 (aZ st 8 0)).bind λp0=>(lM st 2).bind λp1=>(tA (aZ st 5 0)).bind λp2=>some (p0,p1,p2)) (λp=>BD p.1 p.2.1 p.2.2) (λp=>vA shut p.1 p.2.1 p.2.2) (λk p=>agT k p.1 p.2.1)
noncomputable def aeV:ay SS:= { (n9 shut) with T:=bm (bm (bm ((n9 shut).T) 41 ⟨⟨ξk,ar 41⟩,[AZ,AY]⟩) 64 ⟨⟨ξK,ar 64⟩,[HG]⟩) 66 ⟨⟨ξV,ar 66⟩,[Qd]⟩ }
theorem TX:aJ aeV γ:=(aJ.b8 TV Tryz.func66 rfl bn λc hc=>by cases hc;exact ao.cons (ao.nil) (by kernel_rfl) aqY)
theorem aqZ:aG KK γ ⟨ζv,ar 68⟩ (bQ (a_ ζv) 4) ZG:=
 aG.c6 (π:=List aq×(List (Int×Int))×Bool) (σ:=Bool) TX (ao.nil) rfl 60 (λp i a=>N5 p.1 p.2.1 a i) (λp=>p.1) (λp=>p.2.2) (St:=λp=>vK shut p.1 p.2.1) (F:=λp=>Jo shut p.1 p.2.1) (λp=>rfl)
  (λm p i a k=>by kernel_rfl) (by rintro p (x|x)<;>exact⟨_,_,λ_=>rfl⟩) (λp N C A O w a hr=>dQ hr (t:=56) (sl:=8) rfl λv h=>h)
noncomputable def TY:ay SS:= { (n9 shut) with T:=bm (bm (bm (bm ((n9 shut).T) 41 ⟨⟨ξk,ar 41⟩,[AZ,AY]⟩) 64 ⟨⟨ξK,ar 64⟩,[HG]⟩) 66 ⟨⟨ξV,ar 66⟩,[Qd]⟩) 68 ⟨⟨ζv,ar 68⟩,[ZG]⟩ }
theorem aeW:aJ TY γ:=(aJ.b8 TX Tryz.func68 rfl bn λc hc=>by cases hc;exact ao.cons (ao.nil) (by kernel_rfl) aqZ)
noncomputable def EB (sh:Sh) (s:bo):T (Int):=
 .bd (rG sh s.aC) λy0=>
  .bf (y0 !=0) (
   .ok 360)<|
  .bd (ow sh s.aV) λy1=>
   .bf (y1 !=0) (
    .ok 360)<|
   .bd (zd sh s.aL) λy2=>
    .bf (y2 !=0) (
     .ok 360)<|
    .bd (pP sh s.aF) λy3=>
     .bf (y3 !=0) (
      .ok 360)<|
     .gd (acz s.aC.ae s.aC.aQ s.aV s.aL.ae s.aL.bE s.aF.aA s.aF.au [])<|
      .bd (De sh s.aC.ae s.aC.aQ s.aV s.aL.ae s.aL.bE s.aF.aA s.aF.au []) λy4=>
       .gd (acy s.aL.ae s.aC.aQ s.aC.ae s.aV s.aL.bE s.aF.aA s.aF.au y4.2.2 [])<|
        .bd (Dd sh s.aL.ae s.aC.aQ s.aC.ae s.aV s.aL.bE s.aF.aA s.aF.au y4.2.2 []) λy5=>
         .gd (acF s.aV y4.2.2 y5.2.2 true)<|
          .bd (Lu sh s.aV y4.2.2 y5.2.2 true) λu_=> .cs u_ (λy6=>
           .gd (RQ s.aF.aA y4.2.2 true)<|
            .bd (Dg sh s.aF.aA y4.2.2 true) λSG=> .cs SG (λy7=>
             .bf (!y6.2.1) (
              .ok 360)<|
             .bf (!y7.2.1) (
              .ok 360)<|
             .gd (BD s.aF.au y4.2.2 true)<|
              .bd (vA sh s.aF.au y4.2.2 true) λve=> .cs ve (λy8=>
               .bf (!y8.2.1) (
                .ok 360)<|
               .ok 0) λy8=>
               .bf (!y8.2.1) (
                .ok 360)<|
               .ok 0) λy7=>
             .bf (!y6.2.1) (
              .ok 360)<|
             .bf (!y7.2.1) (
              .ok 360)<|
             .gd (BD s.aF.au y4.2.2 true)<|
              .bd (vA sh s.aF.au y4.2.2 true) λve=> .cs ve (λy8=>
               .bf (!y8.2.1) (
                .ok 360)<|
               .ok 0) λy8=>
               .bf (!y8.2.1) (
                .ok 360)<|
               .ok 0) λy6=>
           .gd (RQ s.aF.aA y4.2.2 true)<|
            .bd (Dg sh s.aF.aA y4.2.2 true) λSG=> .cs SG (λy7=>
             .bf (!y6.2.1) (
              .ok 360)<|
             .bf (!y7.2.1) (
              .ok 360)<|
             .gd (BD s.aF.au y4.2.2 true)<|
              .bd (vA sh s.aF.au y4.2.2 true) λve=> .cs ve (λy8=>
               .bf (!y8.2.1) (
                .ok 360)<|
               .ok 0) λy8=>
               .bf (!y8.2.1) (
                .ok 360)<|
               .ok 0) λy7=>
             .bf (!y6.2.1) (
              .ok 360)<|
             .bf (!y7.2.1) (
              .ok 360)<|
             .gd (BD s.aF.au y4.2.2 true)<|
              .bd (vA sh s.aF.au y4.2.2 true) λve=> .cs ve (λy8=>
               .bf (!y8.2.1) (
                .ok 360)<|
               .ok 0) λy8=>
               .bf (!y8.2.1) (
                .ok 360)<|
               .ok 0
noncomputable def FU (sh:Sh) (s:bo):Option (Int):=sh.s _ (EB sh s).val
theorem ate:R1 KK TY 41 60 [27] (EB shut) (b5 KK 27):=by intro R s k;kernel_rfl
noncomputable def aiC (sh:Sh):bO SS:=fS KK 41 60 (FU sh) (b5 KK 27)
noncomputable def CT (sh:Sh):ay SS:=cq (aiC sh) (n9 sh)
theorem Kl:an (CT shut) γ:=gm CU aeW rfl rfl ate
end Go.Proofs.YtoggponeookhbaaGreatDoor
end
