/- A part of the proof that OrderSearch returns true for every input: the machine of values, its soundness, the program as plain functions, the law. Conditions: those of the given rows. -/
import Derived.Test.YtoggponeookhbaaGreatDoorU2
import Derived.Test.YtoggponeookhbaaGreatDoorProg
import Derived.Lib.Bytealg
import Derived.Shelf.Strings.OnBuilder
set_option linter.unusedVariables false
set_option linter.unusedSimpArgs false
noncomputable section
set_option maxRecDepth 1000000
set_option maxHeartbeats 12000000
open Array renaming getElem?_eq_some_iff→μ,length_toList→τ
open Bool renaming and_eq_true→ξf
open ByteArray renaming mk→ο,empty→ψ
open Go.BinOp renaming and→ζ8
open Go.Builtin renaming zeroCells→ξI
open Go.Exit renaming thenS→ξH
open Go.Instr renaming typeAssert→ξg
open Go.IntKind renaming i64→δ,u64→ζ,u8→ξ2,wrap_i64→ξi
open Go.Lib renaming indexByte→ξ1,join→ζn
open Go.Next renaming value→ξm
open Go.Op renaming equalIn→ξu
open Go.Program renaming fieldsOf→ξ7
open Go.Proofs.Lays renaming n156→ζm
open Go.Proofs.Tryz renaming prog→γ,f97→κ,f142→φ,func142→ξ0,f105→ξb,func105→ξk,func254→ξp,f145→ξq,f200→ξr,f213→ξs,f166→ξt,func70→ξz,f60→ξD,f197→ξE,func197→ξJ,func200→ξK,underlying3→ξN,results254→ξP,f257→ξS,f264→ξT,results70→ξU,ntmps254→ξY,func283→ζ1,ntmps70→ζ2,func252→ζ3,func212→ζ4,func222→ζ5,func259→ζ6,func141→ζ7,func257→ζ9,f193→ζa,func193→ζb,f195→ζc,func264→ζd,f157→ζe,func76→ζf,func77→ζg,func78→ζh,func79→ζi,func80→ζj,func14→ζk,f63→ζo,f41→ζp
open Go.Result renaming andThen_ok→θ
open Go.Sem renaming run_bind→ι
open Go.Utf8 renaming decode→ε
open Go.Value renaming int→ξd,oneCell'→ξx,cells→ξA,slice→ζl
open Int renaming toNat_natCast→ξF
open List renaming length_append→η,length_drop→ρ,mem_append_right→υ,replicate→χ,drop_eq_nil_of_le→ξ3,length_take→ξ8,take_left'→ξa,append_assoc→ξc,eq_nil_of_length_eq_zero→ξh,mem_append_left→ξj,getElem?_set→ξl,append_nil→ξn,mem_append→ξo,mem_cons_of_mem→ξv,mem_of_mem_drop→ξw,mem_cons_self→ξB,getElem?_take→ξC,length_cons→ξL,not_mem_nil→ξM,find?_cons→ξO,drop→ξQ,drop_zero→ξV,take_take→ξW,mem_cons→ξX
open Nat renaming eq_of_beq_eq_true→ν,beq→ξ,le_refl→ξ4,add_mul→ξ5,mul_le_mul_right→ξ6,zero_add→ξ9,zero_le→ξy,toUInt8→ξR,reduceMul→ξZ
open Option renaming map_some→ω,bind_some→ξe
open Option.some renaming injEq→ξG
open Sum renaming elim→ζ0
section
namespace Go.Vx
open Go.RowKit Go.Dc
section
variable {S:bm} {R:Type}
noncomputable def p4 (p:Prop) (x:Option R):Option R:=open Classical in if p then x else none
theorem O8 {p:Prop} {x:Option R} {z:R} (h:p4 p x=some z):p/\x=some z:=by
 unfold p4 at h;split at h
 ·exact⟨by assumption,h⟩
 ·cases h
noncomputable def gd {α:Type} (a:α) (x:Option R):Option R:=p4 (a=a) x
theorem vS {α:Type} (a:α) (x:Option R):gd a x=x:=by unfold gd p4;simp
def cO:Option (LV S)->Option Int
 |some (.v (.int _ x))=>some x
 |_=>none
def gD:Option (LV S)->Option Bool
 |some (.v (.bool x))=>some x
 |_=>none
def jF:Option (LV S)->Option ByteArray
 |some (.v (.string x))=>some x
 |_=>none
def ea:Option (LV S)->Option (Γa)
 |some (.bA _ _ x)=>some x
 |_=>none
def eo (t:Nat):Option (LV S)->Option (S.El t)
 |some (.aJ t' x)=>(match Nat.decEq t' t with| .isTrue p=>some (p▸x)| .isFalse _=>none)
 |_=>none
def cJ (st:AS S) (s n:Nat):Option (LV S):=match a1.get st.env s with
 |some (.s (.one l))=>some l
 |some (.s (.agg ls))=>ls[n]?
 |_=>none
def dH (st:AS S) (j n:Nat):Option (LV S):=match aE st.h j with
 |some (.box _ cs)=>cs[n]?
 |_=>none
def dU (st:AS S) (j e:Nat):Option (List (S.El e)):=match aE st.h j with
 |some (.row a xs)=>(match Nat.decEq a e with| .isTrue p=>some (jy p xs)| .isFalse _=>none)
 |_=>none
def gG (st:AS S) (j:Nat):Option (Γc):=match aE st.h j with
 |some (.map _ _ m)=>some m
 |_=>none
def lpL (st:AS S) (s n:Nat):Option (LV S):=match st.lp with
 |some a=>(match a1.get a.env s with
  |some (.s (.one l))=>some l
  |some (.s (.agg ls))=>ls[n]?
  |_=>none)
 |none=>none
def cG (st:AS S) (j g:Nat):Option Unit:=match aE st.h j with
 |some (.a7 a _ _)=>bif ξ a g then some () else none
 |_=>none
def fQ (st:AS S) (m n:Nat):Option Unit:=match st.lp with
 |some a=>bif ξ a.J.fn.ntmps m&&ξ (dG a.body) n then some () else none
 |none=>none
def ke (c:AS S->Option Unit) (a b:aX S):aX S:=⟨a.id,λst k=>match c st with|some _=>a.out st k|none=>b.out st k⟩
end
def ca (fn:Func):Code:=match fn.body with|some c=>c|none=>.skip
def kZ:Code->List (Code×Code)
 | .rangeFunc _ _ x y=>[(x,y)]
 | .loop x=>kZ x
 | .seq x y=>kZ x++kZ y
 | .cond _ x y=>kZ x++kZ y
 | .block _ x=>kZ x
 | .scope x=>kZ x
 |_=>[]
def Td (c:Code) (id:Nat):Code×Code:=match(kZ c).filter (λx=>ξ (dG x.2) id) with|[x]=>x|_=>(.skip,.skip)
def ey (c:Code) (id:Nat):Code:=(Td c id).1
def ez (c:Code) (id:Nat):Code:=(Td c id).2
theorem PA {S:bm} {l:List (aX S)} {n:Nat} (h:(match gb l n with|some _=>false|none=>true)=true):gb l n=none:=by
 cases a:gb l n with
 |none=>rfl
 |some c=>rw[a] at h;cases h
section
variable {S:bm} {P:Program} {R:Type}
def xM (K:Kit S) (b:Γ) (k:Rs S->Option R):Rs S->Option R
 | .bD u=>k (.bD u)
 | .ret (.s a)=>(match b with|[t]=>(match x2 K t a with|some x=>k (.ret (.s (K.bl t x)))|none=>none)|_=>none)
 | .ret (.bJ aka)=>(match q8 K b aka with|some xs=>k (.ret (.bJ (kM K xs)))|none=>none)
theorem IQ {K:Kit S} (l:b6 K P) {f:Nat} {aka:List (aB S)} {p:Γ} {k:Rs S->Option R} {r:Rs S} {z:R} (h:xM K p k r=some z) (b:ej K P f aka r): ∃m,k m=some z/\ej K P f aka m:=by
 cases r with
 |bD u=>exact⟨_,h,b⟩
 |ret n=>
  cases n with
  |s a=>
   simp only[xM] at h;split at h
   ·split at h
    ·rename_i x j;refine⟨_,h,b.1,λA O w xs i hO g=>(b.2 A O w xs i hO g).mono ?_⟩;rintro e w' ⟨⟨v,h1,c⟩,d⟩;exact⟨⟨v,h1,SK l j c⟩,d⟩
    ·cases h
   ·cases h
  |bJ bs=>
   simp only[xM] at h;split at h
   ·rename_i q j;refine⟨_,h,b.1,λA O w xs i hO g=>(b.2 A O w xs i hO g).mono ?_⟩;rintro e w' ⟨⟨v,h1,ys,c,o⟩,d⟩;exact⟨⟨v,h1,ys,c,x3 l j o⟩,d⟩
   ·cases h
def ht (K:Kit S) (a:Γ) (k:Rs S->Option R) (r:Rs S) (h:AH S) (dt:Γ):Option R:=xN K (xM K a k) r h dt
theorem kn {G:bN S} (b:aR G P) {f:Nat} {c rs:Γ} {spec: {R:Type}->h5 S c->(Rs S->Option R)->Option R}
  (h: ∀ {R:Type} (xs:h5 S c) (k:Rs S->Option R) (z:R),spec xs k=some z-> ∃n,e1 G n f (kM G.K xs) [] (ht G.K rs k)=some z) {aka:List (aB S)} {k:Rs S->Option R} {z:R} (a:(fE G.K f c spec).out aka k=some z): ∃r,k r=some z/\ej G.K P f aka r:=by
 simp only[fE] at a;split at a
 rotate_left
 ·cases a
 rename_i xs p;cases hp:(kM G.K xs).all aB.pure<;>rw[hp] at a
 ·cases a
 simp only[cond_true] at a;obtain⟨n,hn⟩:=h xs k z a;obtain⟨r,h',dt,h1,d⟩:=pb b hn;obtain⟨s,e,g⟩:=ej.IH b.K hp d h1;obtain⟨q,i,j,l⟩:=IQ b.K e g;exact⟨q,i,j,λA O w vs o hO m=>l A O w vs (x3 b.K p o) hO m⟩
end
section
variable {S:bm} {P:Program} {G:bN S} {I:dq S} {x:Code} {R:Type}
def qQ (G:bN S) (n:Nat) (I:dq S) (x:Code) (k:AX->AS S->Option R):AX->AS S->Option R:=λe a=>match e with| .normal=>cq G n I (.loop x) (gc (I.L (dG x)) a) k|e=>k e a
theorem Ig (a:gb I.lc (dG x)=none) {n:Nat} {st:AS S} {k:AX->AS S->Option R}:cq G (n+1) I (.loop x) st k=cq G n I x st (qQ G n I x k):=by
 show(match gb I.lc (dG x) with|some lc=>lc.out st k|none=>_)=_;rw[a];rfl
theorem aec {i n:Nat} (h:i<n):decide ((i:Int)<(n:Int))=true:=by simp;exact h
theorem aeb {n:Nat}:decide ((n:Int)<(n:Int))=false:=by simp
theorem gH {α:Type} {l:List α} {i:Nat} {z:α} (h:l[i]? =some z):idx l (i:Int)=some z:=by
 unfold idx;rw[if_pos (Int.natCast_nonneg i),ξF,h]
theorem aO.alt {K:Kit S} {J:k9} {c:AS S->Option Unit} {a b:aX S} (d:aO K P J x a) (e:aO K P J x b):aO K P J x (ke c a b):=by
 intro R st k z h;simp only[ke] at h;split at h
 ·exact d st k z h
 ·exact e st k z h
theorem bT {α:Type} {T:Ty α} {A:Pl} {O:Γ} {w:World} {N:Nat} {C:cT} {K:Kit S} {st:AS S} {a:Act} {sl t:Nat} {d:S.El t} (e:bp K P N C A O w st a) (f:a1.get st.env sl=some (.s (.one (.aJ t d)))) {l:List α} (c: ∀v,(S.ty t).is O w v d->T.slice.is O w v l):l.length<=maxLen:=by
 obtain⟨x,h1,b,_⟩:=e.env sl _ f;cases h1;obtain⟨_,_,_,g,h⟩:=eW (c _ b);omega
theorem S5 {A:Pl} {O:Γ} {w:World}: ∀ {ls:List (LV S)} {xs:Γb} {n:Nat} {l:LV S},bF A O w ls xs->ls[n]? =some l-> ∃ys,l.rel A O w ys
 |[],_,n,l,_,h=>by simp at h
 |a::ls,_,0,l,⟨ys,_,_,h1,_⟩,h=>by
  have h:a=l:=by simpa using h
  subst h;exact⟨ys,h1⟩
 |a::ls,_,n+1,l,⟨_,_,_,_,b⟩,h=>S5 b (by simpa using h)
theorem Ic {α:Type} {T:Ty α} {A:Pl} {O:Γ} {w:World} {N:Nat} {C:cT} {K:Kit S} {st:AS S} {a:Act} {j k n t:Nat} {cs:List (LV S)} {d:S.El t} (g:bp K P N C A O w st a) (i:aE st.h j=some (.box k cs)) (hn:cs[n]? =some (.aJ t d)) {l:List α} (f: ∀v,(S.ty t).is O w v d->T.slice.is O w v l):l.length<=maxLen:=by
 obtain⟨p,_,⟨b,vs,_,_,e⟩,_⟩:=g.rel.al j _ i;obtain⟨ys,x,_,c,_⟩:=S5 e hn;obtain⟨_,_,_,m,o⟩:=eW (f _ c);omega
theorem kG {e j:Nat} {xs:List (S.El e)} {A:Pl} {O:Γ} {w:World} {N:Nat} {C:cT} {K:Kit S} {st:AS S} {a:Act} (c:bp K P N C A O w st a) (d:aE st.h j=some (.row e xs)):xs.length<=maxLen:=by
 obtain⟨p,_,b,_⟩:=c.rel.al j _ d;obtain⟨_,_,_,f,g⟩:=Dc.Own.form b;omega
end
end Go.Vx
end
section
namespace Go.Vx
open Go.RowKit Go.Dc
inductive T (X:Type):Type 1
 |no
 |ok (x:X)
 |bf (c:Bool) (a b:T X)
 |bd {α:Type} (o:Option α) (f:α->T X)
 |cs {α β:Type} (x:α⊕β) (f:α->T X) (g:β->T X)
 |gd {α:Type} (a:α) (t:T X)
namespace T
variable {X R:Type}
noncomputable def run (t:T X) (k:X->Option R):Option R:=T.rec none (λx=>k x) (λc _ _ a b=>bif c then a else b) (λo _ f=>o.bind f) (λx _ _ f g=>Sum.rec f g x) (λa _ r=>Go.Vx.gd a r) t
noncomputable def val (t:T X):Option X:=T.rec none (λx=>some x) (λc _ _ a b=>bif c then a else b) (λo _ f=>o.bind f) (λx _ _ f g=>Sum.rec f g x) (λ_ _ r=>r) t
@[simp] theorem mg:(T.no:T X).val=none:=rfl
@[simp] theorem av (x:X):(T.ok x).val=some x:=rfl
@[simp] theorem az (c:Bool) (a b:T X):(T.bf c a b).val=bif c then a.val else b.val:=rfl
@[simp] theorem aG {α:Type} (o:Option α) (f:α->T X):(T.bd o f).val=o.bind λy=>(f y).val:=rfl
@[simp] theorem ch {α β:Type} (x:α⊕β) (f:α->T X) (g:β->T X):(T.cs x f g).val=match x with| .inl a=>(f a).val| .inr b=>(g b).val:=by cases x<;>rfl
@[simp] theorem bw {α:Type} (a:α) (t:T X):(T.gd a t).val=t.val:=rfl
theorem l9 (t:T X) (k:X->Option R):t.run k=t.val.bind k:=by
 induction t with
 |no=>rfl
 |ok x=>rfl
 |bf c a b i j=>cases c<;>assumption
 |bd o f h=>
  cases o with
  |none=>rfl
  |some y=>exact h y
 |cs x f g d e=>
  cases x with
  |inl a=>exact d a
  |inr b=>exact e b
 |gd a t h=>rw[bw,<-h];exact vS a (t.run k)
end T
def hpS {S:bm} (st:AS S) (j:Nat):Option ByteArray:=match aE st.h j with
 |some (.cZ s _)=>some s
 |_=>none
def Pd {S:bm} (st:AS S) (j:Nat):Option Nat:=match aE st.h j with
 |some (.cZ _ n)=>some n
 |_=>none
def Pc {S:bm} (st:AS S) (j g:Nat):Option Unit:=match aE st.h j with
 |some (.box _ [.v (.func (.func a) _ _)])=>bif ξ a g then some () else none
 |_=>none
structure Sh where
 s:(α:Type)->α->α
theorem Uc: ∃f:Sh,f=⟨λ_ a=>a⟩:=⟨_,rfl⟩
noncomputable def shut:Sh:=Classical.choose Uc
abbrev ab:Sh:=⟨λ_ a=>a⟩
theorem j2:shut=ab:=Classical.choose_spec Uc
theorem lJ {X R:Type} {t:T X} {kf:X->Option R} {z:R} (h:(shut.s _ t.val).bind kf=some z):t.run kf=some z:=by
 rw[j2] at h;rw[T.l9];exact h
def bB {α σ X:Type} (step:Int->α->σ->Option (σ⊕X)) (fin:Int->σ->Option X):Nat->List α->σ->Option X
 |i,[],a=>fin i a
 |i,z::r,a=>(step i z a).bind λy=>match y with| .inl a'=>bB step fin (i+1) r a'| .inr x=>some x
def ct {σ X:Type} (step:σ->Option (σ⊕X)):Nat->σ->Option X
 |0,_=>none
 |n+1,a=>(step a).bind λy=>match y with| .inl a'=>ct step n a'| .inr x=>some x
noncomputable def bC (U:Sh) {α σ X:Type} (S:Int->α->σ->T (σ⊕X)) (F:Int->σ->T X) (l:List α) (a:σ):Option X:=U.s _ (bB (λi z a=>(S i z a).val) (λi a=>(F i a).val) 0 l a)
noncomputable def bQ (U:Sh) {σ X:Type} (S:σ->T (σ⊕X)) (n:Nat) (a:σ):Option X:=U.s _ (ct (λa=>(S a).val) n a)
theorem ahI {α σ X:Type} (S:Int->α->σ->T (σ⊕X)) (F:Int->σ->T X) (l:List α) (a:σ):bC shut S F l a=bB (λi z a=>(S i z a).val) (λi a=>(F i a).val) 0 l a:=by unfold bC;rw[j2]
theorem ajO {σ X:Type} (S:σ->T (σ⊕X)) (n:Nat) (a:σ):bQ shut S n a=ct (λa=>(S a).val) n a:=by unfold bQ;rw[j2]
section
variable {S:bm} {P:Program} {G:bN S} {I:dq S} {x:Code}
noncomputable def bh {π X:Type} (id:Nat) (ext:AS S->Option π) (s:π->AS S) (L:π->Option X) (out: {R:Type}->(AX->AS S->Option R)->π->X->Option R):aX S:=⟨id,λst k=>(ext st).bind λp=>p4 (st=s p) ((L p).bind (out k p))⟩
noncomputable def xv {σ X R:Type} (f:σ->Option R) (g:X->Option R):σ⊕X->Option R:=λy=>Sum.rec f g y
theorem JT {α R:Type} {o:Option α} {f:α->Option R} {z:R} (h:o.bind f=some z): ∃y,o=some y/\f y=some z:=bind_some h
theorem Tm {π σ X α R:Type} (N:Nat) {k:AX->AS S->Option R} (c:gb I.lc (dG x)=none) {l:List α} (hm:l.length<=maxLen) {s:Int->σ->AS S} {St:Int->α->σ->T (σ⊕X)} {F:Int->σ->T X} {ex:X->Option R}
  (b: ∀m (i:Int) a,cq G (m+N) I x (s i a) (qQ G (m+N) I x k)=bif decide (i<(l.length:Int)) then(idx l i).bind λz=>(St i z a).run (xv (λa'=>cq G (m+N) I (.loop x) (s (δ.wrap (i+1)) a') k) ex) else(F i a).run ex):
  ∀(r pre:List α) (a:σ),l=pre++r->cq G (r.length+N+1) I (.loop x) (s (pre.length:Int) a) k=(bB (λi z a=>(St i z a).val) (λi a=>(F i a).val) pre.length r a).bind ex
 |[],pre,a,h=>by
  rw[ξn] at h;subst h;rw[Ig c,b,aeb,cond_false,T.l9];rfl
 |z::r,pre,a,h=>by
  have f:l[pre.length]? =some z:=by rw[h];simp
  have d:pre.length<l.length:=by rw[h];simp
  rw[Ig c,b,aec d,cond_true,gH f,ξe,T.l9];show _=(((St (pre.length:Int) z a).val).bind λy=>match y with| .inl a'=>bB _ _ (pre.length+1) r a'| .inr x=>some x).bind ex;cases (St (pre.length:Int) z a).val with
  |none=>rfl
  |some y=>
   cases y with
   |inr x=>rfl
   |inl a'=>
    show cq G (r.length+1+N) I (.loop x) (s (δ.wrap ((pre.length:Int)+1)) a') k=(bB _ _ (pre.length+1) r a').bind ex;rw[ml d hm];have e:=Tm (π:=π) N c hm b r (pre++[z]) a' (by rw[h];simp);rw[show(pre++[z]).length=pre.length+1 by simp] at e;rw[<-e,show r.length+1+N=r.length+N+1 by omega]
theorem aO.bI {π σ X α:Type} (g:aR G P) {id:Nat} {ext:AS S->Option π} {L:π->Option X} {out: {R:Type}->(AX->AS S->Option R)->π->X->Option R}
  (j:aF G.K P I (.loop x)) (o:(match gb I.lc (dG x) with|some _=>false|none=>true)=true) (N:Nat) (s:π->Int->σ->AS S) (l:π->List α) (a0:π->σ) {St:π->Int->α->σ->T (σ⊕X)} {F:π->Int->σ->T X}
  (q: ∀p,L p=bC shut (St p) (F p) (l p) (a0 p))
  (n: ∀ {R:Type} m (p:π) (i:Int) a (k:AX->AS S->Option R),cq G (m+N) I x (s p i a) (qQ G (m+N) I x k)=bif decide (i<((l p).length:Int)) then(idx (l p) i).bind λz=>(St p i z a).run (xv (λa'=>cq G (m+N) I (.loop x) (s p (δ.wrap (i+1)) a') k) (out k p)) else(F p i a).run (out k p))
  (hex: ∀(p:π) (x:X),∃e c,∀ {R:Type} (k:AX->AS S->Option R),out k p x=k e c)
  (f: ∀(p:π) (N:Nat) (C:cT) (A:Pl) (O:Γ) (w:World) (a:Act),bp G.K P N C A O w (s p 0 (a0 p)) a->(l p).length<=maxLen):
  aO G.K P I.tok9 x (bh id ext (λp=>s p 0 (a0 p)) L out):=by
 intro R st k z b;obtain⟨p,_,h1⟩:=JT b;clear b;obtain⟨d,b⟩:=O8 h1;clear h1;subst d
 by_cases hm:(l p).length<=maxLen
 ·rw[q,ahI] at b;have h:=(Tm (π:=π) N (PA o) hm (λm i a=>n m p i a k) (l p) [] (a0 p) rfl).trans b;exact Fp g _ I (.loop x) (s p 0 (a0 p)) k z j h
 ·obtain⟨y,_,t⟩:=JT b;obtain⟨e,c,he⟩:=hex p y;exact⟨e,c,(he k).symm.trans t,λC A O w a r=>absurd (f p _ C A O w a r) hm⟩
theorem Vi {σ X R:Type} (N:Nat) {k:AX->AS S->Option R} (c:gb I.lc (dG x)=none) {s:σ->AS S} {St:σ->T (σ⊕X)} {ex:X->Option R}
  (b: ∀m a,cq G (m+N) I x (s a) (qQ G (m+N) I x k)=(St a).run (xv (λa'=>cq G (m+N) I (.loop x) (s a') k) ex)):
  ∀(n:Nat) (a:σ) {z:R},(ct (λa=>(St a).val) n a).bind ex=some z->cq G (n+N) I (.loop x) (s a) k=some z
 |0,a,z,h=>by cases h
 |n+1,a,z,h=>by
  rw[show n+1+N=n+N+1 by omega,Ig c,b,T.l9]
  change (((St a).val).bind λy=>match y with| .inl a'=>ct _ n a'| .inr x=>some x).bind ex=some z at h
  revert h
  cases (St a).val with
  |none=>intro h;cases h
  |some y=>
   cases y with
   |inr x=>intro h;exact h
   |inl a'=>intro h;exact Vi N c b n a' h
theorem aO.bQ {π σ X:Type} (d:aR G P) {id:Nat} {ext:AS S->Option π} {L:π->Option X} {out: {R:Type}->(AX->AS S->Option R)->π->X->Option R}
  (e:aF G.K P I (.loop x)) (g:(match gb I.lc (dG x) with|some _=>false|none=>true)=true) (N:Nat) (s:π->σ->AS S) (a0:π->σ) {St:π->σ->T (σ⊕X)} (n:π->Nat)
  (h: ∀p,L p=Vx.bQ shut (St p) (n p) (a0 p))
  (f: ∀ {R:Type} m (p:π) a (k:AX->AS S->Option R),cq G (m+N) I x (s p a) (qQ G (m+N) I x k)=(St p a).run (xv (λa'=>cq G (m+N) I (.loop x) (s p a') k) (out k p))):
  aO G.K P I.tok9 x (bh id ext (λp=>s p (a0 p)) L out):=by
 intro R st k z b;obtain⟨p,_,h1⟩:=JT b;clear b;obtain⟨c,b⟩:=O8 h1;clear h1;subst c;rw[h,ajO] at b;exact Fp d _ I (.loop x) (s p (a0 p)) k z e (Vi N (PA g) (λm a=>f m p a k) (n p) (a0 p) b)
end
end Go.Vx
end
section
namespace Go.Vx
open Go.RowKit Go.Dc
section
variable {α σ X:Type}
theorem hx {step:Int->α->σ->Option (σ⊕X)} {fin:Int->σ->Option X} {i:Nat} {z:α} {r:List α} {a:σ}:bB step fin i (z::r) a=(step i z a).bind λy=>match y with| .inl a'=>bB step fin (i+1) r a'| .inr x=>some x:=rfl
theorem jd {step:Int->α->Unit->Option (Unit⊕X)} {fin:Int->Unit->Option X} {p:α->Bool} {e:α->X}:
  ∀ {l:List α} {i:Nat},(∀i z,z∈l->step i z ()=bif p z then some (.inr (e z)) else some (.inl ()))->bB step fin i l ()=match l.find? p with|some z=>some (e z)|none=>fin ((i+l.length:Nat):Int) ()
 |[],i,_=>by simp[bB]
 |z::r,i,h=>by
  rw[hx,h _ z ξB,ξO];cases hp:p z with
  |true=>rfl
  |false=>
   simp only[cond_false,ξe];rw[jd λi z a=>h i z (ξv _ a)];cases r.find? p with
   |some _=>rfl
   |none=>simp only[ξL];rw[show i+1+r.length=i+(r.length+1) by omega]
def allI (q:Nat->α->Bool):Nat->List α->Bool
 |_,[]=>true
 |i,z::r=>q i z&&allI q (i+1) r
theorem fX {q:Nat->α->Bool}: ∀ {l:List α} {i:Nat},allI q i l=true↔ ∀k z,l[k]? =some z->q (i+k) z=true
 |[],i=>by simp[allI]
 |z::r,i=>by
  simp only[allI,ξf];rw[fX];constructor
  ·rintro ⟨h1,a⟩ k y hk;cases k with
   |zero=>simp at hk;subst hk;exact h1
   |succ k=>rw[show i+(k+1)=i+1+k by omega];exact a k y (by simpa using hk)
  ·intro h;refine⟨h 0 z rfl,λk y hk=>?_⟩;rw[show i+1+k=i+(k+1) by omega];exact h (k+1) y (by simpa using hk)
theorem Tj {step:Int->α->Unit->Option (Unit⊕X)} {fin:Int->Unit->Option X} {q:Nat->α->Bool} {x:X} {l:List α} (h: ∀(i:Nat) z,l[i]? =some z->step i z ()=bif q i z then some (.inl ()) else some (.inr x)):
  ∀(r pre:List α),l=pre++r->bB step fin pre.length r ()=bif allI q pre.length r then fin (l.length:Int) () else some x
 |[],pre,e=>by
  rw[ξn] at e;subst e;rfl
 |z::r,pre,e=>by
  rw[hx,h pre.length z (by rw[e];simp)];unfold allI;cases q pre.length z with
  |false=>rfl
  |true=>
   simp only[cond_true,ξe,Bool.true_and];have:=Tj (fin:=fin) h r (pre++[z]) (by rw[e];simp);rw[show(pre++[z]).length=pre.length+1 by simp] at this;exact this
theorem h2 {step:Int->α->Unit->Option (Unit⊕X)} {fin:Int->Unit->Option X} {q:Nat->α->Bool} {x:X} {l:List α} (h: ∀(i:Nat) z,l[i]? =some z->step i z ()=bif q i z then some (.inl ()) else some (.inr x)):
 bB step fin 0 l ()=bif allI q 0 l then fin (l.length:Int) () else some x:=Tj h l [] rfl
theorem l6 {step:Int->α->σ->Option (σ⊕X)} {fin:Int->σ->Option X} {g:σ->α->σ}: ∀ {l:List α} {i:Nat} {a:σ},(∀i z a,z∈l->step i z a=some (.inl (g a z)))->bB step fin i l a=fin ((i+l.length:Nat):Int) (l.foldl g a)
 |[],i,a,_=>by simp[bB]
 |z::r,i,a,h=>by
  rw[hx,h _ z _ ξB];show bB step fin (i+1) r (g a z)=_;rw[l6 λi z a b=>h i z a (ξv _ b),ξL,List.foldl_cons,show i+1+r.length=i+(r.length+1) by omega]
theorem oq {step:Int->Option (Int⊕X)} {q:Nat->Bool} {x:Nat->X} {y:X} {N:Nat} (h: ∀a:Nat,a<N->step (a:Int)=bif q a then some (.inl ((a+1:Nat):Int)) else some (.inr (x a))) (c:step (N:Int)=some (.inr y)):
  ∀ {k n a:Nat},a+k=N->k<n->ct step n (a:Int)=some (match(List.range' a k).find? (λb=>!q b) with|some b=>x b|none=>y)
 |0,n+1,a,e,_=>by
  obtain rfl:a=N:=by omega
  unfold ct;rw[c];rfl
 |k+1,n+1,a,e,hn=>by
  unfold ct;rw[h a (by omega),List.range'_succ,ξO];cases q a with
  |false=>rfl
  |true=>
   simp only[cond_true,ξe,Bool.not_true];exact oq h c (by omega) (by omega)
theorem acO {p:α->Bool} {l:List α}:(l.find? p).isSome=l.any p:=by rw[Bool.eq_iff_iff,List.find?_isSome,List.any_eq_true]
end
section
variable {S:bm} {K:Kit S} {P:Program}
def K7 {α:Type} (T:Ty α):Prop:= ∀(O:Γ) (w:World) (O':Γ) (w':World) (cs:Γb) (x:α),T.rep O w cs x->T.rep O' w' cs x
theorem Ou {α:Type} {T:Ty α} (a:K7 T) {O O':Γ} {w w':World}: ∀ {xs:List α} {cs:Γb},bY T O w cs xs->bY T O' w' cs xs
 |[],_,h=>h
 |_::_,_,⟨c,r,e,h1,b⟩=>⟨c,r,e,a O w O' w' c _ h1,Ou a b⟩
def kK (K:Kit S) (f e:Nat) (cl:List (S.El e)->Option (List (S.El e))):eO S:=⟨f,λaka h k=>match aka with
 |[.one l]=>(match dO K (aE h) e l with|some xs=>(cl xs).bind λzs=>k (.ret (.s (.one (.own h.length)))) (h++[some (.row e zs)]) []|none=>none)
 |_=>none⟩
theorem jP {h:AH S} {X:Ob S} {i:Nat} {Y:Ob S} (hi:aE (h++[some X]) i=some Y):aE h i=some Y\/(i=h.length/\Y=X):=by
 rw[hW] at hi;rcases fq hi with h1|⟨h1,a⟩
 ·exact .inl (hW.2 h1)
 ·exact .inr ⟨h1,Option.some.inj a⟩
theorem nK (ae:b6 K P) {f e:Nat} {cl:List (S.El e)->Option (List (S.El e))} (af:eB P f) (ag:K7 (S.ty e))
  (ad: ∀(O:Γ) (w:World) (v:Value) (xs zs:List (S.El e)),OB O w->(S.ty e).slice.is O w v xs->cl xs=some zs->Calls P f #[v] w (eN (S.ty e) e w.heap.size O w (.slice none 0 0) zs))
  {R:Type} (aka:List (aB S)) (h:AH S) (k:Rs S->AH S->Γ->Option R) (z:R) (u:(kK K f e cl).out aka h k=some z): ∃r h' dt,k r h' dt=some z/\dk K P f aka h r h' dt:=by
 simp only[kK] at u;split at u
 rotate_left
 ·cases u
 rename_i l;split at u
 rotate_left
 ·cases u
 rename_i xs au;obtain⟨zs,av,hk⟩:=bind_some u;refine⟨_,_,_,hk,af,λA O w vs aq t hO az M aj=>?_⟩;obtain⟨v,rest,rfl,ar,ao⟩:=aq;rw[show rest=[] from ao];have L:=jD ae t au ar;obtain⟨O1,J⟩: ∃O1,O1=c' A (jT l) O:=⟨_,rfl⟩;rw[<-J] at L;have U:Dc.Sub O1 O:=by rw[J];exact eI
 refine(ad O1 w v xs zs (λb a=>hO b (U b a)) L av).mono ?_;rintro ay w' ⟨o,x,rfl,d⟩;obtain⟨A',C⟩: ∃A':Pl,A'=⟨λi=>bif ξ i h.length then some o else A.pl i,A.ls⟩:=⟨_,rfl⟩;have y: ∀i,i≠h.length->A'.pl i=A.pl i:=λi hi=>by
  rw[C];have:ξ i h.length=false:=by
   cases a:ξ i h.length with
   |false=>rfl
   |true=>exact absurd (ν a) hi
  simp only[this,cond_false]
 have B:A'.pl h.length=some o:=by rw[C];simp
 have hle:A.le A':=⟨λi p hp=>by
  rw[y i (λe=>by subst e;rw[M _ (ξ4 _)] at hp;cases hp)];exact hp,by rw[C]⟩
 have I: ∀b,b<w.heap.size->w'.heap[b]? =w.heap[b]? :=λb a=>d.fr b a (by simp[Value.ownBlock]);have ak:OB (x++O) w':=λb a=>by
  rcases ξo.1 a with a|a
  ·exact d.ob b a
  ·exact Nat.lt_of_lt_of_le (hO b a) d.tr.size
 have V:Tr O w (x++O) w':=⟨d.tr.os,d.tr.tape,d.tr.output,d.tr.size,λb a hn=>⟨λhm=>by
  rcases ξo.1 hm with hm|hm
  ·exact(d.tr.keep b a λh1=>hn (U b h1)).1 hm
  ·exact hn hm,I b a⟩⟩
 have D: ∀b,b4 o=some b->w.heap.size<=b/\b∈x:=by
  intro b a;have W:o.ownBlock=some b:=by
   rcases gO d.own with⟨s,_⟩|⟨Z,c,s⟩
   ·rw[s] at a;cases a
   ·rw[s] at a ⊢;cases a;rfl
  exact⟨(d.own.lt b W).1,d.own.mem b W⟩
 have an:o.oneCell'=true:=by
  rcases gO d.own with⟨s,_⟩|⟨Z,c,s⟩<;>rw[s]<;>rfl
 have ai:Dc.Own (S.ty e) e 0 (x++O) w' o zs:=by
  obtain⟨cs,⟨aa,h1⟩,n⟩:=d.own.ex;refine⟨⟨cs,⟨aa,?_⟩,Ou ag n⟩,λb a=>ξj _ (d.own.mem b a)⟩;rcases h1 with h1|⟨g,cap,cur,aw,aC,ax⟩
  ·exact .inl h1
  ·exact .inr ⟨g,cap,cur,aw,ξy _,ax⟩
 have Q: ∀i X,aE (h++[some (.row e zs)]) i=some X->X.nt=true:=λi X hi=>by
  rcases jP hi with h1|⟨_,rfl⟩
  ·exact aj i X h1
  ·rfl
 refine⟨A',x++O,⟨o,rfl,⟨o,B,rfl,an⟩⟩,⟨bW.xr Q ?_ ?_,ak,V,λi hi=>y i (by omega),(λj E=>by cases E),by rw[C],by simp,?_,?_,λi X _=>Q i X⟩⟩
 ·intro i X hi;rcases jP hi with h1|⟨rfl,rfl⟩
  ·obtain⟨p,hp,hR,a⟩:=t.al i X h1;have ah:=fc h1;exact⟨p,by rw[y i (by omega)];exact hp,hR.keep V hle λb m=>⟨I b (hO b (t.gE h1 hp m)),υ _ (t.gE h1 hp m)⟩,λb m=>υ _ (a b m)⟩
  ·exact⟨o,B,ai,λb a=>ξj _ (D b a).2⟩
 ·intro i j X Y p q b N hi E hp F m G;have H: ∀ {i:Nat} {X:Ob S} {p:Value},aE h i=some X->A'.pl i=some p->b4 p=some b->b<w.heap.size/\A.pl i=some p:=by
   intro i X p h1 n ab;have ah:=fc h1;rw[y i (by omega)] at n;obtain⟨aA,T,_,a⟩:=t.al i X h1;rw[n] at T;cases T;exact⟨hO b (a b ab),n⟩
  rcases jP hi with h1|⟨rfl,rfl⟩
  ·rcases jP E with n|⟨rfl,rfl⟩
   ·exact t.dj i j X Y p q b N h1 n (H h1 hp m).2 (H n F G).2 m G
   ·rw[B] at F;cases F;have:=(H h1 hp m).1;have:=(D b G).1;omega
  ·rcases jP E with n|⟨rfl,rfl⟩
   ·rw[B] at hp;cases hp;have:=(H n F G).1;have:=(D b m).1;omega
   ·exact absurd rfl N
 ·intro i hi;simp at hi;rw[y i (by omega)];exact M i (by omega)
 ·intro b a _;refine⟨I b (hO b a),υ _ a,λi X p hi hX hp m=>?_⟩;rcases jP hX with h1|⟨rfl,rfl⟩
  ·have:=fc h1;omega
  ·rw[B] at hp;cases hp;have:=(D b (eQ rfl m)).1;have:=hO b a;omega
end
section
variable {S:bm} {K:Kit S} {P:Program} {N:Nat} {B:cT} {A A':Pl} {O:Γ} {w:World} {st:AS S} {a:Act}
def et (j c e:Nat) (st:AS S):AS S:=match aE st.h j with
 |some (.box t cs)=>(match cs[c]? with
  |some (.v (.slice none 0 0))=> {st with h:=st.h.set j (some (.box t (cs.set c (.own st.h.length))))++[some (.row e [])]}
  |_=>st)
 |_=>st
theorem S8 {n:Nat} (d:A.le A') (hn:A'.pl n=some (.slice none 0 0)): ∀ {ls:List (LV S)} {xs:Γb} {c:Nat},bF A O w ls xs->ls[c]? =some (.v (.slice none 0 0))->bF A' O w (ls.set c (.own n)) xs
 |[],_,c,_,h=>by simp at h
 |l::ls,xs,0,⟨ys,zs,h1,a,b⟩,h=>by
  have h:l= .v (.slice none 0 0):=by simpa using h
  subst h;exact⟨ys,zs,h1,⟨_,hn,a.1,rfl⟩,jV (Tr.refl O w) d b⟩
 |l::ls,xs,c+1,⟨ys,zs,h1,a,b⟩,h=>⟨ys,zs,h1,a.tr (Tr.refl O w) d,S8 d hn b (by simpa using h)⟩
theorem bp.et (j c e:Nat) (h:bp K P N B A O w st a): ∃A',bp K P N B A' O w (Vx.et j c e st) a:=by
 unfold Vx.et;split
 rotate_left
 ·exact⟨A,h⟩
 rename_i t cs n;split
 rotate_left
 ·exact⟨A,h⟩
 rename_i F;have R:=fc n;obtain⟨A',m⟩: ∃A',A'=A.put st.h.length (.slice none 0 0):=⟨_,rfl⟩;have H:=h.free st.h.length (ξ4 _);have hle:A.le A':=by rw[m];exact Pl.kS H
 have s:A'.pl st.h.length=some (.slice none 0 0):=by rw[m];exact Pl.ff _ _ _
 have g: ∀i,i≠st.h.length->A'.pl i=A.pl i:=λi hi=>by rw[m];exact Pl.kT (λe=>hi e.symm)
 have hlen:(st.h.set j (some (.box t (cs.set c (.own st.h.length))))).length=st.h.length:=List.length_set;have o: ∀ {i:Nat} {X:Ob S},aE (st.h.set j (some (.box t (cs.set c (.own st.h.length))))++[some (.row e [])]) i=some X->(i=st.h.length/\X= .row e [])\/(i=j/\X= .box t (cs.set c (.own st.h.length)))\/(i≠j/\aE st.h i=some X):=by
  intro i X hi;rcases jP hi with h1|⟨h1,f⟩
  ·right;rw[hW,ξl] at h1;split at h1
   ·rename_i he;simp only[ξG] at h1;exact .inl ⟨he.symm,h1.symm⟩
   ·rename_i he;exact .inr ⟨λx=>he x.symm,hW.2 h1⟩
  ·exact .inl ⟨h1.trans hlen,f⟩
 have hold: ∀ {i:Nat} {X:Ob S} {p:Value} {b:Nat},aE (st.h.set j (some (.box t (cs.set c (.own st.h.length))))++[some (.row e [])]) i=some X->A'.pl i=some p->cD w X p b-> ∃Y,aE st.h i=some Y/\A.pl i=some p/\cD w Y p b:=by
  intro i X p b hi hp d;rcases o hi with⟨rfl,rfl⟩|⟨rfl,rfl⟩|⟨_,h1⟩
  ·rw[s] at hp;cases hp;rcases d with d|d<;>cases d
  ·exact⟨_,n,by rw[<-g i (by omega)];exact hp,.inl (eQ rfl d)⟩
  ·have:=fc h1;exact⟨_,h1,by rw[<-g i (by omega)];exact hp,d⟩
 refine⟨A',h.size,h.env.tr (Tr.refl O w) hle,⟨?_,?_⟩,h.ob,h.c_,?_,h.nb,?_,h.tr,?_,by rw[m];exact h.ls,?_,?_,?_,h.lp,h.dl,h.hi,h.o0,h.rr,?_⟩
 ·intro i X hi;rcases o hi with⟨rfl,rfl⟩|⟨rfl,rfl⟩|⟨u,h1⟩
  ·exact⟨_,s,Own.iZ,λb d=>by cases d⟩
  ·obtain⟨p,hp,⟨b,vs,f,k,r⟩,d⟩:=h.rel.al i _ n;exact⟨p,by rw[g i (by omega)];exact hp,⟨b,vs,f,k,S8 hle s r F⟩,d⟩
  ·obtain⟨p,hp,hR,d⟩:=h.rel.al i X h1;have:=fc h1;exact⟨p,by rw[g i (by omega)];exact hp,hR.keep (Tr.refl O w) hle λb l=>⟨rfl,h.rel.gE h1 hp l⟩,d⟩
 ·intro i Q X Y p q b u hi I hp J l L;obtain⟨v,h1,f,C⟩:=hold hi hp l;obtain⟨y,k,r,E⟩:=hold I J L;exact h.rel.f' i Q v y p q b u h1 k f r C E
 ·intro i hi;simp at hi;rw[g i (by omega)];exact h.free i (by omega)
 ·show B.nb<=(st.h.set j _++[_]).length;have:=h.le;simp;omega
 ·intro i hi;have:=h.le;rw[g i (by omega)];exact h.pl i hi
 ·intro i X hi hX;have:=h.le;rcases o hX with⟨rfl,_⟩|⟨rfl,_⟩|⟨_,h1⟩
  ·omega
  ·exact h.lv i _ hi n
  ·exact h.lv i X hi h1
 ·intro b d M G;obtain⟨c1,c2,z⟩:=h.cl b d M G;refine⟨c1,c2,λi X p hi hX hp l=>?_⟩;obtain⟨Y,h1,f,k⟩:=hold hX hp l;exact z i Y p hi h1 f k
 ·exact c8.rA hle.at_ (λD hD=>hD) h.df
 ·intro i X hi hX;rcases o hX with⟨rfl,rfl⟩|⟨rfl,rfl⟩|⟨_,h1⟩
  ·rfl
  ·rfl
  ·exact h.nt i X hi h1
def ga (l:Γ) (st:AS S):AS S:= {st with dt:=l++st.dt}
theorem bp.ga (l:Γ) (h:bp K P N B A O w st a):bp K P N B A O w (Vx.ga l st) a:=
 ⟨h.size,h.env,h.rel,h.ob,h.c_,h.free,h.nb,h.le,h.tr,h.pl,h.ls,h.lv,λb c e d=>h.cl b c e λi hi=>d i (υ _ hi),h.df,h.lp,h.dl,h.hi,h.o0,h.rr,h.nt⟩
theorem bp.seen {j:Nat} {X d:Ob S} (h:bp K P N B A O w st a) (k:aE st.h j=some X) (hR: ∀p,dd A O w X p->dd A O w d p) (hn:d.nt=true:=by rfl):bp K P N B A O w {st with h:=st.h.set j (some d)} a:=by
 have E:=fc k;have l: ∀ {i:Nat} {Y:Ob S},aE (st.h.set j (some d)) i=some Y->(i=j/\Y=d)\/(i≠j/\aE st.h i=some Y):=by
  intro i Y hi;rw[hW,ξl] at hi;split at hi
  ·rename_i he;simp only[ξG] at hi;exact .inl ⟨he.symm,hi.symm⟩
  ·rename_i he;exact .inr ⟨λx=>he x.symm,hW.2 hi⟩
 have hold: ∀ {i:Nat} {Y:Ob S},aE (st.h.set j (some d)) i=some Y-> ∃Z,aE st.h i=some Z/\ ∀p b,cD w Y p b->cD w Z p b:=by
  intro i Y hi;rcases l hi with⟨rfl,rfl⟩|⟨_,h1⟩
  ·exact⟨_,k,λp b c=>.inl (eQ hn c)⟩
  ·exact⟨_,h1,λp b c=>c⟩
 refine⟨h.size,h.env,⟨?_,?_⟩,h.ob,h.c_,?_,h.nb,?_,h.tr,h.pl,h.ls,?_,?_,h.df,h.lp,h.dl,h.hi,h.o0,h.rr,?_⟩
 ·intro i Y hi;rcases l hi with⟨rfl,rfl⟩|⟨_,h1⟩
  ·obtain⟨p,hp,f,c⟩:=h.rel.al i _ k;exact⟨p,hp,hR p f,c⟩
  ·exact h.rel.al i Y h1
 ·intro i D Y Z p q b v hi u hp y m z;obtain⟨n,h1,g⟩:=hold hi;obtain⟨o,f,s⟩:=hold u;exact h.rel.f' i D n o p q b v h1 f hp y (g p b m) (s q b z)
 ·intro i hi;exact h.free i (by simpa using hi)
 ·show B.nb<=(st.h.set j _).length;have:=h.le;simp;omega
 ·intro i Y hi e;obtain⟨Z,h1,_⟩:=hold e;exact h.lv i Z hi h1
 ·intro b c C t;obtain⟨c1,c2,r⟩:=h.cl b c C t;refine⟨c1,c2,λi Y p hi e hp m=>?_⟩;obtain⟨Z,h1,g⟩:=hold e;exact r i Z p hi h1 hp (g p b m)
 ·intro i Y hi e;rcases l e with⟨rfl,rfl⟩|⟨_,h1⟩
  ·exact hn
  ·exact h.nt i Y hi h1
def Fy (cs:List (LV S)):List (LV S):=match lx cs with
 |some bs=>[.cA bs.length bs]
 |none=>(match iU cs with|some (k,gs)=>[.bA k gs.length gs]|none=>cs)
theorem abd {cs:List (LV S)} {xs:Γb} (h:bF A O w cs xs):bF A O w (Fy cs) xs:=by
 unfold Fy;split
 ·rename_i bs a;exact⟨xs,[],by simp,⟨rfl,uK a h⟩,rfl⟩
 ·split
  ·rename_i k gs b;exact⟨xs,[],by simp,⟨rfl,HR b h⟩,rfl⟩
  ·exact h
def kh (j:Nat) (st:AS S):AS S:=match aE st.h j with
 |some (.box t cs)=> {st with h:=st.h.set j (some (.box t (Fy cs)))}
 |_=>st
theorem bp.kh (j:Nat) (h:bp K P N B A O w st a):bp K P N B A O w (Vx.kh j st) a:=by
 unfold Vx.kh;split
 ·rename_i t cs e;refine h.seen e ?_;rintro p ⟨b,vs,h1,c,d⟩;exact⟨b,vs,h1,c,abd d⟩
 ·exact h
def pB:Option (LV S)->Option (List Bool)
 |some (.cA _ x)=>some x
 |_=>none
def hq (pre:AS S->AS S) (lc:aX S):aX S:=⟨lc.id,λst k=>lc.out (pre st) k⟩
def b_ (K:Kit S) (P:Program) (pre:AS S->AS S):Prop:= ∀ {N:Nat} {B:cT} {A:Pl} {O:Γ} {w:World} {st:AS S} {a:Act},bp K P N B A O w st a-> ∃A',bp K P N B A' O w (pre st) a
theorem b_.gc (sl:Γ):b_ K P (Vx.gc sl):=λh=>h.gc
theorem b_.et (j c e:Nat):b_ K P (Vx.et j c e):=λh=>h.et j c e
theorem b_.ga (l:Γ):b_ K P (Vx.ga l):=λh=>⟨_,h.ga l⟩
theorem b_.kh (j:Nat):b_ K P (Vx.kh j):=λh=>⟨_,h.kh j⟩
theorem b_.comp {f g:AS S->AS S} (a:b_ K P f) (b:b_ K P g):b_ K P (λst=>f (g st)):=λh=>
 let⟨_,h1⟩:=b h
 a h1
theorem aO.pre {J:k9} {x:Code} {lc:aX S} {pre:AS S->AS S} (hp:b_ K P pre) (h:aO K P J x lc):aO K P J x (hq pre lc):=by
 intro R st k z f;obtain⟨e,g,h1,b⟩:=h (pre st) k z f;refine⟨e,g,h1,λC A O w a c=>?_⟩;obtain⟨A',d⟩:=hp c;exact b C A' O w a d
end
section
variable {S:bm} {K:Kit S} {P:Program}
def qJ (K:Kit S) (f e:Nat) (ins:List (S.El e)->Int->List (S.El e)->Option (List (S.El e))):eO S:=⟨f,λaka h k=>match aka with
 |[.one (.own r),.one (.v (.int .i64 j)),.one (.own a)]=>bif ξ r a then none else(match dO K (aE h) e (.own r),dO K (aE h) e (.own a) with
  |some xs,some ys=>(ins xs j ys).bind λzs=>k (.ret (.s (.one (.own h.length)))) ((h.set r none).set a none++[some (.row e zs)]) [r,a]
  |_,_=>none)
 |_=>none⟩
theorem FY {g:Nat->Option (Ob S)} {e r:Nat} {xs:List (S.El e)} (h:dO K g e (.own r)=some xs):g r=some (.row e xs):=by
 simp only[dO] at h;split at h
 ·rename_i b ys a;split at h
  ·rename_i p _;subst p;cases h;exact a
  ·cases h
 ·cases h
theorem IG {h:AH S} {r i:Nat} {X:Ob S} (hi:aE (h.set r none) i=some X):i≠r/\aE h i=some X:=by
 rw[hW] at hi;rw[ξl] at hi;split at hi
 ·split at hi<;>simp at hi
 ·rename_i a;exact⟨λe=>a e.symm,hW.2 hi⟩
theorem HO (aL:b6 K P) {f e:Nat} {ins:List (S.El e)->Int->List (S.El e)->Option (List (S.El e))} (aN:eB P f)
  (aK: ∀(O:Γ) (w:World) (v u:Value) (xs ys zs:List (S.El e)) (j:Int),OB O w->Dc.Own (S.ty e) e 0 O w v xs->(S.ty e).slice.is O w u ys->Plain w u->ins xs j ys=some zs->Calls P f #[v,.int .i64 j,u] w (eN (S.ty e) e 0 O w v zs))
  {R:Type} (aka:List (aB S)) (h:AH S) (k:Rs S->AH S->Γ->Option R) (z:R) (y:(qJ K f e ins).out aka h k=some z): ∃r h' dt,k r h' dt=some z/\dk K P f aka h r h' dt:=by
 simp only[qJ] at y;split at y
 rotate_left
 ·cases y
 rename_i r j m;cases F:ξ r m<;>rw[F] at y
 rotate_left
 ·cases y
 simp only[cond_false] at y;split at y
 rotate_left
 ·cases y
 rename_i xs ys a6 aD;obtain⟨zs,a7,hk⟩:=bind_some y;have F:r≠m:=λe=>by subst e;rw[Nat.beq_refl] at F;cases F
 have G:=FY a6;have T:=FY aD;refine⟨_,_,_,hk,aN,λA O w vs ai o hO a_ aj ar=>?_⟩;obtain⟨v,_,rfl,aZ,v1,_,rfl,⟨aX,_⟩,u,rest,rfl,aA,aU⟩:=ai;rw[show rest=[] from aU];obtain rfl:v1= .int .i64 j:=by simpa using aX
 have ab:=jD aL o aD aA;obtain⟨_,H,a1,_⟩:=aZ;cases a1;obtain⟨_,U,aW,_⟩:=aA;cases aW;obtain⟨v0,aC,af,aM⟩:=o.al r _ G;rw[H] at aC;cases aC;obtain⟨bb,az,aS,a'⟩:=o.al m _ T;rw[U] at az;cases az;obtain⟨O1,L⟩: ∃O1,O1=c' A [m] O:=⟨_,rfl⟩;have ab:(S.ty e).slice.is O1 w u ys:=by rw[L];exact ab
 have ah:Dc.Sub O1 O:=by rw[L];exact eI
 have aY: ∀g,b4 v=some g->g∈O1:=by
  intro g M;rw[L,hT];refine⟨aM g M,λaa ag p hp=>?_⟩;have:aa=m:=by simpa using ag
  subst this;exact o.dj r aa _ _ v p g F G T H hp M
 have aT:Dc.Own (S.ty e) e 0 O1 w v xs:=by
  have af:Dc.Own (S.ty e) e 0 O w v xs:=af;obtain⟨cs,h1,l⟩:=af.ex;exact⟨⟨cs,h1,l.tr (Tr.less ah)⟩,λg M=>aY g (gw M)⟩
 refine(aK O1 w v u xs ys zs j (λb a=>hO b (ah b a)) aT ab (Dc.Own.plain aS) a7).mono ?_;rintro a8 w' ⟨s,D,rfl,t⟩;obtain⟨A',J⟩: ∃A':Pl,A'=⟨λi=>bif ξ i h.length then some s else A.pl i,A.ls⟩:=⟨_,rfl⟩;have E: ∀i,i≠h.length->A'.pl i=A.pl i:=λi hi=>by
  rw[J];have:ξ i h.length=false:=by
   cases a:ξ i h.length with
   |false=>rfl
   |true=>exact absurd (ν a) hi
  simp only[this,cond_false]
 have I:A'.pl h.length=some s:=by rw[J];simp
 have hle:A.le A':=⟨λi p hp=>by
  rw[E i (λe=>by subst e;rw[aj _ (ξ4 _)] at hp;cases hp)];exact hp,by rw[J]⟩
 have x: ∀b,b4 v≠some b->v.ownBlock≠some b:=λb a ai=>a (gw ai);have ax: ∀b,b<w.heap.size->b4 v≠some b->w'.heap[b]? =w.heap[b]? :=λb a hn=>t.fr b a (x b hn);have ao: ∀b,b∈O->b4 u≠some b->b∈D:=λb a hn=>t.sub b (by
  rw[L,hT];refine⟨a,λaa ag p hp=>?_⟩;have:aa=m:=by simpa using ag
  subst this;rw[U] at hp;cases hp;exact hn)
 have ay:Tr O w D w':=(Tr.less ah).trans t.tr;have ak: ∀b,b4 s=some b->s.ownBlock=some b/\b∈D:=by
  intro b a;have x:s.ownBlock=some b:=by
   rcases gO t.own with⟨B,_⟩|⟨aF,c,B⟩
   ·rw[B] at a;cases a
   ·rw[B] at a ⊢;cases a;rfl
  exact⟨x,t.own.mem b x⟩
 have ae: ∀b,b<w.heap.size->b4 v≠some b->b4 s≠some b:=λb a hn h'=>t.ne b a (x b hn) (ak b h').1;have aR:s.oneCell'=true:=by
  rcases gO t.own with⟨B,_⟩|⟨aF,c,B⟩<;>rw[B]<;>rfl
 have hlen:((h.set r none).set m none).length=h.length:=by simp
 have C: ∀ {i:Nat} {X:Ob S},aE ((h.set r none).set m none++[some (.row e zs)]) i=some X->(i≠r/\i≠m/\aE h i=some X)\/(i=h.length/\X= .row e zs):=by
  intro i X hi;rcases jP hi with h1|⟨h1,l⟩
  ·obtain⟨n,aH⟩:=IG h1;obtain⟨aI,aJ⟩:=IG aH;exact .inl ⟨aI,n,aJ⟩
  ·exact .inr ⟨h1.trans hlen,l⟩
 have au: ∀i X,aE ((h.set r none).set m none++[some (.row e zs)]) i=some X->X.nt=true:=λi X hi=>by
  rcases C hi with⟨_,_,h1⟩|⟨_,rfl⟩
  ·exact ar i X h1
  ·rfl
 refine⟨A',D,⟨s,rfl,⟨s,I,rfl,aR⟩⟩,⟨bW.xr au ?_ ?_,t.ob,ay,λi hi=>E i (by omega),(λj Q=>?_),by rw[J],by simp,?_,?_,λi X _=>au i X⟩⟩
 ·intro i X hi;rcases C hi with⟨N,aO,h1⟩|⟨rfl,rfl⟩
  ·obtain⟨p,hp,hR,a⟩:=o.al i X h1;have aP:=fc h1;have aq: ∀b,b4 p=some b->b∈D:=λb d=>ao b (a b d) (λaV=>o.dj i m _ _ p u b aO h1 T hp U d aV);exact⟨p,by rw[E i (by omega)];exact hp,hR.keep ay hle λb d=>have d:=eQ (ar i X h1) d;⟨ax b (hO b (a b d)) (λx=>o.dj i r _ _ p v b N h1 G hp H d x),aq b d⟩,aq⟩
  ·exact⟨s,I,t.own,λb a=>(ak b a).2⟩
 ·intro i j X Y p q b an hi Q hp V d W;have Z: ∀ {i:Nat} {X:Ob S} {p:Value},i≠r->aE h i=some X->A'.pl i=some p->b4 p=some b->b<w.heap.size/\A.pl i=some p/\b4 v≠some b:=by
   intro i X p aG h1 l n;have aP:=fc h1;rw[E i (by omega)] at l;obtain⟨ba,aw,_,a⟩:=o.al i X h1;rw[l] at aw;cases aw;exact⟨hO b (a b n),l,λx=>o.dj i r _ _ p v b aG h1 G l H n x⟩
  rcases C hi with⟨N,_,h1⟩|⟨rfl,rfl⟩
  ·rcases C Q with⟨ad,_,l⟩|⟨rfl,rfl⟩
   ·exact o.dj i j X Y p q b an h1 l (Z N h1 hp d).2.1 (Z ad l V W).2.1 d W
   ·rw[I] at V;cases V;have n:=Z N h1 hp d;exact ae b n.1 n.2.2 W
  ·rcases C Q with⟨ad,_,l⟩|⟨rfl,rfl⟩
   ·rw[I] at hp;cases hp;have n:=Z ad l V W;exact ae b n.1 n.2.2 d
   ·exact absurd rfl an
 ·have:j=r\/j=m:=by simpa using Q
  rcases this with rfl|rfl
  ·exact fc G
  ·exact fc T
 ·intro i hi;simp at hi;rw[E i (by omega)];exact aj i (by omega)
 ·intro b a hn;have av:=hn r (by simp) v H;have aQ:=hn m (by simp) u U;refine⟨ax b (hO b a) av,ao b a aQ,λi X p hi hX hp d=>?_⟩;rcases C hX with⟨_,_,h1⟩|⟨rfl,rfl⟩
  ·have:=fc h1;omega
  ·rw[I] at hp;cases hp;exact ae b (hO b a) av (eQ rfl d)
end
end Go.Vx
end
section
namespace Go.Proofs.YtoggponeookhbaaGreatDoor
open Go.Dc
structure ah where
 aa:Int
 aP:Int
 bb:Bool
 bV:Int
 deriving DecidableEq
structure br where
 aH:Γa
 ae:List ah
 deriving DecidableEq
structure ai where
 aa:Int
 bo:Int
 b':Int
 deriving DecidableEq
structure ay where
 aN:Int
 aY:Int
 deriving DecidableEq
structure bz where
 ae:List ay
 ba:Int
 deriving DecidableEq
structure au where
 aW:Int
 aa:Int
 deriving DecidableEq
structure ar where
 aa:Int
 bj:Γa
 deriving DecidableEq
structure aL where
 ak:List au
 an:List ar
 deriving DecidableEq
structure aZ where
 ax:br
 aI:List ai
 aC:bz
 aw:aL
 deriving DecidableEq
structure b3 where
 aQ:Int
 fArgs:Γa
 deriving DecidableEq
structure cu where
 b0:Int
 b8:Int
 deriving DecidableEq
structure jo where
 gF:List ByteArray
 pZ:Int
 deriving DecidableEq
structure aA where
 bS:Int
 bP:b3
 bt:cu
 bK:Int
 a8:Int
 bc:Int
 deriving DecidableEq
structure dm where
 cL:List aA
 deriving DecidableEq
def vR:ah:=⟨1,0,false,0⟩
def dT (x y:cu):Bool:=(x.b0==y.b0)&&(x.b8==y.b8)
def fl (x y:ah):Bool:=(x.aa==y.aa)&&(x.aP==y.aP)&&(x.bb==y.bb)&&(x.bV==y.bV)
def gB (x y:ai):Bool:=(x.aa==y.aa)&&(x.bo==y.bo)&&(x.b'==y.b')
def h_ (x y:ay):Bool:=(x.aN==y.aN)&&(x.aY==y.aY)
def ia (x y:au):Bool:=(x.aW==y.aW)&&(x.aa==y.aa)
end Go.Proofs.YtoggponeookhbaaGreatDoor
end
section
namespace Go.Proofs.YtoggponeookhbaaGreatDoor
open Go.RowKit Go.Dc Go.Vx
def ra (n:Nat) (v:Value):Array Value:=(χ n v).toArray
def rb (l:Γb) (n:Nat) (v:Value) (r:Γb):Array Value:=(l++(χ n v++r)).toArray
def Θ:cK:=[(2,⟨2,3,0,[],1,8,.int .i64 0⟩),(3,⟨2,3,0,[],1,8,.int .i64 0⟩),(4,⟨1,0,0,[],1,1,.bool false⟩),(5,⟨2,4,0,[],1,1,.int .u8 0⟩),(6,⟨2,4,0,[],1,1,.int .u8 0⟩),(7,⟨8,0,0,[(2,0),(3,1),(4,2),(6,3)],4,24,.agg #[.int .i64 0,.int .i64 0,.bool false,.int .u8 0]⟩),(8,⟨8,0,0,[(2,0),(3,1),(4,2),(6,3)],4,24,.agg #[.int .i64 0,.int .i64 0,.bool false,.int .u8 0]⟩),(9,⟨3,0,0,[],1,16,.string ψ⟩),(10,⟨3,0,0,[],1,16,.string ψ⟩),(11,⟨3,0,0,[],1,16,.string ψ⟩),(12,⟨2,7,0,[],1,8,.int .u64 0⟩),(13,⟨8,0,0,[(9,0),(12,1)],2,24,.agg #[.string ψ,.int .u64 0]⟩),(14,⟨8,0,0,[(9,0),(12,1)],2,24,.agg #[.string ψ,.int .u64 0]⟩),(15,⟨4,0,351,[],1,8,.pointer none⟩),(16,⟨4,0,354,[],1,8,.pointer none⟩),(17,⟨4,0,361,[],1,8,.pointer none⟩),(18,⟨8,0,0,[(17,0)],1,8,.agg #[.pointer none]⟩),(19,⟨8,0,0,[(17,0)],1,8,.agg #[.pointer none]⟩),(20,⟨10,0,0,[],1,16,.nilIface⟩),(21,⟨2,2,0,[],1,4,.int .i32 0⟩),(22,⟨5,0,42,[],1,24,.slice none 0 0⟩),(23,⟨8,0,0,[(22,0)],1,24,.agg #[.slice none 0 0]⟩),(24,⟨8,0,0,[(22,0)],1,24,.agg #[.slice none 0 0]⟩),(25,⟨9,0,0,[],1,8,.nilFunc⟩),(27,⟨2,3,0,[],1,8,.int .i64 0⟩),(31,⟨5,0,3,[],1,24,.slice none 0 0⟩),(34,⟨2,7,0,[],1,8,.int .u64 0⟩),(35,⟨2,7,0,[],1,8,.int .u64 0⟩),(36,⟨6,4,35,[],4,32,.agg (rb [] 4 (.int .u64 0) [])⟩),(37,⟨8,0,0,[(35,0),(36,1)],5,40,.agg (ra 5 (.int .u64 0))⟩),(38,⟨8,0,0,[(35,0),(36,1)],5,40,.agg (ra 5 (.int .u64 0))⟩),(39,⟨8,0,0,[(27,0),(35,1)],2,16,.agg #[.int .i64 0,.int .u64 0]⟩),(40,⟨8,0,0,[(27,0),(35,1)],2,16,.agg #[.int .i64 0,.int .u64 0]⟩),(41,⟨8,0,0,[(3,0),(38,1),(40,6),(3,8),(3,9),(3,10)],11,88,.agg (rb [.int .i64 0] 5 (.int .u64 0) [.int .i64 0,.int .u64 0,.int .i64 0,.int .i64 0,.int .i64 0])⟩),(42,⟨8,0,0,[(3,0),(38,1),(40,6),(3,8),(3,9),(3,10)],11,88,.agg (rb [.int .i64 0] 5 (.int .u64 0) [.int .i64 0,.int .u64 0,.int .i64 0,.int .i64 0,.int .i64 0])⟩),(47,⟨6,16,3,[],16,128,.agg (ra 16 (.int .i64 0))⟩),(48,⟨5,0,115,[],1,24,.slice none 0 0⟩),(49,⟨8,0,0,[(47,0),(48,16)],17,152,.agg (rb [] 16 (.int .i64 0) [.slice none 0 0])⟩),(50,⟨8,0,0,[(47,0),(48,16)],17,152,.agg (rb [] 16 (.int .i64 0) [.slice none 0 0])⟩),(51,⟨5,0,105,[],1,24,.slice none 0 0⟩),(52,⟨5,0,122,[],1,24,.slice none 0 0⟩),(53,⟨8,0,0,[(52,0),(35,1)],2,32,.agg #[.slice none 0 0,.int .u64 0]⟩),(54,⟨8,0,0,[(52,0),(35,1)],2,32,.agg #[.slice none 0 0,.int .u64 0]⟩),(55,⟨5,0,127,[],1,24,.slice none 0 0⟩),(56,⟨5,0,132,[],1,24,.slice none 0 0⟩),(57,⟨8,0,0,[(55,0),(56,1)],2,48,.agg #[.slice none 0 0,.slice none 0 0]⟩),(58,⟨8,0,0,[(55,0),(56,1)],2,48,.agg #[.slice none 0 0,.slice none 0 0]⟩),(59,⟨8,0,0,[(50,0),(51,17),(54,18),(58,20)],22,256,.agg (rb [] 16 (.int .i64 0) [.slice none 0 0,.slice none 0 0,.slice none 0 0,.int .u64 0,.slice none 0 0,.slice none 0 0])⟩),(60,⟨8,0,0,[(50,0),(51,17),(54,18),(58,20)],22,256,.agg (rb [] 16 (.int .i64 0) [.slice none 0 0,.slice none 0 0,.slice none 0 0,.int .u64 0,.slice none 0 0,.slice none 0 0])⟩),(64,⟨5,0,38,[],1,24,.slice none 0 0⟩),(73,⟨4,0,77,[],1,8,.pointer none⟩),(74,⟨6,64,4,[],64,64,.agg (ra 64 (.bool false))⟩),(75,⟨6,64,4,[],64,64,.agg (ra 64 (.bool false))⟩),(76,⟨8,0,0,[(24,0),(75,1)],65,88,.agg (rb [.slice none 0 0] 64 (.bool false) [])⟩),(77,⟨8,0,0,[(24,0),(75,1)],65,88,.agg (rb [.slice none 0 0] 64 (.bool false) [])⟩),(78,⟨9,0,0,[],1,8,.nilFunc⟩),(79,⟨9,0,0,[],1,8,.nilFunc⟩),(80,⟨9,0,0,[],1,8,.nilFunc⟩),(84,⟨9,0,0,[],1,8,.nilFunc⟩),(86,⟨5,0,31,[],1,24,.slice none 0 0⟩),(89,⟨5,0,60,[],1,24,.slice none 0 0⟩),(95,⟨9,0,0,[],1,8,.nilFunc⟩),(104,⟨8,0,0,[(35,0),(3,1),(35,2)],3,24,.agg #[.int .u64 0,.int .i64 0,.int .u64 0]⟩),(105,⟨8,0,0,[(35,0),(3,1),(35,2)],3,24,.agg #[.int .u64 0,.int .i64 0,.int .u64 0]⟩),(109,⟨7,3,3,[],1,8,.map none⟩),(110,⟨9,0,0,[],1,8,.nilFunc⟩),(114,⟨8,0,0,[(35,0),(35,1),(4,2),(35,3)],4,32,.agg #[.int .u64 0,.int .u64 0,.bool false,.int .u64 0]⟩),(115,⟨8,0,0,[(35,0),(35,1),(4,2),(35,3)],4,32,.agg #[.int .u64 0,.int .u64 0,.bool false,.int .u64 0]⟩),(120,⟨7,35,3,[],1,8,.map none⟩),(121,⟨8,0,0,[(35,0),(35,1)],2,16,.agg #[.int .u64 0,.int .u64 0]⟩),(122,⟨8,0,0,[(35,0),(35,1)],2,16,.agg #[.int .u64 0,.int .u64 0]⟩),(124,⟨9,0,0,[],1,8,.nilFunc⟩),(126,⟨8,0,0,[(35,0),(35,1)],2,16,.agg #[.int .u64 0,.int .u64 0]⟩),(127,⟨8,0,0,[(35,0),(35,1)],2,16,.agg #[.int .u64 0,.int .u64 0]⟩),(128,⟨9,0,0,[],1,8,.nilFunc⟩),(130,⟨5,0,35,[],1,24,.slice none 0 0⟩),(131,⟨8,0,0,[(35,0),(130,1)],2,32,.agg #[.int .u64 0,.slice none 0 0]⟩),(132,⟨8,0,0,[(35,0),(130,1)],2,32,.agg #[.int .u64 0,.slice none 0 0]⟩),(133,⟨9,0,0,[],1,8,.nilFunc⟩),(138,⟨4,0,140,[],1,8,.pointer none⟩),(139,⟨8,0,0,[(60,0),(36,22)],26,288,.agg (rb [] 16 (.int .i64 0) [.slice none 0 0,.slice none 0 0,.slice none 0 0,.int .u64 0,.slice none 0 0,.slice none 0 0,.int .u64 0,.int .u64 0,.int .u64 0,.int .u64 0])⟩),(140,⟨8,0,0,[(60,0),(36,22)],26,288,.agg (rb [] 16 (.int .i64 0) [.slice none 0 0,.slice none 0 0,.slice none 0 0,.int .u64 0,.slice none 0 0,.slice none 0 0,.int .u64 0,.int .u64 0,.int .u64 0,.int .u64 0])⟩),(141,⟨9,0,0,[],1,8,.nilFunc⟩),(142,⟨6,15,141,[],15,120,.agg #[.nilFunc,.nilFunc,.nilFunc,.nilFunc,.nilFunc,.nilFunc,.nilFunc,.nilFunc,.nilFunc,.nilFunc,.nilFunc,.nilFunc,.nilFunc,.nilFunc,.nilFunc]⟩),(154,⟨9,0,0,[],1,8,.nilFunc⟩),(158,⟨4,0,160,[],1,8,.pointer none⟩),(159,⟨8,0,0,[(50,0)],17,152,.agg (rb [] 16 (.int .i64 0) [.slice none 0 0])⟩),(160,⟨8,0,0,[(50,0)],17,152,.agg (rb [] 16 (.int .i64 0) [.slice none 0 0])⟩),(161,⟨4,0,115,[],1,8,.pointer none⟩),(163,⟨9,0,0,[],1,8,.nilFunc⟩),(165,⟨9,0,0,[],1,8,.nilFunc⟩),(166,⟨9,0,0,[],1,8,.nilFunc⟩),(169,⟨9,0,0,[],1,8,.nilFunc⟩),(171,⟨7,35,35,[],1,8,.map none⟩),(180,⟨2,3,0,[],1,8,.int .i64 0⟩),(187,⟨2,6,0,[],1,4,.int .u32 0⟩),(189,⟨9,0,0,[],1,8,.nilFunc⟩),(192,⟨5,0,9,[],1,24,.slice none 0 0⟩),(193,⟨5,0,9,[],1,24,.slice none 0 0⟩),(194,⟨8,0,0,[(193,0),(35,1)],2,32,.agg #[.slice none 0 0,.int .u64 0]⟩),(195,⟨8,0,0,[(193,0),(35,1)],2,32,.agg #[.slice none 0 0,.int .u64 0]⟩),(236,⟨2,7,0,[],1,8,.int .u64 0⟩),(239,⟨4,0,3,[],1,8,.pointer none⟩),(241,⟨9,0,0,[],1,8,.nilFunc⟩),(242,⟨9,0,0,[],1,8,.nilFunc⟩),(244,⟨9,0,0,[],1,8,.nilFunc⟩),(247,⟨5,0,5,[],1,24,.slice none 0 0⟩),(251,⟨9,0,0,[],1,8,.nilFunc⟩),(253,⟨9,0,0,[],1,8,.nilFunc⟩),(254,⟨9,0,0,[],1,8,.nilFunc⟩),(255,⟨9,0,0,[],1,8,.nilFunc⟩),(258,⟨4,0,262,[],1,8,.pointer none⟩),(261,⟨8,0,0,[(58,0)],2,48,.agg #[.slice none 0 0,.slice none 0 0]⟩),(262,⟨8,0,0,[(58,0)],2,48,.agg #[.slice none 0 0,.slice none 0 0]⟩),(267,⟨6,8,4,[],8,8,.agg (ra 8 (.bool false))⟩),(268,⟨9,0,0,[],1,8,.nilFunc⟩),(269,⟨9,0,0,[],1,8,.nilFunc⟩),(272,⟨5,0,4,[],1,24,.slice none 0 0⟩),(276,⟨9,0,0,[],1,8,.nilFunc⟩),(277,⟨9,0,0,[],1,8,.nilFunc⟩),(280,⟨9,0,0,[],1,8,.nilFunc⟩),(284,⟨9,0,0,[],1,8,.nilFunc⟩),(295,⟨4,0,236,[],1,8,.pointer none⟩),(303,⟨6,8,5,[],8,8,.agg (ra 8 (.int .u8 0))⟩),(311,⟨9,0,0,[],1,8,.nilFunc⟩),(319,⟨4,0,321,[],1,8,.pointer none⟩),(320,⟨8,0,0,[(319,0),(247,1)],2,32,.agg #[.pointer none,.slice none 0 0]⟩),(321,⟨8,0,0,[(319,0),(247,1)],2,32,.agg #[.pointer none,.slice none 0 0]⟩),(323,⟨10,0,0,[],1,16,.nilIface⟩),(324,⟨10,0,0,[],1,16,.nilIface⟩),(330,⟨9,0,0,[],1,8,.nilFunc⟩),(336,⟨4,0,5,[],1,8,.pointer none⟩),(339,⟨9,0,0,[],1,8,.nilFunc⟩),(345,⟨0,0,0,[],1,8,.pointer none⟩),(350,⟨8,0,0,[(17,0),(17,1),(17,2),(9,3)],4,40,.agg #[.pointer none,.pointer none,.pointer none,.string ψ]⟩),(351,⟨8,0,0,[(17,0),(17,1),(17,2),(9,3)],4,40,.agg #[.pointer none,.pointer none,.pointer none,.string ψ]⟩),(352,⟨6,0,16,[],0,0,.agg #[]⟩),(353,⟨8,0,0,[(352,0)],0,0,.agg #[]⟩),(354,⟨8,0,0,[(352,0)],0,0,.agg #[]⟩),(355,⟨2,4,0,[],1,1,.int .u8 0⟩),(356,⟨2,4,0,[],1,1,.int .u8 0⟩),(357,⟨9,0,0,[],1,8,.nilFunc⟩),(358,⟨2,2,0,[],1,4,.int .i32 0⟩),(359,⟨2,2,0,[],1,4,.int .i32 0⟩),(360,⟨8,0,0,[(12,0),(12,1),(187,2),(355,3),(5,4),(5,5),(356,6),(357,7),(336,8),(358,9),(359,10)],11,48,.agg #[.int .u64 0,.int .u64 0,.int .u32 0,.int .u8 0,.int .u8 0,.int .u8 0,.int .u8 0,.nilFunc,.pointer none,.int .i32 0,.int .i32 0]⟩),(361,⟨8,0,0,[(12,0),(12,1),(187,2),(355,3),(5,4),(5,5),(356,6),(357,7),(336,8),(358,9),(359,10)],11,48,.agg #[.int .u64 0,.int .u64 0,.int .u32 0,.int .u8 0,.int .u8 0,.int .u8 0,.int .u8 0,.nilFunc,.pointer none,.int .i32 0,.int .i32 0]⟩)]
theorem aj:Θ.ok γ:=by repeat' (first|exact trivial|refine⟨⟨by kernel_rfl,by kernel_rfl⟩,?_⟩)
theorem mixed:γ.follows .mixedOrders=true:=by kernel_rfl
def gU:Ty ah:=(Ty.pair (Ty.int .u64) (Ty.pair (Ty.int .u64) (Ty.pair Ty.bool (Ty.int .u64)))).ft λd=>(d.aa,d.aP,d.bb,d.bV)
def yy:Ty br:=(Ty.pair (jw .i64 16) (Ty.slice gU)).ft λd=>(d.aH,d.ae)
def iu:Ty ai:=(Ty.pair (Ty.int .u64) (Ty.pair (Ty.int .i64) (Ty.int .u64))).ft λd=>(d.aa,d.bo,d.b')
def k1:Ty ay:=(Ty.pair (Ty.int .u64) (Ty.int .u64)).ft λd=>(d.aN,d.aY)
def yw:Ty bz:=(Ty.pair (Ty.slice k1) (Ty.int .u64)).ft λd=>(d.ae,d.ba)
def dX:Ty au:=(Ty.pair (Ty.int .u64) (Ty.int .u64)).ft λd=>(d.aW,d.aa)
def jh:Ty ar:=(Ty.pair (Ty.int .u64) (Ty.slice (Ty.int .u64))).ft λd=>(d.aa,d.bj)
def fU:Ty aL:=(Ty.pair (Ty.slice dX) (Ty.slice jh)).ft λd=>(d.ak,d.an)
def yz:Ty aZ:=(Ty.pair yy (Ty.pair (Ty.slice iu) (Ty.pair yw fU))).ft λd=>(d.ax,d.aI,d.aC,d.aw)
def og:Ty b3:=(Ty.pair (Ty.int .u64) (jw .u64 4)).ft λd=>(d.aQ,d.fArgs)
def ru:Ty cu:=(Ty.pair (Ty.int .i64) (Ty.int .u64)).ft λd=>(d.b0,d.b8)
def JW:Ty jo:=(Ty.pair (Ty.slice Ty.str) (Ty.int .u64)).ft λd=>(d.gF,d.pZ)
def ji:Ty aA:=(Ty.pair (Ty.int .i64) (Ty.pair og (Ty.pair ru (Ty.pair (Ty.int .i64) (Ty.pair (Ty.int .i64) (Ty.int .i64)))))).ft λd=>(d.bS,d.bP,d.bt,d.bK,d.a8,d.bc)
def rq:Ty dm:=(Ty.single (Ty.slice ji)).ft λd=>d.cL
def Ik:Ty Unit:= {agg:=false,n:=1,rep:=λ_ _ _ _=>False,tr:=λ_ h=>h,len:=λh=>h.elim,one:=λh=>h.elim,fy:=λ_=>rfl}
def rn (t:Nat):(α:Type)×Ty α:=match t with
 |3=>⟨Int,Ty.int .i64⟩
 |4=>⟨Bool,Ty.bool⟩
 |5=>⟨Int,Ty.int .u8⟩
 |9=>⟨ByteArray,Ty.str⟩
 |21=>⟨Int,Ty.int .i32⟩
 |22=>⟨List aA,Ty.slice ji⟩
 |24=>⟨dm,rq⟩
 |27=>⟨Int,Ty.int .i64⟩
 |31=>⟨Γa,Ty.slice (Ty.int .i64)⟩
 |35=>⟨Int,Ty.int .u64⟩
 |36=>⟨Γa,jw .u64 4⟩
 |38=>⟨b3,og⟩
 |40=>⟨cu,ru⟩
 |42=>⟨aA,ji⟩
 |47=>⟨Γa,jw .i64 16⟩
 |48=>⟨List ah,Ty.slice gU⟩
 |50=>⟨br,yy⟩
 |51=>⟨List ai,Ty.slice iu⟩
 |52=>⟨List ay,Ty.slice k1⟩
 |54=>⟨bz,yw⟩
 |55=>⟨List au,Ty.slice dX⟩
 |56=>⟨List ar,Ty.slice jh⟩
 |58=>⟨aL,fU⟩
 |60=>⟨aZ,yz⟩
 |64=>⟨List b3,Ty.slice og⟩
 |89=>⟨List aZ,Ty.slice yz⟩
 |105=>⟨ai,iu⟩
 |115=>⟨ah,gU⟩
 |122=>⟨ay,k1⟩
 |127=>⟨au,dX⟩
 |130=>⟨Γa,Ty.slice (Ty.int .u64)⟩
 |132=>⟨ar,jh⟩
 |192=>⟨List ByteArray,Ty.slice Ty.str⟩
 |193=>⟨List ByteArray,Ty.slice Ty.str⟩
 |195=>⟨jo,JW⟩
 |_=>⟨Unit,Ik⟩
abbrev SS:bm:=⟨λt=>(rn t).1,λt=>(rn t).2⟩
def JO (t:Nat):Option (uz SS t):=match t with
 |22=>some ⟨42,id,id⟩
 |31=>some ⟨3,id,id⟩
 |48=>some ⟨115,id,id⟩
 |51=>some ⟨105,id,id⟩
 |52=>some ⟨122,id,id⟩
 |55=>some ⟨127,id,id⟩
 |56=>some ⟨132,id,id⟩
 |64=>some ⟨38,id,id⟩
 |89=>some ⟨60,id,id⟩
 |130=>some ⟨35,id,id⟩
 |192=>some ⟨9,id,id⟩
 |193=>some ⟨9,id,id⟩
 |_=>none
def JA (e:Nat):Option (ts SS e):=match e with
 |42=>some ⟨22,id⟩
 |3=>some ⟨31,id⟩
 |115=>some ⟨48,id⟩
 |105=>some ⟨51,id⟩
 |122=>some ⟨52,id⟩
 |127=>some ⟨55,id⟩
 |132=>some ⟨56,id⟩
 |38=>some ⟨64,id⟩
 |60=>some ⟨89,id⟩
 |35=>some ⟨130,id⟩
 |9=>some ⟨192,id⟩
 |_=>none
def Sg:(t:Nat)->SS.El t->aB SS:=λt=>match t with
 |3=>λx=>.one (.v (.int .i64 x))
 |4=>λx=>.one (.v (.bool x))
 |5=>λx=>.one (.v (.int .u8 x))
 |9=>λx=>.one (.v (.string x))
 |21=>λx=>.one (.v (.int .i32 x))
 |22=>λx=>.one (.aJ 22 x)
 |24=>λx=>.agg [.aJ 22 x.cL]
 |27=>λx=>.one (.v (.int .i64 x))
 |31=>λx=>.one (.aJ 31 x)
 |35=>λx=>.one (.v (.int .u64 x))
 |36=>λx=>.agg [.bA .u64 4 x]
 |38=>λx=>.agg [.v (.int .u64 x.aQ),.bA .u64 4 x.fArgs]
 |40=>λx=>.agg [.v (.int .i64 x.b0),.v (.int .u64 x.b8)]
 |42=>λx=>.agg [.v (.int .i64 x.bS),.v (.int .u64 x.bP.aQ),.bA .u64 4 x.bP.fArgs,.v (.int .i64 x.bt.b0),.v (.int .u64 x.bt.b8),.v (.int .i64 x.bK),.v (.int .i64 x.a8),.v (.int .i64 x.bc)]
 |47=>λx=>.agg [.bA .i64 16 x]
 |48=>λx=>.one (.aJ 48 x)
 |50=>λx=>.agg [.bA .i64 16 x.aH,.aJ 48 x.ae]
 |51=>λx=>.one (.aJ 51 x)
 |52=>λx=>.one (.aJ 52 x)
 |54=>λx=>.agg [.aJ 52 x.ae,.v (.int .u64 x.ba)]
 |55=>λx=>.one (.aJ 55 x)
 |56=>λx=>.one (.aJ 56 x)
 |58=>λx=>.agg [.aJ 55 x.ak,.aJ 56 x.an]
 |60=>λx=>.agg [.bA .i64 16 x.ax.aH,.aJ 48 x.ax.ae,.aJ 51 x.aI,.aJ 52 x.aC.ae,.v (.int .u64 x.aC.ba),.aJ 55 x.aw.ak,.aJ 56 x.aw.an]
 |64=>λx=>.one (.aJ 64 x)
 |89=>λx=>.one (.aJ 89 x)
 |105=>λx=>.agg [.v (.int .u64 x.aa),.v (.int .i64 x.bo),.v (.int .u64 x.b')]
 |115=>λx=>.agg [.v (.int .u64 x.aa),.v (.int .u64 x.aP),.v (.bool x.bb),.v (.int .u64 x.bV)]
 |122=>λx=>.agg [.v (.int .u64 x.aN),.v (.int .u64 x.aY)]
 |127=>λx=>.agg [.v (.int .u64 x.aW),.v (.int .u64 x.aa)]
 |130=>λx=>.one (.aJ 130 x)
 |132=>λx=>.agg [.v (.int .u64 x.aa),.aJ 130 x.bj]
 |192=>λx=>.one (.aJ 192 x)
 |193=>λx=>.one (.aJ 192 x)
 |195=>λx=>.agg [.aJ 192 x.gF,.v (.int .u64 x.pZ)]
 |t=>λx=>.one (.aJ t x)
theorem aeW:dS (S:=SS) gU λx=>[.v (.int .u64 x.aa),.v (.int .u64 x.aP),.v (.bool x.bb),.v (.int .u64 x.bV)]:=gN (eJ ec (eJ ec (eJ Sd ec)))
def x8:List (LV SS)->Option (ah×List (LV SS)):=fT (rdPair (dP .u64) (rdPair (dP .u64) (rdPair x4 (dP .u64)))) (λ(a0,a,a2,a3)=>⟨a0,a,a2,a3⟩)
theorem Jp:dK (S:=SS) gU x8:=gP (eL ed (eL ed (eL SY ed))) λ_=>rfl
theorem Sb:dS (S:=SS) yy λx=>[.bA .i64 16 x.aH,.aJ 48 x.ae]:=gN (eJ xH (e6 (S:=SS) (t:=48) rfl))
def Jj:List (LV SS)->Option (br×List (LV SS)):=fT (rdPair (kW .i64 16) (eK (S:=SS) 48 (some ([]:List ah)))) (λ(a0,a)=>⟨a0,a⟩)
theorem SX:dK (S:=SS) yy Jj:=gP (eL n4 (e8 (S:=SS) (t:=48) λx a O w=>by cases a;exact e5 O w)) λ_=>rfl
theorem aeR:dS (S:=SS) iu λx=>[.v (.int .u64 x.aa),.v (.int .i64 x.bo),.v (.int .u64 x.b')]:=gN (eJ ec (eJ ec ec))
def x5:List (LV SS)->Option (ai×List (LV SS)):=fT (rdPair (dP .u64) (rdPair (dP .i64) (dP .u64))) (λ(a0,a,a2)=>⟨a0,a,a2⟩)
theorem Jm:dK (S:=SS) iu x5:=gP (eL ed (eL ed ed)) λ_=>rfl
theorem aeT:dS (S:=SS) k1 λx=>[.v (.int .u64 x.aN),.v (.int .u64 x.aY)]:=gN (eJ ec ec)
def x6:List (LV SS)->Option (ay×List (LV SS)):=fT (rdPair (dP .u64) (dP .u64)) (λ(a0,a)=>⟨a0,a⟩)
theorem Jn:dK (S:=SS) k1 x6:=gP (eL ed ed) λ_=>rfl
theorem Sa:dS (S:=SS) yw λx=>[.aJ 52 x.ae,.v (.int .u64 x.ba)]:=gN (eJ (e6 (S:=SS) (t:=52) rfl) ec)
def Ji:List (LV SS)->Option (bz×List (LV SS)):=fT (rdPair (eK (S:=SS) 52 (some ([]:List ay))) (dP .u64)) (λ(a0,a)=>⟨a0,a⟩)
theorem SV:dK (S:=SS) yw Ji:=gP (eL (e8 (S:=SS) (t:=52) λx a O w=>by cases a;exact e5 O w) ed) λ_=>rfl
theorem aeU:dS (S:=SS) dX λx=>[.v (.int .u64 x.aW),.v (.int .u64 x.aa)]:=gN (eJ ec ec)
def x7:List (LV SS)->Option (au×List (LV SS)):=fT (rdPair (dP .u64) (dP .u64)) (λ(a0,a)=>⟨a0,a⟩)
theorem Jo:dK (S:=SS) dX x7:=gP (eL ed ed) λ_=>rfl
theorem aeP:dS (S:=SS) jh λx=>[.v (.int .u64 x.aa),.aJ 130 x.bj]:=gN (eJ ec (e6 (S:=SS) (t:=130) rfl))
def SL:List (LV SS)->Option (ar×List (LV SS)):=fT (rdPair (dP .u64) (eK (S:=SS) 130 (some ([]:Γa)))) (λ(a0,a)=>⟨a0,a⟩)
theorem ahp:dK (S:=SS) jh SL:=gP (eL ed (e8 (S:=SS) (t:=130) λx a O w=>by cases a;exact e5 O w)) λ_=>rfl
theorem R':dS (S:=SS) fU λx=>[.aJ 55 x.ak,.aJ 56 x.an]:=gN (eJ (e6 (S:=SS) (t:=55) rfl) (e6 (S:=SS) (t:=56) rfl))
def Jh:List (LV SS)->Option (aL×List (LV SS)):=fT (rdPair (eK (S:=SS) 55 (some ([]:List au))) (eK (S:=SS) 56 (some ([]:List ar)))) (λ(a0,a)=>⟨a0,a⟩)
theorem SU:dK (S:=SS) fU Jh:=gP (eL (e8 (S:=SS) (t:=55) λx a O w=>by cases a;exact e5 O w) (e8 (S:=SS) (t:=56) λx a O w=>by cases a;exact e5 O w)) λ_=>rfl
theorem aeX:dS (S:=SS) yz λx=>[.bA .i64 16 x.ax.aH,.aJ 48 x.ax.ae,.aJ 51 x.aI,.aJ 52 x.aC.ae,.v (.int .u64 x.aC.ba),.aJ 55 x.aw.ak,.aJ 56 x.aw.an]:=gN (eJ Sb (eJ (e6 (S:=SS) (t:=51) rfl) (eJ Sa R')))
def SQ:List (LV SS)->Option (aZ×List (LV SS)):=fT (rdPair Jj (rdPair (eK (S:=SS) 51 (some ([]:List ai))) (rdPair Ji Jh))) (λ(a0,a,a2,a3)=>⟨a0,a,a2,a3⟩)
theorem aht:dK (S:=SS) yz SQ:=gP (eL SX (eL (e8 (S:=SS) (t:=51) λx a O w=>by cases a;exact e5 O w) (eL SV SU))) λ_=>rfl
theorem R_:dS (S:=SS) og λx=>[.v (.int .u64 x.aQ),.bA .u64 4 x.fArgs]:=gN (eJ ec xH)
def Jg:List (LV SS)->Option (b3×List (LV SS)):=fT (rdPair (dP .u64) (kW .u64 4)) (λ(a0,a)=>⟨a0,a⟩)
theorem SR:dK (S:=SS) og Jg:=gP (eL ed n4) λ_=>rfl
theorem Sc:dS (S:=SS) ru λx=>[.v (.int .i64 x.b0),.v (.int .u64 x.b8)]:=gN (eJ ec ec)
def q9:List (LV SS)->Option (cu×List (LV SS)):=fT (rdPair (dP .i64) (dP .u64)) (λ(a0,a)=>⟨a0,a⟩)
theorem x_:dK (S:=SS) ru q9:=gP (eL ed ed) λ_=>rfl
theorem aeV:dS (S:=SS) JW λx=>[.aJ 192 x.gF,.v (.int .u64 x.pZ)]:=gN (eJ (e6 (S:=SS) (t:=192) rfl) ec)
def SO:List (LV SS)->Option (jo×List (LV SS)):=fT (rdPair (eK (S:=SS) 192 (some ([]:List ByteArray))) (dP .u64)) (λ(a0,a)=>⟨a0,a⟩)
theorem ahs:dK (S:=SS) JW SO:=gP (eL (e8 (S:=SS) (t:=192) λx a O w=>by cases a;exact e5 O w) ed) λ_=>rfl
theorem aeS:dS (S:=SS) ji λx=>[.v (.int .i64 x.bS),.v (.int .u64 x.bP.aQ),.bA .u64 4 x.bP.fArgs,.v (.int .i64 x.bt.b0),.v (.int .u64 x.bt.b8),.v (.int .i64 x.bK),.v (.int .i64 x.a8),.v (.int .i64 x.bc)]:=gN (eJ ec (eJ R_ (eJ Sc (eJ ec (eJ ec ec)))))
def SN:List (LV SS)->Option (aA×List (LV SS)):=fT (rdPair (dP .i64) (rdPair Jg (rdPair q9 (rdPair (dP .i64) (rdPair (dP .i64) (dP .i64)))))) (λ(a0,a,a2,a3,a4,a5)=>⟨a0,a,a2,a3,a4,a5⟩)
theorem ahr:dK (S:=SS) ji SN:=gP (eL ed (eL SR (eL x_ (eL ed (eL ed ed))))) λ_=>rfl
theorem aeQ:dS (S:=SS) rq λx=>[.aJ 22 x.cL]:=gN (ae3 (e6 (S:=SS) (t:=22) rfl))
def SM:List (LV SS)->Option (dm×List (LV SS)):=fT (eK (S:=SS) 22 (some ([]:List aA))) (λa=>⟨a⟩)
theorem ahq:dK (S:=SS) rq SM:=gP (ahu (e8 (S:=SS) (t:=22) λx a O w=>by cases a;exact e5 O w)) λ_=>rfl
def FN:(t:Nat)->List (LV SS)->Option (SS.El t):=λt=>match t with
 |3=>λr=>cm ((dP .i64) r)
 |4=>λr=>cm (x4 r)
 |5=>λr=>cm ((dP .u8) r)
 |9=>λr=>cm (Jl r)
 |21=>λr=>cm ((dP .i32) r)
 |22=>λr=>cm ((eK (S:=SS) 22 (some ([]:List aA))) r)
 |24=>λr=>cm (SM r)
 |27=>λr=>cm ((dP .i64) r)
 |31=>λr=>cm ((eK (S:=SS) 31 (some ([]:Γa))) r)
 |35=>λr=>cm ((dP .u64) r)
 |36=>λr=>cm ((kW .u64 4) r)
 |38=>λr=>cm (Jg r)
 |40=>λr=>cm (q9 r)
 |42=>λr=>cm (SN r)
 |47=>λr=>cm ((kW .i64 16) r)
 |48=>λr=>cm ((eK (S:=SS) 48 (some ([]:List ah))) r)
 |50=>λr=>cm (Jj r)
 |51=>λr=>cm ((eK (S:=SS) 51 (some ([]:List ai))) r)
 |52=>λr=>cm ((eK (S:=SS) 52 (some ([]:List ay))) r)
 |54=>λr=>cm (Ji r)
 |55=>λr=>cm ((eK (S:=SS) 55 (some ([]:List au))) r)
 |56=>λr=>cm ((eK (S:=SS) 56 (some ([]:List ar))) r)
 |58=>λr=>cm (Jh r)
 |60=>λr=>cm (SQ r)
 |64=>λr=>cm ((eK (S:=SS) 64 (some ([]:List b3))) r)
 |89=>λr=>cm ((eK (S:=SS) 89 (some ([]:List aZ))) r)
 |105=>λr=>cm (x5 r)
 |115=>λr=>cm (x8 r)
 |122=>λr=>cm (x6 r)
 |127=>λr=>cm (x7 r)
 |130=>λr=>cm ((eK (S:=SS) 130 (some ([]:Γa))) r)
 |132=>λr=>cm (SL r)
 |192=>λr=>cm ((eK (S:=SS) 192 (some ([]:List ByteArray))) r)
 |193=>λr=>cm ((eK (S:=SS) 192 (some ([]:List ByteArray))) r)
 |195=>λr=>cm (SO r)
 |t=>λr=>none
theorem Od (d:Nat) (w:World) (x y:cu):(ξu (d+2) 40 (.agg #[.int .i64 x.b0,.int .u64 x.b8]) (.agg #[.int .i64 y.b0,.int .u64 y.b8])).run γ w= .ok (dT x y) w:=by
 have a:γ.underlying 40=some (.struct (γ.fieldsOf 40)):=by kernel_rfl
 have hp:γ.stoodInHeld 40=false:=by kernel_rfl
 rw[show d+2=(d+1)+1 from rfl,run_equalIn_agg w _ 40 _ _ a hp];simp only[ξ7,Tryz.underlying40];unfold dT
 go_simp
 by_cases b:x.b0=y.b0<;>by_cases h1:x.b8=y.b8<;>simp_all
theorem acz {ox oy:Operand} {w:World} (x y:cu):(do eqGuard .eql 40 ox oy (.agg #[.int .i64 x.b0,.int .u64 x.b8]) (.agg #[.int .i64 y.b0,.int .u64 y.b8]);binOp .eql 40 (.agg #[.int .i64 x.b0,.int .u64 x.b8]) (.agg #[.int .i64 y.b0,.int .u64 y.b8]):Sem Value).run γ w= .ok (.bool (dT x y)) w:=by
 simp only[ι];rw[run_eqGuard_agg w .eql 40 ox oy _ _ (by kernel_rfl)];simp only[θ];rw[run_eql_struct,show(10000:Nat)=9998+2 from rfl,Od];rfl
theorem aes {ox oy:Operand} {w:World} (x y:cu):(do eqGuard .neq 40 ox oy (.agg #[.int .i64 x.b0,.int .u64 x.b8]) (.agg #[.int .i64 y.b0,.int .u64 y.b8]);binOp .neq 40 (.agg #[.int .i64 x.b0,.int .u64 x.b8]) (.agg #[.int .i64 y.b0,.int .u64 y.b8]):Sem Value).run γ w= .ok (.bool (!dT x y)) w:=by
 simp only[ι];rw[run_eqGuard_agg w .neq 40 ox oy _ _ (by kernel_rfl)];simp only[θ];rw[run_neq_struct,show(10000:Nat)=9998+2 from rfl,Od];rfl
theorem N' (d:Nat) (w:World) (x y:ah):(ξu (d+2) 115 (.agg #[.int .u64 x.aa,.int .u64 x.aP,.bool x.bb,.int .u64 x.bV]) (.agg #[.int .u64 y.aa,.int .u64 y.aP,.bool y.bb,.int .u64 y.bV])).run γ w= .ok (fl x y) w:=by
 have a:γ.underlying 115=some (.struct (γ.fieldsOf 115)):=by kernel_rfl
 have hp:γ.stoodInHeld 115=false:=by kernel_rfl
 rw[show d+2=(d+1)+1 from rfl,run_equalIn_agg w _ 115 _ _ a hp];simp only[ξ7,Tryz.underlying115];unfold fl
 go_simp
 by_cases b:x.aa=y.aa<;>by_cases h1:x.aP=y.aP<;>by_cases c:x.bb=y.bb<;>by_cases e:x.bV=y.bV<;>simp_all
theorem acw {ox oy:Operand} {w:World} (x y:ah):(do eqGuard .eql 115 ox oy (.agg #[.int .u64 x.aa,.int .u64 x.aP,.bool x.bb,.int .u64 x.bV]) (.agg #[.int .u64 y.aa,.int .u64 y.aP,.bool y.bb,.int .u64 y.bV]);binOp .eql 115 (.agg #[.int .u64 x.aa,.int .u64 x.aP,.bool x.bb,.int .u64 x.bV]) (.agg #[.int .u64 y.aa,.int .u64 y.aP,.bool y.bb,.int .u64 y.bV]):Sem Value).run γ w= .ok (.bool (fl x y)) w:=by
 simp only[ι];rw[run_eqGuard_agg w .eql 115 ox oy _ _ (by kernel_rfl)];simp only[θ];rw[run_eql_struct,show(10000:Nat)=9998+2 from rfl,N'];rfl
theorem aep {ox oy:Operand} {w:World} (x y:ah):(do eqGuard .neq 115 ox oy (.agg #[.int .u64 x.aa,.int .u64 x.aP,.bool x.bb,.int .u64 x.bV]) (.agg #[.int .u64 y.aa,.int .u64 y.aP,.bool y.bb,.int .u64 y.bV]);binOp .neq 115 (.agg #[.int .u64 x.aa,.int .u64 x.aP,.bool x.bb,.int .u64 x.bV]) (.agg #[.int .u64 y.aa,.int .u64 y.aP,.bool y.bb,.int .u64 y.bV]):Sem Value).run γ w= .ok (.bool (!fl x y)) w:=by
 simp only[ι];rw[run_eqGuard_agg w .neq 115 ox oy _ _ (by kernel_rfl)];simp only[θ];rw[run_neq_struct,show(10000:Nat)=9998+2 from rfl,N'];rfl
theorem N_ (d:Nat) (w:World) (x y:ai):(ξu (d+2) 105 (.agg #[.int .u64 x.aa,.int .i64 x.bo,.int .u64 x.b']) (.agg #[.int .u64 y.aa,.int .i64 y.bo,.int .u64 y.b'])).run γ w= .ok (gB x y) w:=by
 have a:γ.underlying 105=some (.struct (γ.fieldsOf 105)):=by kernel_rfl
 have hp:γ.stoodInHeld 105=false:=by kernel_rfl
 rw[show d+2=(d+1)+1 from rfl,run_equalIn_agg w _ 105 _ _ a hp];simp only[ξ7,Tryz.underlying105];unfold gB
 go_simp
 by_cases b:x.aa=y.aa<;>by_cases h1:x.bo=y.bo<;>by_cases c:x.b'=y.b'<;>simp_all
theorem acv {ox oy:Operand} {w:World} (x y:ai):(do eqGuard .eql 105 ox oy (.agg #[.int .u64 x.aa,.int .i64 x.bo,.int .u64 x.b']) (.agg #[.int .u64 y.aa,.int .i64 y.bo,.int .u64 y.b']);binOp .eql 105 (.agg #[.int .u64 x.aa,.int .i64 x.bo,.int .u64 x.b']) (.agg #[.int .u64 y.aa,.int .i64 y.bo,.int .u64 y.b']):Sem Value).run γ w= .ok (.bool (gB x y)) w:=by
 simp only[ι];rw[run_eqGuard_agg w .eql 105 ox oy _ _ (by kernel_rfl)];simp only[θ];rw[run_eql_struct,show(10000:Nat)=9998+2 from rfl,N_];rfl
theorem aeo {ox oy:Operand} {w:World} (x y:ai):(do eqGuard .neq 105 ox oy (.agg #[.int .u64 x.aa,.int .i64 x.bo,.int .u64 x.b']) (.agg #[.int .u64 y.aa,.int .i64 y.bo,.int .u64 y.b']);binOp .neq 105 (.agg #[.int .u64 x.aa,.int .i64 x.bo,.int .u64 x.b']) (.agg #[.int .u64 y.aa,.int .i64 y.bo,.int .u64 y.b']):Sem Value).run γ w= .ok (.bool (!gB x y)) w:=by
 simp only[ι];rw[run_eqGuard_agg w .neq 105 ox oy _ _ (by kernel_rfl)];simp only[θ];rw[run_neq_struct,show(10000:Nat)=9998+2 from rfl,N_];rfl
theorem Oa (d:Nat) (w:World) (x y:ay):(ξu (d+2) 122 (.agg #[.int .u64 x.aN,.int .u64 x.aY]) (.agg #[.int .u64 y.aN,.int .u64 y.aY])).run γ w= .ok (h_ x y) w:=by
 have a:γ.underlying 122=some (.struct (γ.fieldsOf 122)):=by kernel_rfl
 have hp:γ.stoodInHeld 122=false:=by kernel_rfl
 rw[show d+2=(d+1)+1 from rfl,run_equalIn_agg w _ 122 _ _ a hp];simp only[ξ7,Tryz.underlying122];unfold h_
 go_simp
 by_cases b:x.aN=y.aN<;>by_cases h1:x.aY=y.aY<;>simp_all
theorem acx {ox oy:Operand} {w:World} (x y:ay):(do eqGuard .eql 122 ox oy (.agg #[.int .u64 x.aN,.int .u64 x.aY]) (.agg #[.int .u64 y.aN,.int .u64 y.aY]);binOp .eql 122 (.agg #[.int .u64 x.aN,.int .u64 x.aY]) (.agg #[.int .u64 y.aN,.int .u64 y.aY]):Sem Value).run γ w= .ok (.bool (h_ x y)) w:=by
 simp only[ι];rw[run_eqGuard_agg w .eql 122 ox oy _ _ (by kernel_rfl)];simp only[θ];rw[run_eql_struct,show(10000:Nat)=9998+2 from rfl,Oa];rfl
theorem aeq {ox oy:Operand} {w:World} (x y:ay):(do eqGuard .neq 122 ox oy (.agg #[.int .u64 x.aN,.int .u64 x.aY]) (.agg #[.int .u64 y.aN,.int .u64 y.aY]);binOp .neq 122 (.agg #[.int .u64 x.aN,.int .u64 x.aY]) (.agg #[.int .u64 y.aN,.int .u64 y.aY]):Sem Value).run γ w= .ok (.bool (!h_ x y)) w:=by
 simp only[ι];rw[run_eqGuard_agg w .neq 122 ox oy _ _ (by kernel_rfl)];simp only[θ];rw[run_neq_struct,show(10000:Nat)=9998+2 from rfl,Oa];rfl
theorem Oc (d:Nat) (w:World) (x y:au):(ξu (d+2) 127 (.agg #[.int .u64 x.aW,.int .u64 x.aa]) (.agg #[.int .u64 y.aW,.int .u64 y.aa])).run γ w= .ok (ia x y) w:=by
 have a:γ.underlying 127=some (.struct (γ.fieldsOf 127)):=by kernel_rfl
 have hp:γ.stoodInHeld 127=false:=by kernel_rfl
 rw[show d+2=(d+1)+1 from rfl,run_equalIn_agg w _ 127 _ _ a hp];simp only[ξ7,Tryz.underlying127];unfold ia
 go_simp
 by_cases b:x.aW=y.aW<;>by_cases h1:x.aa=y.aa<;>simp_all
theorem acy {ox oy:Operand} {w:World} (x y:au):(do eqGuard .eql 127 ox oy (.agg #[.int .u64 x.aW,.int .u64 x.aa]) (.agg #[.int .u64 y.aW,.int .u64 y.aa]);binOp .eql 127 (.agg #[.int .u64 x.aW,.int .u64 x.aa]) (.agg #[.int .u64 y.aW,.int .u64 y.aa]):Sem Value).run γ w= .ok (.bool (ia x y)) w:=by
 simp only[ι];rw[run_eqGuard_agg w .eql 127 ox oy _ _ (by kernel_rfl)];simp only[θ];rw[run_eql_struct,show(10000:Nat)=9998+2 from rfl,Oc];rfl
theorem aer {ox oy:Operand} {w:World} (x y:au):(do eqGuard .neq 127 ox oy (.agg #[.int .u64 x.aW,.int .u64 x.aa]) (.agg #[.int .u64 y.aW,.int .u64 y.aa]);binOp .neq 127 (.agg #[.int .u64 x.aW,.int .u64 x.aa]) (.agg #[.int .u64 y.aW,.int .u64 y.aa]):Sem Value).run γ w= .ok (.bool (!ia x y)) w:=by
 simp only[ι];rw[run_eqGuard_agg w .neq 127 ox oy _ _ (by kernel_rfl)];simp only[θ];rw[run_neq_struct,show(10000:Nat)=9998+2 from rfl,Oc];rfl
def F4 (t:Nat) (ls ms:List (LV SS)):Option Bool:=match t with
 |40=>(match cm (q9 ls),cm (q9 ms) with|some x,some y=>some (dT x y)|_,_=>none)
 |115=>(match cm (x8 ls),cm (x8 ms) with|some x,some y=>some (fl x y)|_,_=>none)
 |47=>(match cm ((kW .i64 16) ls),cm ((kW .i64 16) ms) with|some x,some y=>some (x==y)|_,_=>none)
 |105=>(match cm (x5 ls),cm (x5 ms) with|some x,some y=>some (gB x y)|_,_=>none)
 |122=>(match cm (x6 ls),cm (x6 ms) with|some x,some y=>some (h_ x y)|_,_=>none)
 |127=>(match cm (x7 ls),cm (x7 ms) with|some x,some y=>some (ia x y)|_,_=>none)
 |_=>none
def Hf (g:Nat):Option ((t:Nat)×SS.El t):=match g with
 |0=>some ⟨115,vR⟩
 |_=>none
def KK:Kit SS:=⟨Θ,JO,JA,Sg,FN,Hf,F4⟩
theorem aiw {t:Nat} (h:t∉([3,4,5,9,21,22,24,27,31,35,36,38,40,42,47,48,50,51,52,54,55,56,58,60,64,89,105,115,122,127,130,132,192,193,195]:Γ)):rn t=⟨Unit,Ik⟩:=by
 unfold rn;split<;>first|rfl|(exfalso;exact h (by decide))
theorem aey {t:Nat} (h:t∉([3,4,5,9,21,22,24,27,31,35,36,38,40,42,47,48,50,51,52,54,55,56,58,60,64,89,105,115,122,127,130,132,192,193,195]:Γ)) {O:Γ} {w:World} {cs:Γb} {x:SS.El t}: ¬(SS.ty t).rep O w cs x:=by
 have key: ∀(p:(α:Type)×Ty α) (_:p=⟨Unit,Ik⟩) (x:p.1),¬p.2.rep O w cs x:=by
  rintro _ rfl x a;exact a
 exact key (rn t) (aiw h) x
theorem RC {t:Nat} {p:Prop} (h:t∈([3,4,5,9,21,22,24,27,31,35,36,38,40,42,47,48,50,51,52,54,55,56,58,60,64,89,105,115,122,127,130,132,192,193,195]:Γ)) (o:t=3->p) (v:t=4->p) (A:t=5->p) (L:t=9->p) (k:t=21->p) (l:t=22->p) (m:t=24->p) (n:t=27->p) (q:t=31->p) (r:t=35->p) (s:t=36->p) (u:t=38->p) (w:t=40->p) (x:t=42->p) (y:t=47->p) (z:t=48->p) (B:t=50->p) (C:t=51->p) (D:t=52->p) (E:t=54->p) (F:t=55->p) (G:t=56->p) (H:t=58->p) (I:t=60->p) (J:t=64->p) (K:t=89->p) (a:t=105->p) (b:t=115->p) (c:t=122->p) (d:t=127->p) (e:t=130->p) (f:t=132->p) (g:t=192->p) (i:t=193->p) (j:t=195->p):p:=by
 simp only[ξX,ξM,or_false] at h;rcases h with h|h|h|h|h|h|h|h|h|h|h|h|h|h|h|h|h|h|h|h|h|h|h|h|h|h|h|h|h|h|h|h|h|h|h
 ·exact o h
 ·exact v h
 ·exact A h
 ·exact L h
 ·exact k h
 ·exact l h
 ·exact m h
 ·exact n h
 ·exact q h
 ·exact r h
 ·exact s h
 ·exact u h
 ·exact w h
 ·exact x h
 ·exact y h
 ·exact z h
 ·exact B h
 ·exact C h
 ·exact D h
 ·exact E h
 ·exact F h
 ·exact G h
 ·exact H h
 ·exact I h
 ·exact J h
 ·exact K h
 ·exact a h
 ·exact b h
 ·exact c h
 ·exact d h
 ·exact e h
 ·exact f h
 ·exact g h
 ·exact i h
 ·exact j h
theorem afg (A:Pl) (O:Γ) (w:World) (t:Nat) (x:SS.El t) (cs:Γb) (h:(SS.ty t).rep O w cs x):bF A O w (Sg t x).cells cs:=by
 by_cases hm:t∈([3,4,5,9,21,22,24,27,31,35,36,38,40,42,47,48,50,51,52,54,55,56,58,60,64,89,105,115,122,127,130,132,192,193,195]:Γ)
 ·refine RC hm ?_ ?_ ?_ ?_ ?_ ?_ ?_ ?_ ?_ ?_ ?_ ?_ ?_ ?_ ?_ ?_ ?_ ?_ ?_ ?_ ?_ ?_ ?_ ?_ ?_ ?_ ?_ ?_ ?_ ?_ ?_ ?_ ?_ ?_ ?_
  ·intro e;subst e;exact ec A O w x cs h
  ·intro e;subst e;exact Sd A O w x cs h
  ·intro e;subst e;exact ec A O w x cs h
  ·intro e;subst e;exact ae4 A O w x cs h
  ·intro e;subst e;exact ec A O w x cs h
  ·intro e;subst e;exact(e6 (S:=SS) (t:=22) rfl) A O w x cs h
  ·intro e;subst e;exact aeQ A O w x cs h
  ·intro e;subst e;exact ec A O w x cs h
  ·intro e;subst e;exact(e6 (S:=SS) (t:=31) rfl) A O w x cs h
  ·intro e;subst e;exact ec A O w x cs h
  ·intro e;subst e;exact xH A O w x cs h
  ·intro e;subst e;exact R_ A O w x cs h
  ·intro e;subst e;exact Sc A O w x cs h
  ·intro e;subst e;exact aeS A O w x cs h
  ·intro e;subst e;exact xH A O w x cs h
  ·intro e;subst e;exact(e6 (S:=SS) (t:=48) rfl) A O w x cs h
  ·intro e;subst e;exact Sb A O w x cs h
  ·intro e;subst e;exact(e6 (S:=SS) (t:=51) rfl) A O w x cs h
  ·intro e;subst e;exact(e6 (S:=SS) (t:=52) rfl) A O w x cs h
  ·intro e;subst e;exact Sa A O w x cs h
  ·intro e;subst e;exact(e6 (S:=SS) (t:=55) rfl) A O w x cs h
  ·intro e;subst e;exact(e6 (S:=SS) (t:=56) rfl) A O w x cs h
  ·intro e;subst e;exact R' A O w x cs h
  ·intro e;subst e;exact aeX A O w x cs h
  ·intro e;subst e;exact(e6 (S:=SS) (t:=64) rfl) A O w x cs h
  ·intro e;subst e;exact(e6 (S:=SS) (t:=89) rfl) A O w x cs h
  ·intro e;subst e;exact aeR A O w x cs h
  ·intro e;subst e;exact aeW A O w x cs h
  ·intro e;subst e;exact aeT A O w x cs h
  ·intro e;subst e;exact aeU A O w x cs h
  ·intro e;subst e;exact(e6 (S:=SS) (t:=130) rfl) A O w x cs h
  ·intro e;subst e;exact aeP A O w x cs h
  ·intro e;subst e;exact(e6 (S:=SS) (t:=192) rfl) A O w x cs h
  ·intro e;subst e;exact(e6 (S:=SS) (t:=192) rfl) A O w x cs h
  ·intro e;subst e;exact aeV A O w x cs h
 ·exact absurd h (aey hm)
theorem abB (A:Pl) (O:Γ) (w:World) (t:Nat) (ls:List (LV SS)) (x:SS.El t) (cs:Γb) (a:FN t ls=some x) (h:bF A O w ls cs):(SS.ty t).rep O w cs x:=by
 by_cases hm:t∈([3,4,5,9,21,22,24,27,31,35,36,38,40,42,47,48,50,51,52,54,55,56,58,60,64,89,105,115,122,127,130,132,192,193,195]:Γ)
 ·refine RC hm ?_ ?_ ?_ ?_ ?_ ?_ ?_ ?_ ?_ ?_ ?_ ?_ ?_ ?_ ?_ ?_ ?_ ?_ ?_ ?_ ?_ ?_ ?_ ?_ ?_ ?_ ?_ ?_ ?_ ?_ ?_ ?_ ?_ ?_ ?_
  ·intro e;subst e;exact cv (S:=SS) ed a h
  ·intro e;subst e;exact cv (S:=SS) SY a h
  ·intro e;subst e;exact cv (S:=SS) ed a h
  ·intro e;subst e;exact cv (S:=SS) ahv a h
  ·intro e;subst e;exact cv (S:=SS) ed a h
  ·intro e;subst e;exact cv (S:=SS) (e8 (S:=SS) (t:=22) λx b O w=>by cases b;exact e5 O w) a h
  ·intro e;subst e;exact cv (S:=SS) ahq a h
  ·intro e;subst e;exact cv (S:=SS) ed a h
  ·intro e;subst e;exact cv (S:=SS) (e8 (S:=SS) (t:=31) λx b O w=>by cases b;exact e5 O w) a h
  ·intro e;subst e;exact cv (S:=SS) ed a h
  ·intro e;subst e;exact cv (S:=SS) n4 a h
  ·intro e;subst e;exact cv (S:=SS) SR a h
  ·intro e;subst e;exact cv (S:=SS) x_ a h
  ·intro e;subst e;exact cv (S:=SS) ahr a h
  ·intro e;subst e;exact cv (S:=SS) n4 a h
  ·intro e;subst e;exact cv (S:=SS) (e8 (S:=SS) (t:=48) λx b O w=>by cases b;exact e5 O w) a h
  ·intro e;subst e;exact cv (S:=SS) SX a h
  ·intro e;subst e;exact cv (S:=SS) (e8 (S:=SS) (t:=51) λx b O w=>by cases b;exact e5 O w) a h
  ·intro e;subst e;exact cv (S:=SS) (e8 (S:=SS) (t:=52) λx b O w=>by cases b;exact e5 O w) a h
  ·intro e;subst e;exact cv (S:=SS) SV a h
  ·intro e;subst e;exact cv (S:=SS) (e8 (S:=SS) (t:=55) λx b O w=>by cases b;exact e5 O w) a h
  ·intro e;subst e;exact cv (S:=SS) (e8 (S:=SS) (t:=56) λx b O w=>by cases b;exact e5 O w) a h
  ·intro e;subst e;exact cv (S:=SS) SU a h
  ·intro e;subst e;exact cv (S:=SS) aht a h
  ·intro e;subst e;exact cv (S:=SS) (e8 (S:=SS) (t:=64) λx b O w=>by cases b;exact e5 O w) a h
  ·intro e;subst e;exact cv (S:=SS) (e8 (S:=SS) (t:=89) λx b O w=>by cases b;exact e5 O w) a h
  ·intro e;subst e;exact cv (S:=SS) Jm a h
  ·intro e;subst e;exact cv (S:=SS) Jp a h
  ·intro e;subst e;exact cv (S:=SS) Jn a h
  ·intro e;subst e;exact cv (S:=SS) Jo a h
  ·intro e;subst e;exact cv (S:=SS) (e8 (S:=SS) (t:=130) λx b O w=>by cases b;exact e5 O w) a h
  ·intro e;subst e;exact cv (S:=SS) ahp a h
  ·intro e;subst e;exact cv (S:=SS) (e8 (S:=SS) (t:=192) λx b O w=>by cases b;exact e5 O w) a h
  ·intro e;subst e;exact cv (S:=SS) (e8 (S:=SS) (t:=192) λx b O w=>by cases b;exact e5 O w) a h
  ·intro e;subst e;exact cv (S:=SS) ahs a h
 ·unfold FN at a;split at a<;>first|cases a|(exfalso;exact hm (by decide))
theorem ait (t:Nat) (I:uz SS t) (h:JO t=some I):(SS.ty t).agg=false/\(∀(O:Γ) (w:World) (v:Value) (x:SS.El t),(SS.ty t).is O w v x->(SS.ty I.e).slice.is O w v (I.to x))/\ ∀(O:Γ) (w:World) (v:Value) (xs:List (SS.El I.e)),(SS.ty I.e).slice.is O w v xs->(SS.ty t).is O w v (I.of xs):=by
 unfold JO at h;split at h<;>first|(cases h;exact⟨rfl,λ_ _ _ _ h=>h,λ_ _ _ _ h=>h⟩)|cases h
theorem ahK (e:Nat) (I:ts SS e) (h:JA e=some I):(SS.ty I.t).agg=false/\ ∀(O:Γ) (w:World) (v:Value) (xs:List (SS.El e)),(SS.ty e).slice.is O w v xs->(SS.ty I.t).is O w v (I.of xs):=by
 unfold JA at h;split at h<;>first|(cases h;exact⟨rfl,λ_ _ _ _ h=>h⟩)|cases h
theorem acD (A:Pl) (O:Γ) (w:World) (t:Nat) (ls ms:List (LV SS)) (b:Bool) (xs ys:Γb) (ox oy:Operand) (h:F4 t ls ms=some b) (e:bF A O w ls xs) (f:bF A O w ms ys):
  (do eqGuard .eql t ox oy (.agg xs.toArray) (.agg ys.toArray);binOp .eql t (.agg xs.toArray) (.agg ys.toArray):Sem Value).run γ w= .ok (.bool b) w/\
  (do eqGuard .neq t ox oy (.agg xs.toArray) (.agg ys.toArray);binOp .neq t (.agg xs.toArray) (.agg ys.toArray):Sem Value).run γ w= .ok (.bool (!b)) w:=by
 unfold F4 at h;split at h
 ·split at h
  ·rename_i x y h1 a;cases h;have c:=cv (S:=SS) x_ h1 e;have d:=cv (S:=SS) x_ a f;obtain⟨_,_,rfl,rfl,rfl⟩:=c;obtain⟨_,_,rfl,rfl,rfl⟩:=d;exact⟨acz x y,aes x y⟩
  ·cases h
 ·split at h
  ·rename_i x y h1 a;cases h;have c:=cv (S:=SS) Jp h1 e;have d:=cv (S:=SS) Jp a f;obtain⟨_,_,rfl,rfl,⟨_,_,rfl,rfl,⟨_,_,rfl,rfl,rfl⟩⟩⟩:=c;obtain⟨_,_,rfl,rfl,⟨_,_,rfl,rfl,⟨_,_,rfl,rfl,rfl⟩⟩⟩:=d;exact⟨acw x y,aep x y⟩
  ·cases h
 ·split at h
  ·rename_i x y h1 a;cases h;have c:=cv (S:=SS) n4 h1 e;have d:=cv (S:=SS) n4 a f;obtain⟨g,rfl⟩:=c;obtain⟨i,rfl⟩:=d;exact ah0 w 47 3 16 .i64 .i64 Tryz.underlying47 ξN (λw=>by go_simp) (by kernel_rfl) x y g i ox oy
  ·cases h
 ·split at h
  ·rename_i x y h1 a;cases h;have c:=cv (S:=SS) Jm h1 e;have d:=cv (S:=SS) Jm a f;obtain⟨_,_,rfl,rfl,⟨_,_,rfl,rfl,rfl⟩⟩:=c;obtain⟨_,_,rfl,rfl,⟨_,_,rfl,rfl,rfl⟩⟩:=d;exact⟨acv x y,aeo x y⟩
  ·cases h
 ·split at h
  ·rename_i x y h1 a;cases h;have c:=cv (S:=SS) Jn h1 e;have d:=cv (S:=SS) Jn a f;obtain⟨_,_,rfl,rfl,rfl⟩:=c;obtain⟨_,_,rfl,rfl,rfl⟩:=d;exact⟨acx x y,aeq x y⟩
  ·cases h
 ·split at h
  ·rename_i x y h1 a;cases h;have c:=cv (S:=SS) Jo h1 e;have d:=cv (S:=SS) Jo a f;obtain⟨_,_,rfl,rfl,rfl⟩:=c;obtain⟨_,_,rfl,rfl,rfl⟩:=d;exact⟨acy x y,aer x y⟩
  ·cases h
 ·cases h
theorem dc:b6 KK γ:=⟨aj,ait,ahK,afg,abB,acD⟩
theorem aT:oJ γ:=by
 have h:γ.funcs.toList.all (λfn=>fn.name != "runtime.NumGoroutine" ||fn.body.isNone)=true:=by kernel_rfl
 intro f fn d a;rw[List.all_eq_true] at h;have:=h fn (by rw[Array.mem_toList_iff];exact Array.mem_of_getElem? d);cases b:fn.body with
 |none=>rw[b] at a;cases a
 |some c=>rw[b] at this;simpa using this
def Rx:List (Nat×Γ)->Nat->Γ|[],_=>[]|(a,b)::r,k=>bif ξ a k then b else Rx r k
def Ry:List (Nat×List (Nat×Γ)×List (Γ))->Nat->Nat->Γ|[],_,_=>[]|(a,b,c)::r,f,k=>bif ξ a f then(bif Nat.ble 1000000 k&&Nat.ble k 1000049 then c.getD (Nat.sub k 1000000) [] else Rx b k) else Ry r f k
def aq:Nat->Nat->Γ:=Ry [(3,[],[[2],[3,4,5]]),(7,[],[[0]]),(8,[],[[2]]),(9,[],[[2,3],[1]]),(10,[(3,[1,8,9,10]),(8,[1,4,8,9,10,21,22,23])],[[2],[1],[1,8,9,10],[1,8,9,10],[1,4,8,9,10,21,22,23]]),(11,[(3,[1,8,9,10])],[[2],[],[1,8,9,10]]),(12,[(11,[1,5,6,8,36,37,38]),(21,[1,5,13,73,74,75])],[[2,3],[1,5,8],[1,5,6,8,36,37,38],[13],[1,5,13,73,74,75]]),(14,[],[[2]]),(15,[(5,[0,1,12,13])],[[4],[],[0,1,12,13]]),(18,[],[[0]]),(19,[],[[4,5,6]]),(20,[],[[4]]),(21,[],[[6]]),(22,[],[[6]]),(23,[(6,[1,3,19,20,21])],[[2],[],[1,3,19,20,21]]),(24,[(3,[0,9,10,11])],[[2],[],[0,9,10,11]]),(25,[(2000008,[2,3,4,5,7,14])],[[6],[7],[2,3,4,5,7]]),(26,[],[[2]]),(27,[],[[4,5],[3,4,6,7]]),(28,[],[[2]]),(29,[],[[4]]),(30,[(5,[0,3,4,11,12]),(8,[0,3,5,11,12,14,15,16]),(11,[0,3,5,7,11,12,14,15,16,20,21])],[[2],[3],[0,3,4,11,12],[0,3,5,11,12],[0,3,5,11,12,14,15,16],[0,3,5,11,12,14,15,16],[0,3,5,7,11,12,14,15,16,20,21]]),(31,[(4,[1,2,5,16,17,18]),(14,[1,2,53,54,55]),(20,[1,2,10,11,53,54,55,71,72,73])],[[4],[1,2],[1,2,5,16,17,18],[],[1,2,53,54,55],[1,2,53,54,55],[1,2,10,11,53,54,55,71,72,73]]),(32,[(4,[1,3,7,8,9])],[[2],[1,3],[1,3,7,8,9]]),(33,[(4,[2,6,14,15,16])],[[4,5],[6],[2,6,14,15,16]]),(34,[(3,[1,2,4,7,15,16])],[[8,9],[],[1,2,4,7,15,16]]),(36,[],[[5]]),(37,[],[[4]]),(38,[],[[4]]),(39,[],[[0]]),(40,[],[[0]]),(41,[(6,[1,3,4,37,38,39]),(12,[1,3,4,52,53,54])],[[2],[1,3,4],[1,3,4,37,38,39],[1,3,4],[1,3,4,52,53,54]]),(42,[],[[4,5]]),(43,[(6,[1,2,31,32,33])],[[2],[1,2],[1,2,31,32,33]]),(44,[],[[4]]),(45,[(5,[0,1,12,13])],[[4],[],[0,1,12,13]]),(46,[],[[4]]),(47,[],[[4]]),(48,[],[[4]]),(49,[],[[2]]),(50,[],[[3]]),(51,[(2,[0,1,12,13,14]),(7,[0,1,3,4,5,12,13,14,29,30,31])],[[],[],[0,1,12,13,14],[0,1,3,5,12,13,14],[0,1,3,4,5,12,13,14,29,30,31]]),(52,[],[[2]]),(53,[(3,[1,7,8,9])],[[4],[],[1,7,8,9]]),(54,[],[[0]]),(55,[],[[4,5]]),(57,[],[[5]]),(58,[(3,[0,1,2,6,7,8]),(8,[0,1,2,6]),(10,[0,1,2,6,7,8])],[[],[0,1,2,6,7],[0,1,2,6,7,8],[],[0,1,2,6],[0,1,2,6,7],[0,1,2,6,7,8]]),(59,[],[[2]]),(60,[(2000011,[1,2,4,33])],[[2],[2],[1,2,4]]),(61,[(5,[0,8,9,10])],[[2],[],[0,8,9,10]]),(62,[(4,[1,3,7,8,9])],[[2],[1],[1,3,7,8,9]]),(63,[(5,[1,12,13,14]),(11,[1,47,48,49])],[[2],[1],[1,12,13,14],[],[1,47,48,49]]),(64,[(4,[1,5,8,9,10])],[[4],[5],[1,5,8,9,10]]),(65,[],[[4]]),(66,[(4,[1,5,8,9,10])],[[4],[5],[1,5,8,9,10]]),(67,[],[[3]]),(68,[(4,[1,5,8,9,10])],[[4],[5],[1,5,8,9,10]]),(69,[],[[3]]),(72,[],[[2]]),(73,[],[[4]]),(74,[],[[2]]),(75,[],[[0]]),(76,[],[[2]]),(77,[],[[2]]),(78,[],[[2]]),(79,[],[[2]]),(80,[],[[2]]),(81,[(5,[0,1,12,13])],[[4],[],[0,1,12,13]]),(82,[(5,[0,1,12,13])],[[4],[],[0,1,12,13]]),(83,[(5,[0,1,12,13])],[[4],[],[0,1,12,13]]),(84,[(5,[1,2,15,16,17])],[[6],[],[1,2,15,16,17]]),(85,[],[[4]]),(86,[(5,[0,1,12,13])],[[4],[],[0,1,12,13]]),(87,[],[[4]]),(88,[],[[3]]),(89,[],[[0]]),(90,[],[[4,5],[2,3,4,5]]),(91,[],[[4]]),(92,[(3,[0,1,2,3,4,10,11])],[[],[],[0,1,2,3,4,10,11]]),(93,[],[[2]]),(94,[(2,[0,1,2,3,8]),(5,[0,1,2,3,8,9])],[[],[],[0,1,2,3,8],[0,1,2,3,8],[0,1,2,3,8,9]]),(95,[(4,[0,1,4,10,11]),(10,[0,10,13]),(16,[0,2,4,14,15]),(22,[0,14,17]),(34,[0,1,2,3,4,18,19,20,21,22])],[[],[0,1,10],[0,1,4,10,11],[],[0,10,13],[0,2,14],[0,2,4,14,15],[],[0,14,17],[0,1,2,3,4,18,19,20],[0,1,2,3,4,18,19,20,21,22]]),(96,[],[[3]]),(97,[(2000005,[3,4,8])],[[4],[4],[3,4]]),(98,[],[[2]]),(99,[],[[4]]),(100,[],[[2]]),(101,[],[[2]]),(102,[],[[2]]),(103,[],[[4]]),(104,[],[[2]]),(105,[(4,[3,8,9,10])],[[2],[3],[3,8,9,10]]),(106,[(5,[5,20])],[[2],[5],[5,20]]),(107,[],[[2]]),(108,[],[[4,5]]),(109,[],[[2]]),(110,[],[[2]]),(111,[],[[2]]),(112,[],[[2]]),(113,[],[[2]]),(114,[],[[2]]),(115,[],[[2]]),(116,[],[[2]]),(117,[],[[2]]),(118,[],[[2]]),(119,[],[[2]]),(120,[],[[2]]),(121,[],[[2]]),(122,[],[[2]]),(123,[(3,[0,1,7,8])],[[4],[],[0,1,7,8]]),(124,[],[[2]]),(125,[],[[4]]),(126,[],[[4,5,6],[2,3,4]]),(127,[(5,[3,22,23,24])],[[4],[],[3,22,23,24]]),(128,[(5,[1,12,13,14])],[[4],[],[1,12,13,14]]),(129,[(5,[3,22,23,24])],[[4],[],[3,22,23,24]]),(130,[(5,[2,3,26,27,28]),(11,[3,42,43,44])],[[4],[2,3],[2,3,26,27,28],[],[3,42,43,44]]),(131,[(5,[0,3,8,9,10,11]),(9,[0,3,8,9,12])],[[],[0,3,8,9,10],[0,3,8,9,10,11],[],[0,3,8,9,12]]),(132,[(6,[0,1,8,9,10,11])],[[],[],[0,1,8,9,10,11]]),(133,[],[[8,9],[8,9]]),(134,[(3,[0,8,9])],[[],[],[0,8,9]]),(135,[(4,[0,1,2,3,9,10]),(6,[0,1,2,3,9,10]),(15,[0,1,2,3,9,10,11]),(21,[0,1,2,3,9,10,12])],[[8],[],[0,1,2,3,9,10],[0,1,2,3,9,10],[0,1,2,3,9,10],[0,1,2,3,9,10],[0,1,2,3,9,10,11],[0,1,2,3,9,10],[0,1,2,3,9,10,12]]),(136,[(4,[0,1,4,11,12]),(6,[0,1,4,11,12])],[[10],[11],[0,1,4,11,12],[0,1,4,11,12],[0,1,4,11,12],[0,1,4,11,12],[0,1,4,11,12]]),(137,[(4,[0,1,4,12,13]),(6,[0,1,4,12,13]),(14,[0,1,4,12,13]),(16,[0,1,4,12,13])],[[10,11],[0,1,4,12,13],[0,1,4,12,13],[0,1,4,12,13],[0,1,4,12,13],[0,1,13],[0,1,4,12,13],[0,1,4,12,13],[0,1,4,12,13],[0,1,4,12,13],[0,1,4,12,13]]),(138,[],[[2]]),(139,[],[[2]]),(140,[(3,[0,2,4,10,11])],[[],[0,2,4,10],[0,2,4,10,11]]),(141,[(3,[0,1,7,8])],[[4],[],[0,1,7,8]]),(142,[(2,[0,1,9,10])],[[],[],[0,1,9,10]]),(143,[(4,[3,6,7,8])],[[2],[3],[3,6,7,8]]),(144,[],[[4]]),(145,[(2000010,[0,2,4,6,7,26])],[[2,3],[0,2,6,7],[0,2,4,6,7]]),(146,[(4,[0,4,5])],[[2,3],[0,4],[0,4,5]]),(147,[],[[4,5,6]]),(148,[],[[4]]),(149,[],[[6,7]]),(150,[(2000008,[5,12])],[[4],[5],[5]]),(151,[],[[4,5]]),(152,[],[[4,5,6]]),(153,[],[[4]]),(154,[],[[6,7,8]]),(155,[],[[4]]),(156,[(10,[10,11,28,29,30])],[[4,5],[11],[10,11,28,29,30]]),(157,[(2000010,[0,1,2,9,25])],[[6,7,8],[0,1,2],[0,1,2,9],[9]]),(158,[],[[4]]),(159,[(8,[1,9,10,23,24,25])],[[6,7],[9,10],[1,9,10,23,24,25]]),(160,[],[[2]]),(161,[],[[6,7,8],[0,1,2]]),(162,[],[[4,5,6],[1,2,4]]),(163,[],[[4]]),(164,[],[[4,5]]),(165,[],[[4]]),(166,[(2000010,[2,3,4,5,28])],[[4,5],[2,3,4,5],[4,5]]),(167,[],[[6,7],[1,2,6,8],[1,2,6,8,10]]),(168,[],[[4,5],[1,4,6]]),(169,[],[[4,5],[1,2]]),(170,[],[[6,7]]),(171,[],[[4,5,6]]),(172,[],[[4]]),(173,[],[[4,5,6],[2,3,4,7]]),(174,[],[[4,5,6]]),(175,[],[[4,5,6],[2,4,7]]),(176,[],[[4,5,6],[2,4,8]]),(177,[],[[4,5,6]]),(178,[(5,[1,12,13,14])],[[4],[],[1,12,13,14]]),(179,[(2,[0,2,3,4,10])],[[],[],[0,2,3,4,10]]),(180,[],[[2]]),(181,[],[[2]]),(182,[],[[8]]),(183,[],[[12]]),(184,[(2,[0,1,2,3,10])],[[],[],[0,1,2,3,10]]),(185,[],[[2]]),(186,[],[[2]]),(187,[(3,[0,6])],[[2],[0],[0,6]]),(188,[],[[2,3]]),(189,[(8,[0,5,14,15])],[[2,3],[5],[0,5,14,15]]),(190,[],[[4,5]]),(192,[],[[4]]),(193,[(3,[0,3])],[[2],[3],[0,3]]),(195,[(2000009,[1,40])],[[],[],[1]]),(197,[(4,[1,5,8,9,10])],[[4],[5],[1,5,8,9,10]]),(198,[],[[4]]),(199,[],[[4]]),(200,[(4,[1,5,8,9,10])],[[4],[5],[1,5,8,9,10]]),(201,[],[[3]]),(202,[],[[4,5,6],[1,7]]),(205,[],[[3]]),(206,[],[[4]]),(207,[(7,[4,6,7])],[[2,3],[6],[4,6,7]]),(208,[],[[3]]),(209,[],[[4]]),(210,[(3,[0,1,7,8])],[[4],[],[0,1,7,8]]),(211,[(4,[0,2,4,8,9,10])],[[6,7],[0,2,4,8,9],[0,2,4,8,9,10]]),(212,[],[[6]]),(213,[(2000007,[5,6,7,14])],[[6,7],[6,7],[5,6,7]]),(214,[],[[3]]),(215,[],[[3]]),(216,[],[[4]]),(217,[(4,[1,5,8,9,10])],[[4],[5],[1,5,8,9,10]]),(218,[],[[3]]),(219,[(7,[5,20,21,22])],[[2,3],[5],[5,20,21,22]]),(220,[],[[6,7]]),(221,[],[[2]]),(222,[],[[6]]),(223,[],[[6]]),(224,[(3,[1,4,8,9,10])],[[4,5],[4],[1,4,8,9,10]]),(225,[(5,[1,2,4,15])],[[4,5,6],[4],[1,2,4,15]]),(226,[(11,[2,3,6,9,11,41,42,43])],[[6,7,8],[3,6,9,11],[2,3,6,9,11,41,42,43]]),(227,[(8,[1,2,3,6,8,21,22,23])],[[6,7],[3,6,8],[1,2,3,6,8,21,22,23],[1,2,3,6,8,21,22,23]]),(228,[(4,[1,5,9,10,11])],[[4],[5],[1,5,9,10,11]]),(229,[(4,[1,5,8,9,10])],[[4],[5],[1,5,8,9,10]]),(230,[(4,[1,2,3,6,7,16,17,18]),(12,[1,6,7,45,46,47])],[[6],[1,2,3,6,7],[1,2,3,6,7,16,17,18],[6,7],[1,6,7,45,46,47]]),(231,[],[[2]]),(232,[(4,[1,5,6,10,11,12])],[[4],[5],[1,5,6,10,11,12]]),(233,[(5,[0,1,2,9]),(12,[0,9,10,11,36,37,38]),(19,[9,10,11,54,55,56])],[[6,7,8],[0,1,2,9],[0,1,2,9],[0,9,10,11],[0,9,10,11,36,37,38],[9,11],[9,10,11,54,55,56]]),(234,[(3,[1,2,9,10,11])],[[6],[],[1,2,9,10,11]]),(235,[],[[2]]),(236,[(3,[0,1,11,12,13])],[[6,7],[0],[0,1,11,12,13]]),(237,[],[[6,7,8]]),(238,[],[[4,5,6]]),(239,[(8,[1,4,6,24,25,26])],[[4,5],[4,6],[1,4,6,24,25,26]]),(240,[(4,[1,5,8,9,10])],[[4],[5],[1,5,8,9,10]]),(241,[(3,[1,8,9,10])],[[4],[],[1,8,9,10]]),(242,[(4,[3,4,12,13])],[[2],[3,4],[3,4,12,13]]),(243,[(3,[1,9,10,11])],[[4,5],[],[1,9,10,11]]),(244,[(13,[1,2,3,6,10,40,41,42]),(20,[1,6,10,66,67,68])],[[6,7],[1,2,3,6,10],[1,2,3,6,10,40,41,42],[6,10],[1,6,10,66,67,68]]),(245,[(9,[1,4,8,28,29,30])],[[4,5],[4,8],[1,4,8,28,29,30]]),(246,[(3,[1,8,9,10])],[[4],[],[1,8,9,10]]),(247,[],[[10,11]]),(248,[(1,[0,1])],[[],[],[0,1]]),(249,[],[[4]]),(250,[],[[4]]),(251,[],[[2]]),(252,[(13,[0,1,5,39,40,41]),(23,[1,8,63,64,65])],[[4],[0,1],[0,1,5],[0,1,5,39,40,41],[8],[1,8,63,64,65]]),(253,[],[[4]]),(255,[],[[4]]),(256,[],[[3]]),(257,[(3,[0,1,7,8])],[[4],[],[0,1,7,8]]),(258,[],[[3]]),(259,[],[[6]]),(260,[(2,[0,2,7,8,9])],[[],[],[0,2,7,8,9]]),(261,[],[[4]]),(262,[(6,[0,1,5,6])],[[4],[0,5],[0,1,5,6]]),(263,[],[[2]]),(264,[(2,[0,2,6,7,8])],[[],[],[0,2,6,7,8]]),(267,[(2,[0,2,7,8,9])],[[],[],[0,2,7,8,9]]),(268,[],[[4]]),(269,[(4,[0,1,2,8,9,10])],[[6,7],[0,1,2,8,9],[0,1,2,8,9,10]]),(270,[],[[5]]),(273,[(3,[1,7,8,9])],[[4],[],[1,7,8,9]]),(274,[(4,[0,3,5,10,11,12]),(11,[3,5,32,33,34])],[[4],[0,3,5],[0,3,5,10,11,12],[5],[3,5,32,33,34]]),(275,[(3,[0,4])],[[2,3],[4],[0,4]]),(276,[(6,[0,3,10,11,12])],[[2],[0,3],[0,3,10,11,12]]),(277,[(6,[6,21,22,23])],[[4],[],[6,21,22,23]]),(278,[],[[2]]),(279,[],[[4]]),(280,[(4,[1,5,9,10,11])],[[4],[5],[1,5,9,10,11]]),(281,[],[[2]]),(282,[],[[4]]),(283,[],[[4]]),(285,[],[[4,5]]),(286,[],[[2]]),(287,[],[[4]]),(288,[],[[3]]),(291,[],[[6,7]]),(292,[],[[2]]),(293,[],[[6]]),(294,[(3,[0,1,7,8])],[[4],[],[0,1,7,8]]),(296,[],[[4]]),(298,[],[[2]]),(299,[(4,[0,3,6,7])],[[2],[3],[0,3,6,7]]),(300,[(3,[0,5,6])],[[2],[0],[0,5,6]]),(301,[],[[2]]),(305,[(3,[0,1,7,8])],[[4],[],[0,1,7,8]]),(307,[(4,[0,1,2,8,9,10])],[[6,7],[0,1,2,8,9],[0,1,2,8,9,10]]),(308,[],[[5]]),(311,[(2,[0,2,3])],[[],[],[0,2,3]]),(312,[(5,[0,1,12,13])],[[4],[],[0,1,12,13]]),(313,[(2,[0,2,3])],[[],[],[0,2,3]]),(316,[(2,[0,2,3])],[[],[],[0,2,3]]),(318,[(2,[0,2,3])],[[],[],[0,2,3]])]
noncomputable def G0:bN SS:=⟨KK,[],[],[],ry γ aq,[]⟩
theorem Yj:ag G0 γ:=⟨dc,⟨λf a h=>by cases h⟩,(λf c h=>by cases h),(λg b h=>by cases h),mixed,aT⟩
end Go.Proofs.YtoggponeookhbaaGreatDoor
end
section
namespace Go.Proofs.YtoggponeookhbaaGreatDoor
open Go.RowKit Go.Dc Go.Vx
set_option maxRecDepth 100000 in
set_option maxHeartbeats 12000000 in
theorem km:(∀ {O:Γ} {w:World},OB O w-> ∀ {v0:Value} {x0:List ah},(Ty.slice gU).is O w v0 x0-> ∀ {r:List ah},app 32 [] x0=some r->let T:=gU;Calls γ 76 #[v0] w (eN gU 115 w.heap.size O w (.slice none 0 0) r))/\(∀ {O:Γ} {w:World},OB O w-> ∀ {v0:Value} {x0:List ai},(Ty.slice iu).is O w v0 x0-> ∀ {r:List ai},app 24 [] x0=some r->let T:=iu;Calls γ 77 #[v0] w (eN iu 105 w.heap.size O w (.slice none 0 0) r))/\(∀ {O:Γ} {w:World},OB O w-> ∀ {v0:Value} {x0:List ay},(Ty.slice k1).is O w v0 x0-> ∀ {r:List ay},app 16 [] x0=some r->let T:=k1;Calls γ 78 #[v0] w (eN k1 122 w.heap.size O w (.slice none 0 0) r))/\(∀ {O:Γ} {w:World},OB O w-> ∀ {v0:Value} {x0:List au},(Ty.slice dX).is O w v0 x0-> ∀ {r:List au},app 16 [] x0=some r->let T:=dX;Calls γ 79 #[v0] w (eN dX 127 w.heap.size O w (.slice none 0 0) r))/\(∀ {O:Γ} {w:World},OB O w-> ∀ {v0:Value} {x0:Γa},(Ty.slice (Ty.int .u64)).is O w v0 x0-> ∀ {r:Γa},app 8 [] x0=some r->let T:=(Ty.int .u64);Calls γ 80 #[v0] w (eN (Ty.int .u64) 35 w.heap.size O w (.slice none 0 0) r))/\(∀ {O:Γ} {w:World},OB O w-> ∀ {v0:Value} {x0:List aA},(Ty.slice ji).is O w v0 x0-> ∀ {r:List aA},app 88 [] x0=some r->let T:=ji;Calls γ 14 #[v0] w (eN ji 42 w.heap.size O w (.slice none 0 0) r)):=by
 refine⟨?_,?_,?_,?_,?_,?_⟩
 all_goals
  intro O w hO v0 x0 c r h T;have a:=Fr.refl [] w;have k:=hO;have b:=Dc.Sub.refl O;have j:=ξ4 w.heap.size;refine gx (args:=[v0]) (N:=8) (by first|exact ζf|exact ζg|exact ζh|exact ζi|exact ζj|exact ζk) rfl rfl rfl ?_;refine aU (bg (l:=[0]) rfl (aK aj [0] [(0,v0)] rfl ⟨rfl,trivial⟩ (a_ (aV (aU (aU (bg (l:=[0,1]) rfl (aK aj [0] [(0,v0),(3,v0)] rfl ⟨rfl,rfl,trivial⟩ ?_))))))));obtain⟨A2,g,rfl,s,t⟩:=eW c;refine aK aj [1] [(0,.slice A2 x0.length g),(4,.bool A2.isNone)] rfl ⟨rfl,rfl,trivial⟩ (a_ (aV ?_));rcases A2 with _|n
  ·obtain rfl:=yt c;simp[app] at h;subst h;refine oo rfl (aU (bg (l:=[0]) rfl (aK aj [0] [(2,.slice none 0 0)] rfl ⟨rfl,trivial⟩ (a_ (aV (dC ?_))))));exact fC (eY rfl (OF Own.iZ b a k j))
  refine k3 rfl (eF (aV (aU (bg (l:=[0,1,2,3]) rfl (Vo aj rfl rfl rfl rfl rfl rfl rfl rfl rfl rfl (T:=T) (xs:=[]) (vs:=[]) rfl trivial rfl rfl rfl hO (λf v m=>?_))))));obtain⟨_,e,_⟩:=m.new;have i:=m.own a.size;have c:=c.tr e.tr;have hO:=e.ob;have a:=a.trans e.fr;have b:=Sub.cons b f;generalize (ζl (some ⟨f,0,none⟩) 0 0)=p at*
  refine aK aj [1] [(5,p),(6,.slice (some n) x0.length g)] rfl ⟨rfl,rfl,trivial⟩ (Vk aj rfl rfl rfl rfl rfl rfl rfl rfl rfl rfl rfl rfl rfl rfl a hO i c h (λv11 u q d=>?_));have a:=d.cj i a;have b:=Sub.trans b d.sub;have hO:=d.ob;have o:=d.own;refine aK aj [3] [(2,v11)] rfl ⟨rfl,trivial⟩ (a_ (aV (dC ?_)));exact eY rfl (OF o b a k j)
def FH:eO SS:=kK KK 76 115 (λxs=>app 32 [] xs)
theorem abv {R:Type} (xs:List (aB SS)) (h:AH SS) (k:Rs SS->AH SS->Γ->Option R) (z:R) (a:(FH).out xs h k=some z): ∃r h' dt,k r h' dt=some z/\dk KK γ 76 xs h r h' dt:=
 nK (e:=115) (cl:=λxs=>app 32 [] xs) dc (c9 aT ζf rfl) (λ_ _ _ _ _ _ h=>h) (λO w v xs zs hO b a=>km.1 hO b a) xs h k z a
def FI:eO SS:=kK KK 77 105 (λxs=>app 24 [] xs)
theorem abw {R:Type} (xs:List (aB SS)) (h:AH SS) (k:Rs SS->AH SS->Γ->Option R) (z:R) (a:(FI).out xs h k=some z): ∃r h' dt,k r h' dt=some z/\dk KK γ 77 xs h r h' dt:=
 nK (e:=105) (cl:=λxs=>app 24 [] xs) dc (c9 aT ζg rfl) (λ_ _ _ _ _ _ h=>h) (λO w v xs zs hO b a=>km.2.1 hO b a) xs h k z a
def FJ:eO SS:=kK KK 78 122 (λxs=>app 16 [] xs)
theorem abx {R:Type} (xs:List (aB SS)) (h:AH SS) (k:Rs SS->AH SS->Γ->Option R) (z:R) (a:(FJ).out xs h k=some z): ∃r h' dt,k r h' dt=some z/\dk KK γ 78 xs h r h' dt:=
 nK (e:=122) (cl:=λxs=>app 16 [] xs) dc (c9 aT ζh rfl) (λ_ _ _ _ _ _ h=>h) (λO w v xs zs hO b a=>km.2.2.1 hO b a) xs h k z a
def FK:eO SS:=kK KK 79 127 (λxs=>app 16 [] xs)
theorem aby {R:Type} (xs:List (aB SS)) (h:AH SS) (k:Rs SS->AH SS->Γ->Option R) (z:R) (a:(FK).out xs h k=some z): ∃r h' dt,k r h' dt=some z/\dk KK γ 79 xs h r h' dt:=
 nK (e:=127) (cl:=λxs=>app 16 [] xs) dc (c9 aT ζi rfl) (λ_ _ _ _ _ _ h=>h) (λO w v xs zs hO b a=>km.2.2.2.1 hO b a) xs h k z a
def FL:eO SS:=kK KK 80 35 (λxs=>app 8 [] xs)
theorem abz {R:Type} (xs:List (aB SS)) (h:AH SS) (k:Rs SS->AH SS->Γ->Option R) (z:R) (a:(FL).out xs h k=some z): ∃r h' dt,k r h' dt=some z/\dk KK γ 80 xs h r h' dt:=
 nK (e:=35) (cl:=λxs=>app 8 [] xs) dc (c9 aT ζj rfl) (λ_ _ _ _ _ _ h=>h) (λO w v xs zs hO b a=>km.2.2.2.2.1 hO b a) xs h k z a
def FG:eO SS:=kK KK 14 42 (λxs=>app 88 [] xs)
theorem abu {R:Type} (xs:List (aB SS)) (h:AH SS) (k:Rs SS->AH SS->Γ->Option R) (z:R) (a:(FG).out xs h k=some z): ∃r h' dt,k r h' dt=some z/\dk KK γ 14 xs h r h' dt:=
 nK (e:=42) (cl:=λxs=>app 88 [] xs) dc (c9 aT ζk rfl) (λ_ _ _ _ _ _ h=>h) (λO w v xs zs hO b a=>km.2.2.2.2.2 hO b a) xs h k z a
set_option maxRecDepth 100000
noncomputable def zd:bN SS:= {G0 with H:=FH::G0.H}
theorem Ye:ag zd γ:=ag.hg (c:=FH) Yj abv
noncomputable def ze:bN SS:= {zd with H:=FI::zd.H}
theorem Yf:ag ze γ:=ag.hg (c:=FI) Ye abw
noncomputable def zf:bN SS:= {ze with H:=FJ::ze.H}
theorem Yg:ag zf γ:=ag.hg (c:=FJ) Yf abx
noncomputable def zg:bN SS:= {zf with H:=FK::zf.H}
theorem Yh:ag zg γ:=ag.hg (c:=FK) Yg aby
noncomputable def zh:bN SS:= {zg with H:=FL::zg.H}
theorem Yi:ag zh γ:=ag.hg (c:=FL) Yh abz
noncomputable def G1:bN SS:= {zh with H:=FG::zh.H}
theorem Yk:ag G1 γ:=ag.hg (c:=FG) Yi abu
end Go.Proofs.YtoggponeookhbaaGreatDoor
end
section
namespace Go.Proofs.YtoggponeookhbaaGreatDoor
open Go.RowKit Go.Dc Go.Vx
set_option maxRecDepth 100000 in
set_option maxHeartbeats 4000000 in
theorem adI {w:World} (s:ByteArray) (c:Int):Calls γ 283 #[.string s,.int .u8 c] w (λe w'=>e= .returned (.int .i64 (ξ1 s.data.toList c.toNat.toUInt8))/\Fr [] w w'):=by
 have g:=Fr.refl [] w;refine gx (args:=[.string s,.int .u8 c]) (N:=8) ζ1 rfl rfl rfl (aU (bg (l:=[0]) rfl (aK aj [0] [(0,.string s),(1,.int .u8 c)] rfl ⟨rfl,rfl,trivial⟩ (a_ (aV (aU (bg (l:=[0,1,2,3]) rfl (aK aj [0,1] [(5,.string s),(6,.int .u8 c)] rfl ⟨rfl,rfl,trivial⟩ ?_))))))));have i:(callFunc 302 #[.string s,.int .u8 c]).run γ w= .ok (.value (.int .i64 (ξ1 s.data.toList c.toNat.toUInt8))) w:=by
  rw[run_callFunc_extern Tryz.func302 rfl rfl rfl rfl,Lib.run_indexByteString];rfl
 refine eh rfl rfl rfl rfl (by intro c h;cases h) (λa b=>?_) (v:=.int .i64 (ξ1 s.data.toList c.toNat.toUInt8)) (w':=w) (d:=7) ?_
 ·have h1:=b.get 5 _ rfl;have f:=b.get 6 _ rfl;simp only[execOp,ι,resolve,Act.eval,Deferred.ofValue,Sem.run_pure,θ,invoke];simpa[Act.eval,h1,f] using i
 refine aK aj [3] [(4,.int .i64 (ξ1 s.data.toList c.toNat.toUInt8))] rfl ⟨rfl,trivial⟩ (a_ (aV (dC ?_)));exact eY rfl ⟨rfl,g⟩
def w7:eM SS:=⟨283,λxs k=>match xs with
 |[.one (.v (.string s)),.one (.v (.int .u8 c))]=>k (.ret (.s (.one (.v (.int .i64 (ξ1 s.data.toList c.toNat.toUInt8))))))
 |_=>none⟩
theorem adJ {R:Type} (xs:List (aB SS)) (k:Rs SS->Option R) (z:R) (_:xs.all aB.pure=true) (a:w7.out xs k=some z): ∃r,k r=some z/\ej KK γ 283 xs r:=by
 simp only[w7] at a;split at a
 ·rename_i s c i;refine⟨_,a,c9 aT ζ1 rfl,λA O w vs g hO j=>?_⟩;obtain⟨y,ys,rfl,⟨h1,_⟩,l,h,rfl,⟨b,_⟩,d⟩:=g;cases h1;cases b;rw[show h=[] from d];refine(adI s c).mono ?_;rintro e w' ⟨rfl,f⟩;exact⟨⟨_,rfl,rfl,rfl⟩,f⟩
 ·cases a
set_option maxRecDepth 100000
noncomputable def G2:bN SS:= {G1 with C:=w7::G1.C}
theorem Yl:ag G2 γ:=ag.f_ (c:=w7) Yk adJ
end Go.Proofs.YtoggponeookhbaaGreatDoor
end
section
namespace Go.Proofs.YtoggponeookhbaaGreatDoor
open Go.RowKit Go.Dc Go.Vx
theorem Un (e:Int) (w:World):(ξg (.iface 27 (.int .i64 e)) 20 27 true).run γ w= .ok (.tuple #[.int .i64 e,.bool true]) w:=by
 simp[ξg,run_underlying Tryz.underlying27]
theorem RM (e:Int) (w:World) (ox oy:Operand):(do eqGuard .neq 20 ox oy (.iface 27 (.int .i64 e)) .nilIface;binOp .neq 20 (.iface 27 (.int .i64 e)) .nilIface:Sem Value).run γ w= .ok (.bool true) w:=by
 simp[go_sem]
theorem RN (w:World) (ox:Operand):(do eqGuard .neq 20 ox (.const .nilIface) .nilIface .nilIface;binOp .neq 20 .nilIface .nilIface:Sem Value).run γ w= .ok (.bool false) w:=by
 simp[go_sem,eqGuard]
set_option maxHeartbeats 4000000 in
theorem abT {w:World} {p1 p2:Value}:
  CallsDIn (fw none) 0 γ 254 #[p1,p2] .returning w (λf k w'=>(∃v,f= .returned v)/\k= .returning/\w'=w):=by
 refine callsDIn_of_wpSIn ξp rfl (by simp[fw]) λm cs hu=>?_;apply wpSIn_seq;apply wpSIn_region;simp[wpOpsSIn,go_sem,recoverD,hu,ξY,ξH];refine wpSIn_of_wpIn rfl ?_;obtain⟨b,e⟩: ∃b:Env,b=[(0,p1),(1,p2),(2,.nilIface)]:=⟨_,rfl⟩;refine(show WC γ none 18 _ _ b [] w from ?_) _ ⟨by simp,rfl,b7 (by subst e;refine⟨?_,?_,?_,trivial⟩<;>simp)⟩;subst e;refine aU (bg (l:=[0,1]) rfl (aK aj [0] [(6,.nilIface)] rfl ⟨rfl,trivial⟩ (eh (d:=7) rfl rfl rfl rfl (by intro c h;cases h) (λa g=>?_) (v:=.bool false) (w':=w) ?_)))
 ·have h:=g.get 6 _ rfl;show(do let v<-(do eqGuard .neq 20 (.tmp 6) (.const .nilIface) (a.tmps.getD 6 undef) .nilIface;binOp .neq 20 (a.tmps.getD 6 undef) .nilIface:Sem Value);pure (ξm v):Sem Next).run _ w=_;rw[ι,h,RN];rfl
 refine a_ (aV (k3 rfl (eF λa i=>?_)));have j:(results Tryz.f254 a.tmps).run γ w= .ok (.tuple #[]) w:=by simp[results,ξP]
 simp only[bodyPostS];refine⟨i.defers,.returning,?_,.tuple #[],j,?_⟩
 ·rw[<-hu]
 ·simp
set_option maxHeartbeats 4000000 in
theorem abV {w:World} {b f:Nat} {n o:Γb} (e:Int) (h1:bM w b 50 n) (i:bM w f 27 o) (k:n.length=17) (m:o.length=1) (s:b≠f):
  CallsDIn (fw none) 0 γ 254 #[.pointer (some ⟨b,0,none⟩),.pointer (some ⟨f,0,none⟩)] (.panicking [{v:=.iface 27 (.int .i64 e),recovered:=false}]) w
   (λq y w'=>(∃v,q= .returned v)/\settle y= .returning/\ ∃w1,Fr [b] w w1/\bM w1 b 50 (χ 16 (.int .i64 0)++[.slice none 0 0])/\Fr [f] w1 w'/\bM w' f 27 [.int .i64 e]):=by
 refine callsDIn_of_wpSIn ξp rfl (by simp[fw]) λz cs hu=>?_;apply wpSIn_seq;apply wpSIn_region;simp[wpOpsSIn,go_sem,recoverD,hu,ξY,ξH];refine wpSIn_of_wpIn rfl ?_;obtain⟨g,p⟩: ∃g:Env,g=[(0,.pointer (some ⟨b,0,none⟩)),(1,.pointer (some ⟨f,0,none⟩)),(2,.iface 27 (.int .i64 e))]:=⟨_,rfl⟩;refine(show WC γ none 18 _ _ g [] w from ?_) _ ⟨by simp,rfl,b7 (by subst p;refine⟨?_,?_,?_,trivial⟩<;>simp)⟩;subst p;refine aU (bg (l:=[0,1]) rfl (aK aj [0] [(0,.pointer (some ⟨b,0,none⟩)),(1,.pointer (some ⟨f,0,none⟩)),(2,.iface 27 (.int .i64 e)),(6,.iface 27 (.int .i64 e))] rfl ⟨rfl,rfl,rfl,rfl,trivial⟩ (eh (d:=7) rfl rfl rfl rfl (by intro c h;cases h) (λa j=>?_) (v:=.bool true) (w':=w) ?_)))
 ·have h:=j.get 6 _ rfl;show(do let v<-(do eqGuard .neq 20 (.tmp 6) (.const .nilIface) (a.tmps.getD 6 undef) .nilIface;binOp .neq 20 (a.tmps.getD 6 undef) .nilIface:Sem Value);pure (ξm v):Sem Next).run _ w=_;rw[ι,h,RM];rfl
 refine a_ (aV (oo rfl (aU (bg (l:=[0,1,2,3,4,5,6]) rfl (aK aj [0] [(0,.pointer (some ⟨b,0,none⟩)),(1,.pointer (some ⟨f,0,none⟩)),(9,.iface 27 (.int .i64 e))] rfl ⟨rfl,rfl,rfl,trivial⟩ (eh (d:=10) rfl rfl rfl rfl (by intro c h;cases h) (λa j=>?_) (v:=.tuple #[.int .i64 e,.bool true]) (w':=w) ?_))))))
 ·have h:=j.get 9 _ rfl;show(do let v<-ξg (a.tmps.getD 9 undef) 20 27 true;pure (ξm v):Sem Next).run _ w=_;rw[ι,h,Un];rfl
 refine aK aj [2,3,4,5,6] [(0,.pointer (some ⟨b,0,none⟩)),(1,.pointer (some ⟨f,0,none⟩)),(3,.int .i64 e),(4,.bool true)] rfl ⟨rfl,rfl,rfl,rfl,trivial⟩ (a_ (aV (aU (aU (bg (l:=[0,1]) rfl (aK aj [0,1] [(0,.pointer (some ⟨b,0,none⟩)),(1,.pointer (some ⟨f,0,none⟩)),(3,.int .i64 e),(14,.bool false)] rfl ⟨rfl,rfl,rfl,rfl,trivial⟩ (a_ (aV (k3 rfl (eF (aV (bg (l:=[0,1,2,3]) rfl (aK aj [0,1] [(0,.pointer (some ⟨b,0,none⟩)),(1,.pointer (some ⟨f,0,none⟩)),(16,.agg (χ 16 (ξd .i64 0)++[ζl none 0 0]).toArray),(17,.int .i64 e)] rfl ⟨rfl,rfl,rfl,rfl,trivial⟩ (eX aj rfl rfl rfl rfl rfl rfl rfl h1 (χ 16 (.int .i64 0)++[.slice none 0 0]) rfl rfl (by simp[χ,ξx]) (by rw[k];rfl) (χ 16 (.int .i64 0)++[.slice none 0 0]) (by unfold putAt;rw[ξ3 (by simp[k,m])];rfl) (λw1 u f1=>?_)))))))))))))));have i:=i.fr f1 (by simpa using s.symm);refine eX aj rfl rfl rfl rfl rfl rfl rfl i [.int .i64 e] rfl rfl (by simp[ξx]) (by rw[m];rfl) [.int .i64 e] (by unfold putAt;rw[ξ3 (by simp[k,m])];rfl) (λw2 x f2=>?_);refine a_ λa r=>?_;have t:(results Tryz.f254 a.tmps).run γ w2= .ok (.tuple #[]) w2:=by simp[results,ξP]
 simp only[bodyPostS];refine⟨r.defers,.panicking [{v:=.iface 27 (.int .i64 e),recovered:=true}],rfl,.tuple #[],t,⟨.tuple #[],rfl⟩,rfl,w1,f1,u,f2,x⟩
def yQ:Γb:=χ 16 (.int .i64 0)++[.slice none 0 0]
def uS:mn SS:=⟨254,λcs p a k=>match cs with
 |[.one (.aM i 0),.one (.aM j 0)]=>(match p with
  |none=>k none []
  |some (.iface 27 (.int .i64 e))=>(match a i,a j with
   |some (.box 50 b),some (.box 27 c)=>bif !(ξ i j)&&(ξ (dQ b) 17&&ξ (dQ c) 1) then k none [(i,some (.box 50 (yQ.map .v))),(j,some (.box 27 [.v (.int .i64 e)]))] else none
   |_,_=>none)
  |_=>none)
 |_=>none⟩
theorem RL {i j:Nat} (h:(!(ξ i j))=true):i≠j:=λe=>by subst e;simp at h
theorem abU {R:Type} (cs:List (aB SS)) (p:Option Value) (c:Nat->Option (Ob SS)) (k:Option Value->Up SS->Option R) (z:R) (a:uS.out cs p c k=some z): ∃q up,k q up=some z/\mo KK γ 254 cs p c q up:=by
 simp only[uS] at a;split at a
 rotate_left
 ·cases a
 rename_i i j;split at a
 ·refine⟨_,_,a,c9 aT ξp rfl,λA O w xs u r b hO I hm=>?_⟩;obtain⟨x1,ys,rfl,⟨g,_,h⟩,U,s,rfl,⟨t,_,l⟩,m⟩:=r;cases h;cases l;rw[show s=[] from m,show u=_ from hm];refine abT.mono ?_;rintro e T w' ⟨h1,rfl,rfl⟩;exact⟨h1,rfl,A,O,cf.none hO⟩
 ·rename_i e;split at a
  rotate_left
  ·cases a
  rename_i E x h1 n;cases o:(!(ξ i j)&&(ξ (dQ E) 17&&ξ (dQ x) 1))<;>rw[o] at a
  ·cases a
  simp only[ξf] at o;obtain⟨d,L,M⟩:=o;have d:=RL d;refine⟨_,_,a,c9 aT ξp rfl,λA O w xs u r b hO I hm=>?_⟩;obtain⟨g,ab,p1,N,Q,Z⟩:=qX b h1;obtain⟨t,ad,p2,P,S,aa⟩:=qX b n;obtain⟨x1,ys,rfl,⟨W,B,h⟩,U,s,rfl,⟨X,C,l⟩,m⟩:=r;rw[p1] at B;rw[p2] at C;cases B;cases C;cases h;cases l;rw[show s=[] from m,show u=_ from hm];have K:g≠t:=λe=>b.dj i j _ _ _ _ g d h1 n p1 p2 rfl (by rw[e];rfl);refine(abV e N P ((gR Q).trans (ν L)) ((gR S).trans (ν M)) K).mono ?_;rintro Y T w' ⟨G,H,w1,f1,m1,f2,m2⟩;have f:cf A O w c [(i,some (.box 50 (yQ.map .v)))] A O w1:=uV b hO h1 p1 f1 m1 (S9 (by decide));have J:=b.cg hO f;have F:b9 c [(i,some (.box 50 (yQ.map LV.v)))] j=some (.box 27 x):=by
   rw[ee (λV y=>d (by simp at y;exact y.1.symm))];exact n
  have D:cf A O w1 (b9 c [(i,some (.box 50 (yQ.map .v)))]) [(j,some (.box 27 [.v (.int .i64 e)]))] A O w':=uV J f.ob F p2 f2 m2 ⟨[.int .i64 e],[],rfl,⟨rfl,rfl⟩,rfl⟩;exact⟨G,H,A,O,cf.two b d f D hO⟩
 ·cases a
set_option maxHeartbeats 4000000 in
theorem abQ {w:World} {p1 p2 f:Value}:
  CallsDIn (fw none) 0 γ 70 #[p1,p2,f] .returning w (λg m w'=>(∃v,g= .returned v)/\m= .returning/\w'=w):=by
 refine callsDIn_of_wpSIn ξz rfl (by simp[fw]) λn cs hu=>?_;apply wpSIn_seq;apply wpSIn_region;simp[wpOpsSIn,go_sem,recoverD,hu,ζ2,ξH];refine wpSIn_of_wpIn rfl ?_;obtain⟨b,e⟩: ∃b:Env,b=[(0,p1),(1,p2),(2,f),(3,.nilIface)]:=⟨_,rfl⟩;refine(show WC γ none 20 _ _ b [] w from ?_) _ ⟨by simp,rfl,b7 (by subst e;refine⟨?_,?_,?_,?_,trivial⟩<;>simp)⟩;subst e;refine aU (bg (l:=[0,1]) rfl (aK aj [0] [(7,.nilIface)] rfl ⟨rfl,trivial⟩ (eh (d:=8) rfl rfl rfl rfl (by intro c h;cases h) (λa i=>?_) (v:=.bool false) (w':=w) ?_)))
 ·have h:=i.get 7 _ rfl;show(do let v<-(do eqGuard .neq 20 (.tmp 7) (.const .nilIface) (a.tmps.getD 7 undef) .nilIface;binOp .neq 20 (a.tmps.getD 7 undef) .nilIface:Sem Value);pure (ξm v):Sem Next).run _ w=_;rw[ι,h,RN];rfl
 refine a_ (aV (k3 rfl (eF λa j=>?_)));have k:(results Tryz.f70 a.tmps).run γ w= .ok (.tuple #[]) w:=by simp[results,ξU]
 simp only[bodyPostS];refine⟨j.defers,.returning,?_,.tuple #[],k,?_⟩
 ·rw[<-hu]
 ·simp
set_option maxHeartbeats 4000000 in
theorem abS {w:World} {i b f:Nat} {g o p:Γb} (e:Int) (x:bM w i 60 g) (h1:bM w b 60 o) (m:bM w f 40 p) (j:g.length=22) (r:o.length=22) (s:p.length=2) (A: ∀u∈g,u.oneCell'=true) (z:b≠f):
  CallsDIn (fw none) 0 γ 70 #[.pointer (some ⟨i,0,none⟩),.pointer (some ⟨b,0,none⟩),.pointer (some ⟨f,0,none⟩)] (.panicking [{v:=.iface 27 (.int .i64 e),recovered:=false}]) w
   (λt E w'=>(∃v,t= .returned v)/\settle E= .returning/\ ∃w1,Fr [b] w w1/\bM w1 b 60 g/\Fr [f] w1 w'/\bM w' f 40 [.int .i64 e,.int .u64 0]):=by
 refine callsDIn_of_wpSIn ξz rfl (by simp[fw]) λF cs hu=>?_;apply wpSIn_seq;apply wpSIn_region;simp[wpOpsSIn,go_sem,recoverD,hu,ζ2,ξH];refine wpSIn_of_wpIn rfl ?_;obtain⟨k,q⟩: ∃k:Env,k=[(0,.pointer (some ⟨i,0,none⟩)),(1,.pointer (some ⟨b,0,none⟩)),(2,.pointer (some ⟨f,0,none⟩)),(3,.iface 27 (.int .i64 e))]:=⟨_,rfl⟩;refine(show WC γ none 20 _ _ k [] w from ?_) _ ⟨by simp,rfl,b7 (by subst q;refine⟨?_,?_,?_,?_,trivial⟩<;>simp)⟩;subst q;refine aU (bg (l:=[0,1]) rfl (aK aj [0] [(0,.pointer (some ⟨i,0,none⟩)),(1,.pointer (some ⟨b,0,none⟩)),(2,.pointer (some ⟨f,0,none⟩)),(3,.iface 27 (.int .i64 e)),(7,.iface 27 (.int .i64 e))] rfl ⟨rfl,rfl,rfl,rfl,rfl,trivial⟩ (eh (d:=8) rfl rfl rfl rfl (by intro c h;cases h) (λa n=>?_) (v:=.bool true) (w':=w) ?_)))
 ·have h:=n.get 7 _ rfl;show(do let v<-(do eqGuard .neq 20 (.tmp 7) (.const .nilIface) (a.tmps.getD 7 undef) .nilIface;binOp .neq 20 (a.tmps.getD 7 undef) .nilIface:Sem Value);pure (ξm v):Sem Next).run _ w=_;rw[ι,h,RM];rfl
 refine a_ (aV (oo rfl (aU (bg (l:=[0,1,2,3,4,5,6]) rfl (aK aj [0] [(0,.pointer (some ⟨i,0,none⟩)),(1,.pointer (some ⟨b,0,none⟩)),(2,.pointer (some ⟨f,0,none⟩)),(10,.iface 27 (.int .i64 e))] rfl ⟨rfl,rfl,rfl,rfl,trivial⟩ (eh (d:=11) rfl rfl rfl rfl (by intro c h;cases h) (λa n=>?_) (v:=.tuple #[.int .i64 e,.bool true]) (w':=w) ?_))))))
 ·have h:=n.get 10 _ rfl;show(do let v<-ξg (a.tmps.getD 10 undef) 20 27 true;pure (ξm v):Sem Next).run _ w=_;rw[ι,h,Un];rfl
 refine aK aj [2,3,4,5,6] [(0,.pointer (some ⟨i,0,none⟩)),(1,.pointer (some ⟨b,0,none⟩)),(2,.pointer (some ⟨f,0,none⟩)),(4,.int .i64 e),(5,.bool true)] rfl ⟨rfl,rfl,rfl,rfl,rfl,trivial⟩ (a_ (aV (aU (aU (bg (l:=[0,1]) rfl (aK aj [0,1] [(0,.pointer (some ⟨i,0,none⟩)),(1,.pointer (some ⟨b,0,none⟩)),(2,.pointer (some ⟨f,0,none⟩)),(4,.int .i64 e),(15,.bool false)] rfl ⟨rfl,rfl,rfl,rfl,rfl,trivial⟩ (a_ (aV (k3 rfl (eF (aV (bg (l:=[0,1,2,3,4]) rfl (dR aj rfl rfl rfl rfl rfl rfl rfl x g (by rw[ξV];exact List.take_of_length_le (by rw[j];decide)) j (.inl rfl) (.agg g.toArray) rfl ?_)))))))))))));refine aK aj [1,2] [(1,.pointer (some ⟨b,0,none⟩)),(2,.pointer (some ⟨f,0,none⟩)),(17,.agg g.toArray),(19,.agg #[.int .i64 e,.int .u64 0])] rfl ⟨rfl,rfl,rfl,rfl,trivial⟩ (eX aj rfl rfl rfl rfl rfl rfl rfl h1 g rfl j A (by rw[r];rfl) g (by unfold putAt;rw[ξ3 (by simp[r,j]),ξn];rfl) (λw1 C f1=>?_));have m:=m.fr f1 (by simpa using z.symm);refine eX aj rfl rfl rfl rfl rfl rfl rfl m [.int .i64 e,.int .u64 0] rfl rfl (by simp[ξx]) (by rw[s];rfl) [.int .i64 e,.int .u64 0] (by unfold putAt;rw[ξ3 (by simp[s])];rfl) (λw2 D f2=>?_);refine a_ λa y=>?_;have B:(results Tryz.f70 a.tmps).run γ w2= .ok (.tuple #[]) w2:=by simp[results,ξU]
 simp only[bodyPostS];refine⟨y.defers,.panicking [{v:=.iface 27 (.int .i64 e),recovered:=true}],rfl,.tuple #[],B,⟨.tuple #[],rfl⟩,rfl,w1,f1,C,f2,D⟩
def uR:mn SS:=⟨70,λcs p a k=>match cs with
 |[.one (.aM h 0),.one (.aM i 0),.one (.aM j 0)]=>(match p with
  |none=>k none []
  |some (.iface 27 (.int .i64 e))=>(match a h,a i,a j with
   |some (.box 60 b),some (.box 60 c),some (.box 40 d)=>bif !(ξ i j)&&(ξ (dQ b) 22&&(ξ (dQ c) 22&&ξ (dQ d) 2)) then k none [(i,some (.box 60 b)),(j,some (.box 40 [.v (.int .i64 e),.v (.int .u64 0)]))] else none
   |_,_,_=>none)
  |_=>none)
 |_=>none⟩
theorem abR {R:Type} (cs:List (aB SS)) (p:Option Value) (c:Nat->Option (Ob SS)) (k:Option Value->Up SS->Option R) (z:R) (a:uR.out cs p c k=some z): ∃q up,k q up=some z/\mo KK γ 70 cs p c q up:=by
 simp only[uR] at a;split at a
 rotate_left
 ·cases a
 rename_i h i j;split at a
 ·refine⟨_,_,a,c9 aT ξz rfl,λA O w xs u x b hO Q hm=>?_⟩;obtain⟨x0,ah,rfl,⟨J,_,m⟩,x1,ys,rfl,⟨l,_,n⟩,ag,B,rfl,⟨C,_,o⟩,r⟩:=x;cases m;cases n;cases o;rw[show B=[] from r,show u=_ from hm];refine abQ.mono ?_;rintro e af w' ⟨h1,rfl,rfl⟩;exact⟨h1,rfl,A,O,cf.none hO⟩
 ·rename_i e;split at a
  rotate_left
  ·cases a
  rename_i f K D L h1 s;cases t:(!(ξ i j)&&(ξ (dQ f) 22&&(ξ (dQ K) 22&&ξ (dQ D) 2)))<;>rw[t] at a
  ·cases a
  simp only[ξf] at t;obtain⟨d,U,W,X⟩:=t;have d:=RL d;refine⟨_,_,a,c9 aT ξz rfl,λA O w xs u x b hO Q hm=>?_⟩;obtain⟨J,ao,ab,k0,y,o0⟩:=qX b L;obtain⟨l,aq,p1,Y,ad,aa⟩:=qX b h1;obtain⟨C,ar,p2,Z,ae,an⟩:=qX b s;obtain⟨x0,ah,rfl,⟨ai,F,m⟩,x1,ys,rfl,⟨aj,G,n⟩,ag,B,rfl,⟨ak,H,o⟩,r⟩:=x;rw[ab] at F;rw[p1] at G;rw[p2] at H;cases F;cases G;cases H;cases m;cases n;cases o;rw[show B=[] from r,show u=_ from hm];have T:l≠C:=λe=>b.dj i j _ _ _ _ l d h1 s p1 p2 rfl (by rw[e];rfl);refine(abS e k0 Y Z ((gR y).trans (ν U)) ((gR ad).trans (ν W)) ((gR ae).trans (ν X)) (S7 y) T).mono ?_;rintro al af w' ⟨N,P,w1,f1,m1,f2,m2⟩;have g:cf A O w c [(i,some (.box 60 f))] A O w1:=uV b hO h1 p1 f1 m1 (jV (f1.tr (gM aa)) (Pl.le.refl A) y);have S:=b.cg hO g;have M:b9 c [(i,some (.box 60 f))] j=some (.box 40 D):=by
   rw[ee (λV E=>d (by simp at E;exact E.1.symm))];exact s
  have I:cf A O w1 (b9 c [(i,some (.box 60 f))]) [(j,some (.box 40 [.v (.int .i64 e),.v (.int .u64 0)]))] A O w':=uV S g.ob M p2 f2 m2 ⟨[.int .i64 e],[.int .u64 0],rfl,⟨rfl,rfl⟩,[.int .u64 0],[],rfl,⟨rfl,rfl⟩,rfl⟩;exact⟨N,P,A,O,cf.two b d g I hO⟩
 ·cases a
noncomputable def zi:bN SS:= {G2 with D:=uS::G2.D}
theorem Yn:ag zi γ:=ag.NV (c:=uS) Yl abU
noncomputable def G3:bN SS:= {zi with D:=uR::zi.D}
theorem Ym:ag G3 γ:=ag.NV (c:=uR) Yn abR
end Go.Proofs.YtoggponeookhbaaGreatDoor
end
section
namespace Go.Proofs
open Go.Shelf
def Tryz.PI:Go.Shelf.Ren:=⟨λ|156=>252|165=>284|166=>285|169=>286|240=>303|241=>304|276=>314|277=>315|n=>n,λ|31=>192|9=>9|3=>3|4=>4|0=>0|20=>20|72=>321|76=>325|70=>319|37=>247|75=>324|127=>336|164=>345|5=>5|80=>327|n=>n,λ|n=>n⟩
theorem Tryz.PH:ζm γ Tryz.PI:= {
 mixed:=by kernel_rfl
 f156:=ζ3.trans (congrArg some (by kernel_rfl))
 f165:=Tryz.func284.trans (congrArg some (by kernel_rfl))
 f166:=Tryz.func285.trans (congrArg some (by kernel_rfl))
 f169:=Tryz.func286.trans (congrArg some (by kernel_rfl))
 f240:=Tryz.func303.trans (congrArg some (by kernel_rfl))
 f241:=Tryz.func304.trans (congrArg some (by kernel_rfl))
 f276:=Tryz.func314.trans (congrArg some (by kernel_rfl))
 f277:=Tryz.func315.trans (congrArg some (by kernel_rfl))
 t0:=Tryz.underlying0
 a0:=Tryz.isAgg0
 z0:=Tryz.sizeOf0
 v0:=Tryz.zeroValue0
 t3:=ξN
 a3:=Tryz.isAgg3
 z3:=Tryz.sizeOf3
 v3:=Tryz.zeroValue3
 t4:=Tryz.underlying4
 a4:=Tryz.isAgg4
 z4:=Tryz.sizeOf4
 v4:=Tryz.zeroValue4
 t9:=Tryz.underlying9
 a9:=Tryz.isAgg9
 z9:=Tryz.sizeOf9
 v9:=Tryz.zeroValue9
 t20:=Tryz.underlying20
 a20:=Tryz.isAgg20
 z20:=Tryz.sizeOf20
 v20:=Tryz.zeroValue20
 t31:=Tryz.underlying192
 a31:=Tryz.isAgg192
 z31:=Tryz.sizeOf192
 v31:=Tryz.zeroValue192
 t37:=Tryz.underlying247
 a37:=Tryz.isAgg247
 z37:=Tryz.sizeOf247
 v37:=Tryz.zeroValue247
 t70:=Tryz.underlying319
 a70:=Tryz.isAgg319
 z70:=Tryz.sizeOf319
 v70:=Tryz.zeroValue319
 t72:=Tryz.underlying321
 a72:=Tryz.isAgg321
 z72:=Tryz.sizeOf321
 v72:=Tryz.zeroValue321
 t75:=Tryz.underlying324
 a75:=Tryz.isAgg324
 z75:=Tryz.sizeOf324
 v75:=Tryz.zeroValue324
 t76:=Tryz.underlying325
 a76:=Tryz.isAgg325
 z76:=Tryz.sizeOf325
 v76:=Tryz.zeroValue325
 t127:=Tryz.underlying336
 a127:=Tryz.isAgg336
 z127:=Tryz.sizeOf336
 v127:=Tryz.zeroValue336
 t164:=Tryz.underlying345
 a164:=Tryz.isAgg345
 z164:=Tryz.sizeOf345
 v164:=Tryz.zeroValue345}
theorem Tryz.Ku:Builder.Extra γ Tryz.PI:= {
 sizeBuilder:=by kernel_rfl
 liesBuilder:=by kernel_rfl
 t5:=Tryz.underlying5
 a5:=Tryz.isAgg5
 z5:=Tryz.sizeOf5
 v5:=Tryz.zeroValue5
 infoByte:=by kernel_rfl
 cellsByte:=by kernel_rfl
 sizeByte:=by kernel_rfl
 neB5:=by decide}
open Go.RowKit in
theorem Tryz.strings_Join_none (a:Option Addr) (c:Nat) (sep:ByteArray) (w:World):
 Calls γ 252 #[.slice a 0 c,.string sep] w λe w'=>e= .returned (.string ⟨#[]⟩)/\w'=w:=Any.strings_Join_none Tryz.PH Tryz.Ku a c sep w
open Go.RowKit in
theorem Tryz.strings_Join (bk o c:Nat) (xs:List ByteArray) (sep:ByteArray) (w:World) (f: ∀(j:Nat) x,xs[j]? =some x->w.cell? ⟨bk,o+j,none⟩=some (.string x)) (b:bk<w.heap.size) (a:xs.length<=140737488355328) (d:xs.length<=c) (hlen:(ζn (xs.map (·.data.toList)) sep.data.toList).length<=140737488355328):
 Calls γ 252 #[.slice (some ⟨bk,o,none⟩) xs.length c,.string sep] w λe w'=>e= .returned (.string ⟨(ζn (xs.map (·.data.toList)) sep.data.toList).toArray⟩)/\Below w.heap.size w w':=Any.strings_Join Tryz.PH Tryz.Ku bk o c xs sep w f b a d hlen
end Go.Proofs
end
section
namespace Go.Proofs.YtoggponeookhbaaGreatDoor
open Go.RowKit Go.Dc Go.Vx
def ho (es:List ByteArray) (sep:ByteArray):ByteArray:=⟨(ζn (es.map (·.data.toList)) sep.data.toList).toArray⟩
theorem aiz {w:World} {ad:Addr} {v:Value} (h:w.cell? ad=some v):ad.spot=none:=by
 unfold World.cell? at h;split at h
 ·split at h
  ·cases h
  ·rename_i a;simpa using a
 ·cases h
theorem adZ {O:Γ} {w:World} {v:Value} {es:List ByteArray} (sep:ByteArray) (z:(Ty.slice Ty.str).is O w v es) (r:es.length<=140737488355328) (hlen:(ho es sep).size<=140737488355328):
  Calls γ 252 #[v,.string sep] w (λe w'=>e= .returned (.string (ho es sep))/\Fr [] w w'):=by
 obtain⟨cs,⟨A,c,t,hl,m⟩,i⟩:=z;subst t;have i:v= .slice A es.length c:=i;subst i;cases es with
 |nil=>
  refine(Tryz.strings_Join_none A c sep w).mono ?_;rintro e w' ⟨rfl,rfl⟩;exact⟨rfl,Fr.refl _ _⟩
 |cons f es=>
  obtain⟨ad,u,g,s,C,a,he⟩:=m 0 f rfl;subst g;have a:u=[.string f]:=a;subst a;have q:(ad.add (0*Ty.str.n)).add 0=ad:=by simp[Addr.add]
  have h1:=he.1 0 (.string f) rfl;rw[q] at h1;have h:=aiz h1;obtain⟨b,o,sp⟩:=ad;have h:sp=none:=h;subst h;refine(Tryz.strings_Join b o c (f::es) sep w (λj x y=>?_) s r hl.1 (by simpa[ho,ByteArray.size] using hlen)).mono ?_
  ·obtain⟨B,u,g,_,_,a,he⟩:=m j x y;cases g;have a:u=[.string x]:=a;subst a;have l:=he.1 0 (.string x) rfl;have p:((⟨b,o,none⟩:Addr).add (j*Ty.str.n)).add 0=⟨b,o+j,none⟩:=by
    rw[add_add,show j*Ty.str.n+0=j by show j*1+0=j;omega];unfold Addr.add;split<;>simp_all
   rw[p] at l;exact l
  ·rintro e w' ⟨rfl,d⟩;exact⟨rfl,d.os,d.tape,d.output,d.size,λk hk _=>d.block k hk⟩
def xc:eM SS:=⟨252,λxs k=>match xs with
 |[.one l,.one (.v (.string sep))]=>(match dO KK (λ_=>none) 9 l with
  |some es=>bif decide (List.length (α:=ByteArray) es<=140737488355328)&&decide ((ho es sep).size<=140737488355328) then k (.ret (.s (.one (.v (.string (ho es sep)))))) else none
  |none=>none)
 |_=>none⟩
theorem ad0 {R:Type} (xs:List (aB SS)) (k:Rs SS->Option R) (z:R) (s:xs.all aB.pure=true) (a:xc.out xs k=some z): ∃r,k r=some z/\ej KK γ 252 xs r:=by
 clear s;simp only[xc] at a;split at a
 rotate_left
 ·cases a
 rename_i l sep;split at a
 rotate_left
 ·cases a
 rename_i es n;rcases iG a with⟨c,a⟩|⟨_,a⟩
 rotate_left
 ·cases a
 simp only[ξf,decide_eq_true_eq] at c;refine⟨_,a,c9 aT ζ3 rfl,λA O w vs t hO v=>?_⟩;obtain⟨y,ys,rfl,h1,x,u,rfl,⟨d,_⟩,f⟩:=t;cases d;rw[show u=[] from f];have o:bW A O w (λ_=>(none:Option (Ob SS))):=⟨(λi X h=>nomatch h),(λi j X Y p q b _ h=>nomatch h)⟩;have m:=jD dc o n h1;refine(adZ sep m c.1 c.2).mono ?_;rintro e w' ⟨rfl,g⟩;exact⟨⟨_,rfl,rfl,rfl⟩,g⟩
noncomputable def G4:bN SS:= {G3 with C:=xc::G3.C}
theorem Yo:ag G4 γ:=ag.f_ (c:=xc) Ym ad0
end Go.Proofs.YtoggponeookhbaaGreatDoor
end
section
namespace Go.Dc
open Go.RowKit
def kU (k:IntKind):Ty (Int×Value) where
 agg:=true
 n:=2
 rep _ _ cs x:=cs=[.int k x.1,x.2]/\ ∃A n c,x.2= .slice A n c
 tr _ h:=h
 len:=λ⟨h,_⟩=>by rw[h];rfl
 one:=λ⟨h,A,n,c,a⟩ u hu=>by
  rw[h,a] at hu;simp only[ξX,ξM,or_false] at hu;rcases hu with rfl|rfl<;>rfl
 fy h:=by cases h
theorem Jc (k:IntKind):(kU k).Flat:=λh=>h
structure c4 {α:Type} (T:Ty α) (e B:Nat) (w:World) (v:Value) (xs:List α):Prop where
 ex: ∃cs,w.ownsRow B e T.n v xs.length cs/\bY T [] w cs xs
section
variable {α:Type} {T:Ty α} {e B:Nat} {O O':Γ} {w w':World} {v:Value} {xs:List α}
theorem Own.iL (h:Own T e B O w v xs):c4 T e B w v xs:=by
 obtain⟨cs,h1,a⟩:=h.ex;exact⟨cs,h1,a.tr (Tr.less (aiD _))⟩
theorem c4.own (b:T.Flat) (h:c4 T e B w v xs) (hO: ∀g,v.ownBlock=some g->g∈O):Own T e B O w v xs:=by
 obtain⟨cs,h1,a⟩:=h.ex;exact⟨⟨cs,h1,yd b a⟩,hO⟩
theorem c4.lt (h:c4 T e B w v xs): ∀g,v.ownBlock=some g->B<=g/\g<w.heap.size:=by
 obtain⟨cs,h1,_⟩:=h.ex;exact h1.lt
theorem c4.keep (d:T.Flat) (h:c4 T e B w v xs) (hk: ∀g,v.ownBlock=some g->w'.heap[g]? =w.heap[g]?):c4 T e B w' v xs:=by
 obtain⟨cs,⟨b,h1⟩,c⟩:=h.ex;refine⟨cs,⟨b,?_⟩,yd d c⟩;rcases h1 with h1|⟨g,cap,cur,a,f,i,r⟩
 ·exact .inl h1
 ·refine .inr ⟨g,cap,cur,a,f,?_,r⟩;rw[hk g (by rw[a];rfl)];exact i
theorem c4.cj (a:T.Flat) (h:c4 T e B w v xs) (b:Fr [] w w'):c4 T e B w' v xs:=h.keep a λg c=>b.block g (h.lt g c).2 (by simp)
theorem c4.less {a:Nat} (h:c4 T e B w v xs) (d:a<=B):c4 T e a w v xs:=by
 obtain⟨cs,⟨b,h1⟩,c⟩:=h.ex;refine⟨cs,⟨b,?_⟩,c⟩;rcases h1 with h1|⟨g,cap,cur,i,f,r⟩
 ·exact .inl h1
 ·exact .inr ⟨g,cap,cur,i,Nat.le_trans d f,r⟩
theorem c4.form (h:c4 T e B w v xs): ∃A c,v= .slice A xs.length c/\xs.length<=c/\c<=maxLen:=by
 obtain⟨cs,⟨_,h1⟩,_⟩:=h.ex;rcases h1 with⟨rfl,a⟩|⟨g,cap,cur,rfl,_,_,b,d,_⟩
 ·exact⟨none,0,by rw[a],by omega,by unfold maxLen;omega⟩
 ·exact⟨_,cap,rfl,b,d⟩
theorem c4.data (i:T.Flat) (h:c4 T e B w v xs) (hn: ∀g,v.ownBlock=some g->g∉O):T.slice.is O w v xs:=by
 obtain⟨cs,⟨k,h1⟩,b⟩:=h.ex;rcases h1 with⟨rfl,hl⟩|⟨g,cap,cur,rfl,m,j,c,d,l,f⟩
 ·have:xs=[]:=ξh hl;subst this;exact gT _ _ _
 ·have a:bY T O w cs xs:=yd i b;exact JQ j (hn g rfl) a (by rw[a.len];exact f) c d
theorem c4.iZ:c4 T e B w (.slice none 0 0) []:=⟨[],World.ownsRow_nil w B e T.n,rfl⟩
end
def SP.iL {α:Type} (T:Ty α) (a:T.Flat) (e B:Nat) (xs:List α):SP:=⟨λw v=>c4 T e B w v xs,λb h=>h.cj a b⟩
theorem OV {α:Type} {T:Ty α} {e B:Nat} {O:Γ} {w w':World} {zs:List α} {a:Ending} (b:w.heap.size=B) (h:eN T e B O w (.slice none 0 0) zs a w'):gn (λ_ w v zs=>c4 T e B w v zs) O w zs a w':=by
 subst b;obtain⟨c,O',he,ap⟩:=h;exact⟨c,he,ap.own.iL,ap.cj Own.iZ (Fr.refl [] w)⟩
def c7 {β:Type} (T:Ty β) (e B:Nat) (w:World):Γ->Γd->List (Int×List β)->Prop
 |S,[],[]=>S=[]
 |S,x::r,y::b=> ∃a,x.1=y.1/\S=x.2.ownBlock.toList++a/\c4 T e B w x.2 y.2/\c7 T e B w a r b
 |_,_,_=>False
section
variable {β:Type} {T:Ty β} {e B:Nat} {w w':World}
theorem c7.keep (b:T.Flat): ∀ {S:Γ} {rs:Γd} {xs:List (Int×List β)},c7 T e B w S rs xs->(∀g∈S,w'.heap[g]? =w.heap[g]?)->c7 T e B w' S rs xs
 |_,[],[],h,_=>h
 |_,_::_,_::_,⟨c,h1,d,f,i⟩,hk=>by
  subst d;exact⟨c,h1,rfl,f.keep b λg a=>hk g (ξj _ (by rw[a];simp)),c7.keep b i λg a=>hk g (υ _ a)⟩
 |_,[],_::_,h,_=>h.elim
 |_,_::_,[],h,_=>h.elim
theorem c7.lt: ∀ {S:Γ} {rs:Γd} {xs:List (Int×List β)},c7 T e B w S rs xs-> ∀g∈S,B<=g/\g<w.heap.size
 |_,[],[],h,g,a=>by rw[show _=[] from h] at a;cases a
 |_,_::_,_::_,⟨f,h1,b,c,d⟩,g,a=>by
  subst b;rcases ξo.1 a with a|a
  ·exact c.lt g (by simpa using a)
  ·exact c7.lt d g a
 |_,[],_::_,h,_,_=>h.elim
 |_,_::_,[],h,_,_=>h.elim
theorem c7.cj (a:T.Flat) {S:Γ} {rs:Γd} {xs:List (Int×List β)} (h:c7 T e B w S rs xs) (b:Fr [] w w'):c7 T e B w' S rs xs:=h.keep a λg c=>b.block g (h.lt g c).2 (by simp)
theorem c7.len: ∀ {S:Γ} {rs:Γd} {xs:List (Int×List β)},c7 T e B w S rs xs->rs.length=xs.length
 |_,[],[],_=>rfl
 |_,_::_,_::_,⟨_,_,_,_,a⟩=>by simp[c7.len a]
 |_,[],_::_,h=>h.elim
 |_,_::_,[],h=>h.elim
theorem c7.app: ∀ {S S':Γ} {rs a:Γd} {xs b:List (Int×List β)},c7 T e B w S rs xs->c7 T e B w S' a b->c7 T e B w (S++S') (rs++a) (xs++b)
 |_,_,[],_,[],_,h,k=>by rw[show _=[] from h];exact k
 |_,_,_::_,_,_::_,_,⟨c,h1,d,f,g⟩,k=>by subst d;exact⟨c++_,h1,by simp,f,c7.app g k⟩
 |_,_,[],_,_::_,_,h,_=>h.elim
 |_,_,_::_,_,[],_,h,_=>h.elim
theorem c7.at_: ∀ {S:Γ} {rs:Γd} {xs:List (Int×List β)} {j:Nat} {x:Int×List β},c7 T e B w S rs xs->xs[j]? =some x->
  ∃v i b,rs[j]? =some (x.1,v)/\S=i++v.ownBlock.toList++b/\c4 T e B w v x.2/\
   ∀ {w':World} {d:Value} {ys:List β},(∀g∈i++b,w'.heap[g]? =w.heap[g]?)->T.Flat->c4 T e B w' d ys->c7 T e B w' (i++d.ownBlock.toList++b) (rs.set j (x.1,d)) (xs.set j (x.1,ys))
 |_,[],[],_,_,_,a=>by simp at a
 |_,r::rs,y::xs,0,x,⟨b,h1,k,l,m⟩,a=>by
  simp at a;subst a;refine⟨r.2,[],b,by simp[<-h1],by simpa using k,l,λ{w' d ys} hk f n=>?_⟩;exact⟨b,rfl,by simp,n,m.keep f λg c=>hk g (by simpa using c)⟩
 |_,r::rs,y::xs,j+1,x,⟨b,h1,k,l,m⟩,a=>by
  obtain⟨v,o,p,q,s,t,u⟩:=c7.at_ m (by simpa using a);refine⟨v,r.2.ownBlock.toList++o,p,by simpa using q,by rw[k,s];simp,t,λ{w' d ys} hk f n=>?_⟩;exact⟨o++d.ownBlock.toList++p,h1,by simp,l.keep f λg c=>hk g (by simp[c]),u (λg c=>hk g (by simp at c ⊢;exact .inr c)) f n⟩
 |_,[],_::_,_,_,h,_=>h.elim
 |_,_::_,[],_,_,_,a=>by simp at a
theorem c7.ins: ∀ {S:Γ} {rs:Γd} {xs:List (Int×List β)} (j:Nat) (p:Int),j<=rs.length->c7 T e B w S rs xs->c7 T e B w S (rs.take j++[(p,.slice none 0 0)]++rs.drop j) (xs.take j++[(p,[])]++xs.drop j)
 |S,rs,xs,0,p,_,h=>by
  simp only[List.take_zero,List.nil_append,ξV,List.singleton_append];exact⟨S,rfl,rfl,c4.iZ,h⟩
 |_,r::rs,y::xs,j+1,p,a,⟨b,h1,c,d,f⟩=>by
  simp only[List.take_succ_cons,List.drop_succ_cons,List.cons_append];exact⟨b,h1,c,d,c7.ins j p (by simpa using a) f⟩
 |_,[],_,j+1,p,a,_=>by simp at a
 |_,_::_,[],j+1,p,_,h=>h.elim
end
end Go.Dc
end
section
namespace Go.Proofs.YtoggponeookhbaaGreatDoor
open Go.RowKit Go.Dc Go.Vx
def nB (xs:List ai) (j:Int) (ys:List ai):Option (List ai):=hS 24 xs j ys
def nC (xs:List au) (j:Int) (ys:List au):Option (List au):=hS 16 xs j ys
def lP (xs:List ah) (j:Int) (ys:List ah):Option (List ah):=hS 32 xs j ys
def yn (xs:Γd) (j:Int) (ys:Γd):Option (Γd):=hS 32 xs j ys
set_option maxRecDepth 100000 in
set_option maxHeartbeats 12000000 in
theorem xa:(∀ {O:Γ} {w:World},OB O w-> ∀ {B:Nat},B<=w.heap.size-> ∀ {v:Value} {xs:List ai},Go.Dc.Own iu 105 B O w v xs-> ∀ {v1:Value} {j:Int},(Ty.int .i64).is O w v1 j-> ∀ {u:Value} {ys:List ai},(Ty.slice iu).is O w u ys->Plain w u-> ∀ {zs:List ai},nB xs j ys=some zs->let T:Ty ai:=iu;let e:Nat:=105;let S:Nat:=3;Calls γ 212 #[v,v1,u] w (eN T e B O w v zs))/\(∀ {O:Γ} {w:World},OB O w-> ∀ {B:Nat},B<=w.heap.size-> ∀ {v:Value} {xs:List au},Go.Dc.Own dX 127 B O w v xs-> ∀ {v1:Value} {j:Int},(Ty.int .i64).is O w v1 j-> ∀ {u:Value} {ys:List au},(Ty.slice dX).is O w u ys->Plain w u-> ∀ {zs:List au},nC xs j ys=some zs->let T:Ty au:=dX;let e:Nat:=127;let S:Nat:=2;Calls γ 222 #[v,v1,u] w (eN T e B O w v zs))/\(∀ {O:Γ} {w:World},OB O w-> ∀ {B:Nat},B<=w.heap.size-> ∀ {v:Value} {xs:List ah},Go.Dc.Own gU 115 B O w v xs-> ∀ {v1:Value} {j:Int},(Ty.int .i64).is O w v1 j-> ∀ {u:Value} {ys:List ah},(Ty.slice gU).is O w u ys->Plain w u-> ∀ {zs:List ah},lP xs j ys=some zs->let T:Ty ah:=gU;let e:Nat:=115;let S:Nat:=4;Calls γ 259 #[v,v1,u] w (eN T e B O w v zs))/\(∀ {O:Γ} {w:World},OB O w-> ∀ {B:Nat},B<=w.heap.size-> ∀ {v:Value} {xs:Γd},Go.Dc.Own (kU .u64) 132 B O w v xs-> ∀ {v1:Value} {j:Int},(Ty.int .i64).is O w v1 j-> ∀ {u:Value} {ys:Γd},(Ty.slice (kU .u64)).is O w u ys->Plain w u-> ∀ {zs:Γd},yn xs j ys=some zs->let T:Ty (Int×Value):=(kU .u64);let e:Nat:=132;let S:Nat:=2;Calls γ 293 #[v,v1,u] w (eN T e B O w v zs)):=by
 refine⟨?_,?_,?_,?_⟩
 all_goals
  intro O w hO B aL v xs ab v1 j h1 u ys hu hp zs bH T e S;obtain rfl:=du.1 h1;obtain⟨bS,bT,bc,rfl⟩:=Po bH;obtain⟨k,rfl⟩: ∃k:Nat,j=k:=⟨j.toNat,by omega⟩;simp only[ξF] at*
  have aE:k<=xs.length:=by omega
  obtain⟨A,c,rfl,bz,bQ⟩:=ab.form;obtain⟨G,m,rfl,bW,bX⟩:=eW hu;refine gx (args:=[.slice A xs.length c,.int .i64 k,.slice G ys.length m]) (N:=95) (by first|exact ζ4|exact ζ5|exact ζ6|exact Tryz.func293) rfl rfl rfl ?_;refine aU (bg (l:=[0]) rfl (aK aj [0] [(0,.slice A xs.length c),(1,.int .i64 k),(2,.slice G ys.length m)] rfl ⟨rfl,rfl,rfl,trivial⟩ (a_ (aV (aU (bg (l:=[0,1,2]) rfl (aK aj [0,1] [(0,.slice A xs.length c),(1,.int .i64 k),(2,.slice G ys.length m),(10,.slice A xs.length c),(11,.int .i64 k)] rfl ⟨rfl,rfl,rfl,rfl,rfl,trivial⟩ (rF aj rfl rfl rfl rfl rfl rfl rfl rfl rfl rfl bz aE (a_ (aV (aU (bg (l:=[0,1,2]) rfl (aK aj [0,1,2] [(0,.slice A xs.length c),(1,.int .i64 k),(2,.slice G ys.length m),(7,.int .i64 (ys.length:Int))] rfl ⟨rfl,rfl,rfl,rfl,trivial⟩ (a_ (aV (aU (aU (bg (l:=[0,1]) rfl (aK aj [0,1] [(0,.slice A xs.length c),(1,.int .i64 k),(2,.slice G ys.length m),(7,.int .i64 (ys.length:Int)),(16,.bool ((ys.length:Int)==0))] rfl ⟨rfl,rfl,rfl,rfl,rfl,trivial⟩ (a_ (aV ?_)))))))))))))))))))))
  by_cases aF:ys.length=0
  ·have bG:ys=[]:=ξh aF;refine fB rfl (by simp[aF]) ?_;refine aU (bg (l:=[0,1]) rfl (aK aj [0,1] [(6,.slice A xs.length c)] rfl ⟨rfl,trivial⟩ (a_ (aV (dC (fC (eY rfl ⟨_,O,rfl,?_⟩)))))));have e:xs.take k++ys++xs.drop k=xs:=by rw[bG];simp
   rw[e];exact⟨ab,Tr.refl _ _,hO,Sub.refl _,λ_ _ _=>rfl,λ_ _ h=>h⟩
  refine fK rfl (beq_eq_false_iff_ne.2 (by omega)) ?_;refine eF (aV (aU (bg (l:=[0,1,2]) rfl (aK aj [0,1,2] [(0,.slice A xs.length c),(1,.int .i64 k),(2,.slice G ys.length m),(7,.int .i64 (ys.length:Int)),(8,.int .i64 (xs.length:Int))] rfl ⟨rfl,rfl,rfl,rfl,rfl,trivial⟩ (a_ (aV (aU (aU (bg (l:=[0,1,2]) rfl (aK aj [0,1,2] [(0,.slice A xs.length c),(1,.int .i64 k),(2,.slice G ys.length m),(7,.int .i64 (ys.length:Int)),(8,.int .i64 (xs.length:Int)),(22,.bool ((k:Int)==(xs.length:Int)))] rfl ⟨rfl,rfl,rfl,rfl,rfl,rfl,trivial⟩ (a_ (aV ?_))))))))))))
  by_cases a7:k=xs.length
  ·refine fB rfl (by simp[a7]) ?_;refine aU (bg (l:=[0,1,2,3]) rfl (aK aj [0,1] [(23,.slice A xs.length c),(24,.slice G ys.length m)] rfl ⟨rfl,rfl,trivial⟩ (Vl aj rfl rfl rfl rfl rfl rfl rfl rfl rfl (by decide) rfl (by decide) rfl rfl aL hO ab hu (by simp only[ξZ] at bc ⊢;omega) (λbI w' O' bq=>?_))));refine aK aj [3] [(6,bI)] rfl ⟨rfl,trivial⟩ (a_ (aV (dC (fC (eY rfl ⟨_,O',rfl,?_⟩)))));have e:xs.take k++ys++xs.drop k=xs++ys:=by subst a7;simp
   rw[e];exact bq
  refine fK rfl (by simp;omega) ?_;refine eF (aV ?_);obtain⟨cs,⟨aw,aI⟩,X⟩:=ab.ex;rcases aI with⟨_,bV⟩|⟨g,c2,cur,aI,bm,M,al,bt,ax,az⟩
  ·omega
  injection aI with bl bY H;subst bl;subst H;have aB:=ab.mem g rfl;cases G with
  |none=>exact absurd (yt hu) (λh=>aF (by rw[h];rfl))
  |some ad=>
  obtain⟨b3,bK,b6,aD⟩:=hp ad _ _ rfl;obtain⟨_,us,aa,aY⟩:=rm hu;have t:us.length=ys.length*S:=aa.len;have aw:cs.length=xs.length*S:=aw;have R:T.n=S:=rfl;rw[R] at ax az;have aX:ad.block≠g:=by
   intro e;obtain⟨y,bF⟩: ∃y,ys[0]? =some y:=⟨_,List.getElem?_eq_getElem (by omega)⟩;obtain⟨bJ,bf,bC⟩:=JP hu bF;cases bf;obtain⟨_,⟨_,_,br,_,a8,_⟩,H⟩:=bC;subst br;have H:Value.pointer (some (ad.add (0*T.n)))= .pointer (some _):=H;injection H with H;injection H with H;rw[<-H,hG,e] at a8;exact a8 aB
  have bs: ∀j,w.cell? ⟨g,j,none⟩=cur[j]? :=λj=>cell_of_row w g j cur e (0,0) M;have bu: ∀j x,cs[j]? =some x->cur.toList[j]? =some x:=λj x s=>by
   rw[<-az,ξC] at s;split at s
   ·exact s
   ·cases s
  have ay: ∀q,dJ w ⟨g,q,none⟩ (cs.drop q):=λq j x s=>by
   rw[e',bs,<-Array.getElem?_toList];rw[List.getElem?_drop] at s;exact bu _ x s
  have bU:k*S<=xs.length*S:=ξ6 _ aE;have bP:xs.length*S<=c*S:=ξ6 _ al;have a': ∀x∈cs,x.oneCell'=true:=X.one;refine aU (aU (bg (l:=[0,1,2,3,4,5]) rfl ?_));have aJ:δ.wrap ((xs.length:Int)+(ys.length:Int))=((xs.length+ys.length:Nat):Int):=by
   rw[ξi];unfold maxLen at*;omega
  refine aK aj [0,1,2,3,4,5] [(0,.slice (some ⟨g,0,none⟩) xs.length c),(1,.int .i64 k),(2,.slice (some ad) ys.length m),(7,.int .i64 (ys.length:Int)),(8,.int .i64 (xs.length:Int)),(31,.bool (decide (δ.wrap ((xs.length:Int)+(ys.length:Int))>(c:Int))))] rfl ⟨rfl,rfl,rfl,rfl,rfl,rfl,trivial⟩ (a_ (aV ?_));rw[aJ]
  by_cases bR:c<xs.length+ys.length
  ·refine fB rfl (by simp;omega) ?_;refine aU (bg (l:=[0,1,2,3,4,5,6,7,8,9]) rfl (aK aj [0,1] [(0,.slice (some ⟨g,0,none⟩) xs.length c),(1,.int .i64 k),(2,.slice (some ad) ys.length m),(7,.int .i64 (ys.length:Int)),(8,.int .i64 (xs.length:Int)),(32,.slice (some ⟨g,0,none⟩) xs.length c),(33,.int .i64 k)] rfl ⟨rfl,rfl,rfl,rfl,rfl,rfl,rfl,trivial⟩ (Km aj rfl rfl rfl rfl rfl rfl rfl rfl rfl rfl al (by omega) ?_)));refine aK aj [3,4,5,6,7] [(0,.slice (some ⟨g,0,none⟩) xs.length c),(1,.int .i64 k),(2,.slice (some ad) ys.length m),(7,.int .i64 (ys.length:Int)),(34,.slice (some ⟨g,0,none⟩) k c),(39,.int .i64 (δ.wrap (δ.wrap ((xs.length:Int)+(ys.length:Int))-(k:Int))))] rfl ⟨rfl,rfl,rfl,rfl,rfl,rfl,trivial⟩ ?_;have bE:δ.wrap (δ.wrap ((xs.length:Int)+(ys.length:Int))-(k:Int))=((xs.length+ys.length-k:Nat):Int):=by
    rw[aJ,ξi];unfold maxLen at*;omega
   rw[bE];have p:(cs.take (k*S)).length=k*S:=by rw[ξ8];omega
   refine ajT aj rfl rfl rfl rfl rfl rfl rfl rfl rfl rfl rfl rfl rfl (us:=cs.take (k*S)) (λj x s=>by
    rw[ξC] at s;split at s
    ·have:=ay 0 j x (by simpa using s);exact this
    ·cases s) p (by omega) (by omega) (by simp only[ξZ] at bc ⊢;omega) rfl ?_
   have bA:k+(xs.length+ys.length-k)=xs.length+ys.length:=by omega
   rw[bA];generalize aM:grownCap w (xs.length+ys.length) c e=C;have ao:xs.length+ys.length<=C:=by rw[<-aM];exact grownCap_ge _ _ _ _
   have bn:C<=maxLen:=by rw[<-aM];exact grownCap_le_maxLen _ _ _ _ (by unfold maxLen at*;omega)
   have bN:(xs.length+ys.length)*S<=C*S:=ξ6 _ ao;refine aK aj [9] [(0,.slice (some ⟨g,0,none⟩) xs.length c),(1,.int .i64 k),(2,.slice (some ad) ys.length m),(7,.int .i64 (ys.length:Int)),(9,.slice (some ⟨w.heap.size,0,none⟩) (xs.length+ys.length) C)] rfl ⟨rfl,rfl,rfl,rfl,rfl,trivial⟩ (a_ (aV ?_));obtain⟨Z,aR,ar⟩:=ahL (cs:=cs.take (k*S)) (xs.length+ys.length-k) (C-(xs.length+ys.length)) (by first|exact(show(ξA (.agg #[.int .u64 0,.int .i64 0,.int .u64 0])).size=S from(λ(_:e=105)=>rfl) rfl)|exact(show(ξA (.agg #[.int .u64 0,.int .u64 0])).size=S from(λ(_:e=127)=>rfl) rfl)|exact(show(ξA (.agg #[.int .u64 0,.int .u64 0,.bool false,.int .u64 0])).size=S from(λ(_:e=115)=>rfl) rfl)|exact(show(ξA (.agg #[.int .u64 0,.slice none 0 0])).size=S from(λ(_:e=132)=>rfl) rfl));rw[show xs.length+ys.length-k+(C-(xs.length+ys.length))=C-k by omega] at ar;generalize (cs.take (k*S)).toArray++ξI _ (xs.length+ys.length-k)++ξI _ (C-(xs.length+ys.length))=row at*
   have bO:(C-k)*S+k*S=C*S:=by rw[<-ξ5];congr 1;omega
   have b2:row.size=C*S:=by rw[<-τ,aR,η,ar,p];omega
   have aG:=jN (O:=O) (w:=w.drew) hO e row.toList;simp only[Array.toArray_toList] at aG;generalize b4:w.drew.alloc (.cells row e)=w1 at*
   have aq:w1.heap[w.heap.size]? =some (.cells row e (0,0)):=by have:=aG.bL;unfold bM at this;simpa using this
   have a1:Fr [] w w1:=(Fr.drew [] w).trans aG.fr;have bD:(xs.length+ys.length)*S=k*S+ys.length*S+(xs.length-k)*S:=by rw[<-ξ5,<-ξ5];congr 1;omega
   have a6:(k+ys.length)*S=k*S+ys.length*S:=ξ5 _ _ _;have bB:(xs.length-k)*S+k*S=xs.length*S:=by rw[<-ξ5];congr 1;omega
   refine aU (bg (l:=[0,1,2,3,4]) rfl (aK aj [0,1] [(0,.slice (some ⟨g,0,none⟩) xs.length c),(1,.int .i64 k),(2,.slice (some ad) ys.length m),(7,.int .i64 (ys.length:Int)),(9,.slice (some ⟨w.heap.size,0,none⟩) (xs.length+ys.length) C),(41,.slice (some ⟨w.heap.size,0,none⟩) (xs.length+ys.length) C),(42,.int .i64 k)] rfl ⟨rfl,rfl,rfl,rfl,rfl,rfl,rfl,trivial⟩ (rF aj rfl rfl rfl rfl rfl rfl rfl rfl rfl rfl ao (by omega) ?_)));rw[if_neg (by omega),ω,e',ξ9];refine aK aj [3] [(0,.slice (some ⟨g,0,none⟩) xs.length c),(1,.int .i64 k),(7,.int .i64 (ys.length:Int)),(9,.slice (some ⟨w.heap.size,0,none⟩) (xs.length+ys.length) C),(43,.slice (some ⟨w.heap.size,k*S,none⟩) (xs.length+ys.length-k) (C-k)),(44,.slice (some ad) ys.length m)] rfl ⟨rfl,rfl,rfl,rfl,rfl,rfl,trivial⟩ ?_;have av:ad.block<w.heap.size:=(μ.1 aD).1;refine Kl aj rfl rfl rfl rfl rfl rfl rfl rfl rfl rfl aq (aY.keep (a1.block _ av (by simp))) t aa.one (by omega) (by omega) (λz=>?_);rw[aR,ξa p];generalize ba:(cs.take (k*S)++us++ξQ (k*S+us.length) (cs.take (k*S)++Z)).toArray=L;obtain⟨ag,aS,aT⟩: ∃ag:Γb,L.toList=cs.take (k*S)++us++ag/\ag.length=C*S-(k*S+ys.length*S):=by
    refine⟨_,by rw[<-ba],?_⟩;simp only[ρ,η,p,ar,t];omega
   clear ba;have bw:=j1 (new:=L) aq;have aP:(w1.setRow w.heap.size L).heap[w.heap.size]? =some (.cells L e (0,0)):=setRow_heap w1 _ _ _ _ _ aq;generalize b5:w1.setRow w.heap.size L=w2 at*
   have bo:Fr [] w w2:=a1.own bw (ξ4 _);refine a_ (aV (aU ?_));have an:δ.wrap ((k:Int)+(ys.length:Int))=((k+ys.length:Nat):Int):=by rw[ξi];unfold maxLen at*;omega
   refine yL mixed [⟨46,[],[9]⟩,⟨47,[],[1]⟩,⟨48,[],[7]⟩,⟨49,[1,2],[]⟩,⟨50,[0,3],[]⟩,⟨51,[],[0]⟩,⟨52,[],[1]⟩,⟨53,[5,6],[]⟩] [SP.eq (.slice (some ⟨w.heap.size,0,none⟩) (xs.length+ys.length) C),SP.eq (.int .i64 k),SP.eq (.int .i64 (ys.length:Int)),SP.eq (.int .i64 (δ.wrap ((k:Int)+(ys.length:Int)))),SP.eq (.slice (some ⟨w.heap.size,(k+ys.length)*S,none⟩) (xs.length-k) (C-(k+ys.length))),SP.eq (.slice (some ⟨g,0,none⟩) xs.length c),SP.eq (.int .i64 k),SP.eq (.slice (some ⟨g,k*S,none⟩) (xs.length-k) (c-k))] rfl rfl rfl rfl ⟨?_,?_,?_,?_,?_,?_,?_,?_,trivial⟩ ?_
   ·intro a w3 o b d f i;exact c3 aj ⟨b,d,b7 (E:=[(9,.slice (some ⟨w.heap.size,0,none⟩) (xs.length+ys.length) C)]) ⟨f 9 rfl _ rfl,trivial⟩⟩ rfl rfl rfl rfl rfl
   ·intro a w3 o b d f i;exact c3 aj ⟨b,d,b7 (E:=[(1,.int .i64 k)]) ⟨f 1 rfl _ rfl,trivial⟩⟩ rfl rfl rfl rfl rfl
   ·intro a w3 o b d f i;exact c3 aj ⟨b,d,b7 (E:=[(7,.int .i64 (ys.length:Int))]) ⟨f 7 rfl _ rfl,trivial⟩⟩ rfl rfl rfl rfl rfl
   ·intro a w3 o b d f i;exact c3 aj ⟨b,d,b7 (E:=[(47,.int .i64 k),(48,.int .i64 (ys.length:Int))]) ⟨i 1 rfl _ _ rfl rfl,i 2 rfl _ _ rfl rfl,trivial⟩⟩ rfl rfl rfl rfl rfl
   ·intro a w3 o b d f i;have bj:a.tmps.getD 49 undef= .int .i64 ((k+ys.length:Nat):Int):=by rw[<-an];exact i 3 rfl _ _ rfl rfl
    refine(qY aj ⟨b,d,b7 (E:=[(46,.slice (some ⟨w.heap.size,0,none⟩) (xs.length+ys.length) C),(49,.int .i64 ((k+ys.length:Nat):Int))]) ⟨i 0 rfl _ _ rfl rfl,bj,trivial⟩⟩ rfl rfl rfl rfl rfl rfl rfl rfl rfl ao (by omega)).weaken (λu D ⟨hu,K⟩=>⟨?_,K⟩);rw[hu,if_neg (by omega),ω,e',ξ9,show xs.length+ys.length-(k+ys.length)=xs.length-k by omega];rfl
   ·intro a w3 o b d f i;exact c3 aj ⟨b,d,b7 (E:=[(0,.slice (some ⟨g,0,none⟩) xs.length c)]) ⟨f 0 rfl _ rfl,trivial⟩⟩ rfl rfl rfl rfl rfl
   ·intro a w3 o b d f i;exact c3 aj ⟨b,d,b7 (E:=[(1,.int .i64 k)]) ⟨f 1 rfl _ rfl,trivial⟩⟩ rfl rfl rfl rfl rfl
   ·intro a w3 o b d f i;refine(qY aj ⟨b,d,b7 (E:=[(51,.slice (some ⟨g,0,none⟩) xs.length c),(52,.int .i64 k)]) ⟨i 5 rfl _ _ rfl rfl,i 6 rfl _ _ rfl rfl,trivial⟩⟩ rfl rfl rfl rfl rfl rfl rfl rfl rfl al aE).weaken (λu D ⟨hu,K⟩=>⟨?_,K⟩);rw[hu,if_neg (by omega),ω,e',ξ9];rfl
   intro a w3 f3 b d f V;have J:w3.heap[w.heap.size]? =some (.cells L e (0,0)):=(f3.block _ (μ.1 aP).1 (by simp)).trans aP;have aN:Fr [] w w3:=bo.trans f3;refine rG (E:=[(9,.slice (some ⟨w.heap.size,0,none⟩) (xs.length+ys.length) C),(50,.slice (some ⟨w.heap.size,(k+ys.length)*S,none⟩) (xs.length-k) (C-(k+ys.length))),(53,.slice (some ⟨g,k*S,none⟩) (xs.length-k) (c-k))]) (l:=[8]) b d ⟨f 9 _ rfl rfl,V 4 _ _ rfl rfl,V 7 _ _ rfl rfl,trivial⟩ rfl ?_;have aC:g<w.heap.size:=(μ.1 M).1;have bZ:L.size=C*S:=by rw[<-τ,aS,η,η,p,t,aT];omega
   have I:(cs.drop (k*S)).length=(xs.length-k)*S:=by rw[ρ];omega
   refine Kl aj rfl rfl rfl rfl rfl rfl rfl rfl rfl rfl J ((ay (k*S)).keep (aN.block _ aC (by simp))) I (λu hu=>a' u (ξw hu)) (ξ4 _) (by omega) (λz=>?_);rw[aS,ξa (by rw[η,p,t,a6])];generalize W:(cs.take (k*S)++us++cs.drop (k*S)++ξQ ((k+ys.length)*S+(cs.drop (k*S)).length) (cs.take (k*S)++us++ag)).toArray=r;obtain⟨F,U,ak⟩: ∃F:Γb,r.toList=cs.take (k*S)++us++cs.drop (k*S)++F/\F.length=C*S-(xs.length+ys.length)*S:=by
    refine⟨_,by rw[<-W],?_⟩;simp only[ρ,η,p,aT,t,aw];omega
   clear W;have aA:=j1 (new:=r) J;have Q:(w3.setRow w.heap.size r).heap[w.heap.size]? =some (.cells r e (0,0)):=setRow_heap w3 _ _ _ _ _ J;generalize w3.setRow w.heap.size r=D at*
   have P:Fr [] w D:=aN.own aA (ξ4 _);refine a_ (aV (aU (bg (l:=[0,1]) rfl (aK aj [0,1] [(6,.slice (some ⟨w.heap.size,0,none⟩) (xs.length+ys.length) C)] rfl ⟨rfl,trivial⟩ (a_ (aV (dC (fC (eY rfl ⟨_,w.heap.size::O,rfl,?_⟩)))))))));have ae:(xs.take k++ys++xs.drop k).length=xs.length+ys.length:=by simp only[η,ξ8,ρ];omega
   have aH:Tr O w (w.heap.size::O) D:=JY P (ξ4 _);have:=O6 (T:=T) (e:=e) (B:=B) (v:=.slice (some ⟨g,0,none⟩) xs.length c) (zs:=xs.take k++ys++xs.drop k) (cap:=C) (cs:=cs.take (k*S)++us++cs.drop (k*S)) hO (ξ4 _) aL P Q (by rw[R,<-τ,U];simp only[η,p,t,I,ak];omega) bn (by omega)
    ((((X.take k).app aa).app (X.drop k)).tr aH) (by rw[ae,R,U];exact ξa (by simp only[η,p,t,I];omega))
   rw[ae] at this;exact this
  ·
   refine fK rfl (by simp;omega) ?_;refine eF (aV ?_);have b1:(xs.length+ys.length)*S<=c*S:=ξ6 _ (by omega);have bD:(xs.length+ys.length)*S=k*S+ys.length*S+(xs.length-k)*S:=by rw[<-ξ5,<-ξ5];congr 1;omega
   have a6:(k+ys.length)*S=k*S+ys.length*S:=ξ5 _ _ _;have bB:(xs.length-k)*S+k*S=xs.length*S:=by rw[<-ξ5];congr 1;omega
   have I:(cs.drop (k*S)).length=(xs.length-k)*S:=by rw[ρ];omega
   have p:(cs.take (k*S)).length=k*S:=by rw[ξ8];omega
   refine aU (bg (l:=[0,1,2,3,4,5]) rfl (aK aj [0,1,2,3] [(1,.int .i64 k),(2,.slice (some ad) ys.length m),(7,.int .i64 (ys.length:Int)),(8,.int .i64 (xs.length:Int)),(56,.slice (some ⟨g,0,none⟩) xs.length c),(59,.int .i64 (δ.wrap ((xs.length:Int)+(ys.length:Int))))] rfl ⟨rfl,rfl,rfl,rfl,rfl,rfl,trivial⟩ ?_));rw[aJ];refine Km aj rfl rfl rfl rfl rfl rfl rfl rfl rfl rfl al (by omega) ?_;refine aK aj [5] [(0,.slice (some ⟨g,0,none⟩) (xs.length+ys.length) c),(1,.int .i64 k),(2,.slice (some ad) ys.length m),(7,.int .i64 (ys.length:Int)),(8,.int .i64 (xs.length:Int))] rfl ⟨rfl,rfl,rfl,rfl,rfl,trivial⟩ (a_ (aV (aU (aU (bg (l:=[0,1,2,3,4,5,6,7]) rfl ?_)))));have an:δ.wrap ((k:Int)+(ys.length:Int))=((k+ys.length:Nat):Int):=by rw[ξi];unfold maxLen at*;omega
   refine aK aj [0,1,2,3,4] [(0,.slice (some ⟨g,0,none⟩) (xs.length+ys.length) c),(1,.int .i64 k),(2,.slice (some ad) ys.length m),(7,.int .i64 (ys.length:Int)),(8,.int .i64 (xs.length:Int)),(61,.slice (some ad) ys.length m),(62,.slice (some ⟨g,0,none⟩) (xs.length+ys.length) c),(65,.int .i64 (δ.wrap ((k:Int)+(ys.length:Int))))] rfl ⟨rfl,rfl,rfl,rfl,rfl,rfl,rfl,rfl,trivial⟩ ?_;rw[an];refine rF aj rfl rfl rfl rfl rfl rfl rfl rfl rfl rfl (by omega) (by omega) ?_;rw[if_neg (by omega),ω,e',ξ9];refine aj0 aj rfl rfl rfl rfl rfl (by first|exact Tryz.func265|exact Tryz.func271|exact Tryz.func289|exact Tryz.func309) rfl rfl rfl rfl rfl rfl rfl rfl rfl aX aD M (by rw[ax];omega) ?_;refine aK aj [7] [(0,.slice (some ⟨g,0,none⟩) (xs.length+ys.length) c),(1,.int .i64 k),(2,.slice (some ad) ys.length m),(7,.int .i64 (ys.length:Int)),(68,.bool (!false))] rfl ⟨rfl,rfl,rfl,rfl,rfl,trivial⟩ (a_ (aV (fB rfl rfl (aU (yL mixed [⟨69,[],[0]⟩,⟨70,[],[1]⟩,⟨71,[],[7]⟩,⟨72,[1,2],[]⟩,⟨73,[0,3],[]⟩,⟨74,[],[0]⟩,⟨75,[],[1]⟩,⟨76,[5,6],[]⟩] [SP.eq (.slice (some ⟨g,0,none⟩) (xs.length+ys.length) c),SP.eq (.int .i64 k),SP.eq (.int .i64 (ys.length:Int)),SP.eq (.int .i64 (δ.wrap ((k:Int)+(ys.length:Int)))),SP.eq (.slice (some ⟨g,(k+ys.length)*S,none⟩) (xs.length-k) (c-(k+ys.length))),SP.eq (.slice (some ⟨g,0,none⟩) (xs.length+ys.length) c),SP.eq (.int .i64 k),SP.eq (.slice (some ⟨g,k*S,none⟩) (xs.length+ys.length-k) (c-k))] rfl rfl rfl rfl ⟨?_,?_,?_,?_,?_,?_,?_,?_,trivial⟩ ?_)))))
   ·intro a w3 o b d f i;exact c3 aj ⟨b,d,b7 (E:=[(0,.slice (some ⟨g,0,none⟩) (xs.length+ys.length) c)]) ⟨f 0 rfl _ rfl,trivial⟩⟩ rfl rfl rfl rfl rfl
   ·intro a w3 o b d f i;exact c3 aj ⟨b,d,b7 (E:=[(1,.int .i64 k)]) ⟨f 1 rfl _ rfl,trivial⟩⟩ rfl rfl rfl rfl rfl
   ·intro a w3 o b d f i;exact c3 aj ⟨b,d,b7 (E:=[(7,.int .i64 (ys.length:Int))]) ⟨f 7 rfl _ rfl,trivial⟩⟩ rfl rfl rfl rfl rfl
   ·intro a w3 o b d f i;exact c3 aj ⟨b,d,b7 (E:=[(70,.int .i64 k),(71,.int .i64 (ys.length:Int))]) ⟨i 1 rfl _ _ rfl rfl,i 2 rfl _ _ rfl rfl,trivial⟩⟩ rfl rfl rfl rfl rfl
   ·intro a w3 o b d f i;have bk:a.tmps.getD 72 undef= .int .i64 ((k+ys.length:Nat):Int):=by rw[<-an];exact i 3 rfl _ _ rfl rfl
    refine(qY aj ⟨b,d,b7 (E:=[(69,.slice (some ⟨g,0,none⟩) (xs.length+ys.length) c),(72,.int .i64 ((k+ys.length:Nat):Int))]) ⟨i 0 rfl _ _ rfl rfl,bk,trivial⟩⟩ rfl rfl rfl rfl rfl rfl rfl rfl rfl (by omega) (by omega)).weaken (λu D ⟨hu,K⟩=>⟨?_,K⟩);rw[hu,if_neg (by omega),ω,e',ξ9,show xs.length+ys.length-(k+ys.length)=xs.length-k by omega];rfl
   ·intro a w3 o b d f i;exact c3 aj ⟨b,d,b7 (E:=[(0,.slice (some ⟨g,0,none⟩) (xs.length+ys.length) c)]) ⟨f 0 rfl _ rfl,trivial⟩⟩ rfl rfl rfl rfl rfl
   ·intro a w3 o b d f i;exact c3 aj ⟨b,d,b7 (E:=[(1,.int .i64 k)]) ⟨f 1 rfl _ rfl,trivial⟩⟩ rfl rfl rfl rfl rfl
   ·intro a w3 o b d f i;refine(qY aj ⟨b,d,b7 (E:=[(74,.slice (some ⟨g,0,none⟩) (xs.length+ys.length) c),(75,.int .i64 k)]) ⟨i 5 rfl _ _ rfl rfl,i 6 rfl _ _ rfl rfl,trivial⟩⟩ rfl rfl rfl rfl rfl rfl rfl rfl rfl (by omega) (by omega)).weaken (λu D ⟨hu,K⟩=>⟨?_,K⟩);rw[hu,if_neg (by omega),ω,e',ξ9];rfl
   intro a w3 f3 b d f V;have J:w3.heap[g]? =some (.cells cur e (0,0)):=(f3.block _ (μ.1 M).1 (by simp)).trans M;refine rG (E:=[(0,.slice (some ⟨g,0,none⟩) (xs.length+ys.length) c),(1,.int .i64 k),(2,.slice (some ad) ys.length m),(73,.slice (some ⟨g,(k+ys.length)*S,none⟩) (xs.length-k) (c-(k+ys.length))),(76,.slice (some ⟨g,k*S,none⟩) (xs.length+ys.length-k) (c-k))]) (l:=[8]) b d ⟨f 0 _ rfl rfl,f 1 _ rfl rfl,f 2 _ rfl rfl,V 4 _ _ rfl rfl,V 7 _ _ rfl rfl,trivial⟩ rfl ?_;have aC:g<w.heap.size:=(μ.1 M).1;have av:ad.block<w.heap.size:=(μ.1 aD).1;refine ajV aj rfl rfl rfl rfl rfl rfl rfl rfl rfl rfl J ((ay (k*S)).keep (f3.block _ aC (by simp))) I (λu hu=>a' u (ξw hu)) (by omega) (by omega) (λz=>?_);generalize W:(cur.toList.take ((k+ys.length)*S)++cs.drop (k*S)++ξQ ((k+ys.length)*S+(cs.drop (k*S)).length) cur.toList).toArray=r;have aZ:cur.toList.length=c*S:=by rw[τ,ax]
   obtain⟨Y,F,U,aQ,ak⟩: ∃Y F:Γb,r.toList=cs.take (k*S)++Y++cs.drop (k*S)++F/\Y.length=ys.length*S/\F.length=c*S-(xs.length+ys.length)*S:=by
    refine⟨(cur.toList.take ((k+ys.length)*S)).drop (k*S),ξQ ((k+ys.length)*S+(cs.drop (k*S)).length) cur.toList,?_,?_,?_⟩
    ·rw[<-W];have e:cs.take (k*S)=(cur.toList.take ((k+ys.length)*S)).take (k*S):=by
      rw[<-az,ξW,ξW];congr 1;omega
     rw[e,List.take_append_drop]
    ·rw[ρ,ξ8,aZ];omega
    ·rw[ρ,aZ,I];omega
   clear W;have aA:=j1 (new:=r) J;have Q:(w3.setRow g r).heap[g]? =some (.cells r e (0,0)):=setRow_heap w3 _ _ _ _ _ J;generalize w3.setRow g r=D at*
   have P:Fr [g] w D:=(f3.more (by simp)).trans aA;refine a_ (aV (aU (bg (l:=[0,1,2,3,4]) rfl (aK aj [0,1] [(0,.slice (some ⟨g,0,none⟩) (xs.length+ys.length) c),(2,.slice (some ad) ys.length m),(78,.slice (some ⟨g,0,none⟩) (xs.length+ys.length) c),(79,.int .i64 k)] rfl ⟨rfl,rfl,rfl,rfl,trivial⟩ (rF aj rfl rfl rfl rfl rfl rfl rfl rfl rfl rfl (by omega) (by omega) ?_)))));rw[if_neg (by omega),ω,e',ξ9];refine aK aj [3] [(0,.slice (some ⟨g,0,none⟩) (xs.length+ys.length) c),(80,.slice (some ⟨g,k*S,none⟩) (xs.length+ys.length-k) (c-k)),(81,.slice (some ad) ys.length m)] rfl ⟨rfl,rfl,rfl,trivial⟩ ?_;have b0:r.size=c*S:=by rw[<-τ,U];simp only[η,p,aQ,I,ak];omega
   refine Kl aj rfl rfl rfl rfl rfl rfl rfl rfl rfl rfl Q (aY.keep (P.block _ av (by simp[aX]))) t aa.one (by omega) (by omega) (λz=>?_);have bh:(r.toList.take (k*S)++us++r.toList.drop (k*S+us.length))=cs.take (k*S)++us++(cs.drop (k*S)++F):=by
    rw[U,ξc (cs.take (k*S)++Y),ξc (cs.take (k*S)),ξa p,<-ξc (cs.take (k*S)),List.drop_left' (by rw[η,p,aQ,t])]
   rw[bh];generalize bb:(cs.take (k*S)++us++(cs.drop (k*S)++F)).toArray=af;have aW:af.toList=cs.take (k*S)++us++cs.drop (k*S)++F:=by rw[<-bb,<-ξc]
   clear bb;have bx:=j1 (new:=af) Q;have bp:(D.setRow g af).heap[g]? =some (.cells af e (0,0)):=setRow_heap D _ _ _ _ _ Q;generalize D.setRow g af=bd at*
   have aO:Fr [g] w bd:=P.trans bx;refine a_ (aV (aU (bg (l:=[0,1]) rfl (aK aj [0,1] [(6,.slice (some ⟨g,0,none⟩) (xs.length+ys.length) c)] rfl ⟨rfl,trivial⟩ (a_ (aV (dC (fC (eY rfl ⟨_,O,rfl,?_⟩)))))))));have ae:(xs.take k++ys++xs.drop k).length=xs.length+ys.length:=by simp only[η,ξ8,ρ];omega
   have aH:Tr O w O bd:=aO.tr (gM aB);have:=Kq (T:=T) (e:=e) (B:=B) (n0:=xs.length) (zs:=xs.take k++ys++xs.drop k) (cap:=c) (cs:=cs.take (k*S)++us++cs.drop (k*S)) hO aB bm aO bp (by rw[R,<-τ,aW];simp only[η,p,t,I,ak];omega) bt (by omega)
    ((((X.take k).app aa).app (X.drop k)).tr aH) (by rw[ae,R,aW];exact ξa (by simp only[η,p,t,I];omega))
   rw[ae] at this;exact this
def HL:eO SS:=qJ KK 212 105 nB
theorem adN {R:Type} (xs:List (aB SS)) (h:AH SS) (k:Rs SS->AH SS->Γ->Option R) (z:R) (a:(HL).out xs h k=some z): ∃r h' dt,k r h' dt=some z/\dk KK γ 212 xs h r h' dt:=
 HO (e:=105) (ins:=nB) dc (c9 aT ζ4 rfl) (λO w v u xs ys zs j hO b hu hp a=>xa.1 hO (ξy _) b (du.2 rfl) hu hp a) xs h k z a
def HM:eO SS:=qJ KK 222 127 nC
theorem adO {R:Type} (xs:List (aB SS)) (h:AH SS) (k:Rs SS->AH SS->Γ->Option R) (z:R) (a:(HM).out xs h k=some z): ∃r h' dt,k r h' dt=some z/\dk KK γ 222 xs h r h' dt:=
 HO (e:=127) (ins:=nC) dc (c9 aT ζ5 rfl) (λO w v u xs ys zs j hO b hu hp a=>xa.2.1 hO (ξy _) b (du.2 rfl) hu hp a) xs h k z a
def HN:eO SS:=qJ KK 259 115 lP
theorem adP {R:Type} (xs:List (aB SS)) (h:AH SS) (k:Rs SS->AH SS->Γ->Option R) (z:R) (a:(HN).out xs h k=some z): ∃r h' dt,k r h' dt=some z/\dk KK γ 259 xs h r h' dt:=
 HO (e:=115) (ins:=lP) dc (c9 aT ζ6 rfl) (λO w v u xs ys zs j hO b hu hp a=>xa.2.2.1 hO (ξy _) b (du.2 rfl) hu hp a) xs h k z a
theorem aid {O:Γ} {w:World} (hO:OB O w) {B:Nat} (a:B<=w.heap.size) {v:Value} {xs:Γd} (b:Go.Dc.Own (kU .u64) 132 B O w v xs) {v1:Value} {j:Int} (h1:(Ty.int .i64).is O w v1 j) {u:Value} {ys:Γd} (hu:(Ty.slice (kU .u64)).is O w u ys) (hp:Plain w u) {zs:Γd} (c:yn xs j ys=some zs):
 Calls γ 293 #[v,v1,u] w (eN (kU .u64) 132 B O w v zs):=xa.2.2.2 hO a b h1 hu hp c
set_option maxRecDepth 100000
noncomputable def zj:bN SS:= {G4 with H:=HL::G4.H}
theorem Yp:ag zj γ:=ag.hg (c:=HL) Yo adN
noncomputable def zk:bN SS:= {zj with H:=HM::zj.H}
theorem Yq:ag zk γ:=ag.hg (c:=HM) Yp adO
noncomputable def G5:bN SS:= {zk with H:=HN::zk.H}
theorem K8:ag G5 γ:=ag.hg (c:=HN) Yq adP
end Go.Proofs.YtoggponeookhbaaGreatDoor
end
section

/- Words for b entries of a. -/
namespace Go.Vx
noncomputable def vs {S:bm} (x:LV S):AV S:=.s (.one x)
noncomputable def li {S:bm} (x:Int):LV S:=.v (.int .i64 x)
noncomputable def lu {S:bm} (x:Int):LV S:=.v (.int .u64 x)
noncomputable def vi {S:bm} (x:Int):AV S:=.s (.one (.v (.int .i64 x)))
noncomputable def vu {S:bm} (x:Int):AV S:=.s (.one (.v (.int .u64 x)))
noncomputable def vb {S:bm} (x:Bool):AV S:=.s (.one (.v (.bool x)))
noncomputable def va {S:bm} (x y:Nat):AV S:=.s (.one (.aM x y))
noncomputable def vd {S:bm} (t:Nat) (x:S.El t):AV S:=.s (.one (.aJ t x))
noncomputable def vo {S:bm} (x:Nat):AV S:=.s (.one (.own x))
noncomputable def vc {S:bm} (x:Nat):AV S:=.s (.one (.a7 x))
noncomputable def bX {S:bm} (t:Nat) (x:List (LV S)):Option (Ob S):=some (.box t x)
noncomputable def rX {S:bm} (t:Nat) (x:List (S.El t)):Option (Ob S):=some (.row t x)
noncomputable def vl {S:bm} {α:Type} (x:List α):AV S:=.s (.one (.v (.int .i64 (x.length:Int))))
noncomputable def a6 {S:bm} (c:eM S) (G:bN S):bN S:= {G with C:=c::G.C}
def bq {S:bm} (G:bN S) (L:Nat->Nat->Γ) (fn:Func) (f:Nat) (cs:List (aX S)):bN S:= {G with T:=gV G.T f ⟨⟨fn,L f⟩,cs⟩}
abbrev KX (S:bm) (R:Type):=AX->AS S->Option R
abbrev LS {S:bm} (K:Kit S) (P:Program) (L:Nat->Nat->Γ) (fn:Func) (f id:Nat) (c:aX S):Prop:=aO K P ⟨fn,L f⟩ (iW (ca fn) id) c
def sX {S:bm} {α:Type} (f:Option (LV S)->Option α) (j:Nat):AS S->Option α:=λst=>f (cJ st j 0)
def hX {S:bm} {α:Type} (f:Option (LV S)->Option α) (i j:Nat):AS S->Option α:=λst=>f (dH st i j)
def sI {S:bm}:Nat->AS S->Option Int:=sX cO
def hI {S:bm}:Nat->Nat->AS S->Option Int:=hX cO
def sD {S:bm} (t:Nat):Nat->AS S->Option (S.El t):=sX (eo t)
def hD {S:bm} (t:Nat):Nat->Nat->AS S->Option (S.El t):=hX (eo t)
def hR {S:bm} (j t:Nat) (st:AS S):Option (List (S.El t)):=dU st j t
def sq {S:bm} {α β:Type} (f:AS S->Option α) (g:AS S->Option β):AS S->Option (α×β):=λst=>(f st).bind λa=>(g st).bind λb=>some (a,b)
def gq {S:bm} {β:Type} (f:AS S->Option Unit) (g:AS S->Option β):AS S->Option β:=λst=>(f st).bind λ_=>g st
noncomputable def xe {S:bm} (l:a1 S) (st:AS S):AS S:= {st with env:=l++st.env}
universe u
section
variable {S:bm} {P:Program} {G E:bN S} {K:Kit S}
def bH (K:Kit S) (t:Nat) {R:Type} (k:Rs S->Option R) (r:S.El t):Option R:=k (.ret (.s (K.bl t r)))
def dy (K:Kit S) (t u:Nat) {R:Type} (k:Rs S->Option R) (r:S.El t×S.El u):Option R:=k (.ret (.bJ [K.bl t r.1,K.bl u r.2]))
def fF (K:Kit S) (t u v:Nat) {R:Type} (k:Rs S->Option R) (r:S.El t×S.El u×S.El v):Option R:=k (.ret (.bJ [K.bl t r.1,K.bl u r.2.1,K.bl v r.2.2]))
def u2 {A0 A1:Type} {D:Type u} (f:A0->A1->D) (p:A0×A1):D:=f p.1 p.2
def u3 {A0 A1 A2:Type} {D:Type u} (f:A0->A1->A2->D) (p:A0×A1×A2):D:=f p.1 p.2.1 p.2.2
def u4 {A0 A1 A2 a:Type} {D:Type u} (f:A0->A1->A2->a->D) (p:A0×A1×A2×a):D:=f p.1 p.2.1 p.2.2.1 p.2.2.2
def u5 {A0 A1 A2 a b:Type} {D:Type u} (f:A0->A1->A2->a->b->D) (p:A0×A1×A2×a×b):D:=f p.1 p.2.1 p.2.2.1 p.2.2.2.1 p.2.2.2.2
def u6 {A0 A1 A2 a b c:Type} {D:Type u} (f:A0->A1->A2->a->b->c->D) (p:A0×A1×A2×a×b×c):D:=f p.1 p.2.1 p.2.2.1 p.2.2.2.1 p.2.2.2.2.1 p.2.2.2.2.2
def u7 {A0 A1 A2 a b c d:Type} {D:Type u} (f:A0->A1->A2->a->b->c->d->D) (p:A0×A1×A2×a×b×c×d):D:=f p.1 p.2.1 p.2.2.1 p.2.2.2.1 p.2.2.2.2.1 p.2.2.2.2.2.1 p.2.2.2.2.2.2
def u8 {A0 A1 A2 a b c d e:Type} {D:Type u} (f:A0->A1->A2->a->b->c->d->e->D) (p:A0×A1×A2×a×b×c×d×e):D:=f p.1 p.2.1 p.2.2.1 p.2.2.2.1 p.2.2.2.2.1 p.2.2.2.2.2.1 p.2.2.2.2.2.2.1 p.2.2.2.2.2.2.2
def u9 {A0 A1 A2 a b c d e g:Type} {D:Type u} (f:A0->A1->A2->a->b->c->d->e->g->D) (p:A0×A1×A2×a×b×c×d×e×g):D:=f p.1 p.2.1 p.2.2.1 p.2.2.2.1 p.2.2.2.2.1 p.2.2.2.2.2.1 p.2.2.2.2.2.2.1 p.2.2.2.2.2.2.2.1 p.2.2.2.2.2.2.2.2
def yE {A0 A1 A2 a b c d e g h:Type} {D:Type u} (f:A0->A1->A2->a->b->c->d->e->g->h->D) (p:A0×A1×A2×a×b×c×d×e×g×h):D:=f p.1 p.2.1 p.2.2.1 p.2.2.2.1 p.2.2.2.2.1 p.2.2.2.2.2.1 p.2.2.2.2.2.2.1 p.2.2.2.2.2.2.2.1 p.2.2.2.2.2.2.2.2.1 p.2.2.2.2.2.2.2.2.2
def jk {A0 A1 A2 b c d e g h i a:Type} {D:Type u} (f:A0->A1->A2->b->c->d->e->g->h->i->a->D) (p:A0×A1×A2×b×c×d×e×g×h×i×a):D:=f p.1 p.2.1 p.2.2.1 p.2.2.2.1 p.2.2.2.2.1 p.2.2.2.2.2.1 p.2.2.2.2.2.2.1 p.2.2.2.2.2.2.2.1 p.2.2.2.2.2.2.2.2.1 p.2.2.2.2.2.2.2.2.2.1 p.2.2.2.2.2.2.2.2.2.2
def om {A0 A1 A2 c d e g h i j a b:Type} {D:Type u} (f:A0->A1->A2->c->d->e->g->h->i->j->a->b->D) (p:A0×A1×A2×c×d×e×g×h×i×j×a×b):D:=f p.1 p.2.1 p.2.2.1 p.2.2.2.1 p.2.2.2.2.1 p.2.2.2.2.2.1 p.2.2.2.2.2.2.1 p.2.2.2.2.2.2.2.1 p.2.2.2.2.2.2.2.2.1 p.2.2.2.2.2.2.2.2.2.1 p.2.2.2.2.2.2.2.2.2.2.1 p.2.2.2.2.2.2.2.2.2.2.2
def Uy {A0 A1 A2 d e g h i j k a b c:Type} {D:Type u} (f:A0->A1->A2->d->e->g->h->i->j->k->a->b->c->D) (p:A0×A1×A2×d×e×g×h×i×j×k×a×b×c):D:=f p.1 p.2.1 p.2.2.1 p.2.2.2.1 p.2.2.2.2.1 p.2.2.2.2.2.1 p.2.2.2.2.2.2.1 p.2.2.2.2.2.2.2.1 p.2.2.2.2.2.2.2.2.1 p.2.2.2.2.2.2.2.2.2.1 p.2.2.2.2.2.2.2.2.2.2.1 p.2.2.2.2.2.2.2.2.2.2.2.1 p.2.2.2.2.2.2.2.2.2.2.2.2
def Uz {A0 A1 A2 m n o q r s t a b c d e g h i j k l:Type} {D:Type u} (f:A0->A1->A2->m->n->o->q->r->s->t->a->b->c->d->e->g->h->i->j->k->l->D) (p:A0×A1×A2×m×n×o×q×r×s×t×a×b×c×d×e×g×h×i×j×k×l):D:=f p.1 p.2.1 p.2.2.1 p.2.2.2.1 p.2.2.2.2.1 p.2.2.2.2.2.1 p.2.2.2.2.2.2.1 p.2.2.2.2.2.2.2.1 p.2.2.2.2.2.2.2.2.1 p.2.2.2.2.2.2.2.2.2.1 p.2.2.2.2.2.2.2.2.2.2.1 p.2.2.2.2.2.2.2.2.2.2.2.1 p.2.2.2.2.2.2.2.2.2.2.2.2.1 p.2.2.2.2.2.2.2.2.2.2.2.2.2.1 p.2.2.2.2.2.2.2.2.2.2.2.2.2.2.1 p.2.2.2.2.2.2.2.2.2.2.2.2.2.2.2.1 p.2.2.2.2.2.2.2.2.2.2.2.2.2.2.2.2.1 p.2.2.2.2.2.2.2.2.2.2.2.2.2.2.2.2.2.1 p.2.2.2.2.2.2.2.2.2.2.2.2.2.2.2.2.2.2.1 p.2.2.2.2.2.2.2.2.2.2.2.2.2.2.2.2.2.2.2.1 p.2.2.2.2.2.2.2.2.2.2.2.2.2.2.2.2.2.2.2.2
theorem bu {L:Nat->Nat->Γ} {fn:Func} {f:Nat} {lc:aX S} {c:Code} (h:aR G P) (g:P.funcs[f]? =some fn) (a:fn.body=some c) (e:oJ P) (h1:xG c lc.id=true) (d:aO G.K P ⟨fn,L f⟩ (iW c lc.id) lc):aR (bq G L fn f [lc]) P:=aR.fz h g (by rw[a];rfl) e λi b=>by rw[a] at b;cases b;exact aF.cons aF.nil h1 d
abbrev KF (S:bm) (X:Type):= {R:Type}->(Rs S->Option R)->X->Option R
noncomputable def lA (K:Kit S) (f:Nat) {X:Type} (F:Option X) (kf:KF S X):eM S:=fE K f [] (λ{R} xs k=>match xs with| .nil=>(F).bind (kf k))
def R0 (K:Kit S) (E:bN S) (f:Nat) {X:Type} (rs:Γ) (T:T X) (kf:KF S X):Prop:= ∀ {R:Type} (k:Rs S->Option R),e1 E 100 f [] [] (ht K rs k)=(T).run (kf k)
theorem pv {f:Nat} {X:Type} {rs:Γ} {T:T X} {kf:KF S X} (h:ag G P) (e:aR E P) (h1:G.K=K) (b:E.K=K) (g:R0 K E f rs T kf):ag {G with C:=lA K f (shut.s _ (T).val) kf::G.C} P:=by
 subst h1;refine ag.f_ (c:=lA G.K f (shut.s _ (T).val) kf) h λxs k z _ d=>?_;rw[<-b] at d ⊢;refine kn e (rs:=rs) (λ{R} xs k z a=>?_) d
 match xs,a with
 | .nil,a=>exact⟨100,by rw[b];exact(g k).trans (lJ a)⟩
noncomputable def cR (K:Kit S) (f t0:Nat) {X:Type} (F:S.El t0->Option X) (kf:KF S X):eM S:=fE K f [t0] (λ{R} xs k=>match xs with| .cons a .nil=>(F a).bind (kf k))
def R1 (K:Kit S) (E:bN S) (f t0:Nat) {X:Type} (rs:Γ) (T:S.El t0->T X) (kf:KF S X):Prop:= ∀ {R:Type} (a:S.El t0) (k:Rs S->Option R),e1 E 100 f [K.bl t0 a] [] (ht K rs k)=(T a).run (kf k)
theorem cX {f t0:Nat} {X:Type} {rs:Γ} {T:S.El t0->T X} {kf:KF S X} (h:ag G P) (g:aR E P) (h1:G.K=K) (d:E.K=K) (i:R1 K E f t0 rs T kf):ag {G with C:=cR K f t0 (λa=>shut.s _ (T a).val) kf::G.C} P:=by
 subst h1;refine ag.f_ (c:=cR G.K f t0 (λa=>shut.s _ (T a).val) kf) h λxs k z _ e=>?_;rw[<-d] at e ⊢;refine kn g (rs:=rs) (λ{R} xs k z b=>?_) e
 match xs,b with
 | .cons a .nil,b=>exact⟨100,by rw[d];exact(i a k).trans (lJ b)⟩
noncomputable def bU (K:Kit S) (f t0 t1:Nat) {X:Type} (F:S.El t0->S.El t1->Option X) (kf:KF S X):eM S:=fE K f [t0,t1] (λ{R} xs k=>match xs with| .cons a (.cons b .nil)=>(F a b).bind (kf k))
def R2 (K:Kit S) (E:bN S) (f t0 t1:Nat) {X:Type} (rs:Γ) (T:S.El t0->S.El t1->T X) (kf:KF S X):Prop:= ∀ {R:Type} (a:S.El t0) (b:S.El t1) (k:Rs S->Option R),e1 E 100 f [K.bl t0 a,K.bl t1 b] [] (ht K rs k)=(T a b).run (kf k)
theorem bZ {f t0 t1:Nat} {X:Type} {rs:Γ} {T:S.El t0->S.El t1->T X} {kf:KF S X} (h:ag G P) (i:aR E P) (h1:G.K=K) (e:E.K=K) (j:R2 K E f t0 t1 rs T kf):ag {G with C:=bU K f t0 t1 (λa b=>shut.s _ (T a b).val) kf::G.C} P:=by
 subst h1;refine ag.f_ (c:=bU G.K f t0 t1 (λa b=>shut.s _ (T a b).val) kf) h λxs k z _ g=>?_;rw[<-e] at g ⊢;refine kn i (rs:=rs) (λ{R} xs k z d=>?_) g
 match xs,d with
 | .cons a (.cons b .nil),d=>exact⟨100,by rw[e];exact(j a b k).trans (lJ d)⟩
noncomputable def fN (K:Kit S) (f t0 t1 t2:Nat) {X:Type} (F:S.El t0->S.El t1->S.El t2->Option X) (kf:KF S X):eM S:=fE K f [t0,t1,t2] (λ{R} xs k=>match xs with| .cons a (.cons b (.cons c .nil))=>(F a b c).bind (kf k))
def R3 (K:Kit S) (E:bN S) (f t0 t1 t2:Nat) {X:Type} (rs:Γ) (T:S.El t0->S.El t1->S.El t2->T X) (kf:KF S X):Prop:= ∀ {R:Type} (a:S.El t0) (b:S.El t1) (c:S.El t2) (k:Rs S->Option R),e1 E 100 f [K.bl t0 a,K.bl t1 b,K.bl t2 c] [] (ht K rs k)=(T a b c).run (kf k)
theorem gz {f t0 t1 t2:Nat} {X:Type} {rs:Γ} {T:S.El t0->S.El t1->S.El t2->T X} {kf:KF S X} (h:ag G P) (i:aR E P) (h1:G.K=K) (e:E.K=K) (j:R3 K E f t0 t1 t2 rs T kf):ag {G with C:=fN K f t0 t1 t2 (λa b c=>shut.s _ (T a b c).val) kf::G.C} P:=by
 subst h1;refine ag.f_ (c:=fN G.K f t0 t1 t2 (λa b c=>shut.s _ (T a b c).val) kf) h λxs k z _ g=>?_;rw[<-e] at g ⊢;refine kn i (rs:=rs) (λ{R} xs k z d=>?_) g
 match xs,d with
 | .cons a (.cons b (.cons c .nil)),d=>exact⟨100,by rw[e];exact(j a b c k).trans (lJ d)⟩
noncomputable def FO (K:Kit S) (f t0 t1 t2 t3:Nat) {X:Type} (F:S.El t0->S.El t1->S.El t2->S.El t3->Option X) (kf:KF S X):eM S:=fE K f [t0,t1,t2,t3] (λ{R} xs k=>match xs with| .cons a (.cons b (.cons c (.cons d .nil)))=>(F a b c d).bind (kf k))
def R4 (K:Kit S) (E:bN S) (f t0 t1 t2 t3:Nat) {X:Type} (rs:Γ) (T:S.El t0->S.El t1->S.El t2->S.El t3->T X) (kf:KF S X):Prop:= ∀ {R:Type} (a:S.El t0) (b:S.El t1) (c:S.El t2) (d:S.El t3) (k:Rs S->Option R),e1 E 100 f [K.bl t0 a,K.bl t1 b,K.bl t2 c,K.bl t3 d] [] (ht K rs k)=(T a b c d).run (kf k)
theorem abE {f t0 t1 t2 t3:Nat} {X:Type} {rs:Γ} {T:S.El t0->S.El t1->S.El t2->S.El t3->T X} {kf:KF S X} (h:ag G P) (j:aR E P) (h1:G.K=K) (g:E.K=K) (l:R4 K E f t0 t1 t2 t3 rs T kf):ag {G with C:=FO K f t0 t1 t2 t3 (λa b c d=>shut.s _ (T a b c d).val) kf::G.C} P:=by
 subst h1;refine ag.f_ (c:=FO G.K f t0 t1 t2 t3 (λa b c d=>shut.s _ (T a b c d).val) kf) h λxs k z _ i=>?_;rw[<-g] at i ⊢;refine kn j (rs:=rs) (λ{R} xs k z e=>?_) i
 match xs,e with
 | .cons a (.cons b (.cons c (.cons d .nil))),e=>exact⟨100,by rw[g];exact(l a b c d k).trans (lJ e)⟩
noncomputable def NJ (K:Kit S) (f t0 t1 t2 t3 t4:Nat) {X:Type} (F:S.El t0->S.El t1->S.El t2->S.El t3->S.El t4->Option X) (kf:KF S X):eM S:=fE K f [t0,t1,t2,t3,t4] (λ{R} xs k=>match xs with| .cons a (.cons b (.cons c (.cons d (.cons e .nil))))=>(F a b c d e).bind (kf k))
def R5 (K:Kit S) (E:bN S) (f t0 t1 t2 t3 t4:Nat) {X:Type} (rs:Γ) (T:S.El t0->S.El t1->S.El t2->S.El t3->S.El t4->T X) (kf:KF S X):Prop:= ∀ {R:Type} (a:S.El t0) (b:S.El t1) (c:S.El t2) (d:S.El t3) (e:S.El t4) (k:Rs S->Option R),e1 E 100 f [K.bl t0 a,K.bl t1 b,K.bl t2 c,K.bl t3 d,K.bl t4 e] [] (ht K rs k)=(T a b c d e).run (kf k)
theorem aj9 {f t0 t1 t2 t3 t4:Nat} {X:Type} {rs:Γ} {T:S.El t0->S.El t1->S.El t2->S.El t3->S.El t4->T X} {kf:KF S X} (h:ag G P) (l:aR E P) (h1:G.K=K) (i:E.K=K) (m:R5 K E f t0 t1 t2 t3 t4 rs T kf):ag {G with C:=NJ K f t0 t1 t2 t3 t4 (λa b c d e=>shut.s _ (T a b c d e).val) kf::G.C} P:=by
 subst h1;refine ag.f_ (c:=NJ G.K f t0 t1 t2 t3 t4 (λa b c d e=>shut.s _ (T a b c d e).val) kf) h λxs k z _ j=>?_;rw[<-i] at j ⊢;refine kn l (rs:=rs) (λ{R} xs k z g=>?_) j
 match xs,g with
 | .cons a (.cons b (.cons c (.cons d (.cons e .nil)))),g=>exact⟨100,by rw[i];exact(m a b c d e k).trans (lJ g)⟩
end
end Go.Vx
end
section
namespace Go.Proofs.YtoggponeookhbaaGreatDoor
open Go.RowKit Go.Dc Go.Vx
variable (U:Sh)
def Y3 (U:Sh) (pid:Int):T Int:=.ok (δ.wrap (pid.tmod 64))
def lC (pid:Int):=U.s _ (Y3 U pid).val
def zm:=a6 (cR KK 101 35 (lC U) (bH KK 3)) G5
theorem sS:ag (zm shut) γ:=cX (rs:=[3]) K8 (ag.all K8 rfl) rfl rfl λpid k=>by kernel_rfl
def p8 (a:Γa) (p1:List ah) (p2:Int):AS SS:=⟨[(0,vs (.fD 0 0 16)),(1,vs (.v (.func (.func 98) (.mk []) (.mk [])))),(7,vi 16),(8,vi p2)],[bX 50 [.bA .i64 16 a,.aJ 48 p1]],1,none,false,[],[]⟩
def Dq (U:Sh) (b:Γa) (p1:List ah) (a:Int):T (Int⊕Int⊕(Bool×Int)):=.bf (decide (a<16)) (.bd (c6 a 16) λz0=>.bf (decide (ao b z0<0)) (.ok (.inr (.inl a)))<|.bf (decide (ao b z0>65536)) (.ok (.inr (.inl a)))<|.ok (.inl (δ.wrap (a+1))))<|.ok (.inr (.inr (decide (a<16),a)))
def B7 (a:Γa) (p1:List ah) (p2:Int):=bQ U (Dq U a p1) 1000000 p2
def Zt {R} (k:KX SS R) (a:Γa) (p1:List ah) (x:Int⊕(Bool×Int)):Option R:=x.elim (λv=>k .ret {p8 a p1 v with env:=[(4,vi v)]}) (λv=>k (.exit 0) (xe [(9,vb v.1)] (p8 a p1 v.2)))
def PZ:aX SS:=bh 3 (sq (hX ea 0 0) (sq (hD 48 0 1) (sI 8))) (u3 p8) (u3 (B7 shut)) (λk p=>Zt k p.1 p.2.1)
theorem SB:LS KK γ aq Tryz.f141 141 3 PZ:=
 aO.bQ (π:=Γa×List ah×Int) (σ:=Int) (ag.all sS rfl) (aF.nil) rfl 60 (λp a=>p8 p.1 p.2.1 a) (λp=>p.2.2) (St:=λp=>Dq shut p.1 p.2.1) (λp=>1000000) (λp=>rfl)
  (λm p a k=>by kernel_rfl)
def ih (a:Γa) (p1:List ah) (p2 b:Int):AS SS:=⟨[(0,vs .cW),(1,va 4 0),(9,vl p1),(10,vi b)],[bX 160 [.bA .i64 16 a,.aJ 48 p1],bX 35 [lu p2],bX 161 [.v (.pointer none)],some (.a7 142 [] [.one (.aM 4 0)]),bX 158 [.aM 0 0]],5,some ⟨⟨κ,aq 97⟩,[9,10],ey (ca κ) 4,ez (ca κ) 4,[(3,va 1 0),(4,va 2 0),(8,vc 3)],none⟩,false,[],[]⟩
def tD (U:Sh) (b:Γa) (p1:List ah) (p2 c:Int) (z0:ah) (a:Unit):T (Unit⊕ah⊕(Bool×Int)):=.bf (z0.aa==p2) (.ok (.inr (.inl z0)))<|.ok (.inl ())
def rV (U:Sh) (c:Γa) (p1:List ah) (p2 b:Int) (a:Unit):T (ah⊕(Bool×Int)):=.ok (.inr (decide (b<(↑p1.length:Int)),b))
def iz (a:Γa) (p1:List ah) (p2:Int):=bC U (tD U a p1 p2) (rV U a p1 p2) p1 ()
def ZA {R} (k:KX SS R) (a:Γa) (p1:List ah) (p2:Int) (x:ah⊕(Bool×Int)):Option R:=x.elim (λv=>k .ret ⟨[],[bX 160 [.bA .i64 16 a,.aJ 48 p1],bX 35 [lu p2],bX 161 [.ptr 115 v 0],some (.a7 142 [] [.one (.aM 4 0)]),bX 158 [.aM 0 0]],5,some ⟨⟨κ,aq 97⟩,[9,10],ey (ca κ) 4,ez (ca κ) 4,[(3,va 1 0),(4,va 2 0),(8,vc 3)],some .ret⟩,false,[],[2]⟩) (λv=>k (.exit 0) {ih a p1 p2 p2 with env:=[(11,vb v.1),(0,vs .cW),(1,va 4 0),(9,vl p1),(10,vi v.2)]})
def H6:aX SS:=bh 2 (gq (λst=>(cG st 3 142).bind λ_=>fQ st 18 4) (sq (hX ea 0 0) (sq (hD 48 0 1) (hI 1 0)))) (λp=>u3 ih p 0) (u3 (iz shut)) (λk=>u3 (ZA k))
def yV:=bq (zm shut) aq Tryz.f141 141 [PZ]
theorem K2:aR yV γ:=bu (ag.all sS rfl) ζ7 rfl aT (by kernel_rfl) SB
theorem SD:LS KK γ aq φ 142 2 H6:=
 aO.bI K2 (aF.nil) rfl 60 (λp i a=>u3 ih p i) (λp=>p.2.1) (λp=>()) (St:=u3 (tD shut)) (F:=u3 (rV shut)) (λp=>rfl)
  (λm p i a k=>by kernel_rfl) (by rintro p (x|x)<;>exact⟨_,_,λ_=>rfl⟩) (λp N C A O w a b=>Ic b (j:=0) (n:=1) (t:=48) rfl rfl λv h=>h)
def p_ (a:Γa) (p1:List ah) (p2:Int):AS SS:=⟨[(0,vs .cW),(1,va 7 0),(9,vl p1),(10,vi p2)],[bX 50 [.bA .i64 16 a,.aJ 48 p1],bX 27 [li 0],bX 163 [.a7 3],some (.a7 96 [] [.one (.aM 4 0)]),bX 158 [.aM 5 0],bX 160 [.bA .i64 16 a,.aJ 48 p1],some (.a7 142 [] [.one (.aM 7 0)]),bX 158 [.aM 5 0]],8,some ⟨⟨ξD,aq 60⟩,[34,35],ey (ca ξD) 10,ez (ca ξD) 10,[(1,va 0 0),(2,va 1 0),(4,va 2 0),(33,vc 6)],none⟩,false,[],[]⟩
def tC (b:Γa) (p1:List ah) (p2:Int) (z0:ah) (a:Unit):T (Unit⊕Unit⊕(Bool×Int)):=.bd (lC U z0.aa) λg=>.bf (decide (g>=1)) (.bf (decide (g<=16)) (.bf (p2==0) (.bd (c6 (δ.wrap (g-1)) 16) λz2=>.bf (ζ.wrap (ζ.wrap (z0.aa.tdiv 64)+1) !=ζ.wrap (ao b z2)) (.ok (.inr (.inl ())))<|.bf (z0.bb) (.bf (z0.aP==0) (.ok (.inr (.inl ())))<|.bf (!z0.bb) (.bf (z0.bV !=0) (.ok (.inr (.inl ())))<|.bf (z0.aP !=0) (.bf (z0.aP==z0.aa) (.ok (.inr (.inl ())))<|.gd (ih b p1 z0.aP 0)<|.bd (iz U b p1 z0.aP) λf=>.cs f (λc=>.bf (!!c.bb) (.ok (.inr (.inl ())))<|.ok (.inl ())) λc=>.ok (.inr (.inl ())))<|.ok (.inl ()))<|.bf (z0.aP !=0) (.bf (z0.aP==z0.aa) (.ok (.inr (.inl ())))<|.gd (ih b p1 z0.aP 0)<|.bd (iz U b p1 z0.aP) λe=>.cs e (λc=>.bf (!!c.bb) (.ok (.inr (.inl ())))<|.ok (.inl ())) λc=>.ok (.inr (.inl ())))<|.ok (.inl ()))<|.bf (!z0.bb) (.bf (z0.bV !=0) (.ok (.inr (.inl ())))<|.bf (z0.aP !=0) (.bf (z0.aP==z0.aa) (.ok (.inr (.inl ())))<|.gd (ih b p1 z0.aP 0)<|.bd (iz U b p1 z0.aP) λe=>.cs e (λc=>.bf (!!c.bb) (.ok (.inr (.inl ())))<|.ok (.inl ())) λc=>.ok (.inr (.inl ())))<|.ok (.inl ()))<|.bf (z0.aP !=0) (.bf (z0.aP==z0.aa) (.ok (.inr (.inl ())))<|.gd (ih b p1 z0.aP 0)<|.bd (iz U b p1 z0.aP) λi=>.cs i (λc=>.bf (!!c.bb) (.ok (.inr (.inl ())))<|.ok (.inl ())) λc=>.ok (.inr (.inl ())))<|.ok (.inl ()))<|.bd (idx p1 (δ.wrap (p2-1))) λz2=>.bd (lC U z2.aa) λc=>.bf (!decide (c<g)) (.ok (.inr (.inl ())))<|.bd (c6 (δ.wrap (g-1)) 16) λz4=>.bf (ζ.wrap (ζ.wrap (z0.aa.tdiv 64)+1) !=ζ.wrap (ao b z4)) (.ok (.inr (.inl ())))<|.bf (z0.bb) (.bf (z0.aP==0) (.ok (.inr (.inl ())))<|.bf (!z0.bb) (.bf (z0.bV !=0) (.ok (.inr (.inl ())))<|.bf (z0.aP !=0) (.bf (z0.aP==z0.aa) (.ok (.inr (.inl ())))<|.gd (ih b p1 z0.aP 0)<|.bd (iz U b p1 z0.aP) λh=>.cs h (λd=>.bf (!!d.bb) (.ok (.inr (.inl ())))<|.ok (.inl ())) λd=>.ok (.inr (.inl ())))<|.ok (.inl ()))<|.bf (z0.aP !=0) (.bf (z0.aP==z0.aa) (.ok (.inr (.inl ())))<|.gd (ih b p1 z0.aP 0)<|.bd (iz U b p1 z0.aP) λf=>.cs f (λd=>.bf (!!d.bb) (.ok (.inr (.inl ())))<|.ok (.inl ())) λd=>.ok (.inr (.inl ())))<|.ok (.inl ()))<|.bf (!z0.bb) (.bf (z0.bV !=0) (.ok (.inr (.inl ())))<|.bf (z0.aP !=0) (.bf (z0.aP==z0.aa) (.ok (.inr (.inl ())))<|.gd (ih b p1 z0.aP 0)<|.bd (iz U b p1 z0.aP) λf=>.cs f (λd=>.bf (!!d.bb) (.ok (.inr (.inl ())))<|.ok (.inl ())) λd=>.ok (.inr (.inl ())))<|.ok (.inl ()))<|.bf (z0.aP !=0) (.bf (z0.aP==z0.aa) (.ok (.inr (.inl ())))<|.gd (ih b p1 z0.aP 0)<|.bd (iz U b p1 z0.aP) λe=>.cs e (λd=>.bf (!!d.bb) (.ok (.inr (.inl ())))<|.ok (.inl ())) λd=>.ok (.inr (.inl ())))<|.ok (.inl ()))<|.ok (.inr (.inl ())))<|.ok (.inr (.inl ()))
def rU (U:Sh) (b:Γa) (p1:List ah) (p2:Int) (a:Unit):T (Unit⊕(Bool×Int)):=.ok (.inr (decide (p2<(↑p1.length:Int)),p2))
def te (a:Γa) (p1:List ah):=bC U (tC U a p1) (rU U a p1) p1 ()
def Zz {R} (k:KX SS R) (a:Γa) (p1:List ah) (x:Unit⊕(Bool×Int)):Option R:=x.elim (λv=>k .ret ⟨[],[bX 50 [.bA .i64 16 a,.aJ 48 p1],bX 27 [li 320],bX 163 [.a7 3],some (.a7 96 [] [.one (.aM 4 0)]),bX 158 [.aM 5 0],bX 160 [.bA .i64 16 a,.aJ 48 p1],some (.a7 142 [] [.one (.aM 7 0)]),bX 158 [.aM 5 0]],8,some ⟨⟨ξD,aq 60⟩,[34,35],ey (ca ξD) 10,ez (ca ξD) 10,[(1,va 0 0),(2,va 1 0),(4,va 2 0),(33,vc 6)],some .ret⟩,false,[],[1]⟩) (λv=>k (.exit 0) (xe [(11,vb v.1)] (p_ a p1 v.2)))
def P3:aX SS:=bh 2 (gq (λst=>(cG st 3 96).bind λ_=>(cG st 6 142).bind λ_=>fQ st 132 10) (sq (hX ea 0 0) (hD 48 0 1))) (λp=>u2 p_ p 0) (u2 (te shut)) (λk=>u2 (Zz k))
def X0:=bq yV aq φ 142 [H6]
theorem X1:aR X0 γ:=bu K2 ξ0 rfl aT (by kernel_rfl) SD
theorem af0:LS KK γ aq φ 142 2 P3:=
 aO.bI X1 (aF.nil) rfl 60 (λp i a=>u2 p_ p i) (λp=>p.2) (λp=>()) (St:=u2 (tC shut)) (F:=u2 (rU shut)) (λp=>rfl)
  (λm p i a k=>by kernel_rfl) (by rintro p (x|x)<;>exact⟨_,_,λ_=>rfl⟩) (λp N C A O w a b=>Ic b (j:=0) (n:=1) (t:=48) rfl rfl λv h=>h)
def X2:=bq yV aq φ 142 [ke (λst=>(cG st 3 142).bind λ_=>fQ st 18 4) H6 (P3)]
theorem X3:aR X2 γ:=bu (aR.fz (ag.all sS rfl) ζ7 rfl aT λc a=>by cases a;exact aF.cons (aF.nil) (by kernel_rfl) SB) ξ0 rfl aT (by kernel_rfl) (aO.alt SD af0)
def Fa (p:br):T Int:=.bf ((↑p.ae.length:Int)==0) (.ok 320)<|.bd (idx p.ae 0) λz0=>.bf (!fl z0 (ah.mk 1 0 false 0)) (.ok 320)<|.gd (p8 p.aH p.ae 0)<|.bd (B7 U p.aH p.ae 0) λc=>.cs c (λb=>.bf (decide (b>=0)) (.ok 320)<|.gd (p_ p.aH p.ae 0)<|.bd (te U p.aH p.ae) λa=>.cs a (λ_=>.ok 320) λd=>.ok 0) λb=>.gd (p_ p.aH p.ae 0)<|.bd (te U p.aH p.ae) λa=>.cs a (λ_=>.ok 320) λd=>.ok 0
def kt (p:br):=U.s _ (Fa U p).val
def Mx:=a6 (cR KK 60 50 (kt U) (bH KK 27)) (zm U)
theorem My:ag (Mx shut) γ:=cX (rs:=[27]) sS X3 rfl rfl λp k=>by kernel_rfl
def DC (U:Sh) (d:ai):T Bool:=.bf (decide (d.aa<4294967296)) (.bf (decide (d.bo>=0)) (.ok (decide (d.bo<8)))<|.ok false)<|.ok false
def Gb (d:ai):=U.s _ (DC U d).val
def Lc:=a6 (cR KK 102 105 (Gb U) (bH KK 4)) (Mx U)
theorem Ld:ag (Lc shut) γ:=cX (rs:=[4]) My (ag.all My rfl) rfl rfl λd k=>by kernel_rfl
def DP (U:Sh) (x y:Int):T Int:=.bf (x !=x) (.bf (y !=y) (.ok 0)<|.ok (-1))<|.bf (y !=y) (.ok 1)<|.bf (decide (x<y)) (.ok (-1))<|.bf (decide (x>y)) (.ok 1)<|.ok 0
def ie (x y:Int):=U.s _ (DP U x y).val
def Lp:=a6 (bU KK 144 35 35 (ie U) (bH KK 3)) (Lc U)
theorem Lq:ag (Lp shut) γ:=bZ (rs:=[3]) Ld (ag.all Ld rfl) rfl rfl λx y k=>by kernel_rfl
def Y9 (U:Sh) (x y:Int):T Int:=.bf (x !=x) (.bf (y !=y) (.ok 0)<|.ok (-1))<|.bf (y !=y) (.ok 1)<|.bf (decide (x<y)) (.ok (-1))<|.bf (decide (x>y)) (.ok 1)<|.ok 0
def GO (x y:Int):=U.s _ (Y9 U x y).val
def Bw:=a6 (bU KK 37 3 3 (GO U) (bH KK 3)) (Lp U)
theorem Bx:ag (Bw shut) γ:=bZ (rs:=[3]) Lq (ag.all Lq rfl) rfl rfl λx y k=>by kernel_rfl
def p' (a:Γa) (p1:Int):AS SS:=⟨[(3,vi 0),(6,vo 0),(7,vi 2),(8,vi p1)],[rX 3 a],1,none,false,[],[]⟩
def kb (U:Sh) (b:Γa) (a:Int):T (Int⊕Int⊕(Bool×Int)):=.bf (decide (a<2)) (.bd (idx b a) λz0=>.bd (b[a.toNat]?) λc=>.bf (c !=0) (.ok (.inr (.inl c)))<|.ok (.inl (δ.wrap (a+1))))<|.ok (.inr (.inr (decide (a<2),a)))
def Ca (a:Γa) (p1:Int):=bQ U (kb U a) 1000000 p1
def ZB {R} (k:KX SS R) (a:Γa) (x:Int⊕(Bool×Int)):Option R:=x.elim (λv=>k .ret {p' a v with env:=[(2,vi v)]}) (λv=>k (.exit 0) (xe [(9,vb v.1)] (p' a v.2)))
def P4:aX SS:=bh 4 (sq (hR 0 3) (sI 8)) (u2 p') (u2 (Ca shut)) (λk p=>ZB k p.1)
theorem af1:LS KK γ aq Tryz.f143 143 4 P4:=
 aO.bQ (π:=Γa×Int) (σ:=Int) (ag.all Bx rfl) (aF.nil) rfl 60 (λp a=>p' p.1 a) (λp=>p.2) (St:=λp=>kb shut p.1) (λp=>1000000) (λp=>rfl)
  (λm p a k=>by kernel_rfl)
def Vz:=bq (Bw shut) aq Tryz.f143 143 [P4]
theorem VA:aR Vz γ:=bu (ag.all Bx rfl) Tryz.func143 rfl aT (by kernel_rfl) af1
def DD (a b:ai):T Int:=.bd (ie U a.aa b.aa) λc=>.bd (GO U a.bo b.bo) λd=>.gd (p' [c,d] 0)<|.bd (Ca U [c,d] 0) λf=>.cs f (λe=>.ok e) λe=>.ok 0
def pC (a b:ai):=U.s _ (DD U a b).val
def zn:=a6 (bU KK 103 105 105 (pC U) (bH KK 3)) (Bw U)
theorem zo:ag (zn shut) γ:=bZ (rs:=[3]) Bx VA rfl rfl λa b k=>by kernel_rfl
def qx (a:List ai) (p1:Int):AS SS:=⟨[(0,vd 51 a),(8,vd 51 a),(9,vl a),(10,vi p1)],[],0,none,false,[],[]⟩
def o7 (b:List ai) (p1:Int) (z0:ai) (a:Unit):T (Unit⊕Unit⊕(Bool×Int)):=.bd (Gb U z0) λc=>.bf (!c) (.ok (.inr (.inl ())))<|.bf (decide (p1>0)) (.bd (idx b (δ.wrap (p1-1))) λz2=>.bd (pC U z2 z0) λd=>.bf (decide (d>=0)) (.ok (.inr (.inl ())))<|.ok (.inl ()))<|.ok (.inl ())
def sH (U:Sh) (b:List ai) (p1:Int) (a:Unit):T (Unit⊕(Bool×Int)):=.ok (.inr (decide (p1<(↑b.length:Int)),p1))
def Da (a:List ai):=bC U (o7 U a) (sH U a) a ()
def aaO {R} (k:KX SS R) (a:List ai) (x:Unit⊕(Bool×Int)):Option R:=x.elim (λv=>k .ret {qx a 0 with env:=[(2,vi 330)]}) (λv=>k (.exit 0) (xe [(11,vb v.1)] (qx a v.2)))
def Q':aX SS:=bh 5 (sD 51 0) (λp=>qx p 0) (λp=>Da shut p) (λk p=>aaO k p)
theorem ahb:LS KK γ aq Tryz.f61 61 5 Q':=
 aO.bI (π:=List ai) (ag.all zo rfl) (aF.nil) rfl 60 (λp i a=>qx p i) (λp=>p) (λp=>()) (St:=λp=>o7 shut p) (F:=λp=>sH shut p) (λp=>rfl)
  (λm p i a k=>by kernel_rfl) (by rintro p (x|x)<;>exact⟨_,_,λ_=>rfl⟩) (λp N C A O w a b=>bT b (t:=51) (sl:=0) rfl λv h=>h)
def X4:=bq (zn shut) aq Tryz.f61 61 [Q']
theorem X5:aR X4 γ:=bu (ag.all zo rfl) Tryz.func61 rfl aT (by kernel_rfl) ahb
def Fb (l:List ai):T Int:=.bf (decide ((↑l.length:Int)>64)) (.ok 330)<|.gd (qx l 0)<|.bd (Da U l) λa=>.cs a (λ_=>.ok 330) λb=>.ok 0
def iK (l:List ai):=U.s _ (Fb U l).val
def s8:=a6 (cR KK 61 51 (iK U) (bH KK 27)) (zn U)
theorem BI:ag (s8 shut) γ:=cX (rs:=[27]) zo X5 rfl rfl λl k=>by kernel_rfl
def mM (U:Sh) (p:Int):T Bool:=.bf (decide (p>=1)) (.ok (decide (p<4294967296)))<|.ok false
def na (p:Int):=U.s _ (mM U p).val
theorem Ul:R1 KK (s8 shut) 107 35 [4] (mM shut) (bH KK 4):=by intro R p k;kernel_rfl
def zt:=a6 (cR KK 107 35 (na U) (bH KK 4)) (s8 U)
theorem zu:ag (zt shut) γ:=cX BI (ag.all BI rfl) rfl rfl Ul
def qd (a:ByteArray) (p1:Γa) (p2 b:Int):AS SS:=⟨[(0,vs (.v (.string a))),(5,vu p2),(14,.s (.agg [.bA .u8 8 p1])),(15,vi b)],[],0,none,false,[],[]⟩
def oO (U:Sh) (c:ByteArray) (p1:Γa) (a:Int×Int):T ((Int×Int)⊕Unit⊕(Bool×Int×Int)):=.bf (decide (a.2<8)) (.bd (c6 a.2 8) λz0=>.bf (ao p1 z0==0) (.bf (decide (a.2<(↑c.size:Int))) (.ok (.inr (.inl ())))<|.bd (ma ζ (ζ.wrap (ao p1 z0)) (δ.wrap (8*a.2))) λb=>.ok (.inl (bits BinOp.or ζ a.1 b,δ.wrap (a.2+1))))<|.bd (ma ζ (ζ.wrap (ao p1 z0)) (δ.wrap (8*a.2))) λb=>.ok (.inl (bits BinOp.or ζ a.1 b,δ.wrap (a.2+1))))<|.ok (.inr (.inr (decide (a.2<8),a.1,a.2)))
def Cf (a:ByteArray) (p1:Γa) (p2 b:Int):=bQ U (oO U a p1) 1000000 (p2,b)
def ZH {R} (k:KX SS R) (a:ByteArray) (p1:Γa) (x:Unit⊕(Bool×Int×Int)):Option R:=x.elim (λv=>k .ret {qd a p1 0 0 with env:=[(2,vu 0),(3,vi 2)]}) (λv=>k (.exit 0) {qd a p1 v.2.1 v.2.1 with env:=[(16,vb v.1),(0,vs (.v (.string a))),(5,vu v.2.1),(14,.s (.agg [.bA .u8 8 p1])),(15,vi v.2.2)]})
def P_:aX SS:=bh 8 (sq (sX jF 0) (sq (sX ea 14) (sq (sI 5) (sI 15)))) (u4 qd) (u4 (Cf shut)) (λk p=>ZH k p.1 p.2.1)
theorem af7:LS KK γ aq Tryz.f189 189 8 P_:=
 aO.bQ (π:=ByteArray×Γa×Int×Int) (σ:=Int×Int) (ag.all zu rfl) (aF.nil) rfl 60 (λp a=>qd p.1 p.2.1 a.1 a.2) (λp=>(p.2.2.1,p.2.2.2)) (St:=λp=>oO shut p.1 p.2.1) (λp=>1000000) (λp=>rfl)
  (λm p a k=>by kernel_rfl)
def WB:=bq (zt shut) aq Tryz.f189 189 [P_]
theorem WD:aR WB γ:=bu (ag.all zu rfl) Tryz.func189 rfl aT (by kernel_rfl) af7
def Ef (s:ByteArray):T (Int×Int):=.bf (decide ((↑s.size:Int)>8)) (.ok (0,111))<|.bd (yu KK (aE (eA (eA (eA (eA (eA (eA (eA (eA [] []++[]) []++[]) []++[]) []++[]) []++[]) []++[some (Ob.box 303 (List.map LV.v [ξd ξ2 0,ξd ξ2 0,ξd ξ2 0,ξd ξ2 0,ξd ξ2 0,ξd ξ2 0,ξd ξ2 0,ξd ξ2 0]))]) []++[]) []++[])) 5 ξ2 8 (LV.v (Value.string s))) λz0=>.gd (qd s (c5 [0,0,0,0,0,0,0,0] z0) 0 0)<|.bd (Cf U s (c5 [0,0,0,0,0,0,0,0] z0) 0 0) λa=>.cs a (λ_=>.ok (0,2)) λb=>.ok (b.2.1,0)
def vy (s:ByteArray):=U.s _ (Ef U s).val
def Af:=a6 (cR KK 189 9 (vy U) (dy KK 35 27)) (zt U)
theorem Ag:ag (Af shut) γ:=cX (rs:=[35,27]) zu WD rfl rfl λs k=>by kernel_rfl
def wc (a p1:Int) (p2:Γa):AS SS:=⟨[(0,vu a),(4,vo 0),(5,vu p1)],[rX 5 p2],0,none,false,[],[]⟩
def oM (U:Sh) (b:Int) (a:Int×Γa):T ((Int×Γa)⊕(Bool×Int×Int×Γa)):=.bf (bits ζ8 ζ a.1 255 !=0) (.bd (app 1 a.2 [ξ2.wrap a.1]) λz0=>.ok (.inl (a.1.fdiv 256,z0)))<|.ok (.inr (bits ζ8 ζ a.1 255 !=0,bits ζ8 ζ a.1 255,a.1,a.2))
def Cb (a p1:Int) (p2:Γa):=bQ U (oM U a) 1000000 (p1,p2)
def ZC {R} (k:KX SS R) (a:Int) (x:(Bool×Int×Int×Γa)):Option R:=(λv=>k (.exit 0) {wc a a v.2.2.2 with env:=[(12,vb v.1),(11,vu v.2.1),(10,vu v.2.2.1),(0,vu a),(4,vo 0),(5,vu v.2.2.1)]}) x
def P5:aX SS:=bh 4 (sq (sI 0) (sq (sI 5) (hR 0 5))) (u3 wc) (u3 (Cb shut)) (λk p=>ZC k p.1)
theorem af2:LS KK γ aq Tryz.f146 146 4 P5:=
 aO.bQ (π:=Int×Int×Γa) (σ:=Int×Γa) (ag.all Ag rfl) (aF.nil) rfl 60 (λp a=>wc p.1 a.1 a.2) (λp=>(p.2.1,p.2.2)) (St:=λp=>oM shut p.1) (λp=>1000000) (λp=>rfl)
  (λm p a k=>by kernel_rfl)
def VT:=bq (Af shut) aq Tryz.f146 146 [P5]
theorem VU:aR VT γ:=bu (ag.all Ag rfl) Tryz.func146 rfl aT (by kernel_rfl) af2
def DR (w:Int):T (ByteArray×Int):=.gd (wc w w [])<|.bd (Cb U w w []) λc=>.bd (iT KK 5 ξ2 c.2.2.2) λb=>.bd (vy U (strOf b)) λa=>.bf (a.2 !=0) (.ok (ο #[],2))<|.bf (a.1 !=w) (.ok (ο #[],2))<|.ok (strOf b,0)
def u1 (w:Int):=U.s _ (DR U w).val
def zB:=a6 (cR KK 146 35 (u1 U) (dy KK 9 27)) (Af U)
theorem zC:ag (zB shut) γ:=cX (rs:=[9,27]) Ag VU rfl rfl λw k=>by kernel_rfl
def iS (a:Bool) (p1:ByteArray) (p2:Nat):AS SS:=⟨[(5,vb a),(20,vs (.cZ 0))],[some (.cZ p1 p2)],0,none,false,[],[]⟩
def ka (U:Sh) (p1:ByteArray) (a:Bool×Nat):T ((Bool×Nat)⊕(Bool×Bool×Int×Bool×Bool×Bool×Bool×Int×Nat)⊕(Bool×Int×Bool×Bool×Bool×Int×Nat)⊕(Bool×Bool×Int×Bool×Bool×Bool×Int×Nat)⊕(Bool×Int×Bool×Bool×Int×Nat)⊕(Bool×Int×Int×Nat)⊕(Bool×Nat)):=.bf (decide (a.2<p1.size)) (.bf (a.1) (.bf (decide ((↑(ε p1 a.2).fst:Int)>=97)) (.bf (decide ((↑(ε p1 a.2).fst:Int)<=122)) (.ok (.inl (true,a.2+(ε p1 a.2).snd)))<|.bf (decide ((↑(ε p1 a.2).fst:Int)>=48)) (.bf (!decide ((↑(ε p1 a.2).fst:Int)<=57)) (.ok (.inr (.inl (!decide ((↑(ε p1 a.2).fst:Int)<=57),decide ((↑(ε p1 a.2).fst:Int)<=57),(↑(ε p1 a.2).fst:Int),decide ((↑(ε p1 a.2).fst:Int)>=48),decide ((↑(ε p1 a.2).fst:Int)<=122),decide ((↑(ε p1 a.2).fst:Int)>=97),a.1,(↑a.2:Int),a.2+(ε p1 a.2).snd))))<|.ok (.inl (decide ((↑(ε p1 a.2).fst:Int)<=57),a.2+(ε p1 a.2).snd)))<|.ok (.inr (.inr (.inl (decide ((↑(ε p1 a.2).fst:Int)>=48),(↑(ε p1 a.2).fst:Int),decide ((↑(ε p1 a.2).fst:Int)<=122),decide ((↑(ε p1 a.2).fst:Int)>=97),a.1,(↑a.2:Int),a.2+(ε p1 a.2).snd)))))<|.bf (decide ((↑(ε p1 a.2).fst:Int)>=48)) (.bf (!decide ((↑(ε p1 a.2).fst:Int)<=57)) (.ok (.inr (.inr (.inr (.inl (!decide ((↑(ε p1 a.2).fst:Int)<=57),decide ((↑(ε p1 a.2).fst:Int)<=57),(↑(ε p1 a.2).fst:Int),decide ((↑(ε p1 a.2).fst:Int)>=48),decide ((↑(ε p1 a.2).fst:Int)>=97),a.1,(↑a.2:Int),a.2+(ε p1 a.2).snd))))))<|.ok (.inl (decide ((↑(ε p1 a.2).fst:Int)<=57),a.2+(ε p1 a.2).snd)))<|.ok (.inr (.inr (.inr (.inr (.inl (decide ((↑(ε p1 a.2).fst:Int)>=48),(↑(ε p1 a.2).fst:Int),decide ((↑(ε p1 a.2).fst:Int)>=97),a.1,(↑a.2:Int),a.2+(ε p1 a.2).snd)))))))<|.ok (.inr (.inr (.inr (.inr (.inr (.inl (a.1,(↑(ε p1 a.2).fst:Int),(↑a.2:Int),a.2+(ε p1 a.2).snd))))))))<|.ok (.inr (.inr (.inr (.inr (.inr (.inr (a.1,a.2)))))))
def oG (a:Bool) (p1:ByteArray) (p2:Nat):=bQ U (ka U p1) 1000000 (a,p2)
def Zi {R} (k:KX SS R) (p1:ByteArray) (x:(Bool×Bool×Int×Bool×Bool×Bool×Bool×Int×Nat)⊕(Bool×Int×Bool×Bool×Bool×Int×Nat)⊕(Bool×Bool×Int×Bool×Bool×Bool×Int×Nat)⊕(Bool×Int×Bool×Bool×Int×Nat)⊕(Bool×Int×Int×Nat)⊕(Bool×Nat)):Option R:=x.elim (λv=>k (.exit 0) {iS v.1 p1 v.2.2.2.2.2.2.2.2 with env:=[(42,vb v.1),(41,vb v.2.1),(5,vb v.2.1),(40,vb v.2.1),(39,vb v.2.1),(25,vb true),(38,vb v.2.1),(32,vb false),(37,vb v.2.1),(35,vb true),(36,vs (.v (.int .i32 v.2.2.1))),(35,vb true),(35,vb v.2.2.2.1),(32,vb false),(34,vb v.2.2.2.1),(32,vb false),(33,vs (.v (.int .i32 v.2.2.1))),(32,vb false),(32,vb v.2.2.2.2.1),(25,vb true),(31,vb v.2.2.2.2.1),(25,vb true),(30,vb v.2.2.2.2.1),(28,vb true),(29,vs (.v (.int .i32 v.2.2.1))),(28,vb true),(28,vb v.2.2.2.2.2.1),(25,vb true),(27,vb v.2.2.2.2.2.1),(25,vb true),(26,vs (.v (.int .i32 v.2.2.1))),(25,vb true),(25,vb v.2.2.2.2.2.2.1),(24,vb v.2.2.2.2.2.2.1),(7,vs (.v (.int .i32 v.2.2.1))),(23,vs (.v (.int .i32 v.2.2.1))),(22,vb true),(21,.bJ [.one (.v (.bool true)),.one (li v.2.2.2.2.2.2.2.1),.one (.v (.int .i32 v.2.2.1))]),(5,vb v.2.2.2.2.2.2.1),(20,vs (.cZ 0))]}) (ζ0 (λv=>k (.exit 0) {iS v.1 p1 v.2.2.2.2.2.2 with env:=[(42,vb true),(41,vb false),(5,vb false),(40,vb false),(39,vb false),(25,vb true),(38,vb false),(32,vb false),(37,.bJ []),(35,vb false),(36,.bJ []),(35,vb false),(35,vb v.1),(32,vb false),(34,vb v.1),(32,vb false),(33,vs (.v (.int .i32 v.2.1))),(32,vb false),(32,vb v.2.2.1),(25,vb true),(31,vb v.2.2.1),(25,vb true),(30,vb v.2.2.1),(28,vb true),(29,vs (.v (.int .i32 v.2.1))),(28,vb true),(28,vb v.2.2.2.1),(25,vb true),(27,vb v.2.2.2.1),(25,vb true),(26,vs (.v (.int .i32 v.2.1))),(25,vb true),(25,vb v.2.2.2.2.1),(24,vb v.2.2.2.2.1),(7,vs (.v (.int .i32 v.2.1))),(23,vs (.v (.int .i32 v.2.1))),(22,vb true),(21,.bJ [.one (.v (.bool true)),.one (li v.2.2.2.2.2.1),.one (.v (.int .i32 v.2.1))]),(5,vb v.2.2.2.2.1),(20,vs (.cZ 0))]}) (ζ0 (λv=>k (.exit 0) {iS v.1 p1 v.2.2.2.2.2.2.2 with env:=[(42,vb v.1),(41,vb v.2.1),(5,vb v.2.1),(40,vb v.2.1),(39,vb v.2.1),(25,vb true),(38,vb v.2.1),(32,vb false),(37,vb v.2.1),(35,vb true),(36,vs (.v (.int .i32 v.2.2.1))),(35,vb true),(35,vb v.2.2.2.1),(32,vb false),(34,vb v.2.2.2.1),(32,vb false),(33,vs (.v (.int .i32 v.2.2.1))),(32,vb false),(32,vb false),(25,vb true),(31,vb false),(25,vb true),(30,.bJ []),(28,vb false),(29,.bJ []),(28,vb false),(28,vb v.2.2.2.2.1),(25,vb true),(27,vb v.2.2.2.2.1),(25,vb true),(26,vs (.v (.int .i32 v.2.2.1))),(25,vb true),(25,vb v.2.2.2.2.2.1),(24,vb v.2.2.2.2.2.1),(7,vs (.v (.int .i32 v.2.2.1))),(23,vs (.v (.int .i32 v.2.2.1))),(22,vb true),(21,.bJ [.one (.v (.bool true)),.one (li v.2.2.2.2.2.2.1),.one (.v (.int .i32 v.2.2.1))]),(5,vb v.2.2.2.2.2.1),(20,vs (.cZ 0))]}) (ζ0 (λv=>k (.exit 0) {iS v.1 p1 v.2.2.2.2.2 with env:=[(42,vb true),(41,vb false),(5,vb false),(40,vb false),(39,vb false),(25,vb true),(38,vb false),(32,vb false),(37,.bJ []),(35,vb false),(36,.bJ []),(35,vb false),(35,vb v.1),(32,vb false),(34,vb v.1),(32,vb false),(33,vs (.v (.int .i32 v.2.1))),(32,vb false),(32,vb false),(25,vb true),(31,vb false),(25,vb true),(30,.bJ []),(28,vb false),(29,.bJ []),(28,vb false),(28,vb v.2.2.1),(25,vb true),(27,vb v.2.2.1),(25,vb true),(26,vs (.v (.int .i32 v.2.1))),(25,vb true),(25,vb v.2.2.2.1),(24,vb v.2.2.2.1),(7,vs (.v (.int .i32 v.2.1))),(23,vs (.v (.int .i32 v.2.1))),(22,vb true),(21,.bJ [.one (.v (.bool true)),.one (li v.2.2.2.2.1),.one (.v (.int .i32 v.2.1))]),(5,vb v.2.2.2.1),(20,vs (.cZ 0))]}) (ζ0 (λv=>k (.exit 0) (xe [(42,vb true),(41,vb false),(5,vb false),(40,vb false),(39,.bJ []),(25,vb false),(38,.bJ []),(37,.bJ []),(36,.bJ []),(35,.bJ []),(34,.bJ []),(33,.bJ []),(32,.bJ []),(25,vb false),(31,.bJ []),(25,vb false),(30,.bJ []),(29,.bJ []),(28,.bJ []),(25,vb false),(27,.bJ []),(25,vb false),(26,.bJ []),(25,vb false),(25,vb v.1),(24,vb v.1),(7,vs (.v (.int .i32 v.2.1))),(23,vs (.v (.int .i32 v.2.1))),(22,vb true),(21,.bJ [.one (.v (.bool true)),.one (li v.2.2.1),.one (.v (.int .i32 v.2.1))])] (iS v.1 p1 v.2.2.2))) (λv=>k (.exit 0) (xe [(22,vb false),(21,.bJ [.one (.v (.bool false))])] (iS v.1 p1 v.2)))))))
def PO:aX SS:=bh 5 (sq (sX gD 5) (sq (λst=>hpS st 0) (λst=>Pd st 0))) (u3 iS) (u3 (oG shut)) (λk p=>Zi k p.2.1)
theorem afN:LS KK γ aq Tryz.f106 106 5 PO:=
 aO.bQ (π:=Bool×ByteArray×Nat) (σ:=Bool×Nat) (ag.all zC rfl) (aF.nil) rfl 60 (λp a=>iS a.1 p.2.1 a.2) (λp=>(p.1,p.2.2)) (St:=λp=>ka shut p.2.1) (λp=>1000000) (λp=>rfl)
  (λm p a k=>by kernel_rfl)
def VB:=bq (zB shut) aq Tryz.f106 106 [PO]
theorem VC:aR VB γ:=bu (ag.all zC rfl) Tryz.func106 rfl aT (by kernel_rfl) afN
def DF (w:Int):T Bool:=.bd (u1 U w) λb=>.bf (b.2==0) (.gd (iS (!b.1.toList==(ο #[]).toList) b.1 0)<|.bd (oG U (!b.1.toList==(ο #[]).toList) b.1 0) λh=>.cs h (λa=>.ok a.2.1) λi=>.cs i (λa=>.ok false) λj=>.cs j (λa=>.ok a.2.1) λk=>.cs k (λa=>.ok false) λl=>.cs l (λa=>.ok false) λa=>.ok a.1)<|.gd (iS false b.1 0)<|.bd (oG U false b.1 0) λc=>.cs c (λa=>.ok a.2.1) λd=>.cs d (λa=>.ok false) λe=>.cs e (λa=>.ok a.2.1) λf=>.cs f (λa=>.ok false) λg=>.cs g (λa=>.ok false) λa=>.ok a.1
def jG (w:Int):=U.s _ (DF U w).val
def zr:=a6 (cR KK 106 35 (jG U) (bH KK 4)) (zB U)
theorem sT:ag (zr shut) γ:=cX (rs:=[4]) zC VC rfl rfl λw k=>by kernel_rfl
def wX (a:List au) (p1:List ar) (p2:Int):AS SS:=⟨[(1,va 0 0),(12,vd 55 a),(13,vl a),(14,vi p2)],[bX 58 [.aJ 55 a,.aJ 56 p1]],0,none,false,[],[]⟩
def ux (b:List au) (p1:List ar) (p2:Int) (z0:au) (a:Unit):T (Unit⊕Unit⊕(Bool×Int)):=.bd (jG U z0.aW) λc=>.bf (!c) (.ok (.inr (.inl ())))<|.bd (na U z0.aa) λd=>.bf (!d) (.ok (.inr (.inl ())))<|.bf (decide (p2>0)) (.bd (idx b (δ.wrap (p2-1))) λz3=>.bf (decide (z3.aW>=z0.aW)) (.ok (.inr (.inl ())))<|.ok (.inl ()))<|.ok (.inl ())
def sL (U:Sh) (b:List au) (p1:List ar) (p2:Int) (a:Unit):T (Unit⊕(Bool×Int)):=.ok (.inr (decide (p2<(↑b.length:Int)),p2))
def Dd (a:List au) (p1:List ar):=bC U (ux U a p1) (sL U a p1) a ()
def aaR {R} (k:KX SS R) (a:List au) (p1:List ar) (x:Unit⊕(Bool×Int)):Option R:=x.elim (λv=>k .ret ⟨[(2,vi 350)],[],0,none,false,[],[]⟩) (λv=>k (.exit 0) (xe [(15,vb v.1)] (wX a p1 v.2)))
def Rc:aX SS:=bh 5 (sq (sD 55 12) (hD 56 0 1)) (λp=>u2 wX p 0) (u2 (Dd shut)) (λk=>u2 (aaR k))
theorem ahe:LS KK γ aq ζo 63 5 Rc:=
 aO.bI (ag.all sT rfl) (aF.nil) rfl 60 (λp i a=>u2 wX p i) (λp=>p.1) (λp=>()) (St:=u2 (ux shut)) (F:=u2 (sL shut)) (λp=>rfl)
  (λm p i a k=>by kernel_rfl) (by rintro p (x|x)<;>exact⟨_,_,λ_=>rfl⟩) (λp N C A O w a b=>bT b (t:=55) (sl:=12) rfl λv h=>h)
def wW (a:List ar) (p1:List au) (p2:Int):AS SS:=⟨[(1,va 0 0),(47,vd 56 a),(48,vl a),(49,vi p2)],[bX 58 [.aJ 55 p1,.aJ 56 a]],0,none,false,[],[]⟩
def uw (b:List ar) (p1:List au) (p2:Int) (z0:ar) (a:Unit):T (Unit⊕Unit⊕(Bool×Int)):=.bd (na U z0.aa) λc=>.bf (!c) (.ok (.inr (.inl ())))<|.bf (decide ((↑z0.bj.length:Int)<1)) (.ok (.inr (.inl ())))<|.bf (decide ((↑z0.bj.length:Int)>4)) (.ok (.inr (.inl ())))<|.bf (decide (p2>0)) (.bd (idx b (δ.wrap (p2-1))) λz2=>.bf (decide (z2.aa>=z0.aa)) (.ok (.inr (.inl ())))<|.ok (.inl ()))<|.ok (.inl ())
def sK (U:Sh) (b:List ar) (p1:List au) (p2:Int) (a:Unit):T (Unit⊕(Bool×Int)):=.ok (.inr (decide (p2<(↑b.length:Int)),p2))
def Db (a:List ar) (p1:List au):=bC U (uw U a p1) (sK U a p1) a ()
def aaQ {R} (k:KX SS R) (a:List ar) (p1:List au) (x:Unit⊕(Bool×Int)):Option R:=x.elim (λv=>k .ret ⟨[(2,vi 350)],[],0,none,false,[],[]⟩) (λv=>k (.exit 2) (xe [(50,vb v.1)] (wW a p1 v.2)))
def Rb:aX SS:=bh 11 (sq (sD 56 47) (hD 55 0 0)) (λp=>u2 wW p 0) (u2 (Db shut)) (λk=>u2 (aaQ k))
theorem ahd:LS KK γ aq ζo 63 11 Rb:=
 aO.bI (ag.all sT rfl) (aF.nil) rfl 60 (λp i a=>u2 wW p i) (λp=>p.1) (λp=>()) (St:=u2 (uw shut)) (F:=u2 (sK shut)) (λp=>rfl)
  (λm p i a k=>by kernel_rfl) (by rintro p (x|x)<;>exact⟨_,_,λ_=>rfl⟩) (λp N C A O w a b=>bT b (t:=56) (sl:=47) rfl λv h=>h)
def yW:=bq (zr shut) aq ζo 63 [Rc,Rb]
theorem K5:aR yW γ:=(aR.fz (ag.all sT rfl) Tryz.func63 rfl aT λc a=>by cases a;exact aF.cons (aF.cons (aF.nil) (by kernel_rfl) ahd) (by kernel_rfl) ahe)
def uD (s:aL):T Int:=.bf (decide ((↑s.ak.length:Int)>16)) (.ok 350)<|.gd (wX s.ak s.an 0)<|.bd (Dd U s.ak s.an) λa=>.cs a (λ_=>.ok 350) λc=>.gd (wW s.an s.ak 0)<|.bd (Db U s.an s.ak) λb=>.cs b (λ_=>.ok 350) λd=>.ok 0
def jI (s:aL):=U.s _ (uD U s).val
theorem Um:R1 KK yW 63 58 [27] (uD shut) (bH KK 27):=by intro R s k;kernel_rfl
def BL:=a6 (cR KK 63 58 (jI U) (bH KK 27)) (zr U)
theorem BM:ag (BL shut) γ:=cX sT K5 rfl rfl Um
end Go.Proofs.YtoggponeookhbaaGreatDoor
end
section
namespace Go.Proofs.YtoggponeookhbaaGreatDoor
open Go.RowKit Go.Dc Go.Vx
variable (U:Sh)
def we (a:ByteArray) (p1:Nat):AS SS:=⟨[(0,vs (.v (.string a))),(6,vs (.cZ 0))],[some (.cZ a p1)],0,none,false,[],[]⟩
def mC (U:Sh) (b:ByteArray) (a:Nat):T (Nat⊕Unit⊕Nat):=.bf (decide (a<b.size)) (.bf (decide ((↑(ε b a).fst:Int)>=97)) (.bf (decide ((↑(ε b a).fst:Int)<=122)) (.ok (.inl (a+(ε b a).snd)))<|.bf (decide ((↑(ε b a).fst:Int)>=48)) (.bf (!decide ((↑(ε b a).fst:Int)<=57)) (.ok (.inr (.inl ())))<|.ok (.inl (a+(ε b a).snd)))<|.ok (.inr (.inl ())))<|.bf (decide ((↑(ε b a).fst:Int)>=48)) (.bf (!decide ((↑(ε b a).fst:Int)<=57)) (.ok (.inr (.inl ())))<|.ok (.inl (a+(ε b a).snd)))<|.ok (.inr (.inl ())))<|.ok (.inr (.inr a))
def Ce (a:ByteArray) (p1:Nat):=bQ U (mC U a) 1000000 p1
def ZG {R} (k:KX SS R) (a:ByteArray) (x:Unit⊕Nat):Option R:=x.elim (λv=>k .ret ⟨[(2,vb false)],[],0,none,false,[],[]⟩) (λv=>k (.exit 0) (xe [(8,vb false),(7,.bJ [.one (.v (.bool false))])] (we a v)))
def P9:aX SS:=bh 3 (sq (sX jF 0) (λst=>Pd st 0)) (u2 we) (u2 (Ce shut)) (λk p=>ZG k p.1)
theorem af6:LS KK γ aq Tryz.f187 187 3 P9:=
 aO.bQ (π:=ByteArray×Nat) (σ:=Nat) (ag.all BM rfl) (aF.nil) rfl 60 (λp a=>we p.1 a) (λp=>p.2) (St:=λp=>mC shut p.1) (λp=>1000000) (λp=>rfl)
  (λm p a k=>by kernel_rfl)
def Wx:=bq (BL shut) aq Tryz.f187 187 [P9]
theorem Wy:aR Wx γ:=bu (ag.all BM rfl) Tryz.func187 rfl aT (by kernel_rfl) af6
def Ed (s:ByteArray):T Bool:=.gd (we s 0)<|.bd (Ce U s 0) λa=>.cs a (λ_=>.ok false) λb=>.ok (!s.toList==(ο #[]).toList)
def pG (s:ByteArray):=U.s _ (Ed U s).val
def Ab:=a6 (cR KK 187 9 (pG U) (bH KK 4)) (BL U)
theorem Ac:ag (Ab shut) γ:=cX (rs:=[4]) BM Wy rfl rfl λs k=>by kernel_rfl
def qs (a:List ByteArray) (p1:Int):AS SS:=⟨[(0,vd 192 a),(1,vc 0),(7,vl a),(8,vi p1)],[some (.a7 288 [] [.one (.aM 1 0)]),bX 244 [.v (.func (.func 187) (.mk []) (.mk []))]],2,none,false,[],[]⟩
def uj (c:List ByteArray) (p1:Int) (z0:ByteArray) (a:Unit):T (Unit⊕Int⊕(Bool×Int)):=.bd (pG U z0) λb=>.bf (!b) (.ok (.inr (.inl p1)))<|.ok (.inl ())
def sw (U:Sh) (b:List ByteArray) (p1:Int) (a:Unit):T (Int⊕(Bool×Int)):=.ok (.inr (decide (p1<(↑b.length:Int)),p1))
def C4 (a:List ByteArray):=bC U (uj U a) (sw U a) a ()
def aaz {R} (k:KX SS R) (a:List ByteArray) (x:Int⊕(Bool×Int)):Option R:=x.elim (λv=>k .ret {qs a v with env:=[(4,vi v)]}) (λv=>k (.exit 0) (xe [(9,vb v.1)] (qs a v.2)))
def QY:aX SS:=bh 3 (gq (λst=>cG st 0 288) (sD 192 0)) (λp=>qs p 0) (λp=>C4 shut p) (λk p=>aaz k p)
theorem agY:LS KK γ aq Tryz.f305 305 3 QY:=
 aO.bI (π:=List ByteArray) (ag.all Ac rfl) (aF.nil) rfl 60 (λp i a=>qs p i) (λp=>p) (λp=>()) (St:=λp=>uj shut p) (F:=λp=>sw shut p) (λp=>rfl)
  (λm p i a k=>by kernel_rfl) (by rintro p (x|x)<;>exact⟨_,_,λ_=>rfl⟩) (λp N C A O w a b=>bT b (t:=192) (sl:=0) rfl λv h=>h)
def Wz:=bq (Ab shut) aq Tryz.f305 305 [QY]
theorem WA:aR Wz γ:=bu (ag.all Ac rfl) Tryz.func305 rfl aT (by kernel_rfl) agY
def Ee (p:List ByteArray):T (Int×Bool):=.bf (decide (p.length<=140737488355328)&&decide ((ho p (ο #[47])).size<=140737488355328)) (.bd (jZ (ο #[47]) (ho p (ο #[47]))) λz0=>.bd (vy U z0) λa=>.bf (a.2==0) (.bf (decide ((↑p.length:Int)<=4)) (.gd (qs p 0)<|.bd (C4 U p) λc=>.cs c (λb=>.ok (a.1,!decide (b>=0))) λb=>.ok (a.1,true))<|.ok (a.1,false))<|.ok (a.1,false))<|.no
def jH (p:List ByteArray):=U.s _ (Ee U p).val
def Ad:=a6 (cR KK 188 193 (jH U) (dy KK 35 4)) (Ab U)
theorem Ae:ag (Ad shut) γ:=cX (rs:=[35,4]) Ac WA rfl rfl λp k=>by kernel_rfl
def wF (a:ByteArray) (p1:Int) (p2:Bool) (b:ByteArray) (c:List ByteArray):AS SS:=⟨[(0,vs .cW),(1,va 5 0)],[bX 195 [.v (.slice none 0 0),lu 0],bX 9 [.v (.string a)],bX 195 [.own 6,lu p1],bX 4 [.v (.bool p2)],some (.a7 248 [] [.one (.aM 5 0)]),bX 9 [.v (.string b)],rX 9 c],6,some ⟨⟨ξq,aq 145⟩,[27],ey (ca ξq) 9,ez (ca ξq) 9,[(0,vu p1),(2,va 0 0),(4,va 1 0),(6,va 2 0),(7,va 3 0),(26,vc 4)],none⟩,false,[],[3,2,5]⟩
def gr (d:ByteArray) (p1:Int) (a:Bool×ByteArray×List ByteArray):T ((Bool×ByteArray×List ByteArray)⊕(Bool×ByteArray×List ByteArray)⊕(Bool×ByteArray×Bool×List ByteArray)):=.bf (decide ((↑a.2.1.size:Int)>=1)) (.bd (eE a.2.1 none (some 1)) λz0=>.bf (z0.toList==(ο #[47]).toList) (.bd (eE a.2.1 (some 1) none) λc=>.bf (δ.wrap (ξ1 c.data.toList (ξR 47)+1)==0) (.bd (eE a.2.1 (some 1) (some (↑a.2.1.size:Int))) λz2=>.bf (d.toList==(ο #[47]).toList) (.ok (.inr (.inl (a.1,a.2.1,a.2.2))))<|.bd (pG U z2) λb=>.bf (!b) (.ok (.inr (.inl (b,a.2.1,a.2.2))))<|.bd (app 16 a.2.2 [z2]) λz4=>.bd (eE a.2.1 (some (↑a.2.1.size:Int)) none) λz5=>.ok (.inl (b,z5,z4)))<|.bd (eE a.2.1 (some 1) (some (δ.wrap (ξ1 c.data.toList (ξR 47)+1)))) λz2=>.bf (d.toList==(ο #[47]).toList) (.ok (.inr (.inl (a.1,a.2.1,a.2.2))))<|.bd (pG U z2) λb=>.bf (!b) (.ok (.inr (.inl (b,a.2.1,a.2.2))))<|.bd (app 16 a.2.2 [z2]) λz4=>.bd (eE a.2.1 (some (δ.wrap (ξ1 c.data.toList (ξR 47)+1))) none) λz5=>.ok (.inl (b,z5,z4)))<|.ok (.inr (.inr (z0.toList==(ο #[47]).toList,a.2.1,a.1,a.2.2))))<|.ok (.inr (.inr (false,a.2.1,a.1,a.2.2)))
def my (a:ByteArray) (p1:Int) (p2:Bool) (b:ByteArray) (c:List ByteArray):=bQ U (gr U a p1) 1000000 (p2,b,c)
def aaf {R} (k:KX SS R) (a:ByteArray) (p1:Int) (x:(Bool×ByteArray×List ByteArray)⊕(Bool×ByteArray×Bool×List ByteArray)):Option R:=x.elim (λv=>k .ret ⟨[],[bX 195 [.v (.slice none 0 0),lu 0],bX 9 [.v (.string a)],bX 195 [.own 6,lu p1],bX 4 [.v (.bool v.1)],some (.a7 248 [] [.one (.aM 5 0)]),bX 9 [.v (.string v.2.1)],rX 9 v.2.2],6,some ⟨⟨ξq,aq 145⟩,[27],ey (ca ξq) 9,ez (ca ξq) 9,[(0,vu p1),(2,va 0 0),(4,va 1 0),(6,va 2 0),(7,va 3 0),(26,vc 4)],some (.exit 0)⟩,false,[],[3,2,5]⟩) (λv=>k (.exit 0) (xe [(5,vb v.1),(4,vs (.v (.string v.2.1)))] (wF a p1 v.2.2.1 v.2.1 v.2.2.2)))
def QG:aX SS:=hq (λst=>gc (aq 248 1) (ga [3,2,5] (et 2 0 9 (st))))<|bh 1 (λst=>((cG st 4 248).bind λ_=>fQ st 59 9).bind λ_=>(jF (dH st 1 0)).bind λa=>(cO (dH st 2 1)).bind λp1=>(gD (dH st 3 0)).bind λp2=>(jF (dH st 5 0)).bind λb=>(dU st 6 9).bind λc=>some (a,p1,p2,b,c)) (u5 wF) (u5 (my shut)) (λk p=>aaf k p.1 p.2.1)
theorem agG:LS KK γ aq Tryz.f248 248 1 QG:=aO.pre (b_.comp (b_.gc (aq 248 1)) (b_.comp (b_.ga [3,2,5]) (b_.et 2 0 9)))<|
 aO.bQ (π:=ByteArray×Int×Bool×ByteArray×List ByteArray) (σ:=Bool×ByteArray×List ByteArray) (ag.all Ae rfl) (aF.nil) rfl 60 (λp a=>wF p.1 p.2.1 a.1 a.2.1 a.2.2) (λp=>(p.2.2.1,p.2.2.2.1,p.2.2.2.2)) (St:=λp=>gr shut p.1 p.2.1) (λp=>1000000) (λp=>rfl)
  (λm p a k=>by kernel_rfl)
def VR:=bq (Ad shut) aq Tryz.f248 248 [QG]
theorem VS:aR VR γ:=bu (ag.all Ae rfl) Tryz.func248 rfl aT (by kernel_rfl) agG
def DQ (w:Int):T (jo×Bool):=.bd (u1 U w) λb=>.bf (b.2 !=0) (.ok (⟨[],0⟩,false))<|.bf (b.1.toList==(ο #[]).toList) (.ok (⟨[],0⟩,false))<|.gd (wF b.1 w true b.1 [])<|.bd (my U b.1 w true b.1 []) λd=>.cs d (λa=>.bd (jH U a.2.2) λc=>.bf (!a.1) (.ok (⟨[],0⟩,false))<|.bf (!c.2) (.ok (⟨[],0⟩,false))<|.bf (c.1 !=w) (.ok (⟨[],0⟩,false))<|.ok (⟨a.2.2,w⟩,true)) λa=>.bd (jH U a.2.2.2) λc=>.bf (!a.2.2.1) (.ok (⟨[],0⟩,false))<|.bf (!c.2) (.ok (⟨[],0⟩,false))<|.bf (c.1 !=w) (.ok (⟨[],0⟩,false))<|.ok (⟨a.2.2.2,w⟩,true)
def lD (w:Int):=U.s _ (DQ U w).val
def Lr:=a6 (cR KK 145 35 (lD U) (dy KK 195 4)) (Ad U)
theorem Lt:ag (Lr shut) γ:=cX (rs:=[195,4]) Ae VS rfl rfl λw k=>by kernel_rfl
def DE (w:Int):T Int:=.bd (lD U w) λa=>.bf (!a.2) (.ok 310)<|.ok 0
def pD (w:Int):=U.s _ (DE U w).val
def zp:=a6 (cR KK 104 35 (pD U) (bH KK 27)) (Lr U)
theorem zq:ag (zp shut) γ:=cX (rs:=[27]) Lt (ag.all Lt rfl) rfl rfl λw k=>by kernel_rfl
def wV (a:List ay) (p1 p2 b:Int):AS SS:=⟨[(1,va 0 0),(3,vu p2),(7,vd 52 a),(8,vl a),(9,vi b)],[bX 54 [.aJ 52 a,lu p1]],0,none,false,[],[]⟩
def kc (c:List ay) (p1 d:Int) (z0:ay) (a:Int):T (Int⊕Unit⊕(Bool×Int×Int)):=.bd (pD U z0.aN) λb=>.bf (b !=0) (.ok (.inr (.inl ())))<|.bf (decide (z0.aY<=a)) (.ok (.inr (.inl ())))<|.bf (decide (z0.aY>=p1)) (.ok (.inr (.inl ())))<|.ok (.inl z0.aY)
def sJ (U:Sh) (c:List ay) (p1 b a:Int):T (Unit⊕(Bool×Int×Int)):=.ok (.inr (decide (b<(↑c.length:Int)),a,b))
def tl (a:List ay) (p1 p2:Int):=bC U (kc U a p1) (sJ U a p1) a p2
def aaP {R} (k:KX SS R) (a:List ay) (p1:Int) (x:Unit⊕(Bool×Int×Int)):Option R:=x.elim (λv=>k .ret ⟨[(2,vi 340)],[],0,none,false,[],[]⟩) (λv=>k (.exit 0) {wV a p1 p1 p1 with env:=[(10,vb v.1),(1,va 0 0),(3,vu v.2.1),(7,vd 52 a),(8,vl a),(9,vi v.2.2)]})
def Ra:aX SS:=bh 4 (sq (sD 52 7) (sq (hI 0 1) (sI 3))) (λp=>u3 wV p 0) (u3 (tl shut)) (λk p=>aaP k p.1 p.2.1)
theorem ahc:LS KK γ aq Tryz.f62 62 4 Ra:=
 aO.bI (π:=List ay×Int×Int) (σ:=Int) (ag.all zq rfl) (aF.nil) rfl 60 (λp i a=>wV p.1 p.2.1 a i) (λp=>p.1) (λp=>p.2.2) (St:=λp=>kc shut p.1 p.2.1) (F:=λp=>sJ shut p.1 p.2.1) (λp=>rfl)
  (λm p i a k=>by kernel_rfl) (by rintro p (x|x)<;>exact⟨_,_,λ_=>rfl⟩) (λp N C A O w a b=>bT b (t:=52) (sl:=7) rfl λv h=>h)
def Hl (a:List ay) (p1:Int) (p2:Γc):AS SS:=⟨[(3,vs (.mp 0)),(8,vd 52 a),(9,vl a),(10,vi p1)],[some (.map .u64 .u64 p2)],0,none,false,[],[]⟩
def TN (a:List ay) (p2:Γc):AS SS:=Hl a 0 p2
def Dk (U:Sh) (b:List ay) (p1:Int) (z0:ay) (a:(Γc)):T (((Γc))⊕(Bool×Int×(Γc))):=.ok (.inl (cp a z0.aN z0.aY))
def rI (U:Sh) (b:List ay) (p1:Int) (a:(Γc)):T ((Bool×Int×(Γc))):=.ok (decide (p1<(↑b.length:Int)),p1,a)
def ta (a:List ay) (p2:Γc):Option ((Bool×Int×(Γc))):=bC U (Dk U a) (rI U a) a p2
def Zh {R} (k:KX SS R) (a:List ay) (x:(Bool×Int×(Γc))):Option R:=(λv=>k (.exit 0) (xe [(11,vb v.1)] (Hl a v.2.1 v.2.2))) x
def PN:aX SS:=bh 4 (sq (sD 52 8) (λst=>gG st 0)) (u2 TN) (u2 (ta shut)) (λk p=>Zh k p.1)
def K3:=bq (zp shut) aq Tryz.f62 62 [Ra]
theorem K4:aR K3 γ:=bu (ag.all zq rfl) Tryz.func62 rfl aT (by kernel_rfl) ahc
theorem afM:LS KK γ aq ξb 105 4 PN:=
 aO.bI (π:=List ay×(Γc)) (σ:=(Γc)) K4 (aF.nil) rfl 60 (λp i a=>Hl p.1 i a) (λp=>p.1) (λp=>p.2) (St:=λp=>Dk shut p.1) (F:=λp=>rI shut p.1) (λp=>rfl)
  (λm p i a k=>by kernel_rfl) (λp x=>⟨_,_,λ_=>rfl⟩) (λp N C A O w a b=>bT b (t:=52) (sl:=8) rfl λv h=>h)
def X6:=bq K3 aq ξb 105 [PN]
theorem X7:aR X6 γ:=bu K4 ξk rfl aT (by kernel_rfl) afM
def Fc (m:bz):T Int:=.gd (wV m.ae m.ba 0 0)<|.bd (tl U m.ae m.ba 0) λa=>.cs a (λ_=>.ok 340) λc=>.bf (decide ((↑m.ae.length:Int)>16)) (.ok 340)<|.gd (TN m.ae [])<|.bd (ta U m.ae []) λb=>.bf (decide ((↑b.2.2.length:Int)<(↑m.ae.length:Int))) (.ok 340)<|.bf (decide (m.ba<1)) (.ok 340)<|.bf (decide (m.ba>1073741825)) (.ok 340)<|.ok 0
def pQ (m:bz):=U.s _ (Fc U m).val
def BJ:=a6 (cR KK 62 54 (pQ U) (bH KK 27)) (zp U)
theorem BK:ag (BJ shut) γ:=cX (rs:=[27]) zq X7 rfl rfl λm k=>by kernel_rfl
end Go.Proofs.YtoggponeookhbaaGreatDoor
end
section
namespace Go.Proofs.YtoggponeookhbaaGreatDoor
open Go.RowKit Go.Dc Go.Vx
variable (U:Sh)
def qv (a p1:List ai) (p2:Int):AS SS:=⟨[(0,vd 51 a),(1,vd 51 p1),(12,vl a),(13,vi p2)],[],0,none,false,[],[]⟩
def Dw (U:Sh) (c p1:List ai) (p2:Int) (z0:ai) (a:Unit):T (Unit⊕Unit⊕(Bool×Int)):=.bd (idx p1 p2) λb=>.bf (!gB z0 b) (.ok (.inr (.inl ())))<|.ok (.inl ())
def sE (U:Sh) (b p1:List ai) (p2:Int) (a:Unit):T (Unit⊕(Bool×Int)):=.ok (.inr (decide (p2<(↑b.length:Int)),p2))
def MS (a p1:List ai):=bC U (Dw U a p1) (sE U a p1) a ()
def aaK {R} (k:KX SS R) (a p1:List ai) (x:Unit⊕(Bool×Int)):Option R:=x.elim (λv=>k .ret {qv a p1 0 with env:=[(4,vb false)]}) (λv=>k (.exit 0) (xe [(14,vb v.1)] (qv a p1 v.2)))
def Q8:aX SS:=bh 5 (sq (sD 51 0) (sD 51 1)) (λp=>u2 qv p 0) (u2 (MS shut)) (λk=>u2 (aaK k))
theorem ag_:LS KK γ aq Tryz.f45 45 5 Q8:=
 aO.bI (ag.all BK rfl) (aF.nil) rfl 60 (λp i a=>u2 qv p i) (λp=>p.1) (λp=>()) (St:=u2 (Dw shut)) (F:=u2 (sE shut)) (λp=>rfl)
  (λm p i a k=>by kernel_rfl) (by rintro p (x|x)<;>exact⟨_,_,λ_=>rfl⟩) (λp N C A O w a b=>bT b (t:=51) (sl:=0) rfl λv h=>h)
def XU:=bq (BJ shut) aq Tryz.f45 45 [Q8]
theorem XV:aR XU γ:=bu (ag.all BK rfl) Tryz.func45 rfl aT (by kernel_rfl) ag_
def E5 (a b:List ai):T Bool:=.bf ((↑a.length:Int) !=(↑b.length:Int)) (.ok false)<|.gd (qv a b 0)<|.bd (MS U a b) λc=>.cs c (λ_=>.ok false) λd=>.ok true
def GS (a b:List ai):=U.s _ (E5 U a b).val
def BB:=a6 (bU KK 45 51 51 (GS U) (bH KK 4)) (BJ U)
theorem BC:ag (BB shut) γ:=bZ (rs:=[4]) BK XV rfl rfl λa b k=>by kernel_rfl
def qz (a p1:List ah) (p2:Int):AS SS:=⟨[(0,vd 48 a),(1,vd 48 p1),(12,vl a),(13,vi p2)],[],0,none,false,[],[]⟩
def Dx (U:Sh) (c p1:List ah) (p2:Int) (z0:ah) (a:Unit):T (Unit⊕Unit⊕(Bool×Int)):=.bd (idx p1 p2) λb=>.bf (!fl z0 b) (.ok (.inr (.inl ())))<|.ok (.inl ())
def sM (U:Sh) (b p1:List ah) (p2:Int) (a:Unit):T (Unit⊕(Bool×Int)):=.ok (.inr (decide (p2<(↑b.length:Int)),p2))
def MT (a p1:List ah):=bC U (Dx U a p1) (sM U a p1) a ()
def aaV {R} (k:KX SS R) (a p1:List ah) (x:Unit⊕(Bool×Int)):Option R:=x.elim (λv=>k .ret {qz a p1 0 with env:=[(4,vb false)]}) (λv=>k (.exit 0) (xe [(14,vb v.1)] (qz a p1 v.2)))
def Rh:aX SS:=bh 5 (sq (sD 48 0) (sD 48 1)) (λp=>u2 qz p 0) (u2 (MT shut)) (λk=>u2 (aaV k))
theorem ahi:LS KK γ aq Tryz.f81 81 5 Rh:=
 aO.bI (ag.all BC rfl) (aF.nil) rfl 60 (λp i a=>u2 qz p i) (λp=>p.1) (λp=>()) (St:=u2 (Dx shut)) (F:=u2 (sM shut)) (λp=>rfl)
  (λm p i a k=>by kernel_rfl) (by rintro p (x|x)<;>exact⟨_,_,λ_=>rfl⟩) (λp N C A O w a b=>bT b (t:=48) (sl:=0) rfl λv h=>h)
def X8:=bq (BB shut) aq Tryz.f81 81 [Rh]
theorem X9:aR X8 γ:=bu (ag.all BC rfl) Tryz.func81 rfl aT (by kernel_rfl) ahi
def Fg (a b:List ah):T Bool:=.bf ((↑a.length:Int) !=(↑b.length:Int)) (.ok false)<|.gd (qz a b 0)<|.bd (MT U a b) λc=>.cs c (λ_=>.ok false) λd=>.ok true
def GZ (a b:List ah):=U.s _ (Fg U a b).val
def BQ:=a6 (bU KK 81 48 48 (GZ U) (bH KK 4)) (BB U)
theorem BR:ag (BQ shut) γ:=bZ (rs:=[4]) BC X9 rfl rfl λa b k=>by kernel_rfl
def qA (a p1:List ay) (p2:Int):AS SS:=⟨[(0,vd 52 a),(1,vd 52 p1),(12,vl a),(13,vi p2)],[],0,none,false,[],[]⟩
def Dy (U:Sh) (c p1:List ay) (p2:Int) (z0:ay) (a:Unit):T (Unit⊕Unit⊕(Bool×Int)):=.bd (idx p1 p2) λb=>.bf (!h_ z0 b) (.ok (.inr (.inl ())))<|.ok (.inl ())
def sN (U:Sh) (b p1:List ay) (p2:Int) (a:Unit):T (Unit⊕(Bool×Int)):=.ok (.inr (decide (p2<(↑b.length:Int)),p2))
def MU (a p1:List ay):=bC U (Dy U a p1) (sN U a p1) a ()
def aaW {R} (k:KX SS R) (a p1:List ay) (x:Unit⊕(Bool×Int)):Option R:=x.elim (λv=>k .ret {qA a p1 0 with env:=[(4,vb false)]}) (λv=>k (.exit 0) (xe [(14,vb v.1)] (qA a p1 v.2)))
def Ri:aX SS:=bh 5 (sq (sD 52 0) (sD 52 1)) (λp=>u2 qA p 0) (u2 (MU shut)) (λk=>u2 (aaW k))
theorem ahj:LS KK γ aq Tryz.f82 82 5 Ri:=
 aO.bI (ag.all BR rfl) (aF.nil) rfl 60 (λp i a=>u2 qA p i) (λp=>p.1) (λp=>()) (St:=u2 (Dy shut)) (F:=u2 (sN shut)) (λp=>rfl)
  (λm p i a k=>by kernel_rfl) (by rintro p (x|x)<;>exact⟨_,_,λ_=>rfl⟩) (λp N C A O w a b=>bT b (t:=52) (sl:=0) rfl λv h=>h)
def X_:=bq (BQ shut) aq Tryz.f82 82 [Ri]
theorem X':aR X_ γ:=bu (ag.all BR rfl) Tryz.func82 rfl aT (by kernel_rfl) ahj
def Fh (a b:List ay):T Bool:=.bf ((↑a.length:Int) !=(↑b.length:Int)) (.ok false)<|.gd (qA a b 0)<|.bd (MU U a b) λc=>.cs c (λ_=>.ok false) λd=>.ok true
def G6 (a b:List ay):=U.s _ (Fh U a b).val
def BS:=a6 (bU KK 82 52 52 (G6 U) (bH KK 4)) (BQ U)
theorem BT:ag (BS shut) γ:=bZ (rs:=[4]) BR X' rfl rfl λa b k=>by kernel_rfl
def qB (a p1:List au) (p2:Int):AS SS:=⟨[(0,vd 55 a),(1,vd 55 p1),(12,vl a),(13,vi p2)],[],0,none,false,[],[]⟩
def Dz (U:Sh) (c p1:List au) (p2:Int) (z0:au) (a:Unit):T (Unit⊕Unit⊕(Bool×Int)):=.bd (idx p1 p2) λb=>.bf (!ia z0 b) (.ok (.inr (.inl ())))<|.ok (.inl ())
def sO (U:Sh) (b p1:List au) (p2:Int) (a:Unit):T (Unit⊕(Bool×Int)):=.ok (.inr (decide (p2<(↑b.length:Int)),p2))
def MV (a p1:List au):=bC U (Dz U a p1) (sO U a p1) a ()
def aaX {R} (k:KX SS R) (a p1:List au) (x:Unit⊕(Bool×Int)):Option R:=x.elim (λv=>k .ret {qB a p1 0 with env:=[(4,vb false)]}) (λv=>k (.exit 0) (xe [(14,vb v.1)] (qB a p1 v.2)))
def Rj:aX SS:=bh 5 (sq (sD 55 0) (sD 55 1)) (λp=>u2 qB p 0) (u2 (MV shut)) (λk=>u2 (aaX k))
theorem ahk:LS KK γ aq Tryz.f83 83 5 Rj:=
 aO.bI (ag.all BT rfl) (aF.nil) rfl 60 (λp i a=>u2 qB p i) (λp=>p.1) (λp=>()) (St:=u2 (Dz shut)) (F:=u2 (sO shut)) (λp=>rfl)
  (λm p i a k=>by kernel_rfl) (by rintro p (x|x)<;>exact⟨_,_,λ_=>rfl⟩) (λp N C A O w a b=>bT b (t:=55) (sl:=0) rfl λv h=>h)
def Ya:=bq (BS shut) aq Tryz.f83 83 [Rj]
theorem Yb:aR Ya γ:=bu (ag.all BT rfl) Tryz.func83 rfl aT (by kernel_rfl) ahk
def Fi (a b:List au):T Bool:=.bf ((↑a.length:Int) !=(↑b.length:Int)) (.ok false)<|.gd (qB a b 0)<|.bd (MV U a b) λc=>.cs c (λ_=>.ok false) λd=>.ok true
def G7 (a b:List au):=U.s _ (Fi U a b).val
def BU:=a6 (bU KK 83 55 55 (G7 U) (bH KK 4)) (BS U)
theorem BV:ag (BU shut) γ:=bZ (rs:=[4]) BT Yb rfl rfl λa b k=>by kernel_rfl
def qD (a p1:Γa) (p2:Int):AS SS:=⟨[(0,vd 130 a),(1,vd 130 p1),(12,vl a),(13,vi p2)],[],0,none,false,[],[]⟩
def DA (U:Sh) (c p1:Γa) (p2 z0:Int) (a:Unit):T (Unit⊕Unit⊕(Bool×Int)):=.bd (idx p1 p2) λb=>.bf (z0 !=b) (.ok (.inr (.inl ())))<|.ok (.inl ())
def sQ (U:Sh) (b p1:Γa) (p2:Int) (a:Unit):T (Unit⊕(Bool×Int)):=.ok (.inr (decide (p2<(↑b.length:Int)),p2))
def MW (a p1:Γa):=bC U (DA U a p1) (sQ U a p1) a ()
def aaZ {R} (k:KX SS R) (a p1:Γa) (x:Unit⊕(Bool×Int)):Option R:=x.elim (λv=>k .ret {qD a p1 0 with env:=[(4,vb false)]}) (λv=>k (.exit 0) (xe [(14,vb v.1)] (qD a p1 v.2)))
def Rl:aX SS:=bh 5 (sq (sD 130 0) (sD 130 1)) (λp=>u2 qD p 0) (u2 (MW shut)) (λk=>u2 (aaZ k))
theorem ahm:LS KK γ aq Tryz.f86 86 5 Rl:=
 aO.bI (ag.all BV rfl) (aF.nil) rfl 60 (λp i a=>u2 qD p i) (λp=>p.1) (λp=>()) (St:=u2 (DA shut)) (F:=u2 (sQ shut)) (λp=>rfl)
  (λm p i a k=>by kernel_rfl) (by rintro p (x|x)<;>exact⟨_,_,λ_=>rfl⟩) (λp N C A O w a b=>bT b (t:=130) (sl:=0) rfl λv h=>h)
def Yc:=bq (BU shut) aq Tryz.f86 86 [Rl]
theorem Yd:aR Yc γ:=bu (ag.all BV rfl) Tryz.func86 rfl aT (by kernel_rfl) ahm
def Fj (a b:Γa):T Bool:=.bf ((↑a.length:Int) !=(↑b.length:Int)) (.ok false)<|.gd (qD a b 0)<|.bd (MW U a b) λc=>.cs c (λ_=>.ok false) λd=>.ok true
def G8 (a b:Γa):=U.s _ (Fj U a b).val
def Mz:=a6 (bU KK 86 130 130 (G8 U) (bH KK 4)) (BU U)
theorem MA:ag (Mz shut) γ:=bZ (rs:=[4]) BV Yd rfl rfl λa b k=>by kernel_rfl
def E4 (a b:br):T Bool:=.bf (a.aH==b.aH) (.bd (GZ U a.ae b.ae) λc=>.ok c)<|.ok false
def GR (a b:br):=U.s _ (E4 U a b).val
def Mn:=a6 (bU KK 44 50 50 (GR U) (bH KK 4)) (Mz U)
theorem Mo:ag (Mn shut) γ:=bZ (rs:=[4]) MA (ag.all MA rfl) rfl rfl λa b k=>by kernel_rfl
def E6 (a b:bz):T Bool:=.bf (a.ba==b.ba) (.bd (G6 U a.ae b.ae) λc=>.ok c)<|.ok false
def GU (a b:bz):=U.s _ (E6 U a b).val
def BD:=a6 (bU KK 46 54 54 (GU U) (bH KK 4)) (Mn U)
theorem BE:ag (BD shut) γ:=bZ (rs:=[4]) Mo (ag.all Mo rfl) rfl rfl λa b k=>by kernel_rfl
def qC (a p1:List ar) (p2:Int):AS SS:=⟨[(1,vd 56 a),(2,vs (.v (.func (.func 85) (.mk []) (.mk [])))),(15,vd 56 p1),(16,vl p1),(17,vi p2)],[],0,none,false,[],[]⟩
def uy (c p1:List ar) (p2:Int) (z0:ar) (a:Unit):T (Unit⊕Unit⊕(Bool×Int)):=.bd (idx c p2) λb=>.bf (z0.aa==b.aa) (.bd (G8 U z0.bj b.bj) λd=>.bf (!d) (.ok (.inr (.inl ())))<|.ok (.inl ()))<|.ok (.inr (.inl ()))
def sP (U:Sh) (b p1:List ar) (p2:Int) (a:Unit):T (Unit⊕(Bool×Int)):=.ok (.inr (decide (p2<(↑p1.length:Int)),p2))
def Df (a p1:List ar):=bC U (uy U a p1) (sP U a p1) p1 ()
def aaY {R} (k:KX SS R) (a p1:List ar) (x:Unit⊕(Bool×Int)):Option R:=x.elim (λv=>k .ret {qC a p1 0 with env:=[(6,vb false)]}) (λv=>k (.exit 0) (xe [(18,vb v.1)] (qC a p1 v.2)))
def Rk:aX SS:=bh 5 (sq (sD 56 1) (sD 56 15)) (λp=>u2 qC p 0) (u2 (Df shut)) (λk=>u2 (aaY k))
theorem ahl:LS KK γ aq Tryz.f84 84 5 Rk:=
 aO.bI (ag.all BE rfl) (aF.nil) rfl 60 (λp i a=>u2 qC p i) (λp=>p.2) (λp=>()) (St:=u2 (uy shut)) (F:=u2 (sP shut)) (λp=>rfl)
  (λm p i a k=>by kernel_rfl) (by rintro p (x|x)<;>exact⟨_,_,λ_=>rfl⟩) (λp N C A O w a b=>bT b (t:=56) (sl:=15) rfl λv h=>h)
def XW:=bq (BD shut) aq Tryz.f84 84 [Rk]
theorem XX:aR XW γ:=bu (ag.all BE rfl) Tryz.func84 rfl aT (by kernel_rfl) ahl
def E7 (a b:aL):T Bool:=.bd (G7 U a.ak b.ak) λd=>.bf (d) (.bf ((↑a.an.length:Int) !=(↑b.an.length:Int)) (.ok false)<|.gd (qC b.an a.an 0)<|.bd (Df U b.an a.an) λc=>.cs c (λ_=>.ok false) λe=>.ok true)<|.ok false
def GV (a b:aL):=U.s _ (E7 U a b).val
def Mp:=a6 (bU KK 47 58 58 (GV U) (bH KK 4)) (BD U)
theorem Mq:ag (Mp shut) γ:=bZ (rs:=[4]) BE XX rfl rfl λa b k=>by kernel_rfl
def Eh (a b:aZ):T Bool:=.bd (GR U a.ax b.ax) λc=>.bf (c) (.bd (GS U a.aI b.aI) λd=>.bf (d) (.bd (GU U a.aC b.aC) λe=>.bf (e) (.bd (GV U a.aw b.aw) λf=>.ok f)<|.ok false)<|.ok false)<|.ok false
def kr (a b:aZ):=U.s _ (Eh U a b).val
def LR:=a6 (bU KK 20 60 60 (kr U) (bH KK 4)) (Mp U)
theorem LU:ag (LR shut) γ:=bZ (rs:=[4]) Mq (ag.all Mq rfl) rfl rfl λa b k=>by kernel_rfl
def Y_ (U:Sh):T br:=.ok (⟨[1,0,0,0,0,0,0,0,0,0,0,0,0,0,0,0],[ah.mk 1 0 false 0]⟩)
def Oi:=U.s _ (Y_ U).val
def Mh:=a6 (lA KK 39 (Oi U) (bH KK 50)) (LR U)
theorem Mi:ag (Mh shut) γ:=pv (rs:=[50]) LU (ag.all LU rfl) rfl rfl λk=>by kernel_rfl
def Y' (U:Sh):T bz:=.ok (⟨[],1⟩)
def Oj:=U.s _ (Y' U).val
def Mj:=a6 (lA KK 40 (Oj U) (bH KK 54)) (Mh U)
theorem Mk:ag (Mj shut) γ:=pv (rs:=[54]) Mi (ag.all Mi rfl) rfl rfl λk=>by kernel_rfl
def Y4:T aZ:=.bd (Oi U) λa=>.bd (Oj U) λb=>.ok (⟨a,[],b,⟨[],[]⟩⟩)
def vx:=U.s _ (Y4 U).val
def LN:=a6 (lA KK 18 (vx U) (bH KK 60)) (Mj U)
theorem LO:ag (LN shut) γ:=pv (rs:=[60]) Mk (ag.all Mk rfl) rfl rfl λk=>by kernel_rfl
def Ff (U:Sh) (c:b3):T Bool:=.bf (c.aQ==9) (.ok true)<|.ok (c.aQ==12)
def GY (c:b3):=U.s _ (Ff U c).val
def BN:=a6 (cR KK 74 38 (GY U) (bH KK 4)) (LN U)
theorem BO:ag (BN shut) γ:=cX (rs:=[4]) LO (ag.all LO rfl) rfl rfl λc k=>by kernel_rfl
def wU (a:List ar) (p1:Γa) (p2:Int) (b:List ah) (c:List ai) (d:List ay) (e:List au) (f g:Int) (h:List ar):AS SS:=⟨[(1,va 0 0),(2,va 6 0),(31,vd 56 a),(32,vi f),(33,vi g)],[bX 60 [.bA .i64 16 p1,.own 1,.own 2,.own 3,lu p2,.own 4,.own 5],rX 115 b,rX 105 c,rX 122 d,rX 127 e,rX 132 h,bX 60 [li 0,li 0,li 0,li 0,li 0,li 0,li 0,li 0,li 0,li 0,li 0,li 0,li 0,li 0,li 0,li 0,.v (.slice none 0 0),.v (.slice none 0 0),.v (.slice none 0 0),lu 0,.v (.slice none 0 0),.v (.slice none 0 0)]],0,none,false,[],[]⟩
def Na (U:Sh) (c:List ar) (p1:Γa) (p2:Int) (e:List ah) (f:List ai) (g:List ay) (h:List au) (b:Int) (a:Int×List ar):T ((Int×List ar)⊕(Bool×Int×List ar)):=.bf (decide (a.1<b)) (.bd (idx c a.1) λz0=>.bd (app 8 [] z0.bj) λd=>.bd (app 32 a.2 [ar.mk z0.aa d]) λz2=>.ok (.inl (δ.wrap (a.1+1),z2)))<|.ok (.inr (decide (a.1<b),a.1,a.2))
def C8 (a:List ar) (p1:Γa) (p2:Int) (b:List ah) (c:List ai) (d:List ay) (e:List au) (f g:Int) (h:List ar):=bQ U (Na U a p1 p2 b c d e f) 1000000 (g,h)
def aaJ {R} (k:KX SS R) (a:List ar) (p1:Γa) (p2:Int) (c:List ah) (d:List ai) (e:List ay) (f:List au) (b:Int) (x:(Bool×Int×List ar)):Option R:=(λv=>k (.exit 0) {wU a p1 p2 c d e f b p2 v.2.2 with env:=[(34,vb v.1),(1,va 0 0),(2,va 6 0),(31,vd 56 a),(32,vi b),(33,vi v.2.1)]}) x
def Q7:aX SS:=hq (λst=>gc (aq 43 6) (et 0 6 132 (st)))<|bh 6 (λst=>(eo 56 (cJ st 31 0)).bind λa=>(ea (dH st 0 0)).bind λp1=>(cO (dH st 0 4)).bind λp2=>(dU st 1 115).bind λb=>(dU st 2 105).bind λc=>(dU st 3 122).bind λd=>(dU st 4 127).bind λe=>(cO (cJ st 32 0)).bind λf=>(cO (cJ st 33 0)).bind λg=>(dU st 5 132).bind λh=>some (a,p1,p2,b,c,d,e,f,g,h)) (yE wU) (yE (C8 shut)) (λk p=>aaJ k p.1 p.2.1 p.2.2.1 p.2.2.2.1 p.2.2.2.2.1 p.2.2.2.2.2.1 p.2.2.2.2.2.2.1 p.2.2.2.2.2.2.2.1)
theorem ag9:LS KK γ aq Tryz.f43 43 6 Q7:=aO.pre (b_.comp (b_.gc (aq 43 6)) (b_.et 0 6 132))<|
 aO.bQ (π:=List ar×Γa×Int×List ah×List ai×List ay×List au×Int×Int×List ar) (σ:=Int×List ar) (ag.all BO rfl) (aF.nil) rfl 60 (λp a=>wU p.1 p.2.1 p.2.2.1 p.2.2.2.1 p.2.2.2.2.1 p.2.2.2.2.2.1 p.2.2.2.2.2.2.1 p.2.2.2.2.2.2.2.1 a.1 a.2) (λp=>(p.2.2.2.2.2.2.2.2.1,p.2.2.2.2.2.2.2.2.2)) (St:=λp=>Na shut p.1 p.2.1 p.2.2.1 p.2.2.2.1 p.2.2.2.2.1 p.2.2.2.2.2.1 p.2.2.2.2.2.2.1 p.2.2.2.2.2.2.2.1) (λp=>1000000) (λp=>rfl)
  (λm p a k=>by kernel_rfl)
def XS:=bq (BN shut) aq Tryz.f43 43 [Q7]
theorem XT:aR XS γ:=bu (ag.all BO rfl) Tryz.func43 rfl aT (by kernel_rfl) ag9
def E3 (s:aZ):T aZ:=.bd (app 32 [] s.ax.ae) λz0=>.bd (app 24 [] s.aI) λa=>.bd (app 16 [] s.aC.ae) λz2=>.bd (app 16 [] s.aw.ak) λz3=>.gd (wU s.aw.an s.ax.aH s.aC.ba z0 a z2 z3 ((↑s.aw.an.length:Int)) 0 [])<|.bd (C8 U s.aw.an s.ax.aH s.aC.ba z0 a z2 z3 ((↑s.aw.an.length:Int)) 0 []) λb=>.ok (⟨⟨s.ax.aH,z0⟩,a,⟨z2,s.aC.ba⟩,⟨z3,b.2.2⟩⟩)
def GQ (s:aZ):=U.s _ (E3 U s).val
def BA:=a6 (cR KK 43 60 (GQ U) (bH KK 60)) (BN U)
theorem s7:ag (BA shut) γ:=cX (rs:=[60]) BO XT rfl rfl λs k=>by kernel_rfl
def HB (a:List ah) (p1:Γa) (p2:List ai) (b:List ay) (c:Int) (d:List au) (e:List ar) (f:Int) (g:Γc):AS SS:=⟨[(1,va 0 0),(3,va 1 0),(4,va 3 0),(37,vd 48 a),(38,vl a),(39,vi f)],[bX 60 [.bA .i64 16 p1,.aJ 48 a,.aJ 51 p2,.aJ 52 b,lu c,.aJ 55 d,.aJ 56 e],bX 120 [.mp 2],some (.map .u64 .i64 g),bX 120 [.mp 4],some (.map .u64 .i64 [])],0,none,false,[],[]⟩
def T4 (a:List ah) (p1:Γa) (p2:List ai) (b:List ay) (c:Int) (d:List au) (e:List ar) (f:Γc):AS SS:=HB a p1 p2 b c d e 0 f
def o6 (U:Sh) (b:List ah) (p1:Γa) (p2:List ai) (c:List ay) (d:Int) (e:List au) (f:List ar) (g:Int) (z0:ah) (a:(Γc)):T (((Γc))⊕(Bool×Int×(Γc))):=.bf (!z0.bb) (.ok (.inl (cp a z0.aa 1)))<|.ok (.inl a)
def sC (U:Sh) (c:List ah) (p1:Γa) (p2:List ai) (d:List ay) (e:Int) (f:List au) (g:List ar) (b:Int) (a:(Γc)):T ((Bool×Int×(Γc))):=.ok (decide (b<(↑c.length:Int)),b,a)
def tk (a:List ah) (p1:Γa) (p2:List ai) (b:List ay) (c:Int) (d:List au) (e:List ar) (f:Γc):Option ((Bool×Int×(Γc))):=bC U (o6 U a p1 p2 b c d e) (sC U a p1 p2 b c d e) a f
def aaI {R} (k:KX SS R) (a:List ah) (p1:Γa) (p2:List ai) (c:List ay) (b:Int) (d:List au) (e:List ar) (x:(Bool×Int×(Γc))):Option R:=(λv=>k (.exit 0) {HB a p1 p2 c b d e b v.2.2 with env:=[(40,vb v.1),(1,va 0 0),(3,va 1 0),(4,va 3 0),(37,vd 48 a),(38,vl a),(39,vi v.2.1)]}) x
def Q6:aX SS:=bh 6 (sq (sD 48 37) (sq (hX ea 0 0) (sq (hD 51 0 2) (sq (hD 52 0 3) (sq (hI 0 4) (sq (hD 55 0 5) (sq (hD 56 0 6) (λst=>gG st 2)))))))) (u8 T4) (u8 (tk shut)) (λk p=>aaI k p.1 p.2.1 p.2.2.1 p.2.2.2.1 p.2.2.2.2.1 p.2.2.2.2.2.1 p.2.2.2.2.2.2.1)
theorem ag8:LS KK γ aq ζp 41 6 Q6:=
 aO.bI (π:=List ah×Γa×List ai×List ay×Int×List au×List ar×(Γc)) (σ:=(Γc)) (ag.all s7 rfl) (aF.nil) rfl 60 (λp i a=>HB p.1 p.2.1 p.2.2.1 p.2.2.2.1 p.2.2.2.2.1 p.2.2.2.2.2.1 p.2.2.2.2.2.2.1 i a) (λp=>p.1) (λp=>p.2.2.2.2.2.2.2) (St:=λp=>o6 shut p.1 p.2.1 p.2.2.1 p.2.2.2.1 p.2.2.2.2.1 p.2.2.2.2.2.1 p.2.2.2.2.2.2.1) (F:=λp=>sC shut p.1 p.2.1 p.2.2.1 p.2.2.2.1 p.2.2.2.2.1 p.2.2.2.2.2.1 p.2.2.2.2.2.2.1) (λp=>rfl)
  (λm p i a k=>by kernel_rfl) (λp x=>⟨_,_,λ_=>rfl⟩) (λp N C A O w a b=>bT b (t:=48) (sl:=37) rfl λv h=>h)
def HA (a:List ay) (p1:Γa) (p2:List ah) (b:List ai) (c:Int) (d:List au) (e:List ar) (f:Γc) (g:Int) (h:Γc):AS SS:=⟨[(1,va 0 0),(3,va 1 0),(4,va 3 0),(52,vd 52 a),(53,vl a),(54,vi g)],[bX 60 [.bA .i64 16 p1,.aJ 48 p2,.aJ 51 b,.aJ 52 a,lu c,.aJ 55 d,.aJ 56 e],bX 120 [.mp 2],some (.map .u64 .i64 f),bX 120 [.mp 4],some (.map .u64 .i64 h)],0,none,false,[],[]⟩
def T3 (a:List ay) (p1:Γa) (p2:List ah) (b:List ai) (c:Int) (d:List au) (e:List ar) (f g:Γc):AS SS:=HA a p1 p2 b c d e f 0 g
def Dv (U:Sh) (b:List ay) (p1:Γa) (p2:List ah) (c:List ai) (d:Int) (e:List au) (f:List ar) (g:Γc) (h:Int) (z0:ay) (a:(Γc)):T (((Γc))⊕(Bool×Int×(Γc))):=.ok (.inl (cp a z0.aY 1))
def sB (U:Sh) (c:List ay) (p1:Γa) (p2:List ah) (d:List ai) (e:Int) (f:List au) (g:List ar) (h:Γc) (b:Int) (a:(Γc)):T ((Bool×Int×(Γc))):=.ok (decide (b<(↑c.length:Int)),b,a)
def tj (a:List ay) (p1:Γa) (p2:List ah) (b:List ai) (c:Int) (d:List au) (e:List ar) (f g:Γc):Option ((Bool×Int×(Γc))):=bC U (Dv U a p1 p2 b c d e f) (sB U a p1 p2 b c d e f) a g
def aaH {R} (k:KX SS R) (a:List ay) (p1:Γa) (p2:List ah) (c:List ai) (b:Int) (d:List au) (e:List ar) (f:Γc) (x:(Bool×Int×(Γc))):Option R:=(λv=>k (.exit 2) {HA a p1 p2 c b d e f b v.2.2 with env:=[(55,vb v.1),(1,va 0 0),(3,va 1 0),(4,va 3 0),(52,vd 52 a),(53,vl a),(54,vi v.2.1)]}) x
def Q5:aX SS:=bh 12 (sq (sD 52 52) (sq (hX ea 0 0) (sq (hD 48 0 1) (sq (hD 51 0 2) (sq (hI 0 4) (sq (hD 55 0 5) (sq (hD 56 0 6) (sq (λst=>gG st 2) (λst=>gG st 4))))))))) (u9 T3) (u9 (tj shut)) (λk p=>aaH k p.1 p.2.1 p.2.2.1 p.2.2.2.1 p.2.2.2.2.1 p.2.2.2.2.2.1 p.2.2.2.2.2.2.1 p.2.2.2.2.2.2.2.1)
theorem ag7:LS KK γ aq ζp 41 12 Q5:=
 aO.bI (π:=List ay×Γa×List ah×List ai×Int×List au×List ar×(Γc)×(Γc)) (σ:=(Γc)) (ag.all s7 rfl) (aF.nil) rfl 60 (λp i a=>HA p.1 p.2.1 p.2.2.1 p.2.2.2.1 p.2.2.2.2.1 p.2.2.2.2.2.1 p.2.2.2.2.2.2.1 p.2.2.2.2.2.2.2.1 i a) (λp=>p.1) (λp=>p.2.2.2.2.2.2.2.2) (St:=λp=>Dv shut p.1 p.2.1 p.2.2.1 p.2.2.2.1 p.2.2.2.2.1 p.2.2.2.2.2.1 p.2.2.2.2.2.2.1 p.2.2.2.2.2.2.2.1) (F:=λp=>sB shut p.1 p.2.1 p.2.2.1 p.2.2.2.1 p.2.2.2.2.1 p.2.2.2.2.2.1 p.2.2.2.2.2.2.1 p.2.2.2.2.2.2.2.1) (λp=>rfl)
  (λm p i a k=>by kernel_rfl) (λp x=>⟨_,_,λ_=>rfl⟩) (λp N C A O w a b=>bT b (t:=52) (sl:=52) rfl λv h=>h)
def wY (a:List ai) (p1 p2:Γc) (b:Bool) (c:Int):AS SS:=⟨[(1,vc 0),(5,vb b),(8,vd 51 a),(9,vl a),(10,vi c)],[some (.a7 65 [] [.one (.aM 1 0),.one (.aM 3 0)]),bX 120 [.mp 2],some (.map .u64 .i64 p1),bX 120 [.mp 4],some (.map .u64 .i64 p2)],5,none,false,[],[]⟩
def mJ (U:Sh) (c:List ai) (p1 p2:Γc) (b:Int) (z0:ai) (a:Bool):T (Bool⊕(Bool×Bool×Int×Int×Int×ai×Bool×Bool×Int)⊕(Bool×Bool×Int)):=
 .bf ((match bG p1 z0.aa with
 |some x=>x
 |none=>0)==
 1) (
  .bf (!(match bG p2 z0.b' with
   |some x=>x
   |none=>0)==
   1) (
   .ok (.inr (.inl ((!(match bG p2 z0.b' with
   |some x=>x
   |none=>0)==
   1),((match bG p2 z0.b' with
 |some x=>x
 |none=>0)==
 1),z0.aa,z0.bo,z0.b',z0,decide (b<(↑c.length:Int)),a,b))))<|
  .ok (.inl ((match bG p2 z0.b' with
 |some x=>x
 |none=>0)==
 1)))<|
 .ok (.inr (.inl (true,false,z0.aa,z0.bo,z0.b',z0,decide (b<(↑c.length:Int)),a,b)))
def y_ (U:Sh) (c:List ai) (p1 p2:Γc) (b:Int) (a:Bool):T ((Bool×Bool×Int×Int×Int×ai×Bool×Bool×Int)⊕(Bool×Bool×Int)):=.ok (.inr (decide (b<(↑c.length:Int)),a,b))
def De (a:List ai) (p1 p2:Γc) (b:Bool):=bC U (mJ U a p1 p2) (y_ U a p1 p2) a b
def aaS {R} (k:KX SS R) (a:List ai) (p1 p2:Γc) (x:(Bool×Bool×Int×Int×Int×ai×Bool×Bool×Int)⊕(Bool×Bool×Int)):Option R:=x.elim (λv=>k (.exit 0) ⟨[(18,vb v.1),(17,vb v.2.1),(5,vb v.2.1),(16,vb v.2.1),(15,.s (.agg [lu v.2.2.1,li v.2.2.2.1,lu v.2.2.2.2.1])),(14,vc 0),(7,va 5 0),(13,.s (.agg [lu v.2.2.1,li v.2.2.2.1,lu v.2.2.2.2.1])),(12,vs (.ptr 105 v.2.2.2.2.2.1 0)),(11,vb v.2.2.2.2.2.2.1),(1,vc 0),(5,vb v.2.2.2.2.2.2.2.1),(8,vd 51 a),(9,vl a),(10,vi v.2.2.2.2.2.2.2.2)],[some (.a7 65 [] [.one (.aM 1 0),.one (.aM 3 0)]),bX 120 [.mp 2],some (.map .u64 .i64 p1),bX 120 [.mp 4],some (.map .u64 .i64 p2),bX 105 [lu v.2.2.1,li v.2.2.2.1,lu v.2.2.2.2.1]],5,none,false,[],[]⟩) (λv=>k (.exit 0) {wY a p1 p2 v.1 v.2.2 with env:=[(11,vb v.1),(1,vc 0),(5,vb v.2.1),(8,vd 51 a),(9,vl a),(10,vi v.2.2)]})
def Re:aX SS:=bh 4 (gq (λst=>cG st 0 65) (sq (sD 51 8) (sq (λst=>gG st 2) (sq (λst=>gG st 4) (sX gD 5))))) (λp=>u4 wY p 0) (u4 (De shut)) (λk p=>aaS k p.1 p.2.1 p.2.2.1)
def KV:=bq (BA shut) aq ζp 41 [Q6,Q5]
theorem KW:aR KV γ:=(aR.fz (ag.all s7 rfl) Tryz.func41 rfl aT λc a=>by cases a;exact aF.cons (aF.cons (aF.nil) (by kernel_rfl) ag7) (by kernel_rfl) ag8)
theorem ahf:LS KK γ aq Tryz.f64 64 4 Re:=
 aO.bI (π:=List ai×(Γc)×(Γc)×Bool) (σ:=Bool) KW (aF.nil) rfl 60 (λp i a=>wY p.1 p.2.1 p.2.2.1 a i) (λp=>p.1) (λp=>p.2.2.2) (St:=λp=>mJ shut p.1 p.2.1 p.2.2.1) (F:=λp=>y_ shut p.1 p.2.1 p.2.2.1) (λp=>rfl)
  (λm p i a k=>by kernel_rfl) (by rintro p (x|x)<;>exact⟨_,_,λ_=>rfl⟩) (λp N C A O w a b=>bT b (t:=51) (sl:=8) rfl λv h=>h)
def qy (a:List au) (p1:Γc) (p2:Bool) (b:Int):AS SS:=⟨[(1,vc 0),(5,vb p2),(8,vd 55 a),(9,vl a),(10,vi b)],[some (.a7 67 [] [.one (.aM 1 0)]),bX 120 [.mp 2],some (.map .u64 .i64 p1)],3,none,false,[],[]⟩
def mK (U:Sh) (c:List au) (p1:Γc) (b:Int) (z0:au) (a:Bool):T (Bool⊕(Bool×Bool×Int×Int×au×Bool×Bool×Int)⊕(Bool×Bool×Int)):=
 .bf (!(match bG p1 z0.aa with
   |some x=>x
   |none=>0)==
   1) (
  .ok (.inr (.inl ((!(match bG p1 z0.aa with
   |some x=>x
   |none=>0)==
   1),((match bG p1 z0.aa with
 |some x=>x
 |none=>0)==
 1),z0.aW,z0.aa,z0,decide (b<(↑c.length:Int)),a,b))))<|
 .ok (.inl ((match bG p1 z0.aa with
 |some x=>x
 |none=>0)==
 1))
def y' (U:Sh) (c:List au) (p1:Γc) (b:Int) (a:Bool):T ((Bool×Bool×Int×Int×au×Bool×Bool×Int)⊕(Bool×Bool×Int)):=.ok (.inr (decide (b<(↑c.length:Int)),a,b))
def tn (a:List au) (p1:Γc) (p2:Bool):=bC U (mK U a p1) (y' U a p1) a p2
def aaT {R} (k:KX SS R) (a:List au) (p1:Γc) (x:(Bool×Bool×Int×Int×au×Bool×Bool×Int)⊕(Bool×Bool×Int)):Option R:=x.elim (λv=>k (.exit 0) ⟨[(18,vb v.1),(17,vb v.2.1),(5,vb v.2.1),(16,vb v.2.1),(15,.s (.agg [lu v.2.2.1,lu v.2.2.2.1])),(14,vc 0),(7,va 3 0),(13,.s (.agg [lu v.2.2.1,lu v.2.2.2.1])),(12,vs (.ptr 127 v.2.2.2.2.1 0)),(11,vb v.2.2.2.2.2.1),(1,vc 0),(5,vb v.2.2.2.2.2.2.1),(8,vd 55 a),(9,vl a),(10,vi v.2.2.2.2.2.2.2)],[some (.a7 67 [] [.one (.aM 1 0)]),bX 120 [.mp 2],some (.map .u64 .i64 p1),bX 127 [lu v.2.2.1,lu v.2.2.2.1]],3,none,false,[],[]⟩) (λv=>k (.exit 0) {qy a p1 v.1 v.2.2 with env:=[(11,vb v.1),(1,vc 0),(5,vb v.2.1),(8,vd 55 a),(9,vl a),(10,vi v.2.2)]})
def Rf:aX SS:=bh 4 (gq (λst=>cG st 0 67) (sq (sD 55 8) (sq (λst=>gG st 2) (sX gD 5)))) (λp=>u3 qy p 0) (u3 (tn shut)) (λk p=>aaT k p.1 p.2.1)
def KY:=bq KV aq Tryz.f64 64 [Re]
theorem KZ:aR KY γ:=bu KW Tryz.func64 rfl aT (by kernel_rfl) ahf
theorem ahg:LS KK γ aq Tryz.f66 66 4 Rf:=
 aO.bI (π:=List au×(Γc)×Bool) (σ:=Bool) KZ (aF.nil) rfl 60 (λp i a=>qy p.1 p.2.1 a i) (λp=>p.1) (λp=>p.2.2) (St:=λp=>mK shut p.1 p.2.1) (F:=λp=>y' shut p.1 p.2.1) (λp=>rfl)
  (λm p i a k=>by kernel_rfl) (by rintro p (x|x)<;>exact⟨_,_,λ_=>rfl⟩) (λp N C A O w a b=>bT b (t:=55) (sl:=8) rfl λv h=>h)
def lM (a:List ar) (p1:Γc) (p2:Bool) (b:Int):AS SS:=⟨[(1,vc 0),(5,vb p2),(8,vd 56 a),(9,vl a),(10,vi b)],[some (.a7 69 [] [.one (.aM 1 0)]),bX 120 [.mp 2],some (.map .u64 .i64 p1)],3,none,false,[],[]⟩
def mL (U:Sh) (c:List ar) (p1:Γc) (b:Int) (z0:ar) (a:Bool):T (Bool⊕(Bool×Bool×Int×Γa×ar×Bool×Bool×Int)⊕(Bool×Bool×Int)):=
 .bf (!(match bG p1 z0.aa with
   |some x=>x
   |none=>0)==
   1) (
  .ok (.inr (.inl ((!(match bG p1 z0.aa with
   |some x=>x
   |none=>0)==
   1),((match bG p1 z0.aa with
 |some x=>x
 |none=>0)==
 1),z0.aa,z0.bj,z0,decide (b<(↑c.length:Int)),a,b))))<|
 .ok (.inl ((match bG p1 z0.aa with
 |some x=>x
 |none=>0)==
 1))
def za (U:Sh) (c:List ar) (p1:Γc) (b:Int) (a:Bool):T ((Bool×Bool×Int×Γa×ar×Bool×Bool×Int)⊕(Bool×Bool×Int)):=.ok (.inr (decide (b<(↑c.length:Int)),a,b))
def mz (a:List ar) (p1:Γc) (p2:Bool):=bC U (mL U a p1) (za U a p1) a p2
def aaU {R} (k:KX SS R) (a:List ar) (p1:Γc) (x:(Bool×Bool×Int×Γa×ar×Bool×Bool×Int)⊕(Bool×Bool×Int)):Option R:=x.elim (λv=>k (.exit 0) ⟨[(18,vb v.1),(17,vb v.2.1),(5,vb v.2.1),(16,vb v.2.1),(15,.s (.agg [lu v.2.2.1,.aJ 130 v.2.2.2.1])),(14,vc 0),(7,va 3 0),(13,.s (.agg [lu v.2.2.1,.aJ 130 v.2.2.2.1])),(12,vs (.ptr 132 v.2.2.2.2.1 0)),(11,vb v.2.2.2.2.2.1),(1,vc 0),(5,vb v.2.2.2.2.2.2.1),(8,vd 56 a),(9,vl a),(10,vi v.2.2.2.2.2.2.2)],[some (.a7 69 [] [.one (.aM 1 0)]),bX 120 [.mp 2],some (.map .u64 .i64 p1),bX 132 [lu v.2.2.1,.aJ 130 v.2.2.2.1]],3,none,false,[],[]⟩) (λv=>k (.exit 0) {lM a p1 v.1 v.2.2 with env:=[(11,vb v.1),(1,vc 0),(5,vb v.2.1),(8,vd 56 a),(9,vl a),(10,vi v.2.2)]})
def Rg:aX SS:=bh 4 (gq (λst=>cG st 0 69) (sq (sD 56 8) (sq (λst=>gG st 2) (sX gD 5)))) (λp=>u3 lM p 0) (u3 (mz shut)) (λk p=>aaU k p.1 p.2.1)
def K0:=bq KY aq Tryz.f66 66 [Rf]
theorem K1:aR K0 γ:=bu KZ Tryz.func66 rfl aT (by kernel_rfl) ahg
theorem ahh:LS KK γ aq Tryz.f68 68 4 Rg:=
 aO.bI (π:=List ar×(Γc)×Bool) (σ:=Bool) K1 (aF.nil) rfl 60 (λp i a=>lM p.1 p.2.1 a i) (λp=>p.1) (λp=>p.2.2) (St:=λp=>mL shut p.1 p.2.1) (F:=λp=>za shut p.1 p.2.1) (λp=>rfl)
  (λm p i a k=>by kernel_rfl) (by rintro p (x|x)<;>exact⟨_,_,λ_=>rfl⟩) (λp N C A O w a b=>bT b (t:=56) (sl:=8) rfl λv h=>h)
def XQ:=bq K0 aq Tryz.f68 68 [Rg]
theorem XR:aR XQ γ:=bu K1 Tryz.func68 rfl aT (by kernel_rfl) ahh
def E1 (s:aZ):T Int:=.bd (kt U s.ax) λi=>.bf (i !=0) (.ok 360)<|.bd (iK U s.aI) λj=>.bf (j !=0) (.ok 360)<|.bd (pQ U s.aC) λk=>.bf (k !=0) (.ok 360)<|.bd (jI U s.aw) λl=>.bf (l !=0) (.ok 360)<|.gd (T4 s.ax.ae s.ax.aH s.aI s.aC.ae s.aC.ba s.aw.ak s.aw.an [])<|.bd (tk U s.ax.ae s.ax.aH s.aI s.aC.ae s.aC.ba s.aw.ak s.aw.an []) λa=>.gd (T3 s.aC.ae s.ax.aH s.ax.ae s.aI s.aC.ba s.aw.ak s.aw.an a.2.2 [])<|.bd (tj U s.aC.ae s.ax.aH s.ax.ae s.aI s.aC.ba s.aw.ak s.aw.an a.2.2 []) λg=>.gd (wY s.aI a.2.2 g.2.2 true 0)<|.bd (De U s.aI a.2.2 g.2.2 true) λh=>.cs h (λe=>.gd (qy s.aw.ak a.2.2 true 0)<|.bd (tn U s.aw.ak a.2.2 true) λf=>.cs f (λd=>.bf (!e.2.1) (.ok 360)<|.bf (!d.2.1) (.ok 360)<|.gd (lM s.aw.an a.2.2 true 0)<|.bd (mz U s.aw.an a.2.2 true) λc=>.cs c (λb=>.bf (!b.2.1) (.ok 360)<|.ok 0) λb=>.bf (!b.2.1) (.ok 360)<|.ok 0) λd=>.bf (!e.2.1) (.ok 360)<|.bf (!d.2.1) (.ok 360)<|.gd (lM s.aw.an a.2.2 true 0)<|.bd (mz U s.aw.an a.2.2 true) λc=>.cs c (λb=>.bf (!b.2.1) (.ok 360)<|.ok 0) λb=>.bf (!b.2.1) (.ok 360)<|.ok 0) λe=>.gd (qy s.aw.ak a.2.2 true 0)<|.bd (tn U s.aw.ak a.2.2 true) λf=>.cs f (λd=>.bf (!e.2.1) (.ok 360)<|.bf (!d.2.1) (.ok 360)<|.gd (lM s.aw.an a.2.2 true 0)<|.bd (mz U s.aw.an a.2.2 true) λc=>.cs c (λb=>.bf (!b.2.1) (.ok 360)<|.ok 0) λb=>.bf (!b.2.1) (.ok 360)<|.ok 0) λd=>.bf (!e.2.1) (.ok 360)<|.bf (!d.2.1) (.ok 360)<|.gd (lM s.aw.an a.2.2 true 0)<|.bd (mz U s.aw.an a.2.2 true) λc=>.cs c (λb=>.bf (!b.2.1) (.ok 360)<|.ok 0) λb=>.bf (!b.2.1) (.ok 360)<|.ok 0
def vI (s:aZ):=U.s _ (E1 U s).val
def By:=a6 (cR KK 41 60 (vI U) (bH KK 27)) (BA U)
theorem Bz:ag (By shut) γ:=cX (rs:=[27]) s7 XR rfl rfl λs k=>by kernel_rfl
end Go.Proofs.YtoggponeookhbaaGreatDoor
end
section
namespace Go.Proofs.YtoggponeookhbaaGreatDoor
open Go.RowKit Go.Dc Go.Vx
variable (U:Sh)
def v_ (a:Γa) (p1:List ah) (p2 b:Int):AS SS:=⟨[(0,vs .cW),(1,va 4 0),(9,vl p1),(10,vi b)],[bX 160 [.bA .i64 16 a,.aJ 48 p1],bX 35 [lu p2],bX 161 [.v (.pointer none)],some (.a7 142 [] [.one (.aM 4 0)]),bX 158 [.aM 0 0]],5,some ⟨⟨κ,aq 97⟩,[9,10],ey (ca κ) 4,ez (ca κ) 4,[(3,va 1 0),(4,va 2 0),(8,vc 3)],none⟩,false,[],[]⟩
def tB (U:Sh) (b:Γa) (p1:List ah) (p2 c:Int) (z0:ah) (a:Unit):T (Unit⊕ah⊕(Bool×Int)):=.bf (z0.aa==p2) (.ok (.inr (.inl z0)))<|.ok (.inl ())
def rT (U:Sh) (c:Γa) (p1:List ah) (p2 b:Int) (a:Unit):T (ah⊕(Bool×Int)):=.ok (.inr (decide (b<(↑p1.length:Int)),b))
def B8 (a:Γa) (p1:List ah) (p2:Int):=bC U (tB U a p1 p2) (rT U a p1 p2) p1 ()
def Zu {R} (k:KX SS R) (a:Γa) (p1:List ah) (p2:Int) (x:ah⊕(Bool×Int)):Option R:=x.elim (λv=>k .ret ⟨[],[bX 160 [.bA .i64 16 a,.aJ 48 p1],bX 35 [lu p2],bX 161 [.ptr 115 v 0],some (.a7 142 [] [.one (.aM 4 0)]),bX 158 [.aM 0 0]],5,some ⟨⟨κ,aq 97⟩,[9,10],ey (ca κ) 4,ez (ca κ) 4,[(3,va 1 0),(4,va 2 0),(8,vc 3)],some .ret⟩,false,[],[2]⟩) (λv=>k (.exit 0) {v_ a p1 p2 p2 with env:=[(11,vb v.1),(0,vs .cW),(1,va 4 0),(9,vl p1),(10,vi v.2)]})
def P0:aX SS:=bh 2 (gq (λst=>(cG st 3 142).bind λ_=>fQ st 18 4) (sq (hX ea 0 0) (sq (hD 48 0 1) (hI 1 0)))) (λp=>u3 v_ p 0) (u3 (B8 shut)) (λk=>u3 (Zu k))
theorem afX:LS KK γ aq φ 142 2 P0:=
 aO.bI (ag.all Bz rfl) (aF.nil) rfl 60 (λp i a=>u3 v_ p i) (λp=>p.2.1) (λp=>()) (St:=u3 (tB shut)) (F:=u3 (rT shut)) (λp=>rfl)
  (λm p i a k=>by kernel_rfl) (by rintro p (x|x)<;>exact⟨_,_,λ_=>rfl⟩) (λp N C A O w a b=>Ic b (j:=0) (n:=1) (t:=48) rfl rfl λv h=>h)
def VD:=bq (By shut) aq φ 142 [P0]
theorem VE:aR VD γ:=bu (ag.all Bz rfl) ξ0 rfl aT (by kernel_rfl) afX
def DG (p:br) (pid:Int):T (ah×Bool):=.bd (kt U p) λc=>.bf (c !=0) (.ok (⟨0,0,false,0⟩,false))<|.gd (v_ p.aH p.ae pid 0)<|.bd (B8 U p.aH p.ae pid) λb=>.cs b (λa=>.ok (a,true)) λa=>.ok (⟨0,0,false,0⟩,false)
def Gc (p:br) (pid:Int):=U.s _ (DG U p pid).val
def Le:=a6 (bU KK 108 50 35 (Gc U) (dy KK 115 4)) (By U)
theorem Lf:ag (Le shut) γ:=bZ (rs:=[115,4]) Bz VE rfl rfl λp pid k=>by kernel_rfl
def Fe (p:br) (pid:Int):T Bool:=.bd (Gc U p pid) λa=>.bf (a.2) (.ok (!a.1.bb))<|.ok false
def pR (p:br) (pid:Int):=U.s _ (Fe U p pid).val
def oE:=a6 (bU KK 73 50 35 (pR U) (bH KK 4)) (Le U)
theorem oF:ag (oE shut) γ:=bZ (rs:=[4]) Lf (ag.all Lf rfl) rfl rfl λp pid k=>by kernel_rfl
def v' (a:Γa) (p1:List ah) (p2 b:Int):AS SS:=⟨[(0,vs .cW),(1,va 5 0),(9,vl p1),(10,vi b)],[bX 160 [.bA .i64 16 a,.own 1],rX 115 p1,bX 35 [lu p2],bX 161 [.v (.pointer none)],some (.a7 142 [] [.one (.aM 5 0)]),bX 158 [.aM 0 0]],6,some ⟨⟨κ,aq 97⟩,[9,10],ey (ca κ) 4,ez (ca κ) 4,[(3,va 2 0),(4,va 3 0),(8,vc 4)],none⟩,false,[],[]⟩
def M5 (U:Sh) (d:Γa) (p1:List ah) (p2 b:Int) (z0:ah) (a:Unit):T (Unit⊕Nat⊕(Bool×Int)):=.bd (p1[b.toNat]?) λc=>.bf (c.aa==p2) (.ok (.inr (.inl b.toNat)))<|.ok (.inl ())
def y1 (U:Sh) (c:Γa) (p1:List ah) (p2 b:Int) (a:Unit):T (Nat⊕(Bool×Int)):=.ok (.inr (decide (b<(↑p1.length:Int)),b))
def B9 (a:Γa) (p1:List ah) (p2:Int):=bC U (M5 U a p1 p2) (y1 U a p1 p2) p1 ()
def Zv {R} (k:KX SS R) (a:Γa) (p1:List ah) (p2:Int) (x:Nat⊕(Bool×Int)):Option R:=x.elim (λv=>k .ret ⟨[],[bX 160 [.bA .i64 16 a,.own 1],rX 115 p1,bX 35 [lu p2],bX 161 [.d' 115 1 v 0],some (.a7 142 [] [.one (.aM 5 0)]),bX 158 [.aM 0 0]],6,some ⟨⟨κ,aq 97⟩,[9,10],ey (ca κ) 4,ez (ca κ) 4,[(3,va 2 0),(4,va 3 0),(8,vc 4)],some .ret⟩,false,[],[3]⟩) (λv=>k (.exit 0) {v' a p1 p2 p2 with env:=[(11,vb v.1),(0,vs .cW),(1,va 5 0),(9,vl p1),(10,vi v.2)]})
def H4:aX SS:=bh 2 (gq (λst=>(cG st 4 142).bind λ_=>fQ st 18 4) (sq (hX ea 0 0) (sq (hR 1 115) (hI 2 0)))) (λp=>u3 v' p 0) (u3 (B9 shut)) (λk=>u3 (Zv k))
theorem I9:LS KK γ aq φ 142 2 H4:=
 aO.bI (ag.all oF rfl) (aF.nil) rfl 60 (λp i a=>u3 v' p i) (λp=>p.2.1) (λp=>()) (St:=u3 (M5 shut)) (F:=u3 (y1 shut)) (λp=>rfl)
  (λm p i a k=>by kernel_rfl) (by rintro p (x|x)<;>exact⟨_,_,λ_=>rfl⟩) (λp N C A O w a b=>kG (j:=1) b rfl)
def ql (a:List ah) (p1 p2:Int):AS SS:=⟨[(0,vo 0),(1,vc 1),(7,vl a),(8,vi p2)],[rX 115 a,some (.a7 256 [] [.one (.aM 2 0)]),bX 3 [li p1]],3,none,false,[],[]⟩
def tZ (b:List ah) (p1 p2:Int) (z0:ah) (a:Unit):T (Unit⊕Int⊕(Bool×Int)):=.bd (b[p2.toNat]?) λd=>.bd (lC U d.aa) λc=>.bf (c==δ.wrap (p1+1)) (.ok (.inr (.inl p2)))<|.ok (.inl ())
def si (U:Sh) (b:List ah) (p1 p2:Int) (a:Unit):T (Int⊕(Bool×Int)):=.ok (.inr (decide (p2<(↑b.length:Int)),p2))
def CM (a:List ah) (p1:Int):=bC U (tZ U a p1) (si U a p1) a ()
def aah {R} (k:KX SS R) (a:List ah) (p1:Int) (x:Int⊕(Bool×Int)):Option R:=x.elim (λv=>k .ret {ql a p1 p1 with env:=[(4,vi v)]}) (λv=>k (.exit 0) {ql a p1 p1 with env:=[(9,vb v.1),(0,vo 0),(1,vc 1),(7,vl a),(8,vi v.2)]})
def H9:aX SS:=bh 3 (gq (λst=>cG st 1 256) (sq (hR 0 115) (hI 2 0))) (λp=>u2 ql p 0) (u2 (CM shut)) (λk=>u2 (aah k))
def yS:=bq (oE shut) aq φ 142 [H4]
theorem Kw:aR yS γ:=bu (ag.all oF rfl) ξ0 rfl aT (by kernel_rfl) I9
theorem SG:LS KK γ aq ξS 257 3 H9:=
 aO.bI Kw (aF.nil) rfl 60 (λp i a=>u2 ql p i) (λp=>p.1) (λp=>()) (St:=u2 (tZ shut)) (F:=u2 (si shut)) (λp=>rfl)
  (λm p i a k=>by kernel_rfl) (by rintro p (x|x)<;>exact⟨_,_,λ_=>rfl⟩) (λp N C A O w a b=>kG (j:=0) b rfl)
def wg (a:Γa) (p1:List ah) (p2:Int):AS SS:=⟨[(0,va 0 0),(3,va 2 0)],[bX 160 [.bA .i64 16 a,.own 1],rX 115 p1,bX 3 [li p2]],2,none,false,[],[]⟩
def mD (c:Γa) (p1:List ah) (a:Int):T (Int⊕(Bool×Int)⊕(Bool×Int×Nat×Int×Bool×Bool×Bool)):=.bf (!decide (a<16)) (.ok (.inr (.inl (decide (a<16),a))))<|.gd (ql p1 a 0)<|.bd (CM U p1 a) λe=>.cs e (λd=>.bf (!decide (d>=0)) (.bd (c6 a 16) λb=>.bf (decide (ao c b<=65535)) (.ok (.inr (.inr (decide (ao c b<=65535),ao c b,b,a,!decide (d>=0),decide (d>=0),decide (a<16)))))<|.ok (.inl (δ.wrap (a+1))))<|.ok (.inl (δ.wrap (a+1)))) λd=>.bd (c6 a 16) λb=>.bf (decide (ao c b<=65535)) (.ok (.inr (.inr (decide (ao c b<=65535),ao c b,b,a,true,false,decide (a<16)))))<|.ok (.inl (δ.wrap (a+1)))
def Cg (a:Γa) (p1:List ah) (p2:Int):=bQ U (mD U a p1) 1000000 p2
def ZI {R} (k:KX SS R) (a:Γa) (p1:List ah) (x:(Bool×Int)⊕(Bool×Int×Nat×Int×Bool×Bool×Bool)):Option R:=x.elim (λv=>k (.bD (.iface 27 (.int .i64 322))) (xe [(6,vb v.1),(5,vi v.2)] (wg a p1 v.2))) (λv=>k (.exit 0) ⟨[(26,vb v.1),(25,vb v.1),(17,vb true),(24,vi v.2.1),(17,vb true),(23,vs (.fa 0 0 16 v.2.2.1)),(17,vb true),(22,va 0 0),(17,vb true),(21,va 0 0),(17,vb true),(20,va 0 0),(17,vb true),(19,vi v.2.2.2.1),(17,vb true),(18,va 0 0),(17,vb true),(17,vb v.2.2.2.2.1),(16,vb v.2.2.2.2.1),(15,vb v.2.2.2.2.2.1),(4,vb v.2.2.2.2.2.1),(14,vb v.2.2.2.2.2.1),(13,vc 3),(12,vo 1),(11,va 0 16),(10,va 0 0),(9,va 0 0),(8,va 0 0),(7,.bJ []),(6,vb v.2.2.2.2.2.2),(5,vi v.2.2.2.1),(0,va 0 0),(3,va 2 0)],[bX 160 [.bA .i64 16 a,.own 1],rX 115 p1,bX 3 [li v.2.2.2.1],some (.a7 256 [] [.one (.aM 2 0)])],2,none,false,[],[]⟩)
def H7:aX SS:=bh 3 (sq (hX ea 0 0) (sq (hR 1 115) (hI 2 0))) (u3 wg) (u3 (Cg shut)) (λk p=>ZI k p.1 p.2.1)
def VV:=bq yS aq ξS 257 [H9]
theorem VW:aR VV γ:=bu Kw ζ9 rfl aT (by kernel_rfl) SG
theorem SE:LS KK γ aq ζa 193 3 H7:=
 aO.bQ (π:=Γa×List ah×Int) (σ:=Int) VW (aF.nil) rfl 60 (λp a=>wg p.1 p.2.1 a) (λp=>p.2.2) (St:=λp=>mD shut p.1 p.2.1) (λp=>1000000) (λp=>rfl)
  (λm p a k=>by kernel_rfl)
def qm (a:List ah) (p1 p2 b:Int):AS SS:=⟨[(0,vo 0),(1,vc 1),(7,vl a),(8,vi b)],[rX 115 a,some (.a7 258 [] [.one (.aM 2 0)]),bX 115 [lu p1,lu p2,.v (.bool false),lu 0]],3,none,false,[],[]⟩
def t_ (c:List ah) (p1 p2 b:Int) (z0:ah) (a:Unit):T (Unit⊕Int⊕(Bool×Int)):=.bd (c[b.toNat]?) λf=>.bd (lC U f.aa) λd=>.bd (lC U p1) λe=>.bf (decide (d>e)) (.ok (.inr (.inl b)))<|.ok (.inl ())
def sj (U:Sh) (c:List ah) (p1 p2 b:Int) (a:Unit):T (Int⊕(Bool×Int)):=.ok (.inr (decide (b<(↑c.length:Int)),b))
def CN (a:List ah) (p1 p2:Int):=bC U (t_ U a p1 p2) (sj U a p1 p2) a ()
def aai {R} (k:KX SS R) (a:List ah) (p1 p2:Int) (x:Int⊕(Bool×Int)):Option R:=x.elim (λv=>k .ret {qm a p1 p2 p1 with env:=[(4,vi v)]}) (λv=>k (.exit 0) {qm a p1 p2 p1 with env:=[(9,vb v.1),(0,vo 0),(1,vc 1),(7,vl a),(8,vi v.2)]})
def QH:aX SS:=bh 3 (gq (λst=>cG st 1 258) (sq (hR 0 115) (sq (hI 2 0) (hI 2 1)))) (λp=>u3 qm p 0) (u3 (CN shut)) (λk=>u3 (aai k))
def VX:=bq yS aq ζa 193 [H7]
theorem VY:aR VX γ:=bu (aR.fz (ag.all oF rfl) ξ0 rfl aT λc a=>by cases a;exact aF.cons (aF.nil) (by kernel_rfl) I9) ζb rfl aT (by kernel_rfl) SE
theorem agH:LS KK γ aq ξS 257 3 QH:=
 aO.bI VY (aF.nil) rfl 60 (λp i a=>u3 qm p i) (λp=>p.1) (λp=>()) (St:=u3 (t_ shut)) (F:=u3 (sj shut)) (λp=>rfl)
  (λm p i a k=>by kernel_rfl) (by rintro p (x|x)<;>exact⟨_,_,λ_=>rfl⟩) (λp N C A O w a b=>kG (j:=0) b rfl)
def VZ:bN SS:= {(oE shut) with T:=gV (gV (gV ((oE shut).T) 142 ⟨⟨φ,aq 142⟩,[H4]⟩) 257 ⟨⟨ξS,aq 257⟩,[ke (λst=>cG st 1 256) H9 (QH)]⟩) 193 ⟨⟨ζa,aq 193⟩,[H7]⟩}
theorem V0:aR VZ γ:=bu (aR.fz (aR.fz (ag.all oF rfl) ξ0 rfl aT λc a=>by cases a;exact aF.cons (aF.nil) (by kernel_rfl) I9) ζ9 rfl aT λc a=>by cases a;exact aF.cons (aF.nil) (by kernel_rfl) (aO.alt SG agH)) ζb rfl aT (by kernel_rfl) SE
def DS (p:br) (parent:Int):T (br×Int×Int):=.bd (kt U p) λj=>.bf (!j==0) (.ok (⟨[0,0,0,0,0,0,0,0,0,0,0,0,0,0,0,0],[]⟩,0,320))<|.bd (app 32 [] p.ae) λb=>.gd (v' p.aH b parent 0)<|.bd (B9 U p.aH b parent) λh=>.cs h (λf=>.bd (b[f]?) λz3=>.bf (!!z3.bb) (.ok (⟨[0,0,0,0,0,0,0,0,0,0,0,0,0,0,0,0],[]⟩,0,321))<|.gd (wg p.aH b 0)<|.bd (Cg U p.aH b 0) λi=>.cs i (λa=>.ok (⟨[0,0,0,0,0,0,0,0,0,0,0,0,0,0,0,0],[]⟩,0,322)) λa=>.bd (c6 a.2.2.2.1 16) λz5=>.bd (c6 a.2.2.2.1 16) λd=>.bd (c6 a.2.2.2.1 16) λe=>.bf (true&&p.aH.length.beq 16) (.gd (qm b (ζ.wrap (δ.wrap (δ.wrap (δ.wrap (ao p.aH z5*64)+a.2.2.2.1)+1))) parent 0)<|.bd (CN U b (ζ.wrap (δ.wrap (δ.wrap (δ.wrap (ao p.aH z5*64)+a.2.2.2.1)+1))) parent) λg=>.cs g (λc=>.bf (decide (c<0)) (.bd (lP b (↑b.length:Int) [ah.mk (ζ.wrap (δ.wrap (δ.wrap (δ.wrap (ao p.aH z5*64)+a.2.2.2.1)+1))) parent false 0]) λz9=>.ok (⟨p.aH.set e (δ.wrap (ao p.aH d+1)),z9⟩,ζ.wrap (δ.wrap (δ.wrap (δ.wrap (ao p.aH z5*64)+a.2.2.2.1)+1)),0))<|.bd (lP b c [ah.mk (ζ.wrap (δ.wrap (δ.wrap (δ.wrap (ao p.aH z5*64)+a.2.2.2.1)+1))) parent false 0]) λz9=>.ok (⟨p.aH.set e (δ.wrap (ao p.aH d+1)),z9⟩,ζ.wrap (δ.wrap (δ.wrap (δ.wrap (ao p.aH z5*64)+a.2.2.2.1)+1)),0)) λc=>.bd (lP b (↑b.length:Int) [ah.mk (ζ.wrap (δ.wrap (δ.wrap (δ.wrap (ao p.aH z5*64)+a.2.2.2.1)+1))) parent false 0]) λz9=>.ok (⟨p.aH.set e (δ.wrap (ao p.aH d+1)),z9⟩,ζ.wrap (δ.wrap (δ.wrap (δ.wrap (ao p.aH z5*64)+a.2.2.2.1)+1)),0))<|.no) λf=>.ok (⟨[0,0,0,0,0,0,0,0,0,0,0,0,0,0,0,0],[]⟩,0,321)
def u_ (p:br) (parent:Int):=U.s _ (DS U p parent).val
def mr:=a6 (bU KK 147 50 35 (u_ U) (fF KK 50 35 27)) (oE U)
theorem oB:ag (mr shut) γ:=bZ (rs:=[50,35,27]) oF V0 rfl rfl λp parent k=>by kernel_rfl
def wa (a:Γa) (p1:List ah) (p2 b:Int):AS SS:=⟨[(0,vs .cW),(1,va 5 0),(9,vl p1),(10,vi b)],[bX 160 [.bA .i64 16 a,.own 1],rX 115 p1,bX 35 [lu p2],bX 161 [.v (.pointer none)],some (.a7 142 [] [.one (.aM 5 0)]),bX 158 [.aM 0 0]],6,some ⟨⟨κ,aq 97⟩,[9,10],ey (ca κ) 4,ez (ca κ) 4,[(3,va 2 0),(4,va 3 0),(8,vc 4)],none⟩,false,[],[]⟩
def M6 (U:Sh) (d:Γa) (p1:List ah) (p2 b:Int) (z0:ah) (a:Unit):T (Unit⊕Nat⊕(Bool×Int)):=.bd (p1[b.toNat]?) λc=>.bf (c.aa==p2) (.ok (.inr (.inl b.toNat)))<|.ok (.inl ())
def y2 (U:Sh) (c:Γa) (p1:List ah) (p2 b:Int) (a:Unit):T (Nat⊕(Bool×Int)):=.ok (.inr (decide (b<(↑p1.length:Int)),b))
def B_ (a:Γa) (p1:List ah) (p2:Int):=bC U (M6 U a p1 p2) (y2 U a p1 p2) p1 ()
def Zw {R} (k:KX SS R) (a:Γa) (p1:List ah) (p2:Int) (x:Nat⊕(Bool×Int)):Option R:=x.elim (λv=>k .ret ⟨[],[bX 160 [.bA .i64 16 a,.own 1],rX 115 p1,bX 35 [lu p2],bX 161 [.d' 115 1 v 0],some (.a7 142 [] [.one (.aM 5 0)]),bX 158 [.aM 0 0]],6,some ⟨⟨κ,aq 97⟩,[9,10],ey (ca κ) 4,ez (ca κ) 4,[(3,va 2 0),(4,va 3 0),(8,vc 4)],some .ret⟩,false,[],[3]⟩) (λv=>k (.exit 0) {wa a p1 p2 p2 with env:=[(11,vb v.1),(0,vs .cW),(1,va 5 0),(9,vl p1),(10,vi v.2)]})
def H5:aX SS:=bh 2 (gq (λst=>(cG st 4 142).bind λ_=>fQ st 18 4) (sq (hX ea 0 0) (sq (hR 1 115) (hI 2 0)))) (λp=>u3 wa p 0) (u3 (B_ shut)) (λk=>u3 (Zw k))
theorem SC:LS KK γ aq φ 142 2 H5:=
 aO.bI (ag.all oB rfl) (aF.nil) rfl 60 (λp i a=>u3 wa p i) (λp=>p.2.1) (λp=>()) (St:=u3 (M6 shut)) (F:=u3 (y2 shut)) (λp=>rfl)
  (λm p i a k=>by kernel_rfl) (by rintro p (x|x)<;>exact⟨_,_,λ_=>rfl⟩) (λp N C A O w a b=>kG (j:=1) b rfl)
def wh (a:List ah) (p1:Int) (p2:Bool) (b c:Int) (d:List ah):AS SS:=⟨[(1,vc 1),(5,vo 4),(8,vo 0),(9,vi b),(10,vi c)],[rX 115 a,some (.a7 198 [] [.one (.aM 2 0),.one (.aM 3 0)]),bX 35 [lu p1],bX 4 [.v (.bool p2)],rX 115 d],4,none,false,[],[]⟩
def oP (U:Sh) (c:List ah) (p1:Int) (p2:Bool) (d:Int) (a:Int×List ah):T ((Int×List ah)⊕(Bool×Int×List ah)):=.bf (decide (a.1<d)) (.bd (idx c a.1) λz0=>.bd (c[a.1.toNat]?) λb=>.bf (b.aa !=p1) (.bf (b.aP !=p1) (.bd (app 32 a.2 [b]) λz2=>.ok (.inl (δ.wrap (a.1+1),z2)))<|.bf (!b.bb) (.bd (app 32 a.2 [b]) λz2=>.ok (.inl (δ.wrap (a.1+1),z2)))<|.ok (.inl (δ.wrap (a.1+1),a.2)))<|.bf (!p2) (.bf (b.aP !=p1) (.bd (app 32 a.2 [b]) λz2=>.ok (.inl (δ.wrap (a.1+1),z2)))<|.bf (!b.bb) (.bd (app 32 a.2 [b]) λz2=>.ok (.inl (δ.wrap (a.1+1),z2)))<|.ok (.inl (δ.wrap (a.1+1),a.2)))<|.ok (.inl (δ.wrap (a.1+1),a.2)))<|.ok (.inr (decide (a.1<d),a.1,a.2))
def Ch (a:List ah) (p1:Int) (p2:Bool) (b c:Int) (d:List ah):=bQ U (oP U a p1 p2 b) 1000000 (c,d)
def ZJ {R} (k:KX SS R) (b:List ah) (p1:Int) (p2:Bool) (a:Int) (x:(Bool×Int×List ah)):Option R:=(λv=>k (.exit 0) {wh b p1 p2 a p1 v.2.2 with env:=[(11,vb v.1),(1,vc 1),(5,vo 4),(8,vo 0),(9,vi a),(10,vi v.2.1)]}) x
def H8:aX SS:=bh 4 (gq (λst=>cG st 1 198) (sq (hR 0 115) (sq (hI 2 0) (sq (hX gD 3 0) (sq (sI 9) (sq (sI 10) (hR 4 115))))))) (u6 wh) (u6 (Ch shut)) (λk p=>ZJ k p.1 p.2.1 p.2.2.1 p.2.2.2.1)
def V1:=bq (mr shut) aq φ 142 [H5]
theorem V2:aR V1 γ:=bu (ag.all oB rfl) ξ0 rfl aT (by kernel_rfl) SC
theorem SF:LS KK γ aq ξE 197 4 H8:=
 aO.bQ (π:=List ah×Int×Bool×Int×Int×List ah) (σ:=Int×List ah) V2 (aF.nil) rfl 60 (λp a=>wh p.1 p.2.1 p.2.2.1 p.2.2.2.1 a.1 a.2) (λp=>(p.2.2.2.2.1,p.2.2.2.2.2)) (St:=λp=>oP shut p.1 p.2.1 p.2.2.1 p.2.2.2.1) (λp=>1000000) (λp=>rfl)
  (λm p a k=>by kernel_rfl)
def wb (a:Γa) (p1:List ah) (p2 b:Int) (c:List ah) (d:Int) (e:List ah):AS SS:=⟨[(0,vs .cW),(1,va 6 0),(9,vl c),(10,vi d)],[bX 160 [.bA .i64 16 a,.own 4],rX 115 p1,bX 35 [lu p2],bX 35 [lu b],rX 115 e,some (.a7 142 [] [.one (.aM 6 0)]),bX 158 [.aM 0 0]],7,some ⟨⟨ζc,aq 195⟩,[41,42],ey (ca ζc) 8,ez (ca ζc) 8,[(1,va 2 0),(40,vc 5)],none⟩,false,[],[4]⟩
def oL (U:Sh) (d:Γa) (p1:List ah) (p2 e:Int) (b:List ah) (a:Int×List ah):T ((Int×List ah)⊕(Bool×Int×List ah)):=.bf (decide (a.1<(↑b.length:Int))) (.bd (idx a.2 a.1) λz0=>.bd (a.2[a.1.toNat]?) λc=>.bf (c.aP==p2) (.bd (a.2[a.1.toNat]?) λz2=>.ok (.inl (δ.wrap (a.1+1),a.2.set a.1.toNat (ah.mk z2.aa 0 z2.bb z2.bV))))<|.ok (.inl (δ.wrap (a.1+1),a.2)))<|.ok (.inr (decide (a.1<(↑b.length:Int)),a.1,a.2))
def B' (a:Γa) (p1:List ah) (p2 b:Int) (c:List ah) (d:Int) (e:List ah):=bQ U (oL U a p1 p2 b c) 1000000 (d,e)
def Zx {R} (k:KX SS R) (b:Γa) (p1:List ah) (p2 c:Int) (a:List ah) (x:(Bool×Int×List ah)):Option R:=(λv=>k (.exit 0) {wb b p1 p2 c a p2 v.2.2 with env:=[(11,vb v.1),(0,vs .cW),(1,va 6 0),(9,vl a),(10,vi v.2.1)]}) x
def P1:aX SS:=hq (λst=>gc (aq 142 2) (ga [4] (st)))<|bh 2 (λst=>((cG st 5 142).bind λ_=>fQ st 52 8).bind λ_=>(ea (dH st 0 0)).bind λa=>(dU st 1 115).bind λp1=>(cO (dH st 2 0)).bind λp2=>(cO (dH st 3 0)).bind λb=>(dU st 4 115).bind λc=>(cO (cJ st 10 0)).bind λd=>(dU st 4 115).bind λe=>some (a,p1,p2,b,c,d,e)) (u7 wb) (u7 (B' shut)) (λk p=>Zx k p.1 p.2.1 p.2.2.1 p.2.2.2.1 p.2.2.2.2.1)
def V3:=bq (mr shut) aq ξE 197 [H8]
theorem V4:aR V3 γ:=bu (ag.all oB rfl) ξJ rfl aT (by kernel_rfl) SF
theorem afY:LS KK γ aq φ 142 2 P1:=aO.pre (b_.comp (b_.gc (aq 142 2)) (b_.ga [4]))<|
 aO.bQ (π:=Γa×List ah×Int×Int×List ah×Int×List ah) (σ:=Int×List ah) V4 (aF.nil) rfl 60 (λp a=>wb p.1 p.2.1 p.2.2.1 p.2.2.2.1 p.2.2.2.2.1 a.1 a.2) (λp=>(p.2.2.2.2.2.1,p.2.2.2.2.2.2)) (St:=λp=>oL shut p.1 p.2.1 p.2.2.1 p.2.2.2.1 p.2.2.2.2.1) (λp=>1000000) (λp=>rfl)
  (λm p a k=>by kernel_rfl)
def V5:bN SS:= {(mr shut) with T:=gV (gV ((mr shut).T) 142 ⟨⟨φ,aq 142⟩,[ke (λst=>(cG st 4 142).bind λ_=>fQ st 18 4) H5 (P1)]⟩) 197 ⟨⟨ξE,aq 197⟩,[H8]⟩}
theorem V6:aR V5 γ:=bu (aR.fz (ag.all oB rfl) ξ0 rfl aT λc a=>by cases a;exact aF.cons (aF.nil) (by kernel_rfl) (aO.alt SC afY)) ξJ rfl aT (by kernel_rfl) SF
def DT (p:br) (pid code:Int):T (br×Int):=.bd (kt U p) λf=>.bf (!f==0) (.ok (⟨[0,0,0,0,0,0,0,0,0,0,0,0,0,0,0,0],[]⟩,320))<|.bd (app 32 [] p.ae) λb=>.gd (wa p.aH b pid 0)<|.bd (B_ U p.aH b pid) λe=>.cs e (λa=>.bd (b[a]?) λz3=>.bf (!!z3.bb) (.ok (⟨[0,0,0,0,0,0,0,0,0,0,0,0,0,0,0,0],[]⟩,321))<|.bf (!pid !=1) (.ok (⟨[0,0,0,0,0,0,0,0,0,0,0,0,0,0,0,0],[]⟩,323))<|.bd (b[a]?) λz4=>.bd ((b.set a (ah.mk z4.aa z4.aP true z4.bV))[a]?) λz5=>.bd (((b.set a (ah.mk z4.aa z4.aP true z4.bV)).set a (ah.mk z5.aa z5.aP z5.bb code))[a]?) λd=>.gd (wh ((b.set a (ah.mk z4.aa z4.aP true z4.bV)).set a (ah.mk z5.aa z5.aP z5.bb code)) pid (d.aP==0) ((↑((b.set a (ah.mk z4.aa z4.aP true z4.bV)).set a (ah.mk z5.aa z5.aP z5.bb code)).length:Int)) 0 [])<|.bd (Ch U ((b.set a (ah.mk z4.aa z4.aP true z4.bV)).set a (ah.mk z5.aa z5.aP z5.bb code)) pid (d.aP==0) ((↑((b.set a (ah.mk z4.aa z4.aP true z4.bV)).set a (ah.mk z5.aa z5.aP z5.bb code)).length:Int)) 0 []) λc=>.gd (wb p.aH ((b.set a (ah.mk z4.aa z4.aP true z4.bV)).set a (ah.mk z5.aa z5.aP z5.bb code)) pid code c.2.2 0 c.2.2)<|.bd (B' U p.aH ((b.set a (ah.mk z4.aa z4.aP true z4.bV)).set a (ah.mk z5.aa z5.aP z5.bb code)) pid code c.2.2 0 c.2.2) λg=>.ok (⟨p.aH,g.2.2⟩,0)) λa=>.ok (⟨[0,0,0,0,0,0,0,0,0,0,0,0,0,0,0,0],[]⟩,321)
def u' (p:br) (pid code:Int):=U.s _ (DT U p pid code).val
def zD:=a6 (fN KK 149 50 35 35 (u' U) (dy KK 50 27)) (mr U)
theorem zE:ag (zD shut) γ:=gz (rs:=[50,27]) oB V6 rfl rfl λp pid code k=>by kernel_rfl
def p9 (a:Γa) (p1:List ah) (p2 b:Int):AS SS:=⟨[(0,vs .cW),(1,va 5 0),(9,vl p1),(10,vi b)],[bX 160 [.bA .i64 16 a,.own 1],rX 115 p1,bX 35 [lu p2],bX 161 [.v (.pointer none)],some (.a7 142 [] [.one (.aM 5 0)]),bX 158 [.aM 0 0]],6,some ⟨⟨κ,aq 97⟩,[9,10],ey (ca κ) 4,ez (ca κ) 4,[(3,va 2 0),(4,va 3 0),(8,vc 4)],none⟩,false,[],[]⟩
def M7 (U:Sh) (d:Γa) (p1:List ah) (p2 b:Int) (z0:ah) (a:Unit):T (Unit⊕Nat⊕(Bool×Int)):=.bd (p1[b.toNat]?) λc=>.bf (c.aa==p2) (.ok (.inr (.inl b.toNat)))<|.ok (.inl ())
def y3 (U:Sh) (c:Γa) (p1:List ah) (p2 b:Int) (a:Unit):T (Nat⊕(Bool×Int)):=.ok (.inr (decide (b<(↑p1.length:Int)),b))
def td (a:Γa) (p1:List ah) (p2:Int):=bC U (M7 U a p1 p2) (y3 U a p1 p2) p1 ()
def Zy {R} (k:KX SS R) (a:Γa) (p1:List ah) (p2:Int) (x:Nat⊕(Bool×Int)):Option R:=x.elim (λv=>k .ret ⟨[],[bX 160 [.bA .i64 16 a,.own 1],rX 115 p1,bX 35 [lu p2],bX 161 [.d' 115 1 v 0],some (.a7 142 [] [.one (.aM 5 0)]),bX 158 [.aM 0 0]],6,some ⟨⟨κ,aq 97⟩,[9,10],ey (ca κ) 4,ez (ca κ) 4,[(3,va 2 0),(4,va 3 0),(8,vc 4)],some .ret⟩,false,[],[3]⟩) (λv=>k (.exit 0) {p9 a p1 p2 p2 with env:=[(11,vb v.1),(0,vs .cW),(1,va 5 0),(9,vl p1),(10,vi v.2)]})
def P2:aX SS:=bh 2 (gq (λst=>(cG st 4 142).bind λ_=>fQ st 18 4) (sq (hX ea 0 0) (sq (hR 1 115) (hI 2 0)))) (λp=>u3 p9 p 0) (u3 (td shut)) (λk=>u3 (Zy k))
theorem afZ:LS KK γ aq φ 142 2 P2:=
 aO.bI (ag.all zE rfl) (aF.nil) rfl 60 (λp i a=>u3 p9 p i) (λp=>p.2.1) (λp=>()) (St:=u3 (M7 shut)) (F:=u3 (y3 shut)) (λp=>rfl)
  (λm p i a k=>by kernel_rfl) (by rintro p (x|x)<;>exact⟨_,_,λ_=>rfl⟩) (λp N C A O w a b=>kG (j:=1) b rfl)
def Hm (a:List ah) (p1 p2:Int) (b:List ah):AS SS:=⟨[(1,vc 1),(5,vo 3),(8,vo 0),(9,vl a),(10,vi p2)],[rX 115 a,some (.a7 205 [] [.one (.aM 2 0)]),bX 35 [lu p1],rX 115 b],3,none,false,[],[]⟩
def TO (a:List ah) (p1:Int) (b:List ah):AS SS:=Hm a p1 0 b
def tF (U:Sh) (c:List ah) (p1 p2:Int) (z0:ah) (a:List ah):T (List ah⊕(Bool×Int×List ah)):=.bd (c[p2.toNat]?) λb=>.bf (b.aa !=p1) (.bd (app 32 a [b]) λz2=>.ok (.inl z2))<|.ok (.inl a)
def rY (U:Sh) (b:List ah) (p1 p2:Int) (a:List ah):T ((Bool×Int×List ah)):=.ok (decide (p2<(↑b.length:Int)),p2,a)
def Ci (a:List ah) (p1:Int) (b:List ah):=bC U (tF U a p1) (rY U a p1) a b
def ZK {R} (k:KX SS R) (a:List ah) (p1:Int) (x:(Bool×Int×List ah)):Option R:=(λv=>k (.exit 0) {Hm a p1 p1 v.2.2 with env:=[(11,vb v.1),(1,vc 1),(5,vo 3),(8,vo 0),(9,vl a),(10,vi v.2.1)]}) x
def P':aX SS:=bh 4 (gq (λst=>cG st 1 205) (sq (hR 0 115) (sq (hI 2 0) (hR 3 115)))) (u3 TO) (u3 (Ci shut)) (λk p=>ZK k p.1 p.2.1)
def Kx:=bq (zD shut) aq φ 142 [P2]
theorem Ky:aR Kx γ:=bu (ag.all zE rfl) ξ0 rfl aT (by kernel_rfl) afZ
theorem af8:LS KK γ aq ξE 197 4 P':=
 aO.bI (π:=List ah×Int×List ah) (σ:=List ah) Ky (aF.nil) rfl 60 (λp i a=>Hm p.1 p.2.1 i a) (λp=>p.1) (λp=>p.2.2) (St:=λp=>tF shut p.1 p.2.1) (F:=λp=>rY shut p.1 p.2.1) (λp=>rfl)
  (λm p i a k=>by kernel_rfl) (λp x=>⟨_,_,λ_=>rfl⟩) (λp N C A O w a b=>kG (j:=0) b rfl)
def V':=bq Kx aq ξE 197 [P']
theorem Wa:aR V' γ:=bu Ky ξJ rfl aT (by kernel_rfl) af8
def DW (p:br) (pid child:Int):T (br×Int×Int):=.bd (kt U p) λf=>.bf (!f==0) (.ok (⟨[0,0,0,0,0,0,0,0,0,0,0,0,0,0,0,0],[]⟩,0,320))<|.bd (app 32 [] p.ae) λa=>.gd (p9 p.aH a pid 0)<|.bd (td U p.aH a pid) λd=>.cs d (λc=>.bd (a[c]?) λz3=>.bf (!!z3.bb) (.ok (⟨[0,0,0,0,0,0,0,0,0,0,0,0,0,0,0,0],[]⟩,0,321))<|.gd (p9 p.aH a child 0)<|.bd (td U p.aH a child) λe=>.cs e (λb=>.bd (a[b]?) λz5=>.bf (!z5.aP==pid) (.ok (⟨[0,0,0,0,0,0,0,0,0,0,0,0,0,0,0,0],[]⟩,0,324))<|.bd (a[b]?) λh=>.bf (!h.bb) (.ok (⟨[0,0,0,0,0,0,0,0,0,0,0,0,0,0,0,0],[]⟩,0,322))<|.bd (a[b]?) λi=>.gd (TO a child [])<|.bd (Ci U a child []) λg=>.ok (⟨p.aH,g.2.2⟩,i.bV,0)) λb=>.ok (⟨[0,0,0,0,0,0,0,0,0,0,0,0,0,0,0,0],[]⟩,0,324)) λc=>.ok (⟨[0,0,0,0,0,0,0,0,0,0,0,0,0,0,0,0],[]⟩,0,321)
def vh (p:br) (pid child:Int):=U.s _ (DW U p pid child).val
def zL:=a6 (fN KK 154 50 35 35 (vh U) (fF KK 50 35 27)) (zD U)
theorem zM:ag (zL shut) γ:=gz (rs:=[50,35,27]) zE Wa rfl rfl λp pid child k=>by kernel_rfl
end Go.Proofs.YtoggponeookhbaaGreatDoor
end
section
namespace Go.Proofs.YtoggponeookhbaaGreatDoor
open Go.RowKit Go.Dc Go.Vx
variable (U:Sh)
def Hn (a:List ai) (p1 p2:Int) (b:List ai):AS SS:=⟨[(1,vc 0),(5,vo 2),(8,vd 51 a),(9,vl a),(10,vi p2)],[some (.a7 201 [] [.one (.aM 1 0)]),bX 35 [lu p1],rX 105 b],2,none,false,[],[]⟩
def TP (a:List ai) (p1:Int) (b:List ai):AS SS:=Hn a p1 0 b
def tG (U:Sh) (c:List ai) (p1 p2:Int) (z0:ai) (a:List ai):T (List ai⊕(Bool×Int×List ai)):=.bf (z0.aa !=p1) (.bd (app 24 a [z0]) λb=>.ok (.inl b))<|.ok (.inl a)
def rZ (U:Sh) (b:List ai) (p1 p2:Int) (a:List ai):T ((Bool×Int×List ai)):=.ok (decide (p2<(↑b.length:Int)),p2,a)
def Cj (a:List ai) (p1:Int) (b:List ai):=bC U (tG U a p1) (rZ U a p1) a b
def ZL {R} (k:KX SS R) (a:List ai) (p1:Int) (x:(Bool×Int×List ai)):Option R:=(λv=>k (.exit 0) {Hn a p1 p1 v.2.2 with env:=[(11,vb v.1),(1,vc 0),(5,vo 2),(8,vd 51 a),(9,vl a),(10,vi v.2.1)]}) x
def Qa:aX SS:=bh 4 (gq (λst=>cG st 0 201) (sq (sD 51 8) (sq (hI 1 0) (hR 2 105)))) (u3 TP) (u3 (Cj shut)) (λk p=>ZL k p.1 p.2.1)
theorem af9:LS KK γ aq ξr 200 4 Qa:=
 aO.bI (π:=List ai×Int×List ai) (σ:=List ai) (ag.all zM rfl) (aF.nil) rfl 60 (λp i a=>Hn p.1 p.2.1 i a) (λp=>p.1) (λp=>p.2.2) (St:=λp=>tG shut p.1 p.2.1) (F:=λp=>rZ shut p.1 p.2.1) (λp=>rfl)
  (λm p i a k=>by kernel_rfl) (λp x=>⟨_,_,λ_=>rfl⟩) (λp N C A O w a b=>bT b (t:=51) (sl:=8) rfl λv h=>h)
def V9:=bq (zL shut) aq ξr 200 [Qa]
theorem V_:aR V9 γ:=bu (ag.all zM rfl) ξK rfl aT (by kernel_rfl) af9
def DV (l:List ai) (pid:Int):T (List ai×Int):=.bd (iK U l) λb=>.bf (b !=0) (.ok ([],0))<|.gd (TP l pid [])<|.bd (Cj U l pid []) λa=>.ok (a.2.2,δ.wrap ((↑l.length:Int)-(↑a.2.2.length:Int)))
def vf (l:List ai) (pid:Int):=U.s _ (DV U l pid).val
def zH:=a6 (bU KK 151 51 35 (vf U) (dy KK 51 3)) (zL U)
theorem zI:ag (zH shut) γ:=bZ (rs:=[51,3]) zM V_ rfl rfl λl pid k=>by kernel_rfl
def wH (a:List ai) (p1 p2 b:Int):AS SS:=⟨[(0,vs .cW),(2,va 5 0),(6,vd 51 a),(7,vl a),(8,vi b)],[bX 3 [li p1],bX 35 [lu 0],bX 4 [.v (.bool false)],some (.a7 264 [] [.one (.aM 4 0),.one (.aM 5 0)]),bX 51 [.aJ 51 a],bX 35 [lu p2]],6,some ⟨⟨ξs,aq 213⟩,[15],ey (ca ξs) 6,ez (ca ξs) 6,[(5,va 0 0),(6,va 1 0),(7,va 2 0),(14,vc 3)],none⟩,false,[],[]⟩
def ub (U:Sh) (b:List ai) (p1 p2 c:Int) (z0:ai) (a:Unit):T (Unit⊕Int⊕(Bool×Int)):=.bf (z0.aa==p2) (.bf (z0.bo==p1) (.ok (.inr (.inl z0.b')))<|.ok (.inl ()))<|.ok (.inl ())
def sk (U:Sh) (c:List ai) (p1 p2 b:Int) (a:Unit):T (Int⊕(Bool×Int)):=.ok (.inr (decide (b<(↑c.length:Int)),b))
def CQ (a:List ai) (p1 p2:Int):=bC U (ub U a p1 p2) (sk U a p1 p2) a ()
def aal {R} (k:KX SS R) (a:List ai) (p1 p2:Int) (x:Int⊕(Bool×Int)):Option R:=x.elim (λv=>k .ret ⟨[],[bX 3 [li p1],bX 35 [lu v],bX 4 [.v (.bool true)],some (.a7 264 [] [.one (.aM 4 0),.one (.aM 5 0)]),bX 51 [.aJ 51 a],bX 35 [lu p2]],6,some ⟨⟨ξs,aq 213⟩,[15],ey (ca ξs) 6,ez (ca ξs) 6,[(5,va 0 0),(6,va 1 0),(7,va 2 0),(14,vc 3)],some .ret⟩,false,[],[1,2]⟩) (λv=>k (.exit 0) {wH a p1 p2 p1 with env:=[(9,vb v.1),(0,vs .cW),(2,va 5 0),(6,vd 51 a),(7,vl a),(8,vi v.2)]})
def QK:aX SS:=bh 2 (gq (λst=>(cG st 3 264).bind λ_=>fQ st 22 6) (sq (sD 51 6) (sq (hI 0 0) (hI 5 0)))) (λp=>u3 wH p 0) (u3 (CQ shut)) (λk=>u3 (aal k))
theorem agK:LS KK γ aq ξT 264 2 QK:=
 aO.bI (ag.all zI rfl) (aF.nil) rfl 60 (λp i a=>u3 wH p i) (λp=>p.1) (λp=>()) (St:=u3 (ub shut)) (F:=u3 (sk shut)) (λp=>rfl)
  (λm p i a k=>by kernel_rfl) (by rintro p (x|x)<;>exact⟨_,_,λ_=>rfl⟩) (λp N C A O w a b=>bT b (t:=51) (sl:=6) rfl λv h=>h)
def WH:=bq (zH shut) aq ξT 264 [QK]
theorem WI:aR WH γ:=bu (ag.all zI rfl) ζd rfl aT (by kernel_rfl) agK
def Ek (l:List ai) (pid fd:Int):T (Int×Bool):=.bd (iK U l) λc=>.bf (c !=0) (.ok (0,false))<|.gd (wH l fd pid 0)<|.bd (CQ U l fd pid) λb=>.cs b (λa=>.ok (a,true)) λa=>.ok (0,false)
def ks (l:List ai) (pid fd:Int):=U.s _ (Ek U l pid fd).val
def Al:=a6 (fN KK 213 51 35 3 (ks U) (dy KK 35 4)) (zH U)
theorem Am:ag (Al shut) γ:=gz (rs:=[35,4]) zI WI rfl rfl λl pid fd k=>by kernel_rfl
def Hp (a:List ai) (p1 p2:Int) (b:List ai):AS SS:=⟨[(1,vc 0),(5,vo 2),(8,vd 51 a),(9,vl a),(10,vi p2)],[some (.a7 215 [] [.one (.aM 1 0)]),bX 35 [lu p1],rX 105 b],2,none,false,[],[]⟩
def TS (a:List ai) (p1:Int) (b:List ai):AS SS:=Hp a p1 0 b
def tI (U:Sh) (c:List ai) (p1 p2:Int) (z0:ai) (a:List ai):T (List ai⊕(Bool×Int×List ai)):=.bf (z0.b'==p1) (.bd (app 24 a [z0]) λb=>.ok (.inl b))<|.ok (.inl a)
def r1 (U:Sh) (b:List ai) (p1 p2:Int) (a:List ai):T ((Bool×Int×List ai)):=.ok (decide (p2<(↑b.length:Int)),p2,a)
def Cl (a:List ai) (p1:Int) (b:List ai):=bC U (tI U a p1) (r1 U a p1) a b
def ZN {R} (k:KX SS R) (a:List ai) (p1:Int) (x:(Bool×Int×List ai)):Option R:=(λv=>k (.exit 0) {Hp a p1 p1 v.2.2 with env:=[(11,vb v.1),(1,vc 0),(5,vo 2),(8,vd 51 a),(9,vl a),(10,vi v.2.1)]}) x
def Qc:aX SS:=bh 4 (gq (λst=>cG st 0 215) (sq (sD 51 8) (sq (hI 1 0) (hR 2 105)))) (u3 TS) (u3 (Cl shut)) (λk p=>ZN k p.1 p.2.1)
theorem af':LS KK γ aq ξr 200 4 Qc:=
 aO.bI (π:=List ai×Int×List ai) (σ:=List ai) (ag.all Am rfl) (aF.nil) rfl 60 (λp i a=>Hp p.1 p.2.1 i a) (λp=>p.1) (λp=>p.2.2) (St:=λp=>tI shut p.1 p.2.1) (F:=λp=>r1 shut p.1 p.2.1) (λp=>rfl)
  (λm p i a k=>by kernel_rfl) (λp x=>⟨_,_,λ_=>rfl⟩) (λp N C A O w a b=>bT b (t:=51) (sl:=8) rfl λv h=>h)
def Wl:=bq (Al shut) aq ξr 200 [Qc]
theorem Wm:aR Wl γ:=bu (ag.all Am rfl) ξK rfl aT (by kernel_rfl) af'
def D3 (l:List ai) (aS:Int):T Int:=.bd (iK U l) λa=>.bf (a !=0) (.ok 0)<|.gd (TS l aS [])<|.bd (Cl U l aS []) λb=>.ok ((↑b.2.2.length:Int))
def vp (l:List ai) (aS:Int):=U.s _ (D3 U l aS).val
def zW:=a6 (bU KK 165 51 35 (vp U) (bH KK 3)) (Al U)
theorem zX:ag (zW shut) γ:=bZ (rs:=[3]) Am Wm rfl rfl λl aS k=>by kernel_rfl
def Hx (a:List ai) (p1 p2 b:Int) (c:List Bool):AS SS:=⟨[(0,vs .cW),(2,va 3 0),(6,vd 51 a),(7,vl a),(8,vi b)],[bX 267 [.cA 8 c],some (.a7 264 [] [.one (.aM 2 0),.one (.aM 3 0)]),bX 51 [.aJ 51 a],bX 35 [lu p1]],4,some ⟨⟨ζe,aq 157⟩,[26],ey (ca ζe) 9,ez (ca ζe) 9,[(0,vd 51 a),(1,vu p1),(2,vu p2),(9,va 0 0),(25,vc 1)],none⟩,false,[],[0]⟩
def T0 (a:List ai) (p1 p2:Int) (b:List Bool):AS SS:=Hx a p1 p2 0 b
def ua (U:Sh) (c:List ai) (p1 p2 d:Int) (z0:ai) (a:List Bool):T (List Bool⊕(Bool×Int×List Bool)):=.bf (z0.aa==p1) (.bd (c6 z0.bo 8) λb=>.bf (a.length.beq 8) (.ok (.inl (a.set b true)))<|.no)<|.ok (.inl a)
def oz (U:Sh) (c:List ai) (p1 p2 b:Int) (a:List Bool):T ((Bool×Int×List Bool)):=.ok (decide (b<(↑c.length:Int)),b,a)
def CP (a:List ai) (p1 p2:Int) (b:List Bool):=bC U (ua U a p1 p2) (oz U a p1 p2) a b
def aak {R} (k:KX SS R) (a:List ai) (p1 p2:Int) (x:(Bool×Int×List Bool)):Option R:=(λv=>k (.exit 0) {Hx a p1 p2 p1 v.2.2 with env:=[(9,vb v.1),(0,vs .cW),(2,va 3 0),(6,vd 51 a),(7,vl a),(8,vi v.2.1)]}) x
def QJ:aX SS:=hq (λst=>gc (aq 264 2) (ga [0] (kh 0 (st))))<|bh 2 (λst=>((cG st 1 264).bind λ_=>fQ st 61 9).bind λ_=>(eo 51 (cJ st 6 0)).bind λa=>(cO (dH st 3 0)).bind λp1=>(cO (lpL st 2 0)).bind λp2=>(pB (dH st 0 0)).bind λb=>some (a,p1,p2,b)) (u4 T0) (u4 (CP shut)) (λk p=>aak k p.1 p.2.1 p.2.2.1)
theorem agJ:LS KK γ aq ξT 264 2 QJ:=aO.pre (b_.comp (b_.gc (aq 264 2)) (b_.comp (b_.ga [0]) (b_.kh 0)))<|
 aO.bI (π:=List ai×Int×Int×List Bool) (σ:=List Bool) (ag.all zX rfl) (aF.nil) rfl 60 (λp i a=>Hx p.1 p.2.1 p.2.2.1 i a) (λp=>p.1) (λp=>p.2.2.2) (St:=λp=>ua shut p.1 p.2.1 p.2.2.1) (F:=λp=>oz shut p.1 p.2.1 p.2.2.1) (λp=>rfl)
  (λm p i a k=>by kernel_rfl) (λp x=>⟨_,_,λ_=>rfl⟩) (λp N C A O w a b=>bT b (t:=51) (sl:=6) rfl λv h=>h)
def qe (a:List Bool) (p1:Int):AS SS:=⟨[(0,vs (.fD 0 0 8)),(1,vb false),(7,vi 8),(8,vi p1)],[bX 267 [.cA 8 a]],1,none,false,[],[]⟩
def oQ (U:Sh) (b:List Bool) (a:Int):T (Int⊕Int⊕(Bool×Int)):=.bf (decide (a<8)) (.bd (c6 a 8) λz0=>.bf (false==ck b z0) (.ok (.inr (.inl a)))<|.ok (.inl (δ.wrap (a+1))))<|.ok (.inr (.inr (decide (a<8),a)))
def Cn (a:List Bool) (p1:Int):=bQ U (oQ U a) 1000000 p1
def ZP {R} (k:KX SS R) (a:List Bool) (x:Int⊕(Bool×Int)):Option R:=x.elim (λv=>k .ret {qe a v with env:=[(4,vi v)]}) (λv=>k (.exit 0) (xe [(9,vb v.1)] (qe a v.2)))
def Qe:aX SS:=bh 3 (sq (hX pB 0 0) (sI 8)) (u2 qe) (u2 (Cn shut)) (λk p=>ZP k p.1)
def KB:=bq (zW shut) aq ξT 264 [QJ]
theorem KC:aR KB γ:=bu (ag.all zX rfl) ζd rfl aT (by kernel_rfl) agJ
theorem agb:LS KK γ aq Tryz.f210 210 3 Qe:=
 aO.bQ (π:=List Bool×Int) (σ:=Int) KC (aF.nil) rfl 60 (λp a=>qe p.1 a) (λp=>p.2) (St:=λp=>oQ shut p.1) (λp=>1000000) (λp=>rfl)
  (λm p a k=>by kernel_rfl)
def wj (a:List ai) (p1 p2 b c d e:Int):AS SS:=⟨[(0,vo 0),(2,vs (.v (.func (.func 103) (.mk []) (.mk [])))),(4,va 1 0),(8,vi c),(9,vi e),(10,vi d)],[rX 105 a,bX 105 [lu p1,li p2,lu b]],1,none,false,[],[]⟩
def oR (b:List ai) (p1 p2 c f:Int) (a:Int×Int):T ((Int×Int)⊕(Bool×Int×Int)):=.bf (decide (a.1<a.2)) (.bd (idx b (δ.wrap ((ζ.wrap (δ.wrap (a.1+a.2))).fdiv 2))) λz0=>.bd (b[(δ.wrap ((ζ.wrap (δ.wrap (a.1+a.2))).fdiv 2)).toNat]?) λe=>.bd (pC U e (ai.mk p1 p2 c)) λd=>.bf (decide (d<0)) (.ok (.inl (δ.wrap (δ.wrap ((ζ.wrap (δ.wrap (a.1+a.2))).fdiv 2)+1),a.2)))<|.ok (.inl (a.1,δ.wrap ((ζ.wrap (δ.wrap (a.1+a.2))).fdiv 2))))<|.ok (.inr (decide (a.1<a.2),a.2,a.1))
def Co (a:List ai) (p1 p2 b c d e:Int):=bQ U (oR U a p1 p2 b c) 1000000 (e,d)
def ZQ {R} (k:KX SS R) (b:List ai) (p1 p2 c a:Int) (x:(Bool×Int×Int)):Option R:=(λv=>k (.exit 0) {wj b p1 p2 c a p1 p1 with env:=[(17,vb v.1),(16,vi v.2.1),(15,vi v.2.2),(0,vo 0),(2,vs (.v (.func (.func 103) (.mk []) (.mk [])))),(4,va 1 0),(8,vi a),(9,vi v.2.2),(10,vi v.2.1)]}) x
def Qf:aX SS:=bh 4 (sq (hR 0 105) (sq (hI 1 0) (sq (hI 1 1) (sq (hI 1 2) (sq (sI 8) (sq (sI 10) (sI 9))))))) (u7 wj) (u7 (Co shut)) (λk p=>ZQ k p.1 p.2.1 p.2.2.1 p.2.2.2.1 p.2.2.2.2.1)
def KD:=bq KB aq Tryz.f210 210 [Qe]
theorem KE:aR KD γ:=bu KC Tryz.func210 rfl aT (by kernel_rfl) agb
theorem agc:LS KK γ aq Tryz.f211 211 4 Qf:=
 aO.bQ (π:=List ai×Int×Int×Int×Int×Int×Int) (σ:=Int×Int) KE (aF.nil) rfl 60 (λp a=>wj p.1 p.2.1 p.2.2.1 p.2.2.2.1 p.2.2.2.2.1 a.2 a.1) (λp=>(p.2.2.2.2.2.2,p.2.2.2.2.2.1)) (St:=λp=>oR shut p.1 p.2.1 p.2.2.1 p.2.2.2.1 p.2.2.2.2.1) (λp=>1000000) (λp=>rfl)
  (λm p a k=>by kernel_rfl)
def Wd:=bq KD aq Tryz.f211 211 [Qf]
theorem We:aR Wd γ:=bu KE Tryz.func211 rfl aT (by kernel_rfl) agc
def DY (l:List ai) (pid aS:Int):T (List ai×Int×Int):=.bd (iK U l) λe=>.bf (e !=0) (.ok ([],0,330))<|.bf (decide (pid>=4294967296)) (.ok ([],0,2))<|.gd (T0 l pid aS [false,false,false,false,false,false,false,false])<|.bd (CP U l pid aS [false,false,false,false,false,false,false,false]) λc=>.gd (qe c.2.2 0)<|.bd (Cn U c.2.2 0) λd=>.cs d (λa=>.bf (decide (a<0)) (.ok ([],0,6))<|.bf ((↑l.length:Int)==64) (.ok ([],0,6))<|.bd (kI 24 ((↑l.length:Int)) ((↑l.length:Int)) (ai.mk 0 0 0)) λz3=>.gd (wj (c5 z3 l) pid a aS ((↑(c5 z3 l).length:Int)) ((↑(c5 z3 l).length:Int)) 0)<|.bd (Co U (c5 z3 l) pid a aS ((↑(c5 z3 l).length:Int)) ((↑(c5 z3 l).length:Int)) 0) λb=>.bf (decide (b.2.2<(↑(c5 z3 l).length:Int))) (.bd (idx (c5 z3 l) b.2.2) λz5=>.bd ((c5 z3 l)[b.2.2.toNat]?) λf=>.bd (pC U f (ai.mk pid a aS)) λh=>.bd (nB (c5 z3 l) b.2.2 [ai.mk pid a aS]) λg=>.ok (g,a,0))<|.bd (nB (c5 z3 l) b.2.2 [ai.mk pid a aS]) λz5=>.ok (z5,a,0)) λa=>.ok ([],0,6)
def pF (l:List ai) (pid aS:Int):=U.s _ (DY U l pid aS).val
def Lu:=a6 (fN KK 157 51 35 35 (pF U) (fF KK 51 3 27)) (zW U)
theorem Lv:ag (Lu shut) γ:=gz (rs:=[51,3,27]) zX We rfl rfl λl pid aS k=>by kernel_rfl
def D0 (l:List ai) (pid fd:Int):T (List ai×Int×Int):=.bd (iK U l) λc=>.bf (c !=0) (.ok ([],0,330))<|.bf (decide (pid>=4294967296)) (.ok ([],0,2))<|.bd (ks U l pid fd) λb=>.bf (!b.2) (.ok ([],0,4))<|.bd (pF U l pid b.1) λa=>.ok (a.1,a.2.1,a.2.2)
def vk (l:List ai) (pid fd:Int):=U.s _ (D0 U l pid fd).val
def zQ:=a6 (fN KK 161 51 35 3 (vk U) (fF KK 51 3 27)) (Lu U)
theorem zR:ag (zQ shut) γ:=gz (rs:=[51,3,27]) Lv (ag.all Lv rfl) rfl rfl λl pid fd k=>by kernel_rfl
def Ho (a:List ai) (p1 p2 b c:Int) (d:List ai):AS SS:=⟨[(1,vc 1),(5,vo 3),(8,vo 0),(9,vl a),(10,vi c)],[rX 105 a,some (.a7 214 [] [.one (.aM 2 0)]),bX 105 [lu p1,li p2,lu b],rX 105 d],3,none,false,[],[]⟩
def TQ (a:List ai) (p1 p2 b:Int) (c:List ai):AS SS:=Ho a p1 p2 b 0 c
def tH (U:Sh) (c:List ai) (p1 p2 d e:Int) (z0:ai) (a:List ai):T (List ai⊕(Bool×Int×List ai)):=.bd (c[e.toNat]?) λb=>.bf (!gB b (ai.mk p1 p2 d)) (.bd (app 24 a [b]) λz2=>.ok (.inl z2))<|.ok (.inl a)
def r0 (U:Sh) (c:List ai) (p1 p2 d b:Int) (a:List ai):T ((Bool×Int×List ai)):=.ok (decide (b<(↑c.length:Int)),b,a)
def Ck (a:List ai) (p1 p2 b:Int) (c:List ai):=bC U (tH U a p1 p2 b) (r0 U a p1 p2 b) a c
def ZM {R} (k:KX SS R) (a:List ai) (p1 p2 b:Int) (x:(Bool×Int×List ai)):Option R:=(λv=>k (.exit 0) {Ho a p1 p2 b p1 v.2.2 with env:=[(11,vb v.1),(1,vc 1),(5,vo 3),(8,vo 0),(9,vl a),(10,vi v.2.1)]}) x
def Qb:aX SS:=bh 4 (gq (λst=>cG st 1 214) (sq (hR 0 105) (sq (hI 2 0) (sq (hI 2 1) (sq (hI 2 2) (hR 3 105)))))) (u5 TQ) (u5 (Ck shut)) (λk p=>ZM k p.1 p.2.1 p.2.2.1 p.2.2.2.1)
theorem af_:LS KK γ aq ξr 200 4 Qb:=
 aO.bI (π:=List ai×Int×Int×Int×List ai) (σ:=List ai) (ag.all zR rfl) (aF.nil) rfl 60 (λp i a=>Ho p.1 p.2.1 p.2.2.1 p.2.2.2.1 i a) (λp=>p.1) (λp=>p.2.2.2.2) (St:=λp=>tH shut p.1 p.2.1 p.2.2.1 p.2.2.2.1) (F:=λp=>r0 shut p.1 p.2.1 p.2.2.1 p.2.2.2.1) (λp=>rfl)
  (λm p i a k=>by kernel_rfl) (λp x=>⟨_,_,λ_=>rfl⟩) (λp N C A O w a b=>kG (j:=0) b rfl)
def qb (a:Int) (p1:Γa) (p2:List ai) (b:Bool) (c:Int):AS SS:=⟨[(1,vu a),(9,vo 0),(10,vb b),(23,vd 31 p1),(24,vl p1),(25,vi c)],[rX 105 p2],0,none,false,[],[]⟩
def tE (c:Int) (p1:Γa) (d z0:Int) (a:Bool×List ai):T ((Bool×List ai)⊕(Bool×Bool×Int×Int×Bool×Bool×Int×List ai)⊕(Bool×Bool×Int×List ai)):=.bd (ks U a.2 c z0) λb=>.bf (!b.2) (.ok (.inr (.inl (!b.2,b.2,b.1,z0,decide (d<(↑p1.length:Int)),a.1,d,a.2))))<|.gd (TQ a.2 c z0 b.1 [])<|.bd (Ck U a.2 c z0 b.1 []) λe=>.ok (.inl (b.2,e.2.2))
def y5 (U:Sh) (c:Int) (p1:Γa) (b:Int) (a:Bool×List ai):T ((Bool×Bool×Int×Int×Bool×Bool×Int×List ai)⊕(Bool×Bool×Int×List ai)):=.ok (.inr (decide (b<(↑p1.length:Int)),a.1,b,a.2))
def Cd (a:Int) (p1:Γa) (p2:List ai) (b:Bool):=bC U (tE U a p1) (y5 U a p1) p1 (b,p2)
def ZE {R} (k:KX SS R) (a:Int) (p1:Γa) (x:(Bool×Bool×Int×Int×Bool×Bool×Int×List ai)⊕(Bool×Bool×Int×List ai)):Option R:=x.elim (λv=>k (.exit 0) {qb a p1 v.2.2.2.2.2.2.2 v.1 a with env:=[(38,vb v.1),(37,vb v.2.1),(10,vb v.2.1),(36,vb v.2.1),(14,vb v.2.1),(13,vu v.2.2.1),(35,vb v.2.1),(34,vu v.2.2.1),(29,.bJ [.one (lu v.2.2.1),.one (.v (.bool v.2.1))]),(33,.bJ [.one (lu v.2.2.1),.one (.v (.bool v.2.1))]),(32,vi v.2.2.2.1),(31,vu a),(30,vo 0),(12,vi v.2.2.2.1),(28,vi v.2.2.2.1),(27,vs (.ptr 3 v.2.2.2.1 0)),(26,vb v.2.2.2.2.1),(1,vu a),(9,vo 0),(10,vb v.2.2.2.2.2.1),(23,vd 31 p1),(24,vl p1),(25,vi v.2.2.2.2.2.2.1)]}) (λv=>k (.exit 0) {qb a p1 v.2.2.2 v.1 a with env:=[(26,vb v.1),(1,vu a),(9,vo 0),(10,vb v.2.1),(23,vd 31 p1),(24,vl p1),(25,vi v.2.2.1)]})
def P7:aX SS:=bh 8 (sq (sI 1) (sq (sD 31 23) (sq (hR 0 105) (sX gD 10)))) (λp=>u4 qb p 0) (u4 (Cd shut)) (λk p=>ZE k p.1 p.2.1)
def KG:=bq (zQ shut) aq ξr 200 [Qb]
theorem KH:aR KG γ:=bu (ag.all zR rfl) ξK rfl aT (by kernel_rfl) af_
theorem af4:LS KK γ aq Tryz.f159 159 8 P7:=
 aO.bI (π:=Int×Γa×List ai×Bool) (σ:=Bool×List ai) KH (aF.nil) rfl 60 (λp i a=>qb p.1 p.2.1 a.2 a.1 i) (λp=>p.2.1) (λp=>(p.2.2.2,p.2.2.1)) (St:=λp=>tE shut p.1 p.2.1) (F:=λp=>y5 shut p.1 p.2.1) (λp=>rfl)
  (λm p i a k=>by kernel_rfl) (by rintro p (x|x)<;>exact⟨_,_,λ_=>rfl⟩) (λp N C A O w a b=>bT b (t:=31) (sl:=23) rfl λv h=>h)
def Wf:=bq KG aq Tryz.f159 159 [P7]
theorem Wg:aR Wf γ:=bu KH Tryz.func159 rfl aT (by kernel_rfl) af4
def DZ (l:List ai) (pid:Int) (fds:Γa):T (List ai×Int):=.bd (iK U l) λb=>.bf (b !=0) (.ok ([],b))<|.bd (app 24 [] l) λc=>.gd (qb pid fds c true 0)<|.bd (Cd U pid fds c true) λd=>.cs d (λa=>.bf (!a.2.1) (.ok ([],4))<|.ok (a.2.2.2.2.2.2.2,0)) λa=>.bf (!a.2.1) (.ok ([],4))<|.ok (a.2.2.2,0)
def vj (l:List ai) (pid:Int) (fds:Γa):=U.s _ (DZ U l pid fds).val
def Lw:=a6 (fN KK 159 51 35 31 (vj U) (dy KK 51 27)) (zQ U)
theorem Lx:ag (Lw shut) γ:=gz (rs:=[51,27]) zR Wg rfl rfl λl pid fds k=>by kernel_rfl
end Go.Proofs.YtoggponeookhbaaGreatDoor
end
section
namespace Go.Proofs.YtoggponeookhbaaGreatDoor
open Go.RowKit Go.Dc Go.Vx
variable (U:Sh)
def Ei (m:bz) (w:Int):T Int:=.bd (pQ U m) λa=>.bf (a !=0) (.ok a)<|.bd (pD U w) λb=>.ok b
def ni (m:bz) (w:Int):=U.s _ (Ei U m w).val
def Ah:=a6 (bU KK 206 54 35 (ni U) (bH KK 27)) (Lw U)
theorem Ai:ag (Ah shut) γ:=bZ (rs:=[27]) Lx (ag.all Lx rfl) rfl rfl λm w k=>by kernel_rfl
def wi (a:List ByteArray) (p1 p2:Int) (b:Γa):AS SS:=⟨[(4,va 0 0),(6,vo 1),(7,vi p2)],[bX 195 [.aJ 192 a,lu p1],rX 35 b],0,none,false,[],[]⟩
def mE (b:List ByteArray) (p1:Int) (a:Int×Γa):T ((Int×Γa)⊕(Bool×Int×Γa)):=.bf (decide (a.1>=0)) (.bd (dF b none (some a.1) (some a.1)) λz0=>.bd (jH U z0) λc=>.bd (app 8 a.2 [c.1]) λz2=>.ok (.inl (δ.wrap (a.1-1),z2)))<|.ok (.inr (decide (a.1>=0),a.1,a.2))
def Cm (a:List ByteArray) (p1 p2:Int) (b:Γa):=bQ U (mE U a p1) 1000000 (p2,b)
def ZO {R} (k:KX SS R) (a:List ByteArray) (p1:Int) (x:(Bool×Int×Γa)):Option R:=(λv=>k (.exit 0) {wi a p1 p1 v.2.2 with env:=[(21,vb v.1),(20,vi v.2.1),(4,va 0 0),(6,vo 1),(7,vi v.2.1)]}) x
def Qd:aX SS:=bh 7 (sq (hD 192 0 0) (sq (hI 0 1) (sq (sI 7) (hR 1 35)))) (u4 wi) (u4 (Cm shut)) (λk p=>ZO k p.1 p.2.1)
theorem aga:LS KK γ aq Tryz.f207 207 7 Qd:=
 aO.bQ (π:=List ByteArray×Int×Int×Γa) (σ:=Int×Γa) (ag.all Ai rfl) (aF.nil) rfl 60 (λp a=>wi p.1 p.2.1 a.1 a.2) (λp=>(p.2.2.1,p.2.2.2)) (St:=λp=>mE shut p.1 p.2.1) (λp=>1000000) (λp=>rfl)
  (λm p a k=>by kernel_rfl)
def WE:=bq (Ah shut) aq Tryz.f207 207 [Qd]
theorem WG:aR WE γ:=bu (ag.all Ai rfl) Tryz.func207 rfl aT (by kernel_rfl) aga
def Ej (w:Int):T (Γa×Int):=.bd (lD U w) λa=>.bf (!a.2) (.ok ([],310))<|.gd (wi a.1.gF a.1.pZ (↑a.1.gF.length:Int) [])<|.bd (Cm U a.1.gF a.1.pZ ((↑a.1.gF.length:Int)) []) λb=>.ok (b.2.2,0)
def Gs (w:Int):=U.s _ (Ej U w).val
def Aj:=a6 (cR KK 207 35 (Gs U) (dy KK 130 27)) (Ah U)
theorem Ak:ag (Aj shut) γ:=cX (rs:=[130,27]) Ai WG rfl rfl λw k=>by kernel_rfl
def qt (a p1:List ByteArray) (p2:Int):AS SS:=⟨[(0,vd 192 a),(1,vd 192 p1),(12,vl a),(13,vi p2)],[],0,none,false,[],[]⟩
def uk (U:Sh) (c p1:List ByteArray) (p2:Int) (z0:ByteArray) (a:Unit):T (Unit⊕Unit⊕(Bool×Int)):=.bd (idx p1 p2) λb=>.bf (!ByteArray.toList z0==ByteArray.toList b) (.ok (.inr (.inl ())))<|.ok (.inl ())
def sx (U:Sh) (b p1:List ByteArray) (p2:Int) (a:Unit):T (Unit⊕(Bool×Int)):=.ok (.inr (decide (p2<(↑b.length:Int)),p2))
def C6 (a p1:List ByteArray):=bC U (uk U a p1) (sx U a p1) a ()
def aaB {R} (k:KX SS R) (a p1:List ByteArray) (x:Unit⊕(Bool×Int)):Option R:=x.elim (λv=>k .ret {qt a p1 0 with env:=[(4,vb false)]}) (λv=>k (.exit 0) (xe [(14,vb v.1)] (qt a p1 v.2)))
def Q0:aX SS:=bh 5 (sq (sD 192 0) (sD 192 1)) (λp=>u2 qt p 0) (u2 (C6 shut)) (λk=>u2 (aaB k))
theorem ag2:LS KK γ aq Tryz.f312 312 5 Q0:=
 aO.bI (ag.all Ak rfl) (aF.nil) rfl 60 (λp i a=>u2 qt p i) (λp=>p.1) (λp=>()) (St:=u2 (uk shut)) (F:=u2 (sx shut)) (λp=>rfl)
  (λm p i a k=>by kernel_rfl) (by rintro p (x|x)<;>exact⟨_,_,λ_=>rfl⟩) (λp N C A O w a b=>bT b (t:=192) (sl:=0) rfl λv h=>h)
def Xq:=bq (Aj shut) aq Tryz.f312 312 [Q0]
theorem Xr:aR Xq γ:=bu (ag.all Ak rfl) Tryz.func312 rfl aT (by kernel_rfl) ag2
def EJ (a b:Int):T Bool:=.bd (lD U a) λc=>.bd (lD U b) λd=>.bf (c.2) (.bf (d.2) (.bf (decide ((↑c.1.gF.length:Int)<=(↑d.1.gF.length:Int))) (.bd (dF d.1.gF none (some (↑c.1.gF.length:Int)) none) λz2=>.bf ((↑c.1.gF.length:Int) !=(↑z2.length:Int)) (.ok false)<|.gd (qt c.1.gF z2 0)<|.bd (C6 U c.1.gF z2) λe=>.cs e (λ_=>.ok false) λf=>.ok true)<|.ok false)<|.ok false)<|.ok false
def GD (a b:Int):=U.s _ (EJ U a b).val
def AZ:=a6 (bU KK 268 35 35 (GD U) (bH KK 4)) (Aj U)
theorem A3:ag (AZ shut) γ:=bZ (rs:=[4]) Ak Xr rfl rfl λa b k=>by kernel_rfl
def Hi (a:List ay) (p1:Int) (p2:Γc):AS SS:=⟨[(3,vs (.mp 0)),(8,vd 52 a),(9,vl a),(10,vi p1)],[some (.map .u64 .u64 p2)],0,none,false,[],[]⟩
def TK (a:List ay) (p2:Γc):AS SS:=Hi a 0 p2
def M1 (U:Sh) (b:List ay) (p1:Int) (z0:ay) (a:(Γc)):T (((Γc))⊕(Bool×Int×(Γc))):=.ok (.inl (cp a z0.aN z0.aY))
def yY (U:Sh) (b:List ay) (p1:Int) (a:(Γc)):T ((Bool×Int×(Γc))):=.ok (decide (p1<(↑b.length:Int)),p1,a)
def BZ (a:List ay) (p2:Γc):Option ((Bool×Int×(Γc))):=bC U (M1 U a) (yY U a) a p2
def Ze {R} (k:KX SS R) (a:List ay) (x:(Bool×Int×(Γc))):Option R:=(λv=>k (.exit 0) (xe [(11,vb v.1)] (Hi a v.2.1 v.2.2))) x
def PK:aX SS:=bh 4 (sq (sD 52 8) (λst=>gG st 0)) (u2 TK) (u2 (BZ shut)) (λk p=>Ze k p.1)
theorem afJ:LS KK γ aq ξb 105 4 PK:=
 aO.bI (π:=List ay×(Γc)) (σ:=(Γc)) (ag.all A3 rfl) (aF.nil) rfl 60 (λp i a=>Hi p.1 i a) (λp=>p.1) (λp=>p.2) (St:=λp=>M1 shut p.1) (F:=λp=>yY shut p.1) (λp=>rfl)
  (λm p i a k=>by kernel_rfl) (λp x=>⟨_,_,λ_=>rfl⟩) (λp N C A O w a b=>bT b (t:=52) (sl:=8) rfl λv h=>h)
def Wh:=bq (AZ shut) aq ξb 105 [PK]
theorem Wi:aR Wh γ:=bu (ag.all A3 rfl) ξk rfl aT (by kernel_rfl) afJ
def D1 (m:bz) (w:Int):T (bz×Int×Int):=
 .bd (ni U m w) λa=>
  .bf (a !=0) (
   .ok (⟨[],0⟩,0,a))<|
  .gd (TK m.ae [])<|
   .bd (BZ U m.ae []) λb=>
    .bf (match bG b.2.2 w with
|some val=>true
|none=>false) (
     .ok (⟨[],0⟩,0,5))<|
    .bf ((↑m.ae.length:Int)==16) (
     .ok (⟨[],0⟩,0,6))<|
    .bf (decide (m.ba>1073741824)) (
     .ok (⟨[],0⟩,0,6))<|
    .bd (kI 16 ((↑m.ae.length:Int)) (δ.wrap ((↑m.ae.length:Int)+1)) (ay.mk 0 0)) λz2=>
     .bd (app 16 (c5 z2 m.ae) [ay.mk w m.ba]) λz3=>
      .ok (⟨z3,ζ.wrap (m.ba+1)⟩,m.ba,0)
def vm (m:bz) (w:Int):=U.s _ (D1 U m w).val
def zS:=a6 (bU KK 162 54 35 (vm U) (fF KK 54 35 27)) (AZ U)
theorem zT:ag (zS shut) γ:=bZ (rs:=[54,35,27]) A3 Wi rfl rfl λm w k=>by kernel_rfl
def Hj (a:List ay) (p1:Int) (p2:Γc):AS SS:=⟨[(3,vs (.mp 0)),(8,vd 52 a),(9,vl a),(10,vi p1)],[some (.map .u64 .u64 p2)],0,none,false,[],[]⟩
def TL (a:List ay) (p2:Γc):AS SS:=Hj a 0 p2
def M3 (U:Sh) (b:List ay) (p1:Int) (z0:ay) (a:(Γc)):T (((Γc))⊕(Bool×Int×(Γc))):=.ok (.inl (cp a z0.aN z0.aY))
def yZ (U:Sh) (b:List ay) (p1:Int) (a:(Γc)):T ((Bool×Int×(Γc))):=.ok (decide (p1<(↑b.length:Int)),p1,a)
def B0 (a:List ay) (p2:Γc):Option ((Bool×Int×(Γc))):=bC U (M3 U a) (yZ U a) a p2
def Zf {R} (k:KX SS R) (a:List ay) (x:(Bool×Int×(Γc))):Option R:=(λv=>k (.exit 0) (xe [(11,vb v.1)] (Hj a v.2.1 v.2.2))) x
def PL:aX SS:=bh 4 (sq (sD 52 8) (λst=>gG st 0)) (u2 TL) (u2 (B0 shut)) (λk p=>Zf k p.1)
theorem afK:LS KK γ aq ξb 105 4 PL:=
 aO.bI (π:=List ay×(Γc)) (σ:=(Γc)) (ag.all zT rfl) (aF.nil) rfl 60 (λp i a=>Hj p.1 i a) (λp=>p.1) (λp=>p.2) (St:=λp=>M3 shut p.1) (F:=λp=>yZ shut p.1) (λp=>rfl)
  (λm p i a k=>by kernel_rfl) (λp x=>⟨_,_,λ_=>rfl⟩) (λp N C A O w a b=>bT b (t:=52) (sl:=8) rfl λv h=>h)
def Wj:=bq (zS shut) aq ξb 105 [PL]
theorem Wk:aR Wj γ:=bu (ag.all zT rfl) ξk rfl aT (by kernel_rfl) afK
def D2 (m:bz) (w:Int):T (Int×Int):=
 .bd (ni U m w) λa=>
  .bf (a !=0) (
   .ok (0,a))<|
  .gd (TL m.ae [])<|
   .bd (B0 U m.ae []) λb=>
    .bf (!match bG b.2.2 w with
 |some val=>true
 |none=>false) (
     .ok (0,4))<|
    .ok ((match bG b.2.2 w with
|some x=>x
|none=>0),0)
def vn (m:bz) (w:Int):=U.s _ (D2 U m w).val
def zU:=a6 (bU KK 164 54 35 (vn U) (dy KK 35 27)) (zS U)
theorem zV:ag (zU shut) γ:=bZ (rs:=[35,27]) zT Wk rfl rfl λm w k=>by kernel_rfl
def Hk (a:List ay) (p1:Int) (p2:Γc):AS SS:=⟨[(3,vs (.mp 0)),(8,vd 52 a),(9,vl a),(10,vi p1)],[some (.map .u64 .u64 p2)],0,none,false,[],[]⟩
def TM (a:List ay) (p2:Γc):AS SS:=Hk a 0 p2
def M4 (U:Sh) (b:List ay) (p1:Int) (z0:ay) (a:(Γc)):T (((Γc))⊕(Bool×Int×(Γc))):=.ok (.inl (cp a z0.aN z0.aY))
def y0 (U:Sh) (b:List ay) (p1:Int) (a:(Γc)):T ((Bool×Int×(Γc))):=.ok (decide (p1<(↑b.length:Int)),p1,a)
def B1 (a:List ay) (p2:Γc):Option ((Bool×Int×(Γc))):=bC U (M4 U a) (y0 U a) a p2
def Zg {R} (k:KX SS R) (a:List ay) (x:(Bool×Int×(Γc))):Option R:=(λv=>k (.exit 0) (xe [(11,vb v.1)] (Hk a v.2.1 v.2.2))) x
def PM:aX SS:=bh 4 (sq (sD 52 8) (λst=>gG st 0)) (u2 TM) (u2 (B1 shut)) (λk p=>Zg k p.1)
theorem afL:LS KK γ aq ξb 105 4 PM:=
 aO.bI (π:=List ay×(Γc)) (σ:=(Γc)) (ag.all zV rfl) (aF.nil) rfl 60 (λp i a=>Hk p.1 i a) (λp=>p.1) (λp=>p.2) (St:=λp=>M4 shut p.1) (F:=λp=>y0 shut p.1) (λp=>rfl)
  (λm p i a k=>by kernel_rfl) (λp x=>⟨_,_,λ_=>rfl⟩) (λp N C A O w a b=>bT b (t:=52) (sl:=8) rfl λv h=>h)
def wI (a:List ay) (p1 p2 b:Int):AS SS:=⟨[(0,vs .cW),(2,va 6 0),(7,vd 52 a),(8,vl a),(9,vi b)],[bX 54 [.aJ 52 a,lu p1],bX 35 [lu p2],bX 54 [.v (.slice none 0 0),lu 0],bX 27 [li 0],some (.a7 267 [] [.one (.aM 5 0),.one (.aM 6 0)]),bX 54 [.aJ 52 a,lu p1],bX 35 [lu p2]],7,some ⟨⟨ξt,aq 166⟩,[29],ey (ca ξt) 9,ez (ca ξt) 9,[(2,va 0 0),(3,va 1 0),(4,va 2 0),(5,va 3 0),(28,vc 4)],none⟩,false,[],[]⟩
def uc (c:List ay) (p1 p2 d:Int) (z0:ay) (a:Unit):T (Unit⊕Unit⊕(Bool×Int)):=.bf (z0.aN !=p2) (.bd (GD U p2 z0.aN) λb=>.bf (b) (.ok (.inr (.inl ())))<|.ok (.inl ()))<|.ok (.inl ())
def sm (U:Sh) (c:List ay) (p1 p2 b:Int) (a:Unit):T (Unit⊕(Bool×Int)):=.ok (.inr (decide (b<(↑c.length:Int)),b))
def CR (a:List ay) (p1 p2:Int):=bC U (uc U a p1 p2) (sm U a p1 p2) a ()
def aam {R} (k:KX SS R) (a:List ay) (p1 p2:Int) (x:Unit⊕(Bool×Int)):Option R:=x.elim (λv=>k .ret ⟨[],[bX 54 [.aJ 52 a,lu p1],bX 35 [lu p2],bX 54 [.v (.slice none 0 0),lu 0],bX 27 [li 341],some (.a7 267 [] [.one (.aM 5 0),.one (.aM 6 0)]),bX 54 [.aJ 52 a,lu p1],bX 35 [lu p2]],7,some ⟨⟨ξt,aq 166⟩,[29],ey (ca ξt) 9,ez (ca ξt) 9,[(2,va 0 0),(3,va 1 0),(4,va 2 0),(5,va 3 0),(28,vc 4)],some .ret⟩,false,[],[2,3]⟩) (λv=>k (.exit 0) {wI a p1 p2 p1 with env:=[(10,vb v.1),(0,vs .cW),(2,va 6 0),(7,vd 52 a),(8,vl a),(9,vi v.2)]})
def QL:aX SS:=bh 2 (gq (λst=>(cG st 4 267).bind λ_=>fQ st 38 9) (sq (sD 52 7) (sq (hI 0 1) (hI 1 0)))) (λp=>u3 wI p 0) (u3 (CR shut)) (λk=>u3 (aam k))
def KI:=bq (zU shut) aq ξb 105 [PM]
theorem KJ:aR KI γ:=bu (ag.all zV rfl) ξk rfl aT (by kernel_rfl) afL
theorem agL:LS KK γ aq Tryz.f267 267 2 QL:=
 aO.bI KJ (aF.nil) rfl 60 (λp i a=>u3 wI p i) (λp=>p.1) (λp=>()) (St:=u3 (uc shut)) (F:=u3 (sm shut)) (λp=>rfl)
  (λm p i a k=>by kernel_rfl) (by rintro p (x|x)<;>exact⟨_,_,λ_=>rfl⟩) (λp N C A O w a b=>bT b (t:=52) (sl:=7) rfl λv h=>h)
def Hq (a:List ay) (p1 p2:Int) (b:List ay):AS SS:=⟨[(1,vc 0),(5,vo 2),(8,vd 52 a),(9,vl a),(10,vi p2)],[some (.a7 218 [] [.one (.aM 1 0)]),bX 35 [lu p1],rX 122 b],2,none,false,[],[]⟩
def TT (a:List ay) (p1:Int) (b:List ay):AS SS:=Hq a p1 0 b
def tJ (U:Sh) (c:List ay) (p1 p2:Int) (z0:ay) (a:List ay):T (List ay⊕(Bool×Int×List ay)):=.bf (z0.aN !=p1) (.bd (app 16 a [z0]) λb=>.ok (.inl b))<|.ok (.inl a)
def r2 (U:Sh) (b:List ay) (p1 p2:Int) (a:List ay):T ((Bool×Int×List ay)):=.ok (decide (p2<(↑b.length:Int)),p2,a)
def Cp (a:List ay) (p1:Int) (b:List ay):=bC U (tJ U a p1) (r2 U a p1) a b
def ZR {R} (k:KX SS R) (a:List ay) (p1:Int) (x:(Bool×Int×List ay)):Option R:=(λv=>k (.exit 0) {Hq a p1 p1 v.2.2 with env:=[(11,vb v.1),(1,vc 0),(5,vo 2),(8,vd 52 a),(9,vl a),(10,vi v.2.1)]}) x
def Qg:aX SS:=bh 4 (gq (λst=>cG st 0 218) (sq (sD 52 8) (sq (hI 1 0) (hR 2 122)))) (u3 TT) (u3 (Cp shut)) (λk p=>ZR k p.1 p.2.1)
def KL:=bq KI aq Tryz.f267 267 [QL]
theorem KM:aR KL γ:=bu KJ Tryz.func267 rfl aT (by kernel_rfl) agL
theorem agd:LS KK γ aq Tryz.f217 217 4 Qg:=
 aO.bI (π:=List ay×Int×List ay) (σ:=List ay) KM (aF.nil) rfl 60 (λp i a=>Hq p.1 p.2.1 i a) (λp=>p.1) (λp=>p.2.2) (St:=λp=>tJ shut p.1 p.2.1) (F:=λp=>r2 shut p.1 p.2.1) (λp=>rfl)
  (λm p i a k=>by kernel_rfl) (λp x=>⟨_,_,λ_=>rfl⟩) (λp N C A O w a b=>bT b (t:=52) (sl:=8) rfl λv h=>h)
def Wn:=bq KL aq Tryz.f217 217 [Qg]
theorem Wo:aR Wn γ:=bu KM Tryz.func217 rfl aT (by kernel_rfl) agd
def D4 (m:bz) (w:Int):T (bz×Int):=
 .bd (ni U m w) λa=>
  .bf (a !=0) (
   .ok (⟨[],0⟩,a))<|
  .gd (TM m.ae [])<|
   .bd (B1 U m.ae []) λc=>
    .bf (!match bG c.2.2 w with
 |some val=>true
 |none=>false) (
     .ok (⟨[],0⟩,4))<|
    .gd (wI m.ae m.ba w 0)<|
     .bd (CR U m.ae m.ba w) λb=>.cs b (λ_=>
      .ok (⟨[],0⟩,341)) λe=>
      .gd (TT m.ae w [])<|
       .bd (Cp U m.ae w []) λd=>
        .ok (⟨d.2.2,m.ba⟩,0)
def vq (m:bz) (w:Int):=U.s _ (D4 U m w).val
def zY:=a6 (bU KK 166 54 35 (vq U) (dy KK 54 27)) (zU U)
theorem zZ:ag (zY shut) γ:=bZ (rs:=[54,27]) zV Wo rfl rfl λm w k=>by kernel_rfl
def Hh (a:List ay) (p1:Int) (p2:Γc):AS SS:=⟨[(3,vs (.mp 0)),(8,vd 52 a),(9,vl a),(10,vi p1)],[some (.map .u64 .u64 p2)],0,none,false,[],[]⟩
def TJ (a:List ay) (p2:Γc):AS SS:=Hh a 0 p2
def M0 (U:Sh) (b:List ay) (p1:Int) (z0:ay) (a:(Γc)):T (((Γc))⊕(Bool×Int×(Γc))):=.ok (.inl (cp a z0.aN z0.aY))
def yX (U:Sh) (b:List ay) (p1:Int) (a:(Γc)):T ((Bool×Int×(Γc))):=.ok (decide (p1<(↑b.length:Int)),p1,a)
def BY (a:List ay) (p2:Γc):Option ((Bool×Int×(Γc))):=bC U (M0 U a) (yX U a) a p2
def Zd {R} (k:KX SS R) (a:List ay) (x:(Bool×Int×(Γc))):Option R:=(λv=>k (.exit 0) (xe [(11,vb v.1)] (Hh a v.2.1 v.2.2))) x
def PJ:aX SS:=bh 4 (sq (sD 52 8) (λst=>gG st 0)) (u2 TJ) (u2 (BY shut)) (λk p=>Zd k p.1)
theorem afI:LS KK γ aq ξb 105 4 PJ:=
 aO.bI (π:=List ay×(Γc)) (σ:=(Γc)) (ag.all zZ rfl) (aF.nil) rfl 60 (λp i a=>Hh p.1 i a) (λp=>p.1) (λp=>p.2) (St:=λp=>M0 shut p.1) (F:=λp=>yX shut p.1) (λp=>rfl)
  (λm p i a k=>by kernel_rfl) (λp x=>⟨_,_,λ_=>rfl⟩) (λp N C A O w a b=>bT b (t:=52) (sl:=8) rfl λv h=>h)
def qa (a:Γa) (p1:Γc) (p2 b:Int):AS SS:=⟨[(10,vc 0),(11,vu p2),(28,vd 130 a),(29,vl a),(30,vi b)],[some (.a7 208 [] [.one (.aM 1 0)]),bX 171 [.mp 2],some (.map .u64 .u64 p1)],0,none,false,[],[]⟩
def oN (U:Sh) (c:Γa) (p1:Γc) (b z0 a:Int):T (Int⊕(Bool×Int×Int×Bool×Int×Int)⊕(Bool×Int×Int)):=.bf (decide ((bG p1 z0).getD 0>0)) (.ok (.inr (.inl (decide ((bG p1 z0).getD 0>0),(bG p1 z0).getD 0,z0,decide (b<(↑c.length:Int)),a,b))))<|.ok (.inl ((bG p1 z0).getD 0))
def y4 (U:Sh) (c:Γa) (p1:Γc) (b a:Int):T ((Bool×Int×Int×Bool×Int×Int)⊕(Bool×Int×Int)):=.ok (.inr (decide (b<(↑c.length:Int)),a,b))
def Cc (a:Γa) (p1:Γc) (p2:Int):=bC U (oN U a p1) (y4 U a p1) a p2
def ZD {R} (k:KX SS R) (a:Γa) (p1:Γc) (x:(Bool×Int×Int×Bool×Int×Int)⊕(Bool×Int×Int)):Option R:=x.elim (λv=>k (.exit 0) {qa a p1 v.2.1 v.2.1 with env:=[(38,vb v.1),(37,vu v.2.1),(11,vu v.2.1),(36,vu v.2.1),(35,vu v.2.2.1),(34,vc 0),(13,vu v.2.2.1),(33,vu v.2.2.1),(32,vs (.ptr 35 v.2.2.1 0)),(31,vb v.2.2.2.1),(10,vc 0),(11,vu v.2.2.2.2.1),(28,vd 130 a),(29,vl a),(30,vi v.2.2.2.2.2)]}) (λv=>k (.exit 0) {qa a p1 v.2.1 v.2.1 with env:=[(31,vb v.1),(10,vc 0),(11,vu v.2.1),(28,vd 130 a),(29,vl a),(30,vi v.2.2)]})
def P6:aX SS:=bh 10 (gq (λst=>cG st 0 208) (sq (sD 130 28) (sq (λst=>gG st 2) (sI 11)))) (λp=>u3 qa p 0) (u3 (Cc shut)) (λk p=>ZD k p.1 p.2.1)
def Kz:=bq (zY shut) aq ξb 105 [PJ]
theorem KA:aR Kz γ:=bu (ag.all zZ rfl) ξk rfl aT (by kernel_rfl) afI
theorem af3:LS KK γ aq Tryz.f156 156 10 P6:=
 aO.bI (π:=Γa×(Γc)×Int) (σ:=Int) KA (aF.nil) rfl 60 (λp i a=>qa p.1 p.2.1 a i) (λp=>p.1) (λp=>p.2.2) (St:=λp=>oN shut p.1 p.2.1) (F:=λp=>y4 shut p.1 p.2.1) (λp=>rfl)
  (λm p i a k=>by kernel_rfl) (by rintro p (x|x)<;>exact⟨_,_,λ_=>rfl⟩) (λp N C A O w a b=>bT b (t:=130) (sl:=28) rfl λv h=>h)
def Wb:=bq Kz aq Tryz.f156 156 [P6]
theorem Wc:aR Wb γ:=bu KA Tryz.func156 rfl aT (by kernel_rfl) af3
def DX (m:bz) (w:Int):T (Int×Int):=.bd (ni U m w) λb=>.bf (b !=0) (.ok (0,b))<|.bd (Gs U w) λc=>.gd (TJ m.ae [])<|.bd (BY U m.ae []) λd=>.gd (qa c.1 d.2.2 0 0)<|.bd (Cc U c.1 d.2.2 0) λe=>.cs e (λa=>.bf (a.2.1==0) (.ok (0,4))<|.ok (a.2.1,0)) λa=>.bf (a.2.1==0) (.ok (0,4))<|.ok (a.2.1,0)
def nf (m:bz) (w:Int):=U.s _ (DX U m w).val
def zN:=a6 (bU KK 156 54 35 (nf U) (dy KK 35 27)) (zY U)
theorem zO:ag (zN shut) γ:=bZ (rs:=[35,27]) zZ Wc rfl rfl λm w k=>by kernel_rfl
end Go.Proofs.YtoggponeookhbaaGreatDoor
end
