/- A part of the proof that OrderIs returns true for every input: the machine of values, its soundness, the program as plain functions, the law. Conditions: those of the given rows. -/
import Derived.Test.YtoggponeookhbaaGreatDoorI2
import Derived.Test.YtoggponeookhbaaGreatDoorProg
import Derived.Lib.Bytealg
import Derived.Shelf.Strings.OnBuilder
set_option linter.unusedVariables false
set_option linter.unusedSimpArgs false
noncomputable section
set_option maxRecDepth 1000000
set_option maxHeartbeats 12000000
open Array renaming getElem?_eq_some_iff→ν,length_toList→υ
open Bool renaming and_eq_true→ξg
open ByteArray renaming mk→ο,empty→ω
open Go.BinOp renaming and→ζ7
open Go.Builtin renaming zeroCells→ξI
open Go.Exit renaming thenS→ξH
open Go.Instr renaming typeAssert→ξh
open Go.IntKind renaming i64→δ,u64→ζ,u8→ξ3,wrap_i64→ξj
open Go.Lib renaming indexByte→ξ2,join→ζm
open Go.Next renaming value→ξn
open Go.Op renaming equalIn→ξv
open Go.Program renaming fieldsOf→ξ8
open Go.Proofs.Lays renaming n156→ζl
open Go.Proofs.Tryz renaming prog→γ,f97→μ,f142→χ,func142→ξ1,f105→ξc,func105→ξl,func254→ξq,f145→ξr,f200→ξs,f213→ξt,f166→ξu,func70→ξA,f60→ξE,f197→ξF,func197→ξJ,func200→ξK,underlying3→ξN,results254→ξP,f257→ξS,f264→ξT,results70→ξU,ntmps254→ξY,func283→ζ0,ntmps70→ζ1,func252→ζ2,func212→ζ3,func222→ζ4,func259→ζ5,func141→ζ6,func257→ζ8,f193→ζ9,func193→ζa,f195→ζb,func264→ζc,f157→ζd,func76→ζe,func77→ζf,func78→ζg,func79→ζh,func80→ζi,func14→ζj,f63→ζn,f41→ζo
open Go.Result renaming andThen_ok→ι
open Go.Sem renaming run_bind→κ
open Go.Utf8 renaming decode→ε
open Go.Value renaming int→ξe,oneCell'→ξy,cells→ξB,slice→ζk
open List renaming length_append→η,length_drop→τ,mem_append_right→φ,replicate→ψ,drop_eq_nil_of_le→ξ4,length_take→ξ9,take_left'→ξb,append_assoc→ξd,eq_nil_of_length_eq_zero→ξi,mem_append_left→ξk,getElem?_set→ξm,append_nil→ξo,mem_append→ξp,mem_cons_of_mem→ξw,mem_of_mem_drop→ξx,mem_cons_self→ξC,getElem?_take→ξD,length_cons→ξL,not_mem_nil→ξM,find?_cons→ξO,drop→ξQ,drop_zero→ξV,take_take→ξW,mem_cons→ξX
open Nat renaming eq_of_beq_eq_true→ξ,beq→ρ,le_refl→ξ5,add_mul→ξ6,mul_le_mul_right→ξ7,zero_add→ξa,zero_le→ξz,toUInt8→ξR,reduceMul→ξZ
open Option renaming map_some→ξ0,bind_some→ξf
open Option.some renaming injEq→ξG
open Sum renaming rec→θ
section
namespace Go.Vx
open Go.RowKit Go.Dc
inductive T (X:Type):Type 1
 |no
 |ok (x:X)
 |bf (c:Bool) (a b:T X)
 |bd {α:Type} (o:Option α) (f:α->T X)
 |cs {α β:Type} (x:α⊕β) (f:α->T X) (g:β->T X)
 |gd {α:Type} (a:α) (t:T X)
namespace T
variable {X R:Type}
noncomputable def run (t:T X) (k:X->Option R):Option R:=T.rec none (λx=>k x) (λc _ _ a b=>bif c then a else b) (λo _ f=>o.bind f) (λx _ _ f g=>θ f g x) (λa _ r=>Go.Vx.gd a r) t
noncomputable def val (t:T X):Option X:=T.rec none (λx=>some x) (λc _ _ a b=>bif c then a else b) (λo _ f=>o.bind f) (λx _ _ f g=>θ f g x) (λ_ _ r=>r) t
@[simp] theorem mj:(T.no:T X).val=none:=rfl
@[simp] theorem aH (x:X):(T.ok x).val=some x:=rfl
@[simp] theorem aI (c:Bool) (a b:T X):(T.bf c a b).val=bif c then a.val else b.val:=rfl
@[simp] theorem aS {α:Type} (o:Option α) (f:α->T X):(T.bd o f).val=o.bind λy=>(f y).val:=rfl
@[simp] theorem cN {α β:Type} (x:α⊕β) (f:α->T X) (g:β->T X):(T.cs x f g).val=match x with| .inl a=>(f a).val| .inr b=>(g b).val:=by cases x<;>rfl
@[simp] theorem bL {α:Type} (a:α) (t:T X):(T.gd a t).val=t.val:=rfl
theorem l_ (t:T X) (k:X->Option R):t.run k=t.val.bind k:=by
 induction t with
 |no=>rfl
 |ok x=>rfl
 |bf c a b i j=>cases c<;>assumption
 |bd o f h=>
  cases o with
  |none=>rfl
  |some y=>exact h y
 |cs x f g d e=>
  cases x with
  |inl a=>exact d a
  |inr b=>exact e b
 |gd a t h=>rw[bL,<-h];exact Y8 a (t.run k)
end T
def ZD {S:bo} (st:AS S) (j:Nat):Option ByteArray:=match aC st.h j with
 |some (.cX s _)=>some s
 |_=>none
def KA {S:bo} (st:AS S) (j:Nat):Option Nat:=match aC st.h j with
 |some (.cX _ n)=>some n
 |_=>none
def Kz {S:bo} (st:AS S) (j g:Nat):Option Unit:=match aC st.h j with
 |some (.box _ [.v (.func (.func a) _ _)])=>bif ρ a g then some () else none
 |_=>none
structure Sh where
 s:(α:Type)->α->α
theorem Pz: ∃f:Sh,f=⟨λ_ a=>a⟩:=⟨_,rfl⟩
noncomputable def shut:Sh:=Classical.choose Pz
abbrev ab:Sh:=⟨λ_ a=>a⟩
theorem me:shut=ab:=Classical.choose_spec Pz
theorem jB {X R:Type} {t:T X} {kf:X->Option R} {z:R} (h:(shut.s _ t.val).bind kf=some z):t.run kf=some z:=by
 rw[me] at h;rw[T.l_];exact h
def bV {α σ X:Type} (step:Int->α->σ->Option (σ⊕X)) (fin:Int->σ->Option X):Nat->List α->σ->Option X
 |i,[],a=>fin i a
 |i,z::r,a=>(step i z a).bind λy=>match y with| .inl a'=>bV step fin (i+1) r a'| .inr x=>some x
def cf {σ X:Type} (step:σ->Option (σ⊕X)):Nat->σ->Option X
 |0,_=>none
 |n+1,a=>(step a).bind λy=>match y with| .inl a'=>cf step n a'| .inr x=>some x
noncomputable def b4 (sh:Sh) {α σ X:Type} (S:Int->α->σ->T (σ⊕X)) (F:Int->σ->T X) (l:List α) (a:σ):Option X:=sh.s _ (bV (λi z a=>(S i z a).val) (λi a=>(F i a).val) 0 l a)
noncomputable def bM (sh:Sh) {σ X:Type} (S:σ->T (σ⊕X)) (n:Nat) (a:σ):Option X:=sh.s _ (cf (λa=>(S a).val) n a)
theorem adq {α σ X:Type} (S:Int->α->σ->T (σ⊕X)) (F:Int->σ->T X) (l:List α) (a:σ):b4 shut S F l a=bV (λi z a=>(S i z a).val) (λi a=>(F i a).val) 0 l a:=by unfold b4;rw[me]
theorem aff {σ X:Type} (S:σ->T (σ⊕X)) (n:Nat) (a:σ):bM shut S n a=cf (λa=>(S a).val) n a:=by unfold bM;rw[me]
section
variable {S:bo} {P:Program} {G:bw S} {I:dr S} {x:Code}
noncomputable def bt {π X:Type} (id:Nat) (ext:AS S->Option π) (s:π->AS S) (L:π->Option X) (out: {R:Type}->(AX->AS S->Option R)->π->X->Option R):bh S:=⟨id,λst k=>(ext st).bind λp=>p3 (st=s p) ((L p).bind (out k p))⟩
noncomputable def vx {σ X R:Type} (f:σ->Option R) (g:X->Option R):σ⊕X->Option R:=λy=>θ f g y
theorem FV {α R:Type} {o:Option α} {f:α->Option R} {z:R} (h:o.bind f=some z): ∃y,o=some y/\f y=some z:=bind_some h
theorem Og {π σ X α R:Type} (N:Nat) {k:AX->AS S->Option R} (c:gg I.lc (dI x)=none) {l:List α} (hm:l.length<=maxLen) {s:Int->σ->AS S} {St:Int->α->σ->T (σ⊕X)} {F:Int->σ->T X} {ex:X->Option R}
  (b: ∀m (i:Int) a,cm G (m+N) I x (s i a) (qh G (m+N) I x k)=bif decide (i<(l.length:Int)) then(idx l i).bind λz=>(St i z a).run (vx (λa'=>cm G (m+N) I (.loop x) (s (δ.wrap (i+1)) a') k) ex) else(F i a).run ex):
  ∀(r pre:List α) (a:σ),l=pre++r->cm G (r.length+N+1) I (.loop x) (s (pre.length:Int) a) k=(bV (λi z a=>(St i z a).val) (λi a=>(F i a).val) pre.length r a).bind ex
 |[],pre,a,h=>by
  rw[ξo] at h;subst h;rw[Eb c,b,aar,cond_false,T.l_];rfl
 |z::r,pre,a,h=>by
  have f:l[pre.length]? =some z:=by rw[h];simp
  have d:pre.length<l.length:=by rw[h];simp
  rw[Eb c,b,aas d,cond_true,cW f,ξf,T.l_];show _=(((St (pre.length:Int) z a).val).bind λy=>match y with| .inl a'=>bV _ _ (pre.length+1) r a'| .inr x=>some x).bind ex;cases (St (pre.length:Int) z a).val with
  |none=>rfl
  |some y=>
   cases y with
   |inr x=>rfl
   |inl a'=>
    show cm G (r.length+1+N) I (.loop x) (s (δ.wrap ((pre.length:Int)+1)) a') k=(bV _ _ (pre.length+1) r a').bind ex;rw[mn d hm];have e:=Og (π:=π) N c hm b r (pre++[z]) a' (by rw[h];simp);rw[show(pre++[z]).length=pre.length+1 by simp] at e;rw[<-e,show r.length+1+N=r.length+N+1 by omega]
theorem aX.b_ {π σ X α:Type} (g:a_ G P) {id:Nat} {ext:AS S->Option π} {L:π->Option X} {out: {R:Type}->(AX->AS S->Option R)->π->X->Option R}
  (j:aJ G.K P I (.loop x)) (o:(match gg I.lc (dI x) with|some _=>false|none=>true)=true) (N:Nat) (s:π->Int->σ->AS S) (l:π->List α) (a0:π->σ) {St:π->Int->α->σ->T (σ⊕X)} {F:π->Int->σ->T X}
  (q: ∀p,L p=b4 shut (St p) (F p) (l p) (a0 p))
  (n: ∀ {R:Type} m (p:π) (i:Int) a (k:AX->AS S->Option R),cm G (m+N) I x (s p i a) (qh G (m+N) I x k)=bif decide (i<((l p).length:Int)) then(idx (l p) i).bind λz=>(St p i z a).run (vx (λa'=>cm G (m+N) I (.loop x) (s p (δ.wrap (i+1)) a') k) (out k p)) else(F p i a).run (out k p))
  (hex: ∀(p:π) (x:X),∃e c,∀ {R:Type} (k:AX->AS S->Option R),out k p x=k e c)
  (f: ∀(p:π) (N:Nat) (C:cO) (A:Pl) (O:Γ) (w:World) (a:Act),bn G.K P N C A O w (s p 0 (a0 p)) a->(l p).length<=maxLen):
  aX G.K P I.tok6 x (bt id ext (λp=>s p 0 (a0 p)) L out):=by
 intro R st k z b;obtain⟨p,_,h1⟩:=FV b;clear b;obtain⟨d,b⟩:=Kl h1;clear h1;subst d
 by_cases hm:(l p).length<=maxLen
 ·rw[q,adq] at b;have h:=(Og (π:=π) N (KY o) hm (λm i a=>n m p i a k) (l p) [] (a0 p) rfl).trans b;exact BA g _ I (.loop x) (s p 0 (a0 p)) k z j h
 ·obtain⟨y,_,t⟩:=FV b;obtain⟨e,c,he⟩:=hex p y;exact⟨e,c,(he k).symm.trans t,λC A O w a r=>absurd (f p _ C A O w a r) hm⟩
theorem Qn {σ X R:Type} (N:Nat) {k:AX->AS S->Option R} (c:gg I.lc (dI x)=none) {s:σ->AS S} {St:σ->T (σ⊕X)} {ex:X->Option R}
  (b: ∀m a,cm G (m+N) I x (s a) (qh G (m+N) I x k)=(St a).run (vx (λa'=>cm G (m+N) I (.loop x) (s a') k) ex)):
  ∀(n:Nat) (a:σ) {z:R},(cf (λa=>(St a).val) n a).bind ex=some z->cm G (n+N) I (.loop x) (s a) k=some z
 |0,a,z,h=>by cases h
 |n+1,a,z,h=>by
  rw[show n+1+N=n+N+1 by omega,Eb c,b,T.l_]
  change (((St a).val).bind λy=>match y with| .inl a'=>cf _ n a'| .inr x=>some x).bind ex=some z at h
  revert h
  cases (St a).val with
  |none=>intro h;cases h
  |some y=>
   cases y with
   |inr x=>intro h;exact h
   |inl a'=>intro h;exact Qn N c b n a' h
theorem aX.bM {π σ X:Type} (d:a_ G P) {id:Nat} {ext:AS S->Option π} {L:π->Option X} {out: {R:Type}->(AX->AS S->Option R)->π->X->Option R}
  (e:aJ G.K P I (.loop x)) (g:(match gg I.lc (dI x) with|some _=>false|none=>true)=true) (N:Nat) (s:π->σ->AS S) (a0:π->σ) {St:π->σ->T (σ⊕X)} (n:π->Nat)
  (h: ∀p,L p=Vx.bM shut (St p) (n p) (a0 p))
  (f: ∀ {R:Type} m (p:π) a (k:AX->AS S->Option R),cm G (m+N) I x (s p a) (qh G (m+N) I x k)=(St p a).run (vx (λa'=>cm G (m+N) I (.loop x) (s p a') k) (out k p))):
  aX G.K P I.tok6 x (bt id ext (λp=>s p (a0 p)) L out):=by
 intro R st k z b;obtain⟨p,_,h1⟩:=FV b;clear b;obtain⟨c,b⟩:=Kl h1;clear h1;subst c;rw[h,aff] at b;exact BA d _ I (.loop x) (s p (a0 p)) k z e (Qn N (KY g) (λm a=>f m p a k) (n p) (a0 p) b)
end
end Go.Vx
end
section
namespace Go.Vx
open Go.RowKit Go.Dc
section
variable {α σ X:Type}
theorem hf {step:Int->α->σ->Option (σ⊕X)} {fin:Int->σ->Option X} {i:Nat} {z:α} {r:List α} {a:σ}:bV step fin i (z::r) a=(step i z a).bind λy=>match y with| .inl a'=>bV step fin (i+1) r a'| .inr x=>some x:=rfl
theorem qL {step:Int->α->Unit->Option (Unit⊕X)} {fin:Int->Unit->Option X} {p:α->Bool} {e:α->X}:
  ∀ {l:List α} {i:Nat},(∀i z,z∈l->step i z ()=bif p z then some (.inr (e z)) else some (.inl ()))->bV step fin i l ()=match l.find? p with|some z=>some (e z)|none=>fin ((i+l.length:Nat):Int) ()
 |[],i,_=>by simp[bV]
 |z::r,i,h=>by
  rw[hf,h _ z ξC,ξO];cases hp:p z with
  |true=>rfl
  |false=>
   simp only[cond_false,ξf];rw[qL λi z a=>h i z (ξw _ a)];cases r.find? p with
   |some _=>rfl
   |none=>simp only[ξL];rw[show i+1+r.length=i+(r.length+1) by omega]
def allI (q:Nat->α->Bool):Nat->List α->Bool
 |_,[]=>true
 |i,z::r=>q i z&&allI q (i+1) r
theorem lj {q:Nat->α->Bool}: ∀ {l:List α} {i:Nat},allI q i l=true↔ ∀k z,l[k]? =some z->q (i+k) z=true
 |[],i=>by simp[allI]
 |z::r,i=>by
  simp only[allI,ξg];rw[lj];constructor
  ·rintro ⟨h1,a⟩ k y hk;cases k with
   |zero=>simp at hk;subst hk;exact h1
   |succ k=>rw[show i+(k+1)=i+1+k by omega];exact a k y (by simpa using hk)
  ·intro h;refine⟨h 0 z rfl,λk y hk=>?_⟩;rw[show i+1+k=i+(k+1) by omega];exact h (k+1) y (by simpa using hk)
theorem Od {step:Int->α->Unit->Option (Unit⊕X)} {fin:Int->Unit->Option X} {q:Nat->α->Bool} {x:X} {l:List α} (h: ∀(i:Nat) z,l[i]? =some z->step i z ()=bif q i z then some (.inl ()) else some (.inr x)):
  ∀(r pre:List α),l=pre++r->bV step fin pre.length r ()=bif allI q pre.length r then fin (l.length:Int) () else some x
 |[],pre,e=>by
  rw[ξo] at e;subst e;rfl
 |z::r,pre,e=>by
  rw[hf,h pre.length z (by rw[e];simp)];unfold allI;cases q pre.length z with
  |false=>rfl
  |true=>
   simp only[cond_true,ξf,Bool.true_and];have:=Od (fin:=fin) h r (pre++[z]) (by rw[e];simp);rw[show(pre++[z]).length=pre.length+1 by simp] at this;exact this
theorem oc {step:Int->α->Unit->Option (Unit⊕X)} {fin:Int->Unit->Option X} {q:Nat->α->Bool} {x:X} {l:List α} (h: ∀(i:Nat) z,l[i]? =some z->step i z ()=bif q i z then some (.inl ()) else some (.inr x)):
 bV step fin 0 l ()=bif allI q 0 l then fin (l.length:Int) () else some x:=Od h l [] rfl
theorem od {step:Int->α->σ->Option (σ⊕X)} {fin:Int->σ->Option X} {g:σ->α->σ}: ∀ {l:List α} {i:Nat} {a:σ},(∀i z a,z∈l->step i z a=some (.inl (g a z)))->bV step fin i l a=fin ((i+l.length:Nat):Int) (l.foldl g a)
 |[],i,a,_=>by simp[bV]
 |z::r,i,a,h=>by
  rw[hf,h _ z _ ξC];show bV step fin (i+1) r (g a z)=_;rw[od λi z a b=>h i z a (ξw _ b),ξL,List.foldl_cons,show i+1+r.length=i+(r.length+1) by omega]
theorem w6 {step:Int->Option (Int⊕X)} {q:Nat->Bool} {x:Nat->X} {y:X} {N:Nat} (h: ∀a:Nat,a<N->step (a:Int)=bif q a then some (.inl ((a+1:Nat):Int)) else some (.inr (x a))) (c:step (N:Int)=some (.inr y)):
  ∀ {k n a:Nat},a+k=N->k<n->cf step n (a:Int)=some (match(List.range' a k).find? (λb=>!q b) with|some b=>x b|none=>y)
 |0,n+1,a,e,_=>by
  obtain rfl:a=N:=by omega
  unfold cf;rw[c];rfl
 |k+1,n+1,a,e,hn=>by
  unfold cf;rw[h a (by omega),List.range'_succ,ξO];cases q a with
  |false=>rfl
  |true=>
   simp only[cond_true,ξf,Bool.not_true];exact w6 h c (by omega) (by omega)
theorem YW {p:α->Bool} {l:List α}:(l.find? p).isSome=l.any p:=by rw[Bool.eq_iff_iff,List.find?_isSome,List.any_eq_true]
end
section
variable {S:bo} {K:Kit S} {P:Program}
def Hg {α:Type} (T:Ty α):Prop:= ∀(O:Γ) (w:World) (O':Γ) (w':World) (cs:Γb) (x:α),T.rep O w cs x->T.rep O' w' cs x
theorem JN {α:Type} {T:Ty α} (a:Hg T) {O O':Γ} {w w':World}: ∀ {xs:List α} {cs:Γb},bN T O w cs xs->bN T O' w' cs xs
 |[],_,h=>h
 |_::_,_,⟨c,r,e,h1,b⟩=>⟨c,r,e,a O w O' w' c _ h1,JN a b⟩
def kE (K:Kit S) (f e:Nat) (cl:List (S.El e)->Option (List (S.El e))):dD S:=⟨f,λafC h k=>match afC with
 |[.one l]=>(match ea K (aC h) e l with|some xs=>(cl xs).bind λzs=>k (.ret (.s (.one (.own h.length)))) (h++[some (.row e zs)]) []|none=>none)
 |_=>none⟩
theorem jI {h:AH S} {X:Ob S} {i:Nat} {Y:Ob S} (hi:aC (h++[some X]) i=some Y):aC h i=some Y\/(i=h.length/\Y=X):=by
 rw[hJ] at hi;rcases fk hi with h1|⟨h1,a⟩
 ·exact .inl (hJ.2 h1)
 ·exact .inr ⟨h1,Option.some.inj a⟩
theorem nN (ae:bW K P) {f e:Nat} {cl:List (S.El e)->Option (List (S.El e))} (ah:ey P f) (ai:Hg (S.ty e))
  (ad: ∀(O:Γ) (w:World) (v:Value) (xs zs:List (S.El e)),OB O w->(S.ty e).slice.is O w v xs->cl xs=some zs->Calls P f #[v] w (eK (S.ty e) e w.heap.size O w (.slice none 0 0) zs))
  {R:Type} (afC:List (ay S)) (h:AH S) (k:Rs S->AH S->Γ->Option R) (z:R) (u:(kE K f e cl).out afC h k=some z): ∃r h' dt,k r h' dt=some z/\cU K P f afC h r h' dt:=by
 simp only[kE] at u;split at u
 rotate_left
 ·cases u
 rename_i l;split at u
 rotate_left
 ·cases u
 rename_i xs aw;obtain⟨zs,ax,hk⟩:=bind_some u;refine⟨_,_,_,hk,ah,λA O w vs au t hO aD M an=>?_⟩;obtain⟨v,rest,rfl,av,ar⟩:=au;rw[show rest=[] from ar];have L:=js ae t aw av;obtain⟨O1,J⟩: ∃O1,O1=dm A (jM l) O:=⟨_,rfl⟩;rw[<-J] at L;have U:Dc.Sub O1 O:=by rw[J];exact eE
 refine(ad O1 w v xs zs (λb a=>hO b (U b a)) L ax).mono ?_;rintro aB w' ⟨o,x,rfl,d⟩;obtain⟨A',C⟩: ∃A':Pl,A'=⟨λi=>bif ρ i h.length then some o else A.pl i,A.ls⟩:=⟨_,rfl⟩;have y: ∀i,i≠h.length->A'.pl i=A.pl i:=λi hi=>by
  rw[C];have:ρ i h.length=false:=by
   cases a:ρ i h.length with
   |false=>rfl
   |true=>exact absurd (ξ a) hi
  simp only[this,cond_false]
 have B:A'.pl h.length=some o:=by rw[C];simp
 have hle:A.le A':=⟨λi p hp=>by
  rw[y i (λe=>by subst e;rw[M _ (ξ5 _)] at hp;cases hp)];exact hp,by rw[C]⟩
 have I: ∀b,b<w.heap.size->w'.heap[b]? =w.heap[b]? :=λb a=>d.fr b a (by simp[Value.ownBlock]);have ao:OB (x++O) w':=λb a=>by
  rcases ξp.1 a with a|a
  ·exact d.ob b a
  ·exact Nat.lt_of_lt_of_le (hO b a) d.tr.size
 have V:Tr O w (x++O) w':=⟨d.tr.os,d.tr.tape,d.tr.output,d.tr.size,λb a hn=>⟨λhm=>by
  rcases ξp.1 hm with hm|hm
  ·exact(d.tr.keep b a λh1=>hn (U b h1)).1 hm
  ·exact hn hm,I b a⟩⟩
 have D: ∀b,bS o=some b->w.heap.size<=b/\b∈x:=by
  intro b a;have W:o.ownBlock=some b:=by
   rcases hd d.own with⟨s,_⟩|⟨Z,c,s⟩
   ·rw[s] at a;cases a
   ·rw[s] at a ⊢;cases a;rfl
  exact⟨(d.own.lt b W).1,d.own.mem b W⟩
 have aq:o.oneCell'=true:=by
  rcases hd d.own with⟨s,_⟩|⟨Z,c,s⟩<;>rw[s]<;>rfl
 have ak:Dc.Own (S.ty e) e 0 (x++O) w' o zs:=by
  obtain⟨cs,⟨aa,h1⟩,n⟩:=d.own.ex;refine⟨⟨cs,⟨aa,?_⟩,JN ai n⟩,λb a=>ξk _ (d.own.mem b a)⟩;rcases h1 with h1|⟨g,cap,cur,az,aF,aA⟩
  ·exact .inl h1
  ·exact .inr ⟨g,cap,cur,az,ξz _,aA⟩
 have Q: ∀i X,aC (h++[some (.row e zs)]) i=some X->X.nt=true:=λi X hi=>by
  rcases jI hi with h1|⟨_,rfl⟩
  ·exact an i X h1
  ·rfl
 refine⟨A',x++O,⟨o,rfl,⟨o,B,rfl,aq⟩⟩,⟨bK.qj Q ?_ ?_,ao,V,λi hi=>y i (by omega),(λj E=>by cases E),by rw[C],by simp,?_,?_,λi X _=>Q i X⟩⟩
 ·intro i X hi;rcases jI hi with h1|⟨rfl,rfl⟩
  ·obtain⟨p,hp,af,a⟩:=t.al i X h1;have aj:=fa h1;exact⟨p,by rw[y i (by omega)];exact hp,af.keep V hle λb m=>⟨I b (hO b (t.gC h1 hp m)),φ _ (t.gC h1 hp m)⟩,λb m=>φ _ (a b m)⟩
  ·exact⟨o,B,ak,λb a=>ξk _ (D b a).2⟩
 ·intro i j X Y p q b N hi E hp F m G;have H: ∀ {i:Nat} {X:Ob S} {p:Value},aC h i=some X->A'.pl i=some p->bS p=some b->b<w.heap.size/\A.pl i=some p:=by
   intro i X p h1 n ab;have aj:=fa h1;rw[y i (by omega)] at n;obtain⟨aE,T,_,a⟩:=t.al i X h1;rw[n] at T;cases T;exact⟨hO b (a b ab),n⟩
  rcases jI hi with h1|⟨rfl,rfl⟩
  ·rcases jI E with n|⟨rfl,rfl⟩
   ·exact t.dj i j X Y p q b N h1 n (H h1 hp m).2 (H n F G).2 m G
   ·rw[B] at F;cases F;have:=(H h1 hp m).1;have:=(D b G).1;omega
  ·rcases jI E with n|⟨rfl,rfl⟩
   ·rw[B] at hp;cases hp;have:=(H n F G).1;have:=(D b m).1;omega
   ·exact absurd rfl N
 ·intro i hi;simp at hi;rw[y i (by omega)];exact M i (by omega)
 ·intro b a _;refine⟨I b (hO b a),φ _ a,λi X p hi ag hp m=>?_⟩;rcases jI ag with h1|⟨rfl,rfl⟩
  ·have:=fa h1;omega
  ·rw[B] at hp;cases hp;have:=(D b (eN rfl m)).1;have:=hO b a;omega
end
section
variable {S:bo} {K:Kit S} {P:Program} {N:Nat} {B:cO} {A A':Pl} {O:Γ} {w:World} {st:AS S} {a:Act}
def fR (j c e:Nat) (st:AS S):AS S:=match aC st.h j with
 |some (.box t cs)=>(match cs[c]? with
  |some (.v (.slice none 0 0))=> {st with h:=st.h.set j (some (.box t (cs.set c (.own st.h.length))))++[some (.row e [])]}
  |_=>st)
 |_=>st
theorem N1 {n:Nat} (d:A.le A') (hn:A'.pl n=some (.slice none 0 0)): ∀ {ls:List (LV S)} {xs:Γb} {c:Nat},bB A O w ls xs->ls[c]? =some (.v (.slice none 0 0))->bB A' O w (ls.set c (.own n)) xs
 |[],_,c,_,h=>by simp at h
 |l::ls,xs,0,⟨ys,zs,h1,a,b⟩,h=>by
  have h:l= .v (.slice none 0 0):=by simpa using h
  subst h;exact⟨ys,zs,h1,⟨_,hn,a.1,rfl⟩,jO (Tr.refl O w) d b⟩
 |l::ls,xs,c+1,⟨ys,zs,h1,a,b⟩,h=>⟨ys,zs,h1,a.tr (Tr.refl O w) d,N1 d hn b (by simpa using h)⟩
theorem bn.fR (j c e:Nat) (h:bn K P N B A O w st a): ∃A',bn K P N B A' O w (Vx.fR j c e st) a:=by
 unfold Vx.fR;split
 rotate_left
 ·exact⟨A,h⟩
 rename_i t cs o;split
 rotate_left
 ·exact⟨A,h⟩
 rename_i I;have V:=fa o;obtain⟨A',n⟩: ∃A',A'=A.put st.h.length (.slice none 0 0):=⟨_,rfl⟩;have L:=h.free st.h.length (ξ5 _);have hle:A.le A':=by rw[n];exact Pl.kL L
 have u:A'.pl st.h.length=some (.slice none 0 0):=by rw[n];exact Pl.ff _ _ _
 have g: ∀i,i≠st.h.length->A'.pl i=A.pl i:=λi hi=>by rw[n];exact Pl.kM (λe=>hi e.symm)
 have hlen:(st.h.set j (some (.box t (cs.set c (.own st.h.length))))).length=st.h.length:=List.length_set;have r: ∀ {i:Nat} {X:Ob S},aC (st.h.set j (some (.box t (cs.set c (.own st.h.length))))++[some (.row e [])]) i=some X->(i=st.h.length/\X= .row e [])\/(i=j/\X= .box t (cs.set c (.own st.h.length)))\/(i≠j/\aC st.h i=some X):=by
  intro i X hi;rcases jI hi with h1|⟨h1,f⟩
  ·right;rw[hJ,ξm] at h1;split at h1
   ·rename_i he;simp only[ξG] at h1;exact .inl ⟨he.symm,h1.symm⟩
   ·rename_i he;exact .inr ⟨λx=>he x.symm,hJ.2 h1⟩
  ·exact .inl ⟨h1.trans hlen,f⟩
 have hold: ∀ {i:Nat} {X:Ob S} {p:Value} {b:Nat},aC (st.h.set j (some (.box t (cs.set c (.own st.h.length))))++[some (.row e [])]) i=some X->A'.pl i=some p->cy w X p b-> ∃Y,aC st.h i=some Y/\A.pl i=some p/\cy w Y p b:=by
  intro i X p b hi hp d;rcases r hi with⟨rfl,rfl⟩|⟨rfl,rfl⟩|⟨_,h1⟩
  ·rw[u] at hp;cases hp;rcases d with d|d<;>cases d
  ·exact⟨_,o,by rw[<-g i (by omega)];exact hp,.inl (eN rfl d)⟩
  ·have:=fa h1;exact⟨_,h1,by rw[<-g i (by omega)];exact hp,d⟩
 refine⟨A',h.size,h.env.tr (Tr.refl O w) hle,⟨?_,?_⟩,h.ob,h.c_,?_,h.nb,?_,h.tr,?_,by rw[n];exact h.ls,?_,?_,?_,h.lp,h.dl,h.hi,h.o0,h.rr,?_⟩
 ·intro i X hi;rcases r hi with⟨rfl,rfl⟩|⟨rfl,rfl⟩|⟨v,h1⟩
  ·exact⟨_,u,Own.iN,λb d=>by cases d⟩
  ·obtain⟨p,hp,⟨b,vs,f,k,s⟩,d⟩:=h.rel.al i _ o;exact⟨p,by rw[g i (by omega)];exact hp,⟨b,vs,f,k,N1 hle u s I⟩,d⟩
  ·obtain⟨p,hp,H,d⟩:=h.rel.al i X h1;have:=fa h1;exact⟨p,by rw[g i (by omega)];exact hp,H.keep (Tr.refl O w) hle λb m=>⟨rfl,h.rel.gC h1 hp m⟩,d⟩
 ·intro i U X Y p q b v hi M hp Q m R;obtain⟨y,h1,f,E⟩:=hold hi hp m;obtain⟨z,k,s,F⟩:=hold M Q R;exact h.rel.gb i U y z p q b v h1 k f s E F
 ·intro i hi;simp at hi;rw[g i (by omega)];exact h.free i (by omega)
 ·show B.nb<=(st.h.set j _++[_]).length;have:=h.le;simp;omega
 ·intro i hi;have:=h.le;rw[g i (by omega)];exact h.pl i hi
 ·intro i X hi l;have:=h.le;rcases r l with⟨rfl,_⟩|⟨rfl,_⟩|⟨_,h1⟩
  ·omega
  ·exact h.lv i _ hi o
  ·exact h.lv i X hi h1
 ·intro b d T J;obtain⟨c1,c2,C⟩:=h.cl b d T J;refine⟨c1,c2,λi X p hi l hp m=>?_⟩;obtain⟨Y,h1,f,k⟩:=hold l hp m;exact C i Y p hi h1 f k
 ·exact c7.qW hle.at_ (λD G=>G) h.df
 ·intro i X hi l;rcases r l with⟨rfl,rfl⟩|⟨rfl,rfl⟩|⟨_,h1⟩
  ·rfl
  ·rfl
  ·exact h.nt i X hi h1
def d' (l:Γ) (st:AS S):AS S:= {st with dt:=l++st.dt}
theorem bn.d' (l:Γ) (h:bn K P N B A O w st a):bn K P N B A O w (Vx.d' l st) a:=
 ⟨h.size,h.env,h.rel,h.ob,h.c_,h.free,h.nb,h.le,h.tr,h.pl,h.ls,h.lv,λb c e d=>h.cl b c e λi hi=>d i (φ _ hi),h.df,h.lp,h.dl,h.hi,h.o0,h.rr,h.nt⟩
theorem bn.seen {j:Nat} {X d:Ob S} (h:bn K P N B A O w st a) (k:aC st.h j=some X) (t: ∀p,c6 A O w X p->c6 A O w d p) (hn:d.nt=true:=by rfl):bn K P N B A O w {st with h:=st.h.set j (some d)} a:=by
 have F:=fa k;have l: ∀ {i:Nat} {Y:Ob S},aC (st.h.set j (some d)) i=some Y->(i=j/\Y=d)\/(i≠j/\aC st.h i=some Y):=by
  intro i Y hi;rw[hJ,ξm] at hi;split at hi
  ·rename_i he;simp only[ξG] at hi;exact .inl ⟨he.symm,hi.symm⟩
  ·rename_i he;exact .inr ⟨λx=>he x.symm,hJ.2 hi⟩
 have hold: ∀ {i:Nat} {Y:Ob S},aC (st.h.set j (some d)) i=some Y-> ∃Z,aC st.h i=some Z/\ ∀p b,cy w Y p b->cy w Z p b:=by
  intro i Y hi;rcases l hi with⟨rfl,rfl⟩|⟨_,h1⟩
  ·exact⟨_,k,λp b c=>.inl (eN hn c)⟩
  ·exact⟨_,h1,λp b c=>c⟩
 refine⟨h.size,h.env,⟨?_,?_⟩,h.ob,h.c_,?_,h.nb,?_,h.tr,h.pl,h.ls,?_,?_,h.df,h.lp,h.dl,h.hi,h.o0,h.rr,?_⟩
 ·intro i Y hi;rcases l hi with⟨rfl,rfl⟩|⟨_,h1⟩
  ·obtain⟨p,hp,f,c⟩:=h.rel.al i _ k;exact⟨p,hp,t p f,c⟩
  ·exact h.rel.al i Y h1
 ·intro i E Y Z p q b y hi v hp z m C;obtain⟨n,h1,g⟩:=hold hi;obtain⟨o,f,s⟩:=hold v;exact h.rel.gb i E n o p q b y h1 f hp z (g p b m) (s q b C)
 ·intro i hi;exact h.free i (by simpa using hi)
 ·show B.nb<=(st.h.set j _).length;have:=h.le;simp;omega
 ·intro i Y hi e;obtain⟨Z,h1,_⟩:=hold e;exact h.lv i Z hi h1
 ·intro b c D u;obtain⟨c1,c2,r⟩:=h.cl b c D u;refine⟨c1,c2,λi Y p hi e hp m=>?_⟩;obtain⟨Z,h1,g⟩:=hold e;exact r i Z p hi h1 hp (g p b m)
 ·intro i Y hi e;rcases l e with⟨rfl,rfl⟩|⟨_,h1⟩
  ·exact hn
  ·exact h.nt i Y hi h1
def BI (cs:List (LV S)):List (LV S):=match lx cs with
 |some bs=>[.b2 bs.length bs]
 |none=>(match iK cs with|some (k,gs)=>[.bu k gs.length gs]|none=>cs)
theorem U6 {cs:List (LV S)} {xs:Γb} (h:bB A O w cs xs):bB A O w (BI cs) xs:=by
 unfold BI;split
 ·rename_i bs a;exact⟨xs,[],by simp,⟨rfl,s_ a h⟩,rfl⟩
 ·split
  ·rename_i k gs b;exact⟨xs,[],by simp,⟨rfl,DN b h⟩,rfl⟩
  ·exact h
def ik (j:Nat) (st:AS S):AS S:=match aC st.h j with
 |some (.box t cs)=> {st with h:=st.h.set j (some (.box t (BI cs)))}
 |_=>st
theorem bn.ik (j:Nat) (h:bn K P N B A O w st a):bn K P N B A O w (Vx.ik j st) a:=by
 unfold Vx.ik;split
 ·rename_i t cs e;refine h.seen e ?_;rintro p ⟨b,vs,h1,c,d⟩;exact⟨b,vs,h1,c,U6 d⟩
 ·exact h
def kj:Option (LV S)->Option (List Bool)
 |some (.b2 _ x)=>some x
 |_=>none
def gm (pre:AS S->AS S) (lc:bh S):bh S:=⟨lc.id,λst k=>lc.out (pre st) k⟩
def bT (K:Kit S) (P:Program) (pre:AS S->AS S):Prop:= ∀ {N:Nat} {B:cO} {A:Pl} {O:Γ} {w:World} {st:AS S} {a:Act},bn K P N B A O w st a-> ∃A',bn K P N B A' O w (pre st) a
theorem bT.gc (sl:Γ):bT K P (Vx.gc sl):=λh=>h.gc
theorem bT.fR (j c e:Nat):bT K P (Vx.fR j c e):=λh=>h.fR j c e
theorem bT.d' (l:Γ):bT K P (Vx.d' l):=λh=>⟨_,h.d' l⟩
theorem bT.ik (j:Nat):bT K P (Vx.ik j):=λh=>⟨_,h.ik j⟩
theorem bT.comp {f g:AS S->AS S} (a:bT K P f) (b:bT K P g):bT K P (λst=>f (g st)):=λh=>
 let⟨_,h1⟩:=b h
 a h1
theorem aX.pre {J:k6} {x:Code} {lc:bh S} {pre:AS S->AS S} (hp:bT K P pre) (h:aX K P J x lc):aX K P J x (gm pre lc):=by
 intro R st k z f;obtain⟨e,g,h1,b⟩:=h (pre st) k z f;refine⟨e,g,h1,λC A O w a c=>?_⟩;obtain⟨A',d⟩:=hp c;exact b C A' O w a d
end
section
variable {S:bo} {K:Kit S} {P:Program}
def qb (K:Kit S) (f e:Nat) (ins:List (S.El e)->Int->List (S.El e)->Option (List (S.El e))):dD S:=⟨f,λafC h k=>match afC with
 |[.one (.own r),.one (.v (.int .i64 j)),.one (.own a)]=>bif ρ r a then none else(match ea K (aC h) e (.own r),ea K (aC h) e (.own a) with
  |some xs,some ys=>(ins xs j ys).bind λzs=>k (.ret (.s (.one (.own h.length)))) ((h.set r none).set a none++[some (.row e zs)]) [r,a]
  |_,_=>none)
 |_=>none⟩
theorem Ce {g:Nat->Option (Ob S)} {e r:Nat} {xs:List (S.El e)} (h:ea K g e (.own r)=some xs):g r=some (.row e xs):=by
 simp only[ea] at h;split at h
 ·rename_i b ys a;split at h
  ·rename_i p _;subst p;cases h;exact a
  ·cases h
 ·cases h
theorem EA {h:AH S} {r i:Nat} {X:Ob S} (hi:aC (h.set r none) i=some X):i≠r/\aC h i=some X:=by
 rw[hJ] at hi;rw[ξm] at hi;split at hi
 ·split at hi<;>simp at hi
 ·rename_i a;exact⟨λe=>a e.symm,hJ.2 hi⟩
theorem DK (aL:bW K P) {f e:Nat} {ins:List (S.El e)->Int->List (S.El e)->Option (List (S.El e))} (aP:ey P f)
  (aK: ∀(O:Γ) (w:World) (v u:Value) (xs ys zs:List (S.El e)) (j:Int),OB O w->Dc.Own (S.ty e) e 0 O w v xs->(S.ty e).slice.is O w u ys->Plain w u->ins xs j ys=some zs->Calls P f #[v,.int .i64 j,u] w (eK (S.ty e) e 0 O w v zs))
  {R:Type} (afC:List (ay S)) (h:AH S) (k:Rs S->AH S->Γ->Option R) (z:R) (y:(qb K f e ins).out afC h k=some z): ∃r h' dt,k r h' dt=some z/\cU K P f afC h r h' dt:=by
 simp only[qb] at y;split at y
 rotate_left
 ·cases y
 rename_i r j m;cases F:ρ r m<;>rw[F] at y
 rotate_left
 ·cases y
 simp only[cond_false] at y;split at y
 rotate_left
 ·cases y
 rename_i xs ys a8 aE;obtain⟨zs,a_,hk⟩:=bind_some y;have F:r≠m:=λe=>by subst e;rw[Nat.beq_refl] at F;cases F
 have G:=Ce a8;have T:=Ce aE;refine⟨_,_,_,hk,aP,λA O w vs ai o hO ba aj ar=>?_⟩;obtain⟨v,_,rfl,a6,v1,_,rfl,⟨aZ,_⟩,u,rest,rfl,aB,aW⟩:=ai;rw[show rest=[] from aW];obtain rfl:v1= .int .i64 j:=by simpa using aZ
 have ab:=js aL o aE aB;obtain⟨_,H,a7,_⟩:=a6;cases a7;obtain⟨_,U,aY,_⟩:=aB;cases aY;obtain⟨v0,aD,af,aO⟩:=o.al r _ G;rw[H] at aD;cases aD;obtain⟨bd,aA,aU,bb⟩:=o.al m _ T;rw[U] at aA;cases aA;obtain⟨O1,L⟩: ∃O1,O1=dm A [m] O:=⟨_,rfl⟩;have ab:(S.ty e).slice.is O1 w u ys:=by rw[L];exact ab
 have ah:Dc.Sub O1 O:=by rw[L];exact eE
 have a1: ∀g,bS v=some g->g∈O1:=by
  intro g M;rw[L,hG];refine⟨aO g M,λaa ag p hp=>?_⟩;have:aa=m:=by simpa using ag
  subst this;exact o.dj r aa _ _ v p g F G T H hp M
 have aV:Dc.Own (S.ty e) e 0 O1 w v xs:=by
  have af:Dc.Own (S.ty e) e 0 O w v xs:=af;obtain⟨cs,h1,l⟩:=af.ex;exact⟨⟨cs,h1,l.tr (Tr.less ah)⟩,λg M=>a1 g (fB M)⟩
 refine(aK O1 w v u xs ys zs j (λb a=>hO b (ah b a)) aV ab (Dc.Own.plain aU) a_).mono ?_;rintro a' w' ⟨s,D,rfl,t⟩;obtain⟨A',J⟩: ∃A':Pl,A'=⟨λi=>bif ρ i h.length then some s else A.pl i,A.ls⟩:=⟨_,rfl⟩;have E: ∀i,i≠h.length->A'.pl i=A.pl i:=λi hi=>by
  rw[J];have:ρ i h.length=false:=by
   cases a:ρ i h.length with
   |false=>rfl
   |true=>exact absurd (ξ a) hi
  simp only[this,cond_false]
 have I:A'.pl h.length=some s:=by rw[J];simp
 have hle:A.le A':=⟨λi p hp=>by
  rw[E i (λe=>by subst e;rw[aj _ (ξ5 _)] at hp;cases hp)];exact hp,by rw[J]⟩
 have x: ∀b,bS v≠some b->v.ownBlock≠some b:=λb a ai=>a (fB ai);have ax: ∀b,b<w.heap.size->bS v≠some b->w'.heap[b]? =w.heap[b]? :=λb a hn=>t.fr b a (x b hn);have ao: ∀b,b∈O->bS u≠some b->b∈D:=λb a hn=>t.sub b (by
  rw[L,hG];refine⟨a,λaa ag p hp=>?_⟩;have:aa=m:=by simpa using ag
  subst this;rw[U] at hp;cases hp;exact hn)
 have az:Tr O w D w':=(Tr.less ah).trans t.tr;have ak: ∀b,bS s=some b->s.ownBlock=some b/\b∈D:=by
  intro b a;have x:s.ownBlock=some b:=by
   rcases hd t.own with⟨B,_⟩|⟨aF,c,B⟩
   ·rw[B] at a;cases a
   ·rw[B] at a ⊢;cases a;rfl
  exact⟨x,t.own.mem b x⟩
 have ae: ∀b,b<w.heap.size->bS v≠some b->bS s≠some b:=λb a hn h'=>t.ne b a (x b hn) (ak b h').1;have aT:s.oneCell'=true:=by
  rcases hd t.own with⟨B,_⟩|⟨aF,c,B⟩<;>rw[B]<;>rfl
 have hlen:((h.set r none).set m none).length=h.length:=by simp
 have C: ∀ {i:Nat} {X:Ob S},aC ((h.set r none).set m none++[some (.row e zs)]) i=some X->(i≠r/\i≠m/\aC h i=some X)\/(i=h.length/\X= .row e zs):=by
  intro i X hi;rcases jI hi with h1|⟨h1,l⟩
  ·obtain⟨n,aH⟩:=EA h1;obtain⟨aI,aJ⟩:=EA aH;exact .inl ⟨aI,n,aJ⟩
  ·exact .inr ⟨h1.trans hlen,l⟩
 have au: ∀i X,aC ((h.set r none).set m none++[some (.row e zs)]) i=some X->X.nt=true:=λi X hi=>by
  rcases C hi with⟨_,_,h1⟩|⟨_,rfl⟩
  ·exact ar i X h1
  ·rfl
 refine⟨A',D,⟨s,rfl,⟨s,I,rfl,aT⟩⟩,⟨bK.qj au ?_ ?_,t.ob,az,λi hi=>E i (by omega),(λj Q=>?_),by rw[J],by simp,?_,?_,λi X _=>au i X⟩⟩
 ·intro i X hi;rcases C hi with⟨N,aQ,h1⟩|⟨rfl,rfl⟩
  ·obtain⟨p,hp,aM,a⟩:=o.al i X h1;have aR:=fa h1;have aq: ∀b,bS p=some b->b∈D:=λb d=>ao b (a b d) (λaX=>o.dj i m _ _ p u b aQ h1 T hp U d aX);exact⟨p,by rw[E i (by omega)];exact hp,aM.keep az hle λb d=>have d:=eN (ar i X h1) d;⟨ax b (hO b (a b d)) (λx=>o.dj i r _ _ p v b N h1 G hp H d x),aq b d⟩,aq⟩
  ·exact⟨s,I,t.own,λb a=>(ak b a).2⟩
 ·intro i j X Y p q b an hi Q hp V d W;have Z: ∀ {i:Nat} {X:Ob S} {p:Value},i≠r->aC h i=some X->A'.pl i=some p->bS p=some b->b<w.heap.size/\A.pl i=some p/\bS v≠some b:=by
   intro i X p aG h1 l n;have aR:=fa h1;rw[E i (by omega)] at l;obtain⟨bc,aw,_,a⟩:=o.al i X h1;rw[l] at aw;cases aw;exact⟨hO b (a b n),l,λx=>o.dj i r _ _ p v b aG h1 G l H n x⟩
  rcases C hi with⟨N,_,h1⟩|⟨rfl,rfl⟩
  ·rcases C Q with⟨ad,_,l⟩|⟨rfl,rfl⟩
   ·exact o.dj i j X Y p q b an h1 l (Z N h1 hp d).2.1 (Z ad l V W).2.1 d W
   ·rw[I] at V;cases V;have n:=Z N h1 hp d;exact ae b n.1 n.2.2 W
  ·rcases C Q with⟨ad,_,l⟩|⟨rfl,rfl⟩
   ·rw[I] at hp;cases hp;have n:=Z ad l V W;exact ae b n.1 n.2.2 d
   ·exact absurd rfl an
 ·have:j=r\/j=m:=by simpa using Q
  rcases this with rfl|rfl
  ·exact fa G
  ·exact fa T
 ·intro i hi;simp at hi;rw[E i (by omega)];exact aj i (by omega)
 ·intro b a hn;have av:=hn r (by simp) v H;have aS:=hn m (by simp) u U;refine⟨ax b (hO b a) av,ao b a aS,λi X p hi aN hp d=>?_⟩;rcases C aN with⟨_,_,h1⟩|⟨rfl,rfl⟩
  ·have:=fa h1;omega
  ·rw[I] at hp;cases hp;exact ae b (hO b a) av (eN rfl d)
end
end Go.Vx
end
section
namespace Go.Proofs.YtoggponeookhbaaGreatDoor
open Go.Dc
structure ah where
 aa:Int
 aW:Int
 bp:Bool
 cg:Int
 deriving DecidableEq
structure bI where
 aM:Γa
 ag:List ah
 deriving DecidableEq
structure aj where
 aa:Int
 bF:Int
 cp:Int
 deriving DecidableEq
structure av where
 bl:Int
 a6:Int
 deriving DecidableEq
structure bR where
 ag:List av
 bm:Int
 deriving DecidableEq
structure aw where
 bb:Int
 aa:Int
 deriving DecidableEq
structure aq where
 aa:Int
 bc:Γa
 deriving DecidableEq
structure aO where
 ax:List aw
 au:List aq
 deriving DecidableEq
structure aZ where
 az:bI
 aQ:List aj
 aF:bR
 aA:aO
 deriving DecidableEq
structure cJ where
 bq:Int
 fArgs:Γa
 deriving DecidableEq
structure cV where
 cb:Int
 cv:Int
 deriving DecidableEq
structure ja where
 gD:List ByteArray
 pY:Int
 deriving DecidableEq
structure ae where
 cx:Int
 bU:cJ
 bZ:cV
 bz:Int
 aL:Int
 bj:Int
 deriving DecidableEq
structure cK where
 cC:List ae
 deriving DecidableEq
def tT:ah:=⟨1,0,false,0⟩
def fi (x y:cV):Bool:=(x.cb==y.cb)&&(x.cv==y.cv)
def fP (x y:ah):Bool:=(x.aa==y.aa)&&(x.aW==y.aW)&&(x.bp==y.bp)&&(x.cg==y.cg)
def hB (x y:aj):Bool:=(x.aa==y.aa)&&(x.bF==y.bF)&&(x.cp==y.cp)
def ju (x y:av):Bool:=(x.bl==y.bl)&&(x.a6==y.a6)
def jv (x y:aw):Bool:=(x.bb==y.bb)&&(x.aa==y.aa)
end Go.Proofs.YtoggponeookhbaaGreatDoor
end
section
namespace Go.Proofs.YtoggponeookhbaaGreatDoor
open Go.RowKit Go.Dc Go.Vx
def ra (n:Nat) (v:Value):Array Value:=(ψ n v).toArray
def rb (l:Γb) (n:Nat) (v:Value) (r:Γb):Array Value:=(l++(ψ n v++r)).toArray
def Θ:cG:=[(2,⟨2,3,0,[],1,8,.int .i64 0⟩),(3,⟨2,3,0,[],1,8,.int .i64 0⟩),(4,⟨1,0,0,[],1,1,.bool false⟩),(5,⟨2,4,0,[],1,1,.int .u8 0⟩),(6,⟨2,4,0,[],1,1,.int .u8 0⟩),(7,⟨8,0,0,[(2,0),(3,1),(4,2),(6,3)],4,24,.agg #[.int .i64 0,.int .i64 0,.bool false,.int .u8 0]⟩),(8,⟨8,0,0,[(2,0),(3,1),(4,2),(6,3)],4,24,.agg #[.int .i64 0,.int .i64 0,.bool false,.int .u8 0]⟩),(9,⟨3,0,0,[],1,16,.string ω⟩),(10,⟨3,0,0,[],1,16,.string ω⟩),(11,⟨3,0,0,[],1,16,.string ω⟩),(12,⟨2,7,0,[],1,8,.int .u64 0⟩),(13,⟨8,0,0,[(9,0),(12,1)],2,24,.agg #[.string ω,.int .u64 0]⟩),(14,⟨8,0,0,[(9,0),(12,1)],2,24,.agg #[.string ω,.int .u64 0]⟩),(15,⟨4,0,351,[],1,8,.pointer none⟩),(16,⟨4,0,354,[],1,8,.pointer none⟩),(17,⟨4,0,361,[],1,8,.pointer none⟩),(18,⟨8,0,0,[(17,0)],1,8,.agg #[.pointer none]⟩),(19,⟨8,0,0,[(17,0)],1,8,.agg #[.pointer none]⟩),(20,⟨10,0,0,[],1,16,.nilIface⟩),(21,⟨2,2,0,[],1,4,.int .i32 0⟩),(22,⟨5,0,42,[],1,24,.slice none 0 0⟩),(23,⟨8,0,0,[(22,0)],1,24,.agg #[.slice none 0 0]⟩),(24,⟨8,0,0,[(22,0)],1,24,.agg #[.slice none 0 0]⟩),(25,⟨9,0,0,[],1,8,.nilFunc⟩),(27,⟨2,3,0,[],1,8,.int .i64 0⟩),(31,⟨5,0,3,[],1,24,.slice none 0 0⟩),(34,⟨2,7,0,[],1,8,.int .u64 0⟩),(35,⟨2,7,0,[],1,8,.int .u64 0⟩),(36,⟨6,4,35,[],4,32,.agg (rb [] 4 (.int .u64 0) [])⟩),(37,⟨8,0,0,[(35,0),(36,1)],5,40,.agg (ra 5 (.int .u64 0))⟩),(38,⟨8,0,0,[(35,0),(36,1)],5,40,.agg (ra 5 (.int .u64 0))⟩),(39,⟨8,0,0,[(27,0),(35,1)],2,16,.agg #[.int .i64 0,.int .u64 0]⟩),(40,⟨8,0,0,[(27,0),(35,1)],2,16,.agg #[.int .i64 0,.int .u64 0]⟩),(41,⟨8,0,0,[(3,0),(38,1),(40,6),(3,8),(3,9),(3,10)],11,88,.agg (rb [.int .i64 0] 5 (.int .u64 0) [.int .i64 0,.int .u64 0,.int .i64 0,.int .i64 0,.int .i64 0])⟩),(42,⟨8,0,0,[(3,0),(38,1),(40,6),(3,8),(3,9),(3,10)],11,88,.agg (rb [.int .i64 0] 5 (.int .u64 0) [.int .i64 0,.int .u64 0,.int .i64 0,.int .i64 0,.int .i64 0])⟩),(47,⟨6,16,3,[],16,128,.agg (ra 16 (.int .i64 0))⟩),(48,⟨5,0,115,[],1,24,.slice none 0 0⟩),(49,⟨8,0,0,[(47,0),(48,16)],17,152,.agg (rb [] 16 (.int .i64 0) [.slice none 0 0])⟩),(50,⟨8,0,0,[(47,0),(48,16)],17,152,.agg (rb [] 16 (.int .i64 0) [.slice none 0 0])⟩),(51,⟨5,0,105,[],1,24,.slice none 0 0⟩),(52,⟨5,0,122,[],1,24,.slice none 0 0⟩),(53,⟨8,0,0,[(52,0),(35,1)],2,32,.agg #[.slice none 0 0,.int .u64 0]⟩),(54,⟨8,0,0,[(52,0),(35,1)],2,32,.agg #[.slice none 0 0,.int .u64 0]⟩),(55,⟨5,0,127,[],1,24,.slice none 0 0⟩),(56,⟨5,0,132,[],1,24,.slice none 0 0⟩),(57,⟨8,0,0,[(55,0),(56,1)],2,48,.agg #[.slice none 0 0,.slice none 0 0]⟩),(58,⟨8,0,0,[(55,0),(56,1)],2,48,.agg #[.slice none 0 0,.slice none 0 0]⟩),(59,⟨8,0,0,[(50,0),(51,17),(54,18),(58,20)],22,256,.agg (rb [] 16 (.int .i64 0) [.slice none 0 0,.slice none 0 0,.slice none 0 0,.int .u64 0,.slice none 0 0,.slice none 0 0])⟩),(60,⟨8,0,0,[(50,0),(51,17),(54,18),(58,20)],22,256,.agg (rb [] 16 (.int .i64 0) [.slice none 0 0,.slice none 0 0,.slice none 0 0,.int .u64 0,.slice none 0 0,.slice none 0 0])⟩),(64,⟨5,0,38,[],1,24,.slice none 0 0⟩),(73,⟨4,0,77,[],1,8,.pointer none⟩),(74,⟨6,64,4,[],64,64,.agg (ra 64 (.bool false))⟩),(75,⟨6,64,4,[],64,64,.agg (ra 64 (.bool false))⟩),(76,⟨8,0,0,[(24,0),(75,1)],65,88,.agg (rb [.slice none 0 0] 64 (.bool false) [])⟩),(77,⟨8,0,0,[(24,0),(75,1)],65,88,.agg (rb [.slice none 0 0] 64 (.bool false) [])⟩),(78,⟨9,0,0,[],1,8,.nilFunc⟩),(79,⟨9,0,0,[],1,8,.nilFunc⟩),(80,⟨9,0,0,[],1,8,.nilFunc⟩),(84,⟨9,0,0,[],1,8,.nilFunc⟩),(86,⟨5,0,31,[],1,24,.slice none 0 0⟩),(89,⟨5,0,60,[],1,24,.slice none 0 0⟩),(95,⟨9,0,0,[],1,8,.nilFunc⟩),(104,⟨8,0,0,[(35,0),(3,1),(35,2)],3,24,.agg #[.int .u64 0,.int .i64 0,.int .u64 0]⟩),(105,⟨8,0,0,[(35,0),(3,1),(35,2)],3,24,.agg #[.int .u64 0,.int .i64 0,.int .u64 0]⟩),(109,⟨7,3,3,[],1,8,.map none⟩),(110,⟨9,0,0,[],1,8,.nilFunc⟩),(114,⟨8,0,0,[(35,0),(35,1),(4,2),(35,3)],4,32,.agg #[.int .u64 0,.int .u64 0,.bool false,.int .u64 0]⟩),(115,⟨8,0,0,[(35,0),(35,1),(4,2),(35,3)],4,32,.agg #[.int .u64 0,.int .u64 0,.bool false,.int .u64 0]⟩),(120,⟨7,35,3,[],1,8,.map none⟩),(121,⟨8,0,0,[(35,0),(35,1)],2,16,.agg #[.int .u64 0,.int .u64 0]⟩),(122,⟨8,0,0,[(35,0),(35,1)],2,16,.agg #[.int .u64 0,.int .u64 0]⟩),(124,⟨9,0,0,[],1,8,.nilFunc⟩),(126,⟨8,0,0,[(35,0),(35,1)],2,16,.agg #[.int .u64 0,.int .u64 0]⟩),(127,⟨8,0,0,[(35,0),(35,1)],2,16,.agg #[.int .u64 0,.int .u64 0]⟩),(128,⟨9,0,0,[],1,8,.nilFunc⟩),(130,⟨5,0,35,[],1,24,.slice none 0 0⟩),(131,⟨8,0,0,[(35,0),(130,1)],2,32,.agg #[.int .u64 0,.slice none 0 0]⟩),(132,⟨8,0,0,[(35,0),(130,1)],2,32,.agg #[.int .u64 0,.slice none 0 0]⟩),(133,⟨9,0,0,[],1,8,.nilFunc⟩),(138,⟨4,0,140,[],1,8,.pointer none⟩),(139,⟨8,0,0,[(60,0),(36,22)],26,288,.agg (rb [] 16 (.int .i64 0) [.slice none 0 0,.slice none 0 0,.slice none 0 0,.int .u64 0,.slice none 0 0,.slice none 0 0,.int .u64 0,.int .u64 0,.int .u64 0,.int .u64 0])⟩),(140,⟨8,0,0,[(60,0),(36,22)],26,288,.agg (rb [] 16 (.int .i64 0) [.slice none 0 0,.slice none 0 0,.slice none 0 0,.int .u64 0,.slice none 0 0,.slice none 0 0,.int .u64 0,.int .u64 0,.int .u64 0,.int .u64 0])⟩),(141,⟨9,0,0,[],1,8,.nilFunc⟩),(142,⟨6,15,141,[],15,120,.agg #[.nilFunc,.nilFunc,.nilFunc,.nilFunc,.nilFunc,.nilFunc,.nilFunc,.nilFunc,.nilFunc,.nilFunc,.nilFunc,.nilFunc,.nilFunc,.nilFunc,.nilFunc]⟩),(154,⟨9,0,0,[],1,8,.nilFunc⟩),(158,⟨4,0,160,[],1,8,.pointer none⟩),(159,⟨8,0,0,[(50,0)],17,152,.agg (rb [] 16 (.int .i64 0) [.slice none 0 0])⟩),(160,⟨8,0,0,[(50,0)],17,152,.agg (rb [] 16 (.int .i64 0) [.slice none 0 0])⟩),(161,⟨4,0,115,[],1,8,.pointer none⟩),(163,⟨9,0,0,[],1,8,.nilFunc⟩),(165,⟨9,0,0,[],1,8,.nilFunc⟩),(166,⟨9,0,0,[],1,8,.nilFunc⟩),(169,⟨9,0,0,[],1,8,.nilFunc⟩),(171,⟨7,35,35,[],1,8,.map none⟩),(180,⟨2,3,0,[],1,8,.int .i64 0⟩),(187,⟨2,6,0,[],1,4,.int .u32 0⟩),(189,⟨9,0,0,[],1,8,.nilFunc⟩),(192,⟨5,0,9,[],1,24,.slice none 0 0⟩),(193,⟨5,0,9,[],1,24,.slice none 0 0⟩),(194,⟨8,0,0,[(193,0),(35,1)],2,32,.agg #[.slice none 0 0,.int .u64 0]⟩),(195,⟨8,0,0,[(193,0),(35,1)],2,32,.agg #[.slice none 0 0,.int .u64 0]⟩),(236,⟨2,7,0,[],1,8,.int .u64 0⟩),(239,⟨4,0,3,[],1,8,.pointer none⟩),(241,⟨9,0,0,[],1,8,.nilFunc⟩),(242,⟨9,0,0,[],1,8,.nilFunc⟩),(244,⟨9,0,0,[],1,8,.nilFunc⟩),(247,⟨5,0,5,[],1,24,.slice none 0 0⟩),(251,⟨9,0,0,[],1,8,.nilFunc⟩),(253,⟨9,0,0,[],1,8,.nilFunc⟩),(254,⟨9,0,0,[],1,8,.nilFunc⟩),(255,⟨9,0,0,[],1,8,.nilFunc⟩),(258,⟨4,0,262,[],1,8,.pointer none⟩),(261,⟨8,0,0,[(58,0)],2,48,.agg #[.slice none 0 0,.slice none 0 0]⟩),(262,⟨8,0,0,[(58,0)],2,48,.agg #[.slice none 0 0,.slice none 0 0]⟩),(267,⟨6,8,4,[],8,8,.agg (ra 8 (.bool false))⟩),(268,⟨9,0,0,[],1,8,.nilFunc⟩),(269,⟨9,0,0,[],1,8,.nilFunc⟩),(272,⟨5,0,4,[],1,24,.slice none 0 0⟩),(276,⟨9,0,0,[],1,8,.nilFunc⟩),(277,⟨9,0,0,[],1,8,.nilFunc⟩),(280,⟨9,0,0,[],1,8,.nilFunc⟩),(284,⟨9,0,0,[],1,8,.nilFunc⟩),(295,⟨4,0,236,[],1,8,.pointer none⟩),(303,⟨6,8,5,[],8,8,.agg (ra 8 (.int .u8 0))⟩),(311,⟨9,0,0,[],1,8,.nilFunc⟩),(319,⟨4,0,321,[],1,8,.pointer none⟩),(320,⟨8,0,0,[(319,0),(247,1)],2,32,.agg #[.pointer none,.slice none 0 0]⟩),(321,⟨8,0,0,[(319,0),(247,1)],2,32,.agg #[.pointer none,.slice none 0 0]⟩),(323,⟨10,0,0,[],1,16,.nilIface⟩),(324,⟨10,0,0,[],1,16,.nilIface⟩),(330,⟨9,0,0,[],1,8,.nilFunc⟩),(336,⟨4,0,5,[],1,8,.pointer none⟩),(339,⟨9,0,0,[],1,8,.nilFunc⟩),(345,⟨0,0,0,[],1,8,.pointer none⟩),(350,⟨8,0,0,[(17,0),(17,1),(17,2),(9,3)],4,40,.agg #[.pointer none,.pointer none,.pointer none,.string ω]⟩),(351,⟨8,0,0,[(17,0),(17,1),(17,2),(9,3)],4,40,.agg #[.pointer none,.pointer none,.pointer none,.string ω]⟩),(352,⟨6,0,16,[],0,0,.agg #[]⟩),(353,⟨8,0,0,[(352,0)],0,0,.agg #[]⟩),(354,⟨8,0,0,[(352,0)],0,0,.agg #[]⟩),(355,⟨2,4,0,[],1,1,.int .u8 0⟩),(356,⟨2,4,0,[],1,1,.int .u8 0⟩),(357,⟨9,0,0,[],1,8,.nilFunc⟩),(358,⟨2,2,0,[],1,4,.int .i32 0⟩),(359,⟨2,2,0,[],1,4,.int .i32 0⟩),(360,⟨8,0,0,[(12,0),(12,1),(187,2),(355,3),(5,4),(5,5),(356,6),(357,7),(336,8),(358,9),(359,10)],11,48,.agg #[.int .u64 0,.int .u64 0,.int .u32 0,.int .u8 0,.int .u8 0,.int .u8 0,.int .u8 0,.nilFunc,.pointer none,.int .i32 0,.int .i32 0]⟩),(361,⟨8,0,0,[(12,0),(12,1),(187,2),(355,3),(5,4),(5,5),(356,6),(357,7),(336,8),(358,9),(359,10)],11,48,.agg #[.int .u64 0,.int .u64 0,.int .u32 0,.int .u8 0,.int .u8 0,.int .u8 0,.int .u8 0,.nilFunc,.pointer none,.int .i32 0,.int .i32 0]⟩)]
theorem ai:Θ.ok γ:=by repeat' (first|exact trivial|refine⟨⟨by kernel_rfl,by kernel_rfl⟩,?_⟩)
theorem mixed:γ.follows .mixedOrders=true:=by kernel_rfl
def gO:Ty ah:=(Ty.pair (Ty.int .u64) (Ty.pair (Ty.int .u64) (Ty.pair Ty.bool (Ty.int .u64)))).fm λd=>(d.aa,d.aW,d.bp,d.cg)
def wP:Ty bI:=(Ty.pair (jh .i64 16) (Ty.slice gO)).fm λd=>(d.aM,d.ag)
def h7:Ty aj:=(Ty.pair (Ty.int .u64) (Ty.pair (Ty.int .i64) (Ty.int .u64))).fm λd=>(d.aa,d.bF,d.cp)
def kV:Ty av:=(Ty.pair (Ty.int .u64) (Ty.int .u64)).fm λd=>(d.bl,d.a6)
def wN:Ty bR:=(Ty.pair (Ty.slice kV) (Ty.int .u64)).fm λd=>(d.ag,d.bm)
def dW:Ty aw:=(Ty.pair (Ty.int .u64) (Ty.int .u64)).fm λd=>(d.bb,d.aa)
def iW:Ty aq:=(Ty.pair (Ty.int .u64) (Ty.slice (Ty.int .u64))).fm λd=>(d.aa,d.bc)
def fW:Ty aO:=(Ty.pair (Ty.slice dW) (Ty.slice iW)).fm λd=>(d.ax,d.au)
def wQ:Ty aZ:=(Ty.pair wP (Ty.pair (Ty.slice h7) (Ty.pair wN fW))).fm λd=>(d.az,d.aQ,d.aF,d.aA)
def iX:Ty cJ:=(Ty.pair (Ty.int .u64) (jh .u64 4)).fm λd=>(d.bq,d.fArgs)
def jV:Ty cV:=(Ty.pair (Ty.int .i64) (Ty.int .u64)).fm λd=>(d.cb,d.cv)
def FZ:Ty ja:=(Ty.pair (Ty.slice Ty.str) (Ty.int .u64)).fm λd=>(d.gD,d.pY)
def e7:Ty ae:=(Ty.pair (Ty.int .i64) (Ty.pair iX (Ty.pair jV (Ty.pair (Ty.int .i64) (Ty.pair (Ty.int .i64) (Ty.int .i64)))))).fm λd=>(d.cx,d.bU,d.bZ,d.bz,d.aL,d.bj)
def qT:Ty cK:=(Ty.single (Ty.slice e7)).fm λd=>d.cC
def Ee:Ty Unit:= {agg:=false,n:=1,rep:=λ_ _ _ _=>False,tr:=λ_ h=>h,len:=λh=>h.elim,one:=λh=>h.elim,fv:=λ_=>rfl}
def qS (t:Nat):(α:Type)×Ty α:=match t with
 |3=>⟨Int,(Ty.int .i64)⟩
 |4=>⟨Bool,Ty.bool⟩
 |5=>⟨Int,(Ty.int .u8)⟩
 |9=>⟨ByteArray,Ty.str⟩
 |21=>⟨Int,(Ty.int .i32)⟩
 |22=>⟨List ae,(Ty.slice e7)⟩
 |24=>⟨cK,qT⟩
 |27=>⟨Int,(Ty.int .i64)⟩
 |31=>⟨Γa,(Ty.slice (Ty.int .i64))⟩
 |35=>⟨Int,(Ty.int .u64)⟩
 |36=>⟨Γa,(jh .u64 4)⟩
 |38=>⟨cJ,iX⟩
 |40=>⟨cV,jV⟩
 |42=>⟨ae,e7⟩
 |47=>⟨Γa,(jh .i64 16)⟩
 |48=>⟨List ah,(Ty.slice gO)⟩
 |50=>⟨bI,wP⟩
 |51=>⟨List aj,(Ty.slice h7)⟩
 |52=>⟨List av,(Ty.slice kV)⟩
 |54=>⟨bR,wN⟩
 |55=>⟨List aw,(Ty.slice dW)⟩
 |56=>⟨List aq,(Ty.slice iW)⟩
 |58=>⟨aO,fW⟩
 |60=>⟨aZ,wQ⟩
 |64=>⟨List cJ,(Ty.slice iX)⟩
 |89=>⟨List aZ,(Ty.slice wQ)⟩
 |105=>⟨aj,h7⟩
 |115=>⟨ah,gO⟩
 |122=>⟨av,kV⟩
 |127=>⟨aw,dW⟩
 |130=>⟨Γa,(Ty.slice (Ty.int .u64))⟩
 |132=>⟨aq,iW⟩
 |192=>⟨List ByteArray,(Ty.slice Ty.str)⟩
 |193=>⟨List ByteArray,(Ty.slice Ty.str)⟩
 |195=>⟨ja,FZ⟩
 |_=>⟨Unit,Ee⟩
abbrev SS:bo:=⟨λt=>(qS t).1,λt=>(qS t).2⟩
def FP (t:Nat):Option (sQ SS t):=match t with
 |22=>some ⟨42,id,id⟩
 |31=>some ⟨3,id,id⟩
 |48=>some ⟨115,id,id⟩
 |51=>some ⟨105,id,id⟩
 |52=>some ⟨122,id,id⟩
 |55=>some ⟨127,id,id⟩
 |56=>some ⟨132,id,id⟩
 |64=>some ⟨38,id,id⟩
 |89=>some ⟨60,id,id⟩
 |130=>some ⟨35,id,id⟩
 |192=>some ⟨9,id,id⟩
 |193=>some ⟨9,id,id⟩
 |_=>none
def Fw (e:Nat):Option (sf SS e):=match e with
 |42=>some ⟨22,id⟩
 |3=>some ⟨31,id⟩
 |115=>some ⟨48,id⟩
 |105=>some ⟨51,id⟩
 |122=>some ⟨52,id⟩
 |127=>some ⟨55,id⟩
 |132=>some ⟨56,id⟩
 |38=>some ⟨64,id⟩
 |60=>some ⟨89,id⟩
 |35=>some ⟨130,id⟩
 |9=>some ⟨192,id⟩
 |_=>none
def M7:(t:Nat)->SS.El t->ay SS:=λt=>match t with
 |3=>λx=>.one (.v (.int .i64 x))
 |4=>λx=>.one (.v (.bool x))
 |5=>λx=>.one (.v (.int .u8 x))
 |9=>λx=>.one (.v (.string x))
 |21=>λx=>.one (.v (.int .i32 x))
 |22=>λx=>.one (.ao 22 x)
 |24=>λx=>.agg [.ao 22 x.cC]
 |27=>λx=>.one (.v (.int .i64 x))
 |31=>λx=>.one (.ao 31 x)
 |35=>λx=>.one (.v (.int .u64 x))
 |36=>λx=>.agg [.bu .u64 4 x]
 |38=>λx=>.agg [.v (.int .u64 x.bq),.bu .u64 4 x.fArgs]
 |40=>λx=>.agg [.v (.int .i64 x.cb),.v (.int .u64 x.cv)]
 |42=>λx=>.agg [.v (.int .i64 x.cx),.v (.int .u64 x.bU.bq),.bu .u64 4 x.bU.fArgs,.v (.int .i64 x.bZ.cb),.v (.int .u64 x.bZ.cv),.v (.int .i64 x.bz),.v (.int .i64 x.aL),.v (.int .i64 x.bj)]
 |47=>λx=>.agg [.bu .i64 16 x]
 |48=>λx=>.one (.ao 48 x)
 |50=>λx=>.agg [.bu .i64 16 x.aM,.ao 48 x.ag]
 |51=>λx=>.one (.ao 51 x)
 |52=>λx=>.one (.ao 52 x)
 |54=>λx=>.agg [.ao 52 x.ag,.v (.int .u64 x.bm)]
 |55=>λx=>.one (.ao 55 x)
 |56=>λx=>.one (.ao 56 x)
 |58=>λx=>.agg [.ao 55 x.ax,.ao 56 x.au]
 |60=>λx=>.agg [.bu .i64 16 x.az.aM,.ao 48 x.az.ag,.ao 51 x.aQ,.ao 52 x.aF.ag,.v (.int .u64 x.aF.bm),.ao 55 x.aA.ax,.ao 56 x.aA.au]
 |64=>λx=>.one (.ao 64 x)
 |89=>λx=>.one (.ao 89 x)
 |105=>λx=>.agg [.v (.int .u64 x.aa),.v (.int .i64 x.bF),.v (.int .u64 x.cp)]
 |115=>λx=>.agg [.v (.int .u64 x.aa),.v (.int .u64 x.aW),.v (.bool x.bp),.v (.int .u64 x.cg)]
 |122=>λx=>.agg [.v (.int .u64 x.bl),.v (.int .u64 x.a6)]
 |127=>λx=>.agg [.v (.int .u64 x.bb),.v (.int .u64 x.aa)]
 |130=>λx=>.one (.ao 130 x)
 |132=>λx=>.agg [.v (.int .u64 x.aa),.ao 130 x.bc]
 |192=>λx=>.one (.ao 192 x)
 |193=>λx=>.one (.ao 192 x)
 |195=>λx=>.agg [.ao 192 x.gD,.v (.int .u64 x.pY)]
 |t=>λx=>.one (.ao t x)
theorem aa6:dR (S:=SS) gO λx=>[.v (.int .u64 x.aa),.v (.int .u64 x.aW),.v (.bool x.bp),.v (.int .u64 x.cg)]:=gK (eF ee (eF ee (eF M5 ee)))
def wb:List (LV SS)->Option (ah×List (LV SS)):=fU (rdPair (dO .u64) (rdPair (dO .u64) (rdPair v8 (dO .u64)))) (λ(a0,a,a2,a3)=>⟨a0,a,a2,a3⟩)
theorem Fi:dL (S:=SS) gO wb:=gL (eH eg (eH eg (eH NR eg))) λ_=>rfl
theorem M3:dR (S:=SS) wP λx=>[.bu .i64 16 x.aM,.ao 48 x.ag]:=gK (eF vI (e4 (S:=SS) (t:=48) rfl))
def Fb:List (LV SS)->Option (bI×List (LV SS)):=fU (rdPair (kP .i64 16) (eG (S:=SS) 48 (some ([]:List ah)))) (λ(a0,a)=>⟨a0,a⟩)
theorem NQ:dL (S:=SS) wP Fb:=gL (eH n9 (e6 (S:=SS) (t:=48) λx a O w=>by cases a;exact e3 O w)) λ_=>rfl
theorem aa1:dR (S:=SS) h7 λx=>[.v (.int .u64 x.aa),.v (.int .i64 x.bF),.v (.int .u64 x.cp)]:=gK (eF ee (eF ee ee))
def v_:List (LV SS)->Option (aj×List (LV SS)):=fU (rdPair (dO .u64) (rdPair (dO .i64) (dO .u64))) (λ(a0,a,a2)=>⟨a0,a,a2⟩)
theorem Ff:dL (S:=SS) h7 v_:=gL (eH eg (eH eg eg)) λ_=>rfl
theorem aa3:dR (S:=SS) kV λx=>[.v (.int .u64 x.bl),.v (.int .u64 x.a6)]:=gK (eF ee ee)
def v':List (LV SS)->Option (av×List (LV SS)):=fU (rdPair (dO .u64) (dO .u64)) (λ(a0,a)=>⟨a0,a⟩)
theorem Fg:dL (S:=SS) kV v':=gL (eH eg eg) λ_=>rfl
theorem M1:dR (S:=SS) wN λx=>[.ao 52 x.ag,.v (.int .u64 x.bm)]:=gK (eF (e4 (S:=SS) (t:=52) rfl) ee)
def Fa:List (LV SS)->Option (bR×List (LV SS)):=fU (rdPair (eG (S:=SS) 52 (some ([]:List av))) (dO .u64)) (λ(a0,a)=>⟨a0,a⟩)
theorem NO:dL (S:=SS) wN Fa:=gL (eH (e6 (S:=SS) (t:=52) λx a O w=>by cases a;exact e3 O w) eg) λ_=>rfl
theorem aa4:dR (S:=SS) dW λx=>[.v (.int .u64 x.bb),.v (.int .u64 x.aa)]:=gK (eF ee ee)
def wa:List (LV SS)->Option (aw×List (LV SS)):=fU (rdPair (dO .u64) (dO .u64)) (λ(a0,a)=>⟨a0,a⟩)
theorem Fh:dL (S:=SS) dW wa:=gL (eH eg eg) λ_=>rfl
theorem aaZ:dR (S:=SS) iW λx=>[.v (.int .u64 x.aa),.ao 130 x.bc]:=gK (eF ee (e4 (S:=SS) (t:=130) rfl))
def NH:List (LV SS)->Option (aq×List (LV SS)):=fU (rdPair (dO .u64) (eG (S:=SS) 130 (some ([]:Γa)))) (λ(a0,a)=>⟨a0,a⟩)
theorem ac8:dL (S:=SS) iW NH:=gL (eH eg (e6 (S:=SS) (t:=130) λx a O w=>by cases a;exact e3 O w)) λ_=>rfl
theorem M0:dR (S:=SS) fW λx=>[.ao 55 x.ax,.ao 56 x.au]:=gK (eF (e4 (S:=SS) (t:=55) rfl) (e4 (S:=SS) (t:=56) rfl))
def E_:List (LV SS)->Option (aO×List (LV SS)):=fU (rdPair (eG (S:=SS) 55 (some ([]:List aw))) (eG (S:=SS) 56 (some ([]:List aq)))) (λ(a0,a)=>⟨a0,a⟩)
theorem NN:dL (S:=SS) fW E_:=gL (eH (e6 (S:=SS) (t:=55) λx a O w=>by cases a;exact e3 O w) (e6 (S:=SS) (t:=56) λx a O w=>by cases a;exact e3 O w)) λ_=>rfl
theorem aa7:dR (S:=SS) wQ λx=>[.bu .i64 16 x.az.aM,.ao 48 x.az.ag,.ao 51 x.aQ,.ao 52 x.aF.ag,.v (.int .u64 x.aF.bm),.ao 55 x.aA.ax,.ao 56 x.aA.au]:=gK (eF M3 (eF (e4 (S:=SS) (t:=51) rfl) (eF M1 M0)))
def NL:List (LV SS)->Option (aZ×List (LV SS)):=fU (rdPair Fb (rdPair (eG (S:=SS) 51 (some ([]:List aj))) (rdPair Fa E_))) (λ(a0,a,a2,a3)=>⟨a0,a,a2,a3⟩)
theorem ada:dL (S:=SS) wQ NL:=gL (eH NQ (eH (e6 (S:=SS) (t:=51) λx a O w=>by cases a;exact e3 O w) (eH NO NN))) λ_=>rfl
theorem MZ:dR (S:=SS) iX λx=>[.v (.int .u64 x.bq),.bu .u64 4 x.fArgs]:=gK (eF ee vI)
def E9:List (LV SS)->Option (cJ×List (LV SS)):=fU (rdPair (dO .u64) (kP .u64 4)) (λ(a0,a)=>⟨a0,a⟩)
theorem NM:dL (S:=SS) iX E9:=gL (eH eg n9) λ_=>rfl
theorem M4:dR (S:=SS) jV λx=>[.v (.int .i64 x.cb),.v (.int .u64 x.cv)]:=gK (eF ee ee)
def qC:List (LV SS)->Option (cV×List (LV SS)):=fU (rdPair (dO .i64) (dO .u64)) (λ(a0,a)=>⟨a0,a⟩)
theorem wc:dL (S:=SS) jV qC:=gL (eH eg eg) λ_=>rfl
theorem aa5:dR (S:=SS) FZ λx=>[.ao 192 x.gD,.v (.int .u64 x.pY)]:=gK (eF (e4 (S:=SS) (t:=192) rfl) ee)
def NK:List (LV SS)->Option (ja×List (LV SS)):=fU (rdPair (eG (S:=SS) 192 (some ([]:List ByteArray))) (dO .u64)) (λ(a0,a)=>⟨a0,a⟩)
theorem ac':dL (S:=SS) FZ NK:=gL (eH (e6 (S:=SS) (t:=192) λx a O w=>by cases a;exact e3 O w) eg) λ_=>rfl
theorem aa2:dR (S:=SS) e7 λx=>[.v (.int .i64 x.cx),.v (.int .u64 x.bU.bq),.bu .u64 4 x.bU.fArgs,.v (.int .i64 x.bZ.cb),.v (.int .u64 x.bZ.cv),.v (.int .i64 x.bz),.v (.int .i64 x.aL),.v (.int .i64 x.bj)]:=gK (eF ee (eF MZ (eF M4 (eF ee (eF ee ee)))))
def NJ:List (LV SS)->Option (ae×List (LV SS)):=fU (rdPair (dO .i64) (rdPair E9 (rdPair qC (rdPair (dO .i64) (rdPair (dO .i64) (dO .i64)))))) (λ(a0,a,a2,a3,a4,a5)=>⟨a0,a,a2,a3,a4,a5⟩)
theorem ac_:dL (S:=SS) e7 NJ:=gL (eH eg (eH NM (eH wc (eH eg (eH eg eg))))) λ_=>rfl
theorem aa0:dR (S:=SS) qT λx=>[.ao 22 x.cC]:=gK (abb (e4 (S:=SS) (t:=22) rfl))
def NI:List (LV SS)->Option (cK×List (LV SS)):=fU (eG (S:=SS) 22 (some ([]:List ae))) (λa=>⟨a⟩)
theorem ac9:dL (S:=SS) qT NI:=gL (adb (e6 (S:=SS) (t:=22) λx a O w=>by cases a;exact e3 O w)) λ_=>rfl
def B1:(t:Nat)->List (LV SS)->Option (SS.El t):=λt=>match t with
 |3=>λr=>ch ((dO .i64) r)
 |4=>λr=>ch (v8 r)
 |5=>λr=>ch ((dO .u8) r)
 |9=>λr=>ch (Fe r)
 |21=>λr=>ch ((dO .i32) r)
 |22=>λr=>ch ((eG (S:=SS) 22 (some ([]:List ae))) r)
 |24=>λr=>ch (NI r)
 |27=>λr=>ch ((dO .i64) r)
 |31=>λr=>ch ((eG (S:=SS) 31 (some ([]:Γa))) r)
 |35=>λr=>ch ((dO .u64) r)
 |36=>λr=>ch ((kP .u64 4) r)
 |38=>λr=>ch (E9 r)
 |40=>λr=>ch (qC r)
 |42=>λr=>ch (NJ r)
 |47=>λr=>ch ((kP .i64 16) r)
 |48=>λr=>ch ((eG (S:=SS) 48 (some ([]:List ah))) r)
 |50=>λr=>ch (Fb r)
 |51=>λr=>ch ((eG (S:=SS) 51 (some ([]:List aj))) r)
 |52=>λr=>ch ((eG (S:=SS) 52 (some ([]:List av))) r)
 |54=>λr=>ch (Fa r)
 |55=>λr=>ch ((eG (S:=SS) 55 (some ([]:List aw))) r)
 |56=>λr=>ch ((eG (S:=SS) 56 (some ([]:List aq))) r)
 |58=>λr=>ch (E_ r)
 |60=>λr=>ch (NL r)
 |64=>λr=>ch ((eG (S:=SS) 64 (some ([]:List cJ))) r)
 |89=>λr=>ch ((eG (S:=SS) 89 (some ([]:List aZ))) r)
 |105=>λr=>ch (v_ r)
 |115=>λr=>ch (wb r)
 |122=>λr=>ch (v' r)
 |127=>λr=>ch (wa r)
 |130=>λr=>ch ((eG (S:=SS) 130 (some ([]:Γa))) r)
 |132=>λr=>ch (NH r)
 |192=>λr=>ch ((eG (S:=SS) 192 (some ([]:List ByteArray))) r)
 |193=>λr=>ch ((eG (S:=SS) 192 (some ([]:List ByteArray))) r)
 |195=>λr=>ch (NK r)
 |t=>λr=>none
theorem Jw (d:Nat) (w:World) (x y:cV):(ξv (d+2) 40 (.agg #[.int .i64 x.cb,.int .u64 x.cv]) (.agg #[.int .i64 y.cb,.int .u64 y.cv])).run γ w= .ok (fi x y) w:=by
 have a:γ.underlying 40=some (.struct (γ.fieldsOf 40)):=by kernel_rfl
 have hp:γ.stoodInHeld 40=false:=by kernel_rfl
 rw[show d+2=(d+1)+1 from rfl,run_equalIn_agg w _ 40 _ _ a hp];simp only[ξ8,Tryz.underlying40];unfold fi
 go_simp
 by_cases b:x.cb=y.cb<;>by_cases h1:x.cv=y.cv<;>simp_all
theorem YJ {ox oy:Operand} {w:World} (x y:cV):(do eqGuard .eql 40 ox oy (.agg #[.int .i64 x.cb,.int .u64 x.cv]) (.agg #[.int .i64 y.cb,.int .u64 y.cv]);binOp .eql 40 (.agg #[.int .i64 x.cb,.int .u64 x.cv]) (.agg #[.int .i64 y.cb,.int .u64 y.cv]):Sem Value).run γ w= .ok (.bool (fi x y)) w:=by
 simp only[κ];rw[run_eqGuard_agg w .eql 40 ox oy _ _ (by kernel_rfl)];simp only[ι];rw[run_eql_struct,show(10000:Nat)=9998+2 from rfl,Jw];rfl
theorem aaH {ox oy:Operand} {w:World} (x y:cV):(do eqGuard .neq 40 ox oy (.agg #[.int .i64 x.cb,.int .u64 x.cv]) (.agg #[.int .i64 y.cb,.int .u64 y.cv]);binOp .neq 40 (.agg #[.int .i64 x.cb,.int .u64 x.cv]) (.agg #[.int .i64 y.cb,.int .u64 y.cv]):Sem Value).run γ w= .ok (.bool (!fi x y)) w:=by
 simp only[κ];rw[run_eqGuard_agg w .neq 40 ox oy _ _ (by kernel_rfl)];simp only[ι];rw[run_neq_struct,show(10000:Nat)=9998+2 from rfl,Jw];rfl
theorem Jt (d:Nat) (w:World) (x y:ah):(ξv (d+2) 115 (.agg #[.int .u64 x.aa,.int .u64 x.aW,.bool x.bp,.int .u64 x.cg]) (.agg #[.int .u64 y.aa,.int .u64 y.aW,.bool y.bp,.int .u64 y.cg])).run γ w= .ok (fP x y) w:=by
 have a:γ.underlying 115=some (.struct (γ.fieldsOf 115)):=by kernel_rfl
 have hp:γ.stoodInHeld 115=false:=by kernel_rfl
 rw[show d+2=(d+1)+1 from rfl,run_equalIn_agg w _ 115 _ _ a hp];simp only[ξ8,Tryz.underlying115];unfold fP
 go_simp
 by_cases b:x.aa=y.aa<;>by_cases h1:x.aW=y.aW<;>by_cases c:x.bp=y.bp<;>by_cases e:x.cg=y.cg<;>simp_all
theorem YG {ox oy:Operand} {w:World} (x y:ah):(do eqGuard .eql 115 ox oy (.agg #[.int .u64 x.aa,.int .u64 x.aW,.bool x.bp,.int .u64 x.cg]) (.agg #[.int .u64 y.aa,.int .u64 y.aW,.bool y.bp,.int .u64 y.cg]);binOp .eql 115 (.agg #[.int .u64 x.aa,.int .u64 x.aW,.bool x.bp,.int .u64 x.cg]) (.agg #[.int .u64 y.aa,.int .u64 y.aW,.bool y.bp,.int .u64 y.cg]):Sem Value).run γ w= .ok (.bool (fP x y)) w:=by
 simp only[κ];rw[run_eqGuard_agg w .eql 115 ox oy _ _ (by kernel_rfl)];simp only[ι];rw[run_eql_struct,show(10000:Nat)=9998+2 from rfl,Jt];rfl
theorem aaE {ox oy:Operand} {w:World} (x y:ah):(do eqGuard .neq 115 ox oy (.agg #[.int .u64 x.aa,.int .u64 x.aW,.bool x.bp,.int .u64 x.cg]) (.agg #[.int .u64 y.aa,.int .u64 y.aW,.bool y.bp,.int .u64 y.cg]);binOp .neq 115 (.agg #[.int .u64 x.aa,.int .u64 x.aW,.bool x.bp,.int .u64 x.cg]) (.agg #[.int .u64 y.aa,.int .u64 y.aW,.bool y.bp,.int .u64 y.cg]):Sem Value).run γ w= .ok (.bool (!fP x y)) w:=by
 simp only[κ];rw[run_eqGuard_agg w .neq 115 ox oy _ _ (by kernel_rfl)];simp only[ι];rw[run_neq_struct,show(10000:Nat)=9998+2 from rfl,Jt];rfl
theorem Js (d:Nat) (w:World) (x y:aj):(ξv (d+2) 105 (.agg #[.int .u64 x.aa,.int .i64 x.bF,.int .u64 x.cp]) (.agg #[.int .u64 y.aa,.int .i64 y.bF,.int .u64 y.cp])).run γ w= .ok (hB x y) w:=by
 have a:γ.underlying 105=some (.struct (γ.fieldsOf 105)):=by kernel_rfl
 have hp:γ.stoodInHeld 105=false:=by kernel_rfl
 rw[show d+2=(d+1)+1 from rfl,run_equalIn_agg w _ 105 _ _ a hp];simp only[ξ8,Tryz.underlying105];unfold hB
 go_simp
 by_cases b:x.aa=y.aa<;>by_cases h1:x.bF=y.bF<;>by_cases c:x.cp=y.cp<;>simp_all
theorem YF {ox oy:Operand} {w:World} (x y:aj):(do eqGuard .eql 105 ox oy (.agg #[.int .u64 x.aa,.int .i64 x.bF,.int .u64 x.cp]) (.agg #[.int .u64 y.aa,.int .i64 y.bF,.int .u64 y.cp]);binOp .eql 105 (.agg #[.int .u64 x.aa,.int .i64 x.bF,.int .u64 x.cp]) (.agg #[.int .u64 y.aa,.int .i64 y.bF,.int .u64 y.cp]):Sem Value).run γ w= .ok (.bool (hB x y)) w:=by
 simp only[κ];rw[run_eqGuard_agg w .eql 105 ox oy _ _ (by kernel_rfl)];simp only[ι];rw[run_eql_struct,show(10000:Nat)=9998+2 from rfl,Js];rfl
theorem aaD {ox oy:Operand} {w:World} (x y:aj):(do eqGuard .neq 105 ox oy (.agg #[.int .u64 x.aa,.int .i64 x.bF,.int .u64 x.cp]) (.agg #[.int .u64 y.aa,.int .i64 y.bF,.int .u64 y.cp]);binOp .neq 105 (.agg #[.int .u64 x.aa,.int .i64 x.bF,.int .u64 x.cp]) (.agg #[.int .u64 y.aa,.int .i64 y.bF,.int .u64 y.cp]):Sem Value).run γ w= .ok (.bool (!hB x y)) w:=by
 simp only[κ];rw[run_eqGuard_agg w .neq 105 ox oy _ _ (by kernel_rfl)];simp only[ι];rw[run_neq_struct,show(10000:Nat)=9998+2 from rfl,Js];rfl
theorem Ju (d:Nat) (w:World) (x y:av):(ξv (d+2) 122 (.agg #[.int .u64 x.bl,.int .u64 x.a6]) (.agg #[.int .u64 y.bl,.int .u64 y.a6])).run γ w= .ok (ju x y) w:=by
 have a:γ.underlying 122=some (.struct (γ.fieldsOf 122)):=by kernel_rfl
 have hp:γ.stoodInHeld 122=false:=by kernel_rfl
 rw[show d+2=(d+1)+1 from rfl,run_equalIn_agg w _ 122 _ _ a hp];simp only[ξ8,Tryz.underlying122];unfold ju
 go_simp
 by_cases b:x.bl=y.bl<;>by_cases h1:x.a6=y.a6<;>simp_all
theorem YH {ox oy:Operand} {w:World} (x y:av):(do eqGuard .eql 122 ox oy (.agg #[.int .u64 x.bl,.int .u64 x.a6]) (.agg #[.int .u64 y.bl,.int .u64 y.a6]);binOp .eql 122 (.agg #[.int .u64 x.bl,.int .u64 x.a6]) (.agg #[.int .u64 y.bl,.int .u64 y.a6]):Sem Value).run γ w= .ok (.bool (ju x y)) w:=by
 simp only[κ];rw[run_eqGuard_agg w .eql 122 ox oy _ _ (by kernel_rfl)];simp only[ι];rw[run_eql_struct,show(10000:Nat)=9998+2 from rfl,Ju];rfl
theorem aaF {ox oy:Operand} {w:World} (x y:av):(do eqGuard .neq 122 ox oy (.agg #[.int .u64 x.bl,.int .u64 x.a6]) (.agg #[.int .u64 y.bl,.int .u64 y.a6]);binOp .neq 122 (.agg #[.int .u64 x.bl,.int .u64 x.a6]) (.agg #[.int .u64 y.bl,.int .u64 y.a6]):Sem Value).run γ w= .ok (.bool (!ju x y)) w:=by
 simp only[κ];rw[run_eqGuard_agg w .neq 122 ox oy _ _ (by kernel_rfl)];simp only[ι];rw[run_neq_struct,show(10000:Nat)=9998+2 from rfl,Ju];rfl
theorem Jv (d:Nat) (w:World) (x y:aw):(ξv (d+2) 127 (.agg #[.int .u64 x.bb,.int .u64 x.aa]) (.agg #[.int .u64 y.bb,.int .u64 y.aa])).run γ w= .ok (jv x y) w:=by
 have a:γ.underlying 127=some (.struct (γ.fieldsOf 127)):=by kernel_rfl
 have hp:γ.stoodInHeld 127=false:=by kernel_rfl
 rw[show d+2=(d+1)+1 from rfl,run_equalIn_agg w _ 127 _ _ a hp];simp only[ξ8,Tryz.underlying127];unfold jv
 go_simp
 by_cases b:x.bb=y.bb<;>by_cases h1:x.aa=y.aa<;>simp_all
theorem YI {ox oy:Operand} {w:World} (x y:aw):(do eqGuard .eql 127 ox oy (.agg #[.int .u64 x.bb,.int .u64 x.aa]) (.agg #[.int .u64 y.bb,.int .u64 y.aa]);binOp .eql 127 (.agg #[.int .u64 x.bb,.int .u64 x.aa]) (.agg #[.int .u64 y.bb,.int .u64 y.aa]):Sem Value).run γ w= .ok (.bool (jv x y)) w:=by
 simp only[κ];rw[run_eqGuard_agg w .eql 127 ox oy _ _ (by kernel_rfl)];simp only[ι];rw[run_eql_struct,show(10000:Nat)=9998+2 from rfl,Jv];rfl
theorem aaG {ox oy:Operand} {w:World} (x y:aw):(do eqGuard .neq 127 ox oy (.agg #[.int .u64 x.bb,.int .u64 x.aa]) (.agg #[.int .u64 y.bb,.int .u64 y.aa]);binOp .neq 127 (.agg #[.int .u64 x.bb,.int .u64 x.aa]) (.agg #[.int .u64 y.bb,.int .u64 y.aa]):Sem Value).run γ w= .ok (.bool (!jv x y)) w:=by
 simp only[κ];rw[run_eqGuard_agg w .neq 127 ox oy _ _ (by kernel_rfl)];simp only[ι];rw[run_neq_struct,show(10000:Nat)=9998+2 from rfl,Jv];rfl
def Ck (t:Nat) (ls ms:List (LV SS)):Option Bool:=match t with
 |40=>(match ch (qC ls),ch (qC ms) with|some x,some y=>some (fi x y)|_,_=>none)
 |115=>(match ch (wb ls),ch (wb ms) with|some x,some y=>some (fP x y)|_,_=>none)
 |47=>(match ch ((kP .i64 16) ls),ch ((kP .i64 16) ms) with|some x,some y=>some (x==y)|_,_=>none)
 |105=>(match ch (v_ ls),ch (v_ ms) with|some x,some y=>some (hB x y)|_,_=>none)
 |122=>(match ch (v' ls),ch (v' ms) with|some x,some y=>some (ju x y)|_,_=>none)
 |127=>(match ch (wa ls),ch (wa ms) with|some x,some y=>some (jv x y)|_,_=>none)
 |_=>none
def CW (g:Nat):Option ((t:Nat)×SS.El t):=match g with
 |0=>some ⟨115,tT⟩
 |_=>none
def KK:Kit SS:=⟨Θ,FP,Fw,M7,B1,CW,Ck⟩
theorem aec {t:Nat} (h:t∉([3,4,5,9,21,22,24,27,31,35,36,38,40,42,47,48,50,51,52,54,55,56,58,60,64,89,105,115,122,127,130,132,192,193,195]:Γ)):qS t=⟨Unit,Ee⟩:=by
 unfold qS;split<;>first|rfl|(exfalso;exact h (by decide))
theorem aaM {t:Nat} (h:t∉([3,4,5,9,21,22,24,27,31,35,36,38,40,42,47,48,50,51,52,54,55,56,58,60,64,89,105,115,122,127,130,132,192,193,195]:Γ)) {O:Γ} {w:World} {cs:Γb} {x:SS.El t}: ¬(SS.ty t).rep O w cs x:=by
 have key: ∀(p:(α:Type)×Ty α) (_:p=⟨Unit,Ee⟩) (x:p.1),¬p.2.rep O w cs x:=by
  rintro _ rfl x a;exact a
 exact key (qS t) (aec h) x
theorem Mt {t:Nat} {p:Prop} (h:t∈([3,4,5,9,21,22,24,27,31,35,36,38,40,42,47,48,50,51,52,54,55,56,58,60,64,89,105,115,122,127,130,132,192,193,195]:Γ)) (o:t=3->p) (v:t=4->p) (A:t=5->p) (L:t=9->p) (k:t=21->p) (l:t=22->p) (m:t=24->p) (n:t=27->p) (q:t=31->p) (r:t=35->p) (s:t=36->p) (u:t=38->p) (w:t=40->p) (x:t=42->p) (y:t=47->p) (z:t=48->p) (B:t=50->p) (C:t=51->p) (D:t=52->p) (E:t=54->p) (F:t=55->p) (G:t=56->p) (H:t=58->p) (I:t=60->p) (J:t=64->p) (K:t=89->p) (a:t=105->p) (b:t=115->p) (c:t=122->p) (d:t=127->p) (e:t=130->p) (f:t=132->p) (g:t=192->p) (i:t=193->p) (j:t=195->p):p:=by
 simp only[ξX,ξM,or_false] at h;rcases h with h|h|h|h|h|h|h|h|h|h|h|h|h|h|h|h|h|h|h|h|h|h|h|h|h|h|h|h|h|h|h|h|h|h|h
 ·exact o h
 ·exact v h
 ·exact A h
 ·exact L h
 ·exact k h
 ·exact l h
 ·exact m h
 ·exact n h
 ·exact q h
 ·exact r h
 ·exact s h
 ·exact u h
 ·exact w h
 ·exact x h
 ·exact y h
 ·exact z h
 ·exact B h
 ·exact C h
 ·exact D h
 ·exact E h
 ·exact F h
 ·exact G h
 ·exact H h
 ·exact I h
 ·exact J h
 ·exact K h
 ·exact a h
 ·exact b h
 ·exact c h
 ·exact d h
 ·exact e h
 ·exact f h
 ·exact g h
 ·exact i h
 ·exact j h
theorem abq (A:Pl) (O:Γ) (w:World) (t:Nat) (x:SS.El t) (cs:Γb) (h:(SS.ty t).rep O w cs x):bB A O w (M7 t x).cells cs:=by
 by_cases hm:t∈([3,4,5,9,21,22,24,27,31,35,36,38,40,42,47,48,50,51,52,54,55,56,58,60,64,89,105,115,122,127,130,132,192,193,195]:Γ)
 ·refine Mt hm ?_ ?_ ?_ ?_ ?_ ?_ ?_ ?_ ?_ ?_ ?_ ?_ ?_ ?_ ?_ ?_ ?_ ?_ ?_ ?_ ?_ ?_ ?_ ?_ ?_ ?_ ?_ ?_ ?_ ?_ ?_ ?_ ?_ ?_ ?_
  ·intro e;subst e;exact ee A O w x cs h
  ·intro e;subst e;exact M5 A O w x cs h
  ·intro e;subst e;exact ee A O w x cs h
  ·intro e;subst e;exact abc A O w x cs h
  ·intro e;subst e;exact ee A O w x cs h
  ·intro e;subst e;exact(e4 (S:=SS) (t:=22) rfl) A O w x cs h
  ·intro e;subst e;exact aa0 A O w x cs h
  ·intro e;subst e;exact ee A O w x cs h
  ·intro e;subst e;exact(e4 (S:=SS) (t:=31) rfl) A O w x cs h
  ·intro e;subst e;exact ee A O w x cs h
  ·intro e;subst e;exact vI A O w x cs h
  ·intro e;subst e;exact MZ A O w x cs h
  ·intro e;subst e;exact M4 A O w x cs h
  ·intro e;subst e;exact aa2 A O w x cs h
  ·intro e;subst e;exact vI A O w x cs h
  ·intro e;subst e;exact(e4 (S:=SS) (t:=48) rfl) A O w x cs h
  ·intro e;subst e;exact M3 A O w x cs h
  ·intro e;subst e;exact(e4 (S:=SS) (t:=51) rfl) A O w x cs h
  ·intro e;subst e;exact(e4 (S:=SS) (t:=52) rfl) A O w x cs h
  ·intro e;subst e;exact M1 A O w x cs h
  ·intro e;subst e;exact(e4 (S:=SS) (t:=55) rfl) A O w x cs h
  ·intro e;subst e;exact(e4 (S:=SS) (t:=56) rfl) A O w x cs h
  ·intro e;subst e;exact M0 A O w x cs h
  ·intro e;subst e;exact aa7 A O w x cs h
  ·intro e;subst e;exact(e4 (S:=SS) (t:=64) rfl) A O w x cs h
  ·intro e;subst e;exact(e4 (S:=SS) (t:=89) rfl) A O w x cs h
  ·intro e;subst e;exact aa1 A O w x cs h
  ·intro e;subst e;exact aa6 A O w x cs h
  ·intro e;subst e;exact aa3 A O w x cs h
  ·intro e;subst e;exact aa4 A O w x cs h
  ·intro e;subst e;exact(e4 (S:=SS) (t:=130) rfl) A O w x cs h
  ·intro e;subst e;exact aaZ A O w x cs h
  ·intro e;subst e;exact(e4 (S:=SS) (t:=192) rfl) A O w x cs h
  ·intro e;subst e;exact(e4 (S:=SS) (t:=192) rfl) A O w x cs h
  ·intro e;subst e;exact aa5 A O w x cs h
 ·exact absurd h (aaM hm)
theorem Vy (A:Pl) (O:Γ) (w:World) (t:Nat) (ls:List (LV SS)) (x:SS.El t) (cs:Γb) (a:B1 t ls=some x) (h:bB A O w ls cs):(SS.ty t).rep O w cs x:=by
 by_cases hm:t∈([3,4,5,9,21,22,24,27,31,35,36,38,40,42,47,48,50,51,52,54,55,56,58,60,64,89,105,115,122,127,130,132,192,193,195]:Γ)
 ·refine Mt hm ?_ ?_ ?_ ?_ ?_ ?_ ?_ ?_ ?_ ?_ ?_ ?_ ?_ ?_ ?_ ?_ ?_ ?_ ?_ ?_ ?_ ?_ ?_ ?_ ?_ ?_ ?_ ?_ ?_ ?_ ?_ ?_ ?_ ?_ ?_
  ·intro e;subst e;exact cq (S:=SS) eg a h
  ·intro e;subst e;exact cq (S:=SS) NR a h
  ·intro e;subst e;exact cq (S:=SS) eg a h
  ·intro e;subst e;exact cq (S:=SS) ade a h
  ·intro e;subst e;exact cq (S:=SS) eg a h
  ·intro e;subst e;exact cq (S:=SS) (e6 (S:=SS) (t:=22) λx b O w=>by cases b;exact e3 O w) a h
  ·intro e;subst e;exact cq (S:=SS) ac9 a h
  ·intro e;subst e;exact cq (S:=SS) eg a h
  ·intro e;subst e;exact cq (S:=SS) (e6 (S:=SS) (t:=31) λx b O w=>by cases b;exact e3 O w) a h
  ·intro e;subst e;exact cq (S:=SS) eg a h
  ·intro e;subst e;exact cq (S:=SS) n9 a h
  ·intro e;subst e;exact cq (S:=SS) NM a h
  ·intro e;subst e;exact cq (S:=SS) wc a h
  ·intro e;subst e;exact cq (S:=SS) ac_ a h
  ·intro e;subst e;exact cq (S:=SS) n9 a h
  ·intro e;subst e;exact cq (S:=SS) (e6 (S:=SS) (t:=48) λx b O w=>by cases b;exact e3 O w) a h
  ·intro e;subst e;exact cq (S:=SS) NQ a h
  ·intro e;subst e;exact cq (S:=SS) (e6 (S:=SS) (t:=51) λx b O w=>by cases b;exact e3 O w) a h
  ·intro e;subst e;exact cq (S:=SS) (e6 (S:=SS) (t:=52) λx b O w=>by cases b;exact e3 O w) a h
  ·intro e;subst e;exact cq (S:=SS) NO a h
  ·intro e;subst e;exact cq (S:=SS) (e6 (S:=SS) (t:=55) λx b O w=>by cases b;exact e3 O w) a h
  ·intro e;subst e;exact cq (S:=SS) (e6 (S:=SS) (t:=56) λx b O w=>by cases b;exact e3 O w) a h
  ·intro e;subst e;exact cq (S:=SS) NN a h
  ·intro e;subst e;exact cq (S:=SS) ada a h
  ·intro e;subst e;exact cq (S:=SS) (e6 (S:=SS) (t:=64) λx b O w=>by cases b;exact e3 O w) a h
  ·intro e;subst e;exact cq (S:=SS) (e6 (S:=SS) (t:=89) λx b O w=>by cases b;exact e3 O w) a h
  ·intro e;subst e;exact cq (S:=SS) Ff a h
  ·intro e;subst e;exact cq (S:=SS) Fi a h
  ·intro e;subst e;exact cq (S:=SS) Fg a h
  ·intro e;subst e;exact cq (S:=SS) Fh a h
  ·intro e;subst e;exact cq (S:=SS) (e6 (S:=SS) (t:=130) λx b O w=>by cases b;exact e3 O w) a h
  ·intro e;subst e;exact cq (S:=SS) ac8 a h
  ·intro e;subst e;exact cq (S:=SS) (e6 (S:=SS) (t:=192) λx b O w=>by cases b;exact e3 O w) a h
  ·intro e;subst e;exact cq (S:=SS) (e6 (S:=SS) (t:=192) λx b O w=>by cases b;exact e3 O w) a h
  ·intro e;subst e;exact cq (S:=SS) ac' a h
 ·unfold B1 at a;split at a<;>first|cases a|(exfalso;exact hm (by decide))
theorem ad_ (t:Nat) (I:sQ SS t) (h:FP t=some I):(SS.ty t).agg=false/\(∀(O:Γ) (w:World) (v:Value) (x:SS.El t),(SS.ty t).is O w v x->(SS.ty I.e).slice.is O w v (I.to x))/\ ∀(O:Γ) (w:World) (v:Value) (xs:List (SS.El I.e)),(SS.ty I.e).slice.is O w v xs->(SS.ty t).is O w v (I.of xs):=by
 unfold FP at h;split at h<;>first|(cases h;exact⟨rfl,λ_ _ _ _ h=>h,λ_ _ _ _ h=>h⟩)|cases h
theorem adv (e:Nat) (I:sf SS e) (h:Fw e=some I):(SS.ty I.t).agg=false/\ ∀(O:Γ) (w:World) (v:Value) (xs:List (SS.El e)),(SS.ty e).slice.is O w v xs->(SS.ty I.t).is O w v (I.of xs):=by
 unfold Fw at h;split at h<;>first|(cases h;exact⟨rfl,λ_ _ _ _ h=>h⟩)|cases h
theorem YN (A:Pl) (O:Γ) (w:World) (t:Nat) (ls ms:List (LV SS)) (b:Bool) (xs ys:Γb) (ox oy:Operand) (h:Ck t ls ms=some b) (e:bB A O w ls xs) (f:bB A O w ms ys):
  (do eqGuard .eql t ox oy (.agg xs.toArray) (.agg ys.toArray);binOp .eql t (.agg xs.toArray) (.agg ys.toArray):Sem Value).run γ w= .ok (.bool b) w/\
  (do eqGuard .neq t ox oy (.agg xs.toArray) (.agg ys.toArray);binOp .neq t (.agg xs.toArray) (.agg ys.toArray):Sem Value).run γ w= .ok (.bool (!b)) w:=by
 unfold Ck at h;split at h
 ·split at h
  ·rename_i x y h1 a;cases h;have c:=cq (S:=SS) wc h1 e;have d:=cq (S:=SS) wc a f;obtain⟨_,_,rfl,rfl,rfl⟩:=c;obtain⟨_,_,rfl,rfl,rfl⟩:=d;exact⟨YJ x y,aaH x y⟩
  ·cases h
 ·split at h
  ·rename_i x y h1 a;cases h;have c:=cq (S:=SS) Fi h1 e;have d:=cq (S:=SS) Fi a f;obtain⟨_,_,rfl,rfl,⟨_,_,rfl,rfl,⟨_,_,rfl,rfl,rfl⟩⟩⟩:=c;obtain⟨_,_,rfl,rfl,⟨_,_,rfl,rfl,⟨_,_,rfl,rfl,rfl⟩⟩⟩:=d;exact⟨YG x y,aaE x y⟩
  ·cases h
 ·split at h
  ·rename_i x y h1 a;cases h;have c:=cq (S:=SS) n9 h1 e;have d:=cq (S:=SS) n9 a f;obtain⟨g,rfl⟩:=c;obtain⟨i,rfl⟩:=d;exact adK w 47 3 16 .i64 .i64 Tryz.underlying47 ξN (λw=>by go_simp) (by kernel_rfl) x y g i ox oy
  ·cases h
 ·split at h
  ·rename_i x y h1 a;cases h;have c:=cq (S:=SS) Ff h1 e;have d:=cq (S:=SS) Ff a f;obtain⟨_,_,rfl,rfl,⟨_,_,rfl,rfl,rfl⟩⟩:=c;obtain⟨_,_,rfl,rfl,⟨_,_,rfl,rfl,rfl⟩⟩:=d;exact⟨YF x y,aaD x y⟩
  ·cases h
 ·split at h
  ·rename_i x y h1 a;cases h;have c:=cq (S:=SS) Fg h1 e;have d:=cq (S:=SS) Fg a f;obtain⟨_,_,rfl,rfl,rfl⟩:=c;obtain⟨_,_,rfl,rfl,rfl⟩:=d;exact⟨YH x y,aaF x y⟩
  ·cases h
 ·split at h
  ·rename_i x y h1 a;cases h;have c:=cq (S:=SS) Fh h1 e;have d:=cq (S:=SS) Fh a f;obtain⟨_,_,rfl,rfl,rfl⟩:=c;obtain⟨_,_,rfl,rfl,rfl⟩:=d;exact⟨YI x y,aaG x y⟩
  ·cases h
 ·cases h
theorem du:bW KK γ:=⟨ai,ad_,adv,abq,Vy,YN⟩
theorem a8:oN γ:=by
 have h:γ.funcs.toList.all (λfn=>fn.name != "runtime.NumGoroutine" ||fn.body.isNone)=true:=by kernel_rfl
 intro f fn d a;rw[List.all_eq_true] at h;have:=h fn (by rw[Array.mem_toList_iff];exact Array.mem_of_getElem? d);cases b:fn.body with
 |none=>rw[b] at a;cases a
 |some c=>rw[b] at this;simpa using this
def Mo:List (Nat×Γ)->Nat->Γ|[],_=>[]|(a,b)::r,k=>bif ρ a k then b else Mo r k
def Mp:List (Nat×List (Nat×Γ)×List (Γ))->Nat->Nat->Γ|[],_,_=>[]|(a,b,c)::r,f,k=>bif ρ a f then(bif Nat.ble 1000000 k&&Nat.ble k 1000049 then c.getD (Nat.sub k 1000000) [] else Mo b k) else Mp r f k
def ar:Nat->Nat->Γ:=Mp [(5,[],[[2]]),(7,[],[[0]]),(8,[],[[2]]),(9,[],[[2,3],[1]]),(12,[(11,[1,5,6,8,36,37,38]),(21,[1,5,13,73,74,75])],[[2,3],[1,5,8],[1,5,6,8,36,37,38],[13],[1,5,13,73,74,75]]),(14,[],[[2]]),(15,[(5,[0,1,12,13])],[[4],[],[0,1,12,13]]),(16,[],[[2,3]]),(17,[(7,[2,5,6,19,20,21]),(12,[2,5,6,8,19,20,21,40,41,42]),(23,[5,78,79,80])],[[4],[2,5],[2,5,6,19,20,21],[2,5,6,8,19,20,21],[2,5,6,8,19,20,21,40,41,42],[],[5,78,79,80]]),(18,[],[[0]]),(19,[],[[4,5,6]]),(20,[],[[4]]),(21,[],[[6]]),(22,[],[[6]]),(23,[(6,[1,3,19,20,21])],[[2],[],[1,3,19,20,21]]),(24,[(3,[0,9,10,11])],[[2],[],[0,9,10,11]]),(25,[(2000008,[2,3,4,5,7,14])],[[6],[7],[2,3,4,5,7]]),(26,[],[[2]]),(27,[],[[4,5],[3,4,6,7]]),(32,[(4,[1,3,7,8,9])],[[2],[1,3],[1,3,7,8,9]]),(33,[(4,[2,6,14,15,16])],[[4,5],[6],[2,6,14,15,16]]),(34,[(3,[1,2,4,7,15,16])],[[8,9],[],[1,2,4,7,15,16]]),(36,[],[[5]]),(37,[],[[4]]),(38,[],[[4]]),(39,[],[[0]]),(40,[],[[0]]),(41,[(6,[1,3,4,37,38,39]),(12,[1,3,4,52,53,54])],[[2],[1,3,4],[1,3,4,37,38,39],[1,3,4],[1,3,4,52,53,54]]),(42,[],[[4,5]]),(43,[(6,[1,2,31,32,33])],[[2],[1,2],[1,2,31,32,33]]),(44,[],[[4]]),(45,[(5,[0,1,12,13])],[[4],[],[0,1,12,13]]),(46,[],[[4]]),(47,[],[[4]]),(48,[],[[4]]),(49,[],[[2]]),(50,[],[[3]]),(51,[(2,[0,1,12,13,14]),(7,[0,1,3,4,5,12,13,14,29,30,31])],[[],[],[0,1,12,13,14],[0,1,3,5,12,13,14],[0,1,3,4,5,12,13,14,29,30,31]]),(52,[],[[2]]),(57,[],[[5]]),(58,[(3,[0,1,2,6,7,8]),(8,[0,1,2,6]),(10,[0,1,2,6,7,8])],[[],[0,1,2,6,7],[0,1,2,6,7,8],[],[0,1,2,6],[0,1,2,6,7],[0,1,2,6,7,8]]),(59,[],[[2]]),(60,[(2000011,[1,2,4,33])],[[2],[2],[1,2,4]]),(61,[(5,[0,8,9,10])],[[2],[],[0,8,9,10]]),(62,[(4,[1,3,7,8,9])],[[2],[1],[1,3,7,8,9]]),(63,[(5,[1,12,13,14]),(11,[1,47,48,49])],[[2],[1],[1,12,13,14],[],[1,47,48,49]]),(64,[(4,[1,5,8,9,10])],[[4],[5],[1,5,8,9,10]]),(65,[],[[4]]),(66,[(4,[1,5,8,9,10])],[[4],[5],[1,5,8,9,10]]),(67,[],[[3]]),(68,[(4,[1,5,8,9,10])],[[4],[5],[1,5,8,9,10]]),(69,[],[[3]]),(72,[],[[2]]),(73,[],[[4]]),(74,[],[[2]]),(75,[],[[0]]),(76,[],[[2]]),(77,[],[[2]]),(78,[],[[2]]),(79,[],[[2]]),(80,[],[[2]]),(81,[(5,[0,1,12,13])],[[4],[],[0,1,12,13]]),(82,[(5,[0,1,12,13])],[[4],[],[0,1,12,13]]),(83,[(5,[0,1,12,13])],[[4],[],[0,1,12,13]]),(84,[(5,[1,2,15,16,17])],[[6],[],[1,2,15,16,17]]),(85,[],[[4]]),(86,[(5,[0,1,12,13])],[[4],[],[0,1,12,13]]),(87,[],[[4]]),(88,[],[[3]]),(92,[(3,[0,1,2,3,4,10,11])],[[],[],[0,1,2,3,4,10,11]]),(93,[],[[2]]),(94,[(2,[0,1,2,3,8]),(5,[0,1,2,3,8,9])],[[],[],[0,1,2,3,8],[0,1,2,3,8],[0,1,2,3,8,9]]),(95,[(4,[0,1,4,10,11]),(10,[0,10,13]),(16,[0,2,4,14,15]),(22,[0,14,17]),(34,[0,1,2,3,4,18,19,20,21,22])],[[],[0,1,10],[0,1,4,10,11],[],[0,10,13],[0,2,14],[0,2,4,14,15],[],[0,14,17],[0,1,2,3,4,18,19,20],[0,1,2,3,4,18,19,20,21,22]]),(96,[],[[3]]),(97,[(2000005,[3,4,8])],[[4],[4],[3,4]]),(98,[],[[2]]),(99,[],[[4]]),(100,[],[[2]]),(101,[],[[2]]),(102,[],[[2]]),(103,[],[[4]]),(104,[],[[2]]),(105,[(4,[3,8,9,10])],[[2],[3],[3,8,9,10]]),(106,[(5,[5,20])],[[2],[5],[5,20]]),(107,[],[[2]]),(108,[],[[4,5]]),(109,[],[[2]]),(110,[],[[2]]),(111,[],[[2]]),(112,[],[[2]]),(113,[],[[2]]),(114,[],[[2]]),(115,[],[[2]]),(116,[],[[2]]),(117,[],[[2]]),(118,[],[[2]]),(119,[],[[2]]),(120,[],[[2]]),(121,[],[[2]]),(122,[],[[2]]),(123,[(3,[0,1,7,8])],[[4],[],[0,1,7,8]]),(131,[(5,[0,3,8,9,10,11]),(9,[0,3,8,9,12])],[[],[0,3,8,9,10],[0,3,8,9,10,11],[],[0,3,8,9,12]]),(132,[(6,[0,1,8,9,10,11])],[[],[],[0,1,8,9,10,11]]),(133,[],[[8,9],[8,9]]),(134,[(3,[0,8,9])],[[],[],[0,8,9]]),(135,[(4,[0,1,2,3,9,10]),(6,[0,1,2,3,9,10]),(15,[0,1,2,3,9,10,11]),(21,[0,1,2,3,9,10,12])],[[8],[],[0,1,2,3,9,10],[0,1,2,3,9,10],[0,1,2,3,9,10],[0,1,2,3,9,10],[0,1,2,3,9,10,11],[0,1,2,3,9,10],[0,1,2,3,9,10,12]]),(136,[(4,[0,1,4,11,12]),(6,[0,1,4,11,12])],[[10],[11],[0,1,4,11,12],[0,1,4,11,12],[0,1,4,11,12],[0,1,4,11,12],[0,1,4,11,12]]),(137,[(4,[0,1,4,12,13]),(6,[0,1,4,12,13]),(14,[0,1,4,12,13]),(16,[0,1,4,12,13])],[[10,11],[0,1,4,12,13],[0,1,4,12,13],[0,1,4,12,13],[0,1,4,12,13],[0,1,13],[0,1,4,12,13],[0,1,4,12,13],[0,1,4,12,13],[0,1,4,12,13],[0,1,4,12,13]]),(138,[],[[2]]),(139,[],[[2]]),(140,[(3,[0,2,4,10,11])],[[],[0,2,4,10],[0,2,4,10,11]]),(141,[(3,[0,1,7,8])],[[4],[],[0,1,7,8]]),(142,[(2,[0,1,9,10])],[[],[],[0,1,9,10]]),(143,[(4,[3,6,7,8])],[[2],[3],[3,6,7,8]]),(144,[],[[4]]),(145,[(2000010,[0,2,4,6,7,26])],[[2,3],[0,2,6,7],[0,2,4,6,7]]),(146,[(4,[0,4,5])],[[2,3],[0,4],[0,4,5]]),(147,[],[[4,5,6]]),(148,[],[[4]]),(149,[],[[6,7]]),(150,[(2000008,[5,12])],[[4],[5],[5]]),(151,[],[[4,5]]),(152,[],[[4,5,6]]),(153,[],[[4]]),(154,[],[[6,7,8]]),(155,[],[[4]]),(156,[(10,[10,11,28,29,30])],[[4,5],[11],[10,11,28,29,30]]),(157,[(2000010,[0,1,2,9,25])],[[6,7,8],[0,1,2],[0,1,2,9],[9]]),(158,[],[[4]]),(159,[(8,[1,9,10,23,24,25])],[[6,7],[9,10],[1,9,10,23,24,25]]),(160,[],[[2]]),(161,[],[[6,7,8],[0,1,2]]),(162,[],[[4,5,6],[1,2,4]]),(163,[],[[4]]),(164,[],[[4,5]]),(165,[],[[4]]),(166,[(2000010,[2,3,4,5,28])],[[4,5],[2,3,4,5],[4,5]]),(167,[],[[6,7],[1,2,6,8],[1,2,6,8,10]]),(168,[],[[4,5],[1,4,6]]),(169,[],[[4,5],[1,2]]),(170,[],[[6,7]]),(171,[],[[4,5,6]]),(179,[(2,[0,2,3,4,10])],[[],[],[0,2,3,4,10]]),(180,[],[[2]]),(181,[],[[2]]),(182,[],[[8]]),(183,[],[[12]]),(184,[(2,[0,1,2,3,10])],[[],[],[0,1,2,3,10]]),(185,[],[[2]]),(186,[],[[2]]),(187,[(3,[0,6])],[[2],[0],[0,6]]),(188,[],[[2,3]]),(189,[(8,[0,5,14,15])],[[2,3],[5],[0,5,14,15]]),(190,[],[[4,5]]),(192,[],[[4]]),(193,[(3,[0,3])],[[2],[3],[0,3]]),(195,[(2000009,[1,40])],[[],[],[1]]),(197,[(4,[1,5,8,9,10])],[[4],[5],[1,5,8,9,10]]),(198,[],[[4]]),(199,[],[[4]]),(200,[(4,[1,5,8,9,10])],[[4],[5],[1,5,8,9,10]]),(201,[],[[3]]),(202,[],[[4,5,6],[1,7]]),(205,[],[[3]]),(206,[],[[4]]),(207,[(7,[4,6,7])],[[2,3],[6],[4,6,7]]),(208,[],[[3]]),(209,[],[[4]]),(210,[(3,[0,1,7,8])],[[4],[],[0,1,7,8]]),(211,[(4,[0,2,4,8,9,10])],[[6,7],[0,2,4,8,9],[0,2,4,8,9,10]]),(212,[],[[6]]),(213,[(2000007,[5,6,7,14])],[[6,7],[6,7],[5,6,7]]),(214,[],[[3]]),(215,[],[[3]]),(216,[],[[4]]),(217,[(4,[1,5,8,9,10])],[[4],[5],[1,5,8,9,10]]),(218,[],[[3]]),(219,[(7,[5,20,21,22])],[[2,3],[5],[5,20,21,22]]),(220,[],[[6,7]]),(221,[],[[2]]),(222,[],[[6]]),(223,[],[[6]]),(247,[],[[10,11]]),(248,[(1,[0,1])],[[],[],[0,1]]),(249,[],[[4]]),(250,[],[[4]]),(251,[],[[2]]),(252,[(13,[0,1,5,39,40,41]),(23,[1,8,63,64,65])],[[4],[0,1],[0,1,5],[0,1,5,39,40,41],[8],[1,8,63,64,65]]),(253,[],[[4]]),(255,[],[[4]]),(256,[],[[3]]),(257,[(3,[0,1,7,8])],[[4],[],[0,1,7,8]]),(258,[],[[3]]),(259,[],[[6]]),(260,[(2,[0,2,7,8,9])],[[],[],[0,2,7,8,9]]),(261,[],[[4]]),(262,[(6,[0,1,5,6])],[[4],[0,5],[0,1,5,6]]),(263,[],[[2]]),(264,[(2,[0,2,6,7,8])],[[],[],[0,2,6,7,8]]),(267,[(2,[0,2,7,8,9])],[[],[],[0,2,7,8,9]]),(268,[],[[4]]),(269,[(4,[0,1,2,8,9,10])],[[6,7],[0,1,2,8,9],[0,1,2,8,9,10]]),(270,[],[[5]]),(282,[],[[4]]),(283,[],[[4]]),(285,[],[[4,5]]),(286,[],[[2]]),(287,[],[[4]]),(288,[],[[3]]),(291,[],[[6,7]]),(292,[],[[2]]),(293,[],[[6]]),(294,[(3,[0,1,7,8])],[[4],[],[0,1,7,8]]),(296,[],[[4]]),(305,[(3,[0,1,7,8])],[[4],[],[0,1,7,8]]),(307,[(4,[0,1,2,8,9,10])],[[6,7],[0,1,2,8,9],[0,1,2,8,9,10]]),(308,[],[[5]]),(311,[(2,[0,2,3])],[[],[],[0,2,3]]),(312,[(5,[0,1,12,13])],[[4],[],[0,1,12,13]]),(313,[(2,[0,2,3])],[[],[],[0,2,3]]),(316,[(2,[0,2,3])],[[],[],[0,2,3]]),(318,[(2,[0,2,3])],[[],[],[0,2,3]])]
noncomputable def G0:bw SS:=⟨KK,[],[],[],qU γ ar,[]⟩
theorem Su:ak G0 γ:=⟨du,⟨λf a h=>by cases h⟩,(λf c h=>by cases h),(λg b h=>by cases h),mixed,a8⟩
end Go.Proofs.YtoggponeookhbaaGreatDoor
end
section
namespace Go.Proofs.YtoggponeookhbaaGreatDoor
open Go.RowKit Go.Dc Go.Vx
set_option maxRecDepth 100000 in
set_option maxHeartbeats 12000000 in
theorem kg:(∀ {O:Γ} {w:World},OB O w-> ∀ {v0:Value} {x0:List ah},(Ty.slice gO).is O w v0 x0-> ∀ {r:List ah},app 32 [] x0=some r->let T:=gO;Calls γ 76 #[v0] w (eK gO 115 w.heap.size O w (.slice none 0 0) r))/\(∀ {O:Γ} {w:World},OB O w-> ∀ {v0:Value} {x0:List aj},(Ty.slice h7).is O w v0 x0-> ∀ {r:List aj},app 24 [] x0=some r->let T:=h7;Calls γ 77 #[v0] w (eK h7 105 w.heap.size O w (.slice none 0 0) r))/\(∀ {O:Γ} {w:World},OB O w-> ∀ {v0:Value} {x0:List av},(Ty.slice kV).is O w v0 x0-> ∀ {r:List av},app 16 [] x0=some r->let T:=kV;Calls γ 78 #[v0] w (eK kV 122 w.heap.size O w (.slice none 0 0) r))/\(∀ {O:Γ} {w:World},OB O w-> ∀ {v0:Value} {x0:List aw},(Ty.slice dW).is O w v0 x0-> ∀ {r:List aw},app 16 [] x0=some r->let T:=dW;Calls γ 79 #[v0] w (eK dW 127 w.heap.size O w (.slice none 0 0) r))/\(∀ {O:Γ} {w:World},OB O w-> ∀ {v0:Value} {x0:Γa},(Ty.slice (Ty.int .u64)).is O w v0 x0-> ∀ {r:Γa},app 8 [] x0=some r->let T:=(Ty.int .u64);Calls γ 80 #[v0] w (eK (Ty.int .u64) 35 w.heap.size O w (.slice none 0 0) r))/\(∀ {O:Γ} {w:World},OB O w-> ∀ {v0:Value} {x0:List ae},(Ty.slice e7).is O w v0 x0-> ∀ {r:List ae},app 88 [] x0=some r->let T:=e7;Calls γ 14 #[v0] w (eK e7 42 w.heap.size O w (.slice none 0 0) r)):=by
 refine⟨?_,?_,?_,?_,?_,?_⟩
 all_goals
  intro O w hO v0 x0 c r h T;have a:=Fr.refl [] w;have k:=hO;have b:=Dc.Sub.refl O;have j:=ξ5 w.heap.size;refine gA (args:=[v0]) (N:=8) (by first|exact ζe|exact ζf|exact ζg|exact ζh|exact ζi|exact ζj) rfl rfl rfl ?_;refine aP (a7 (l:=[0]) rfl (aG ai [0] [(0,v0)] rfl ⟨rfl,trivial⟩ (aY (aR (aP (aP (a7 (l:=[0,1]) rfl (aG ai [0] [(0,v0),(3,v0)] rfl ⟨rfl,rfl,trivial⟩ ?_))))))));obtain⟨A2,g,rfl,s,t⟩:=eS c;refine aG ai [1] [(0,(.slice A2 x0.length g)),(4,(.bool A2.isNone))] rfl ⟨rfl,rfl,trivial⟩ (aY (aR ?_));rcases A2 with _|n
  ·obtain rfl:=wF c;simp[app] at h;subst h;refine ov rfl (aP (a7 (l:=[0]) rfl (aG ai [0] [(2,(.slice none 0 0))] rfl ⟨rfl,trivial⟩ (aY (aR (dC ?_))))));exact fA (eU rfl (JV Own.iN b a k j))
  refine kW rfl (eB (aR (aP (a7 (l:=[0,1,2,3]) rfl (Qt ai rfl rfl rfl rfl rfl rfl rfl rfl rfl rfl (T:=T) (xs:=[]) (vs:=[]) rfl trivial rfl rfl rfl hO (λf w5 m=>?_))))));obtain⟨_,e,_⟩:=m.new;have i:=m.own a.size;have c:=c.tr e.tr;have hO:=e.ob;have a:=a.trans e.fr;have b:=Sub.cons b f;generalize (ζk (some ⟨f,0,none⟩) 0 0)=p at*
  refine aG ai [1] [(5,p),(6,(.slice (some n) x0.length g))] rfl ⟨rfl,rfl,trivial⟩ (Qp ai rfl rfl rfl rfl rfl rfl rfl rfl rfl rfl rfl rfl rfl rfl a hO i c h (λv11 u q d=>?_));have a:=d.cc i a;have b:=Sub.trans b d.sub;have hO:=d.ob;have o:=d.own;refine aG ai [3] [(2,v11)] rfl ⟨rfl,trivial⟩ (aY (aR (dC ?_)));exact eU rfl (JV o b a k j)
def BV:dD SS:=kE KK 76 115 (λxs=>app 32 [] xs)
theorem Vr {R:Type} (xs:List (ay SS)) (h:AH SS) (k:Rs SS->AH SS->Γ->Option R) (z:R) (a:(BV).out xs h k=some z): ∃r h' dt,k r h' dt=some z/\cU KK γ 76 xs h r h' dt:=
 nN (e:=115) (cl:=λxs=>app 32 [] xs) du (cR a8 ζe rfl) (λ_ _ _ _ _ _ h=>h) (λO w v xs zs hO b a=>kg.1 hO b a) xs h k z a
def BW:dD SS:=kE KK 77 105 (λxs=>app 24 [] xs)
theorem Vs {R:Type} (xs:List (ay SS)) (h:AH SS) (k:Rs SS->AH SS->Γ->Option R) (z:R) (a:(BW).out xs h k=some z): ∃r h' dt,k r h' dt=some z/\cU KK γ 77 xs h r h' dt:=
 nN (e:=105) (cl:=λxs=>app 24 [] xs) du (cR a8 ζf rfl) (λ_ _ _ _ _ _ h=>h) (λO w v xs zs hO b a=>kg.2.1 hO b a) xs h k z a
def BX:dD SS:=kE KK 78 122 (λxs=>app 16 [] xs)
theorem Vt {R:Type} (xs:List (ay SS)) (h:AH SS) (k:Rs SS->AH SS->Γ->Option R) (z:R) (a:(BX).out xs h k=some z): ∃r h' dt,k r h' dt=some z/\cU KK γ 78 xs h r h' dt:=
 nN (e:=122) (cl:=λxs=>app 16 [] xs) du (cR a8 ζg rfl) (λ_ _ _ _ _ _ h=>h) (λO w v xs zs hO b a=>kg.2.2.1 hO b a) xs h k z a
def BY:dD SS:=kE KK 79 127 (λxs=>app 16 [] xs)
theorem Vu {R:Type} (xs:List (ay SS)) (h:AH SS) (k:Rs SS->AH SS->Γ->Option R) (z:R) (a:(BY).out xs h k=some z): ∃r h' dt,k r h' dt=some z/\cU KK γ 79 xs h r h' dt:=
 nN (e:=127) (cl:=λxs=>app 16 [] xs) du (cR a8 ζh rfl) (λ_ _ _ _ _ _ h=>h) (λO w v xs zs hO b a=>kg.2.2.2.1 hO b a) xs h k z a
def BZ:dD SS:=kE KK 80 35 (λxs=>app 8 [] xs)
theorem Vv {R:Type} (xs:List (ay SS)) (h:AH SS) (k:Rs SS->AH SS->Γ->Option R) (z:R) (a:(BZ).out xs h k=some z): ∃r h' dt,k r h' dt=some z/\cU KK γ 80 xs h r h' dt:=
 nN (e:=35) (cl:=λxs=>app 8 [] xs) du (cR a8 ζi rfl) (λ_ _ _ _ _ _ h=>h) (λO w v xs zs hO b a=>kg.2.2.2.2.1 hO b a) xs h k z a
def BU:dD SS:=kE KK 14 42 (λxs=>app 88 [] xs)
theorem Vq {R:Type} (xs:List (ay SS)) (h:AH SS) (k:Rs SS->AH SS->Γ->Option R) (z:R) (a:(BU).out xs h k=some z): ∃r h' dt,k r h' dt=some z/\cU KK γ 14 xs h r h' dt:=
 nN (e:=42) (cl:=λxs=>app 88 [] xs) du (cR a8 ζj rfl) (λ_ _ _ _ _ _ h=>h) (λO w v xs zs hO b a=>kg.2.2.2.2.2 hO b a) xs h k z a
set_option maxRecDepth 100000
noncomputable def xB:bw SS:= {G0 with H:=BV::G0.H}
theorem Sn:ak xB γ:=ak.dw (c:=BV) Su Vr
noncomputable def xC:bw SS:= {xB with H:=BW::xB.H}
theorem Sp:ak xC γ:=ak.dw (c:=BW) Sn Vs
noncomputable def xD:bw SS:= {xC with H:=BX::xC.H}
theorem Sq:ak xD γ:=ak.dw (c:=BX) Sp Vt
noncomputable def xE:bw SS:= {xD with H:=BY::xD.H}
theorem Sr:ak xE γ:=ak.dw (c:=BY) Sq Vu
noncomputable def xF:bw SS:= {xE with H:=BZ::xE.H}
theorem Ss:ak xF γ:=ak.dw (c:=BZ) Sr Vv
noncomputable def G1:bw SS:= {xF with H:=BU::xF.H}
theorem Sv:ak G1 γ:=ak.dw (c:=BU) Ss Vq
end Go.Proofs.YtoggponeookhbaaGreatDoor
end
section
namespace Go.Proofs.YtoggponeookhbaaGreatDoor
open Go.RowKit Go.Dc Go.Vx
set_option maxRecDepth 100000 in
set_option maxHeartbeats 4000000 in
theorem ZS {w:World} (s:ByteArray) (c:Int):Calls γ 283 #[.string s,.int .u8 c] w (λe w'=>e= .returned (.int .i64 (ξ2 s.data.toList c.toNat.toUInt8))/\Fr [] w w'):=by
 have g:=Fr.refl [] w;refine gA (args:=[.string s,.int .u8 c]) (N:=8) ζ0 rfl rfl rfl (aP (a7 (l:=[0]) rfl (aG ai [0] [(0,.string s),(1,.int .u8 c)] rfl ⟨rfl,rfl,trivial⟩ (aY (aR (aP (a7 (l:=[0,1,2,3]) rfl (aG ai [0,1] [(5,.string s),(6,.int .u8 c)] rfl ⟨rfl,rfl,trivial⟩ ?_))))))));have i:(callFunc 302 #[.string s,.int .u8 c]).run γ w= .ok (.value (.int .i64 (ξ2 s.data.toList c.toNat.toUInt8))) w:=by
  rw[run_callFunc_extern Tryz.func302 rfl rfl rfl rfl,Lib.run_indexByteString];rfl
 refine ek rfl rfl rfl rfl (by intro c h;cases h) (λa b=>?_) (v:=.int .i64 (ξ2 s.data.toList c.toNat.toUInt8)) (w':=w) (d:=7) ?_
 ·have h1:=b.get 5 _ rfl;have f:=b.get 6 _ rfl;simp only[execOp,κ,resolve,Act.eval,Deferred.ofValue,Sem.run_pure,ι,invoke];simpa[Act.eval,h1,f] using i
 refine aG ai [3] [(4,.int .i64 (ξ2 s.data.toList c.toNat.toUInt8))] rfl ⟨rfl,trivial⟩ (aY (aR (dC ?_)));exact eU rfl ⟨rfl,g⟩
def uT:eJ SS:=⟨283,λxs k=>match xs with
 |[.one (.v (.string s)),.one (.v (.int .u8 c))]=>k (.ret (.s (.one (.v (.int .i64 (ξ2 s.data.toList c.toNat.toUInt8))))))
 |_=>none⟩
theorem ZU {R:Type} (xs:List (ay SS)) (k:Rs SS->Option R) (z:R) (_:xs.all ay.pure=true) (a:uT.out xs k=some z): ∃r,k r=some z/\eC KK γ 283 xs r:=by
 simp only[uT] at a;split at a
 ·rename_i s c i;refine⟨_,a,cR a8 ζ0 rfl,λA O w vs g hO j=>?_⟩;obtain⟨y,ys,rfl,⟨h1,_⟩,l,h,rfl,⟨b,_⟩,d⟩:=g;cases h1;cases b;rw[show h=[] from d];refine(ZS s c).mono ?_;rintro e w' ⟨rfl,f⟩;exact⟨⟨_,rfl,rfl,rfl⟩,f⟩
 ·cases a
set_option maxRecDepth 100000
noncomputable def G2:bw SS:= {G1 with C:=uT::G1.C}
theorem Sw:ak G2 γ:=ak.ga (c:=uT) Sv ZU
end Go.Proofs.YtoggponeookhbaaGreatDoor
end
section
namespace Go.Proofs.YtoggponeookhbaaGreatDoor
open Go.RowKit Go.Dc Go.Vx
theorem PM (e:Int) (w:World):(ξh (.iface 27 (.int .i64 e)) 20 27 true).run γ w= .ok (.tuple #[.int .i64 e,.bool true]) w:=by
 simp[ξh,run_underlying Tryz.underlying27]
theorem ME (e:Int) (w:World) (ox oy:Operand):(do eqGuard .neq 20 ox oy (.iface 27 (.int .i64 e)) .nilIface;binOp .neq 20 (.iface 27 (.int .i64 e)) .nilIface:Sem Value).run γ w= .ok (.bool true) w:=by
 simp[go_sem]
theorem MG (w:World) (ox:Operand):(do eqGuard .neq 20 ox (.const .nilIface) .nilIface .nilIface;binOp .neq 20 .nilIface .nilIface:Sem Value).run γ w= .ok (.bool false) w:=by
 simp[go_sem,eqGuard]
set_option maxHeartbeats 4000000 in
theorem VS {w:World} {f g:Value}:
  CallsDIn (fw none) 0 γ 254 #[f,g] .returning w (λi n w'=>(∃v,i= .returned v)/\n= .returning/\w'=w):=by
 refine callsDIn_of_wpSIn ξq rfl (by simp[fw]) λo cs hu=>?_;apply wpSIn_seq;apply wpSIn_region;simp[wpOpsSIn,go_sem,recoverD,hu,ξY,ξH];refine wpSIn_of_wpIn rfl ?_;obtain⟨b,e⟩: ∃b:Env,b=[(0,f),(1,g),(2,.nilIface)]:=⟨_,rfl⟩;refine(show WC γ none 18 _ _ b [] w from ?_) _ ⟨by simp,rfl,b0 (by subst e;refine⟨?_,?_,?_,trivial⟩<;>simp)⟩;subst e;refine aP (a7 (l:=[0,1]) rfl (aG ai [0] [(6,.nilIface)] rfl ⟨rfl,trivial⟩ (ek (d:=7) rfl rfl rfl rfl (by intro c h;cases h) (λa j=>?_) (v:=.bool false) (w':=w) ?_)))
 ·have h:=j.get 6 _ rfl;show(do let v<-(do eqGuard .neq 20 (.tmp 6) (.const .nilIface) (a.tmps.getD 6 undef) .nilIface;binOp .neq 20 (a.tmps.getD 6 undef) .nilIface:Sem Value);pure (ξn v):Sem Next).run _ w=_;rw[κ,h,MG];rfl
 refine aY (aR (kW rfl (eB λa k=>?_)));have m:(results Tryz.f254 a.tmps).run γ w= .ok (.tuple #[]) w:=by simp[results,ξP]
 simp only[bodyPostS];refine⟨k.defers,.returning,?_,.tuple #[],m,?_⟩
 ·rw[<-hu]
 ·simp
set_option maxHeartbeats 4000000 in
theorem VU {w:World} {b f:Nat} {n o:Γb} (e:Int) (h1:bE w b 50 n) (i:bE w f 27 o) (k:n.length=17) (m:o.length=1) (s:b≠f):
  CallsDIn (fw none) 0 γ 254 #[.pointer (some ⟨b,0,none⟩),.pointer (some ⟨f,0,none⟩)] (.panicking [{v:=.iface 27 (.int .i64 e),recovered:=false}]) w
   (λq y w'=>(∃v,q= .returned v)/\settle y= .returning/\ ∃w1,Fr [b] w w1/\bE w1 b 50 (ψ 16 (.int .i64 0)++[.slice none 0 0])/\Fr [f] w1 w'/\bE w' f 27 [.int .i64 e]):=by
 refine callsDIn_of_wpSIn ξq rfl (by simp[fw]) λz cs hu=>?_;apply wpSIn_seq;apply wpSIn_region;simp[wpOpsSIn,go_sem,recoverD,hu,ξY,ξH];refine wpSIn_of_wpIn rfl ?_;obtain⟨g,p⟩: ∃g:Env,g=[(0,.pointer (some ⟨b,0,none⟩)),(1,.pointer (some ⟨f,0,none⟩)),(2,.iface 27 (.int .i64 e))]:=⟨_,rfl⟩;refine(show WC γ none 18 _ _ g [] w from ?_) _ ⟨by simp,rfl,b0 (by subst p;refine⟨?_,?_,?_,trivial⟩<;>simp)⟩;subst p;refine aP (a7 (l:=[0,1]) rfl (aG ai [0] [(0,.pointer (some ⟨b,0,none⟩)),(1,.pointer (some ⟨f,0,none⟩)),(2,.iface 27 (.int .i64 e)),(6,.iface 27 (.int .i64 e))] rfl ⟨rfl,rfl,rfl,rfl,trivial⟩ (ek (d:=7) rfl rfl rfl rfl (by intro c h;cases h) (λa j=>?_) (v:=.bool true) (w':=w) ?_)))
 ·have h:=j.get 6 _ rfl;show(do let v<-(do eqGuard .neq 20 (.tmp 6) (.const .nilIface) (a.tmps.getD 6 undef) .nilIface;binOp .neq 20 (a.tmps.getD 6 undef) .nilIface:Sem Value);pure (ξn v):Sem Next).run _ w=_;rw[κ,h,ME];rfl
 refine aY (aR (ov rfl (aP (a7 (l:=[0,1,2,3,4,5,6]) rfl (aG ai [0] [(0,.pointer (some ⟨b,0,none⟩)),(1,.pointer (some ⟨f,0,none⟩)),(9,.iface 27 (.int .i64 e))] rfl ⟨rfl,rfl,rfl,trivial⟩ (ek (d:=10) rfl rfl rfl rfl (by intro c h;cases h) (λa j=>?_) (v:=.tuple #[.int .i64 e,.bool true]) (w':=w) ?_))))))
 ·have h:=j.get 9 _ rfl;show(do let v<-ξh (a.tmps.getD 9 undef) 20 27 true;pure (ξn v):Sem Next).run _ w=_;rw[κ,h,PM];rfl
 refine aG ai [2,3,4,5,6] [(0,.pointer (some ⟨b,0,none⟩)),(1,.pointer (some ⟨f,0,none⟩)),(3,.int .i64 e),(4,.bool true)] rfl ⟨rfl,rfl,rfl,rfl,trivial⟩ (aY (aR (aP (aP (a7 (l:=[0,1]) rfl (aG ai [0,1] [(0,.pointer (some ⟨b,0,none⟩)),(1,.pointer (some ⟨f,0,none⟩)),(3,.int .i64 e),(14,.bool false)] rfl ⟨rfl,rfl,rfl,rfl,trivial⟩ (aY (aR (kW rfl (eB (aR (a7 (l:=[0,1,2,3]) rfl (aG ai [0,1] [(0,.pointer (some ⟨b,0,none⟩)),(1,.pointer (some ⟨f,0,none⟩)),(16,.agg (ψ 16 (ξe .i64 0)++[ζk none 0 0]).toArray),(17,.int .i64 e)] rfl ⟨rfl,rfl,rfl,rfl,trivial⟩ (eT ai rfl rfl rfl rfl rfl rfl rfl h1 (ψ 16 (.int .i64 0)++[.slice none 0 0]) rfl rfl (by simp[ψ,ξy]) (by rw[k];rfl) (ψ 16 (.int .i64 0)++[.slice none 0 0]) (by unfold putAt;rw[ξ4 (by simp[k,m])];rfl) (λw1 u f1=>?_)))))))))))))));have i:=i.fr f1 (by simpa using s.symm);refine eT ai rfl rfl rfl rfl rfl rfl rfl i [.int .i64 e] rfl rfl (by simp[ξy]) (by rw[m];rfl) [.int .i64 e] (by unfold putAt;rw[ξ4 (by simp[k,m])];rfl) (λw2 x f2=>?_);refine aY λa r=>?_;have t:(results Tryz.f254 a.tmps).run γ w2= .ok (.tuple #[]) w2:=by simp[results,ξP]
 simp only[bodyPostS];refine⟨r.defers,.panicking [{v:=.iface 27 (.int .i64 e),recovered:=true}],rfl,.tuple #[],t,⟨.tuple #[],rfl⟩,rfl,w1,f1,u,f2,x⟩
def xd:Γb:=ψ 16 (.int .i64 0)++[.slice none 0 0]
def tf:mr SS:=⟨254,λcs p a k=>match cs with
 |[.one (.an i 0),.one (.an j 0)]=>(match p with
  |none=>k none []
  |some (.iface 27 (.int .i64 e))=>(match a i,a j with
   |some (.box 50 b),some (.box 27 c)=>bif !(ρ i j)&&(ρ (dP b) 17&&ρ (dP c) 1) then k none [(i,some (.box 50 (xd.map .v))),(j,some (.box 27 [.v (.int .i64 e)]))] else none
   |_,_=>none)
  |_=>none)
 |_=>none⟩
theorem MD {i j:Nat} (h:(!(ρ i j))=true):i≠j:=λe=>by subst e;simp at h
theorem VT {R:Type} (cs:List (ay SS)) (p:Option Value) (c:Nat->Option (Ob SS)) (k:Option Value->Up SS->Option R) (z:R) (a:tf.out cs p c k=some z): ∃q up,k q up=some z/\mu KK γ 254 cs p c q up:=by
 simp only[tf] at a;split at a
 rotate_left
 ·cases a
 rename_i i j;split at a
 ·refine⟨_,_,a,cR a8 ξq rfl,λA O w xs u r b hO K hm=>?_⟩;obtain⟨x1,ys,rfl,⟨g,_,h⟩,x2,x,rfl,⟨y,_,l⟩,m⟩:=r;cases h;cases l;rw[show x=[] from m,show u=_ from hm];refine VS.mono ?_;rintro e W w' ⟨h1,rfl,rfl⟩;exact⟨h1,rfl,A,O,b'.none hO⟩
 ·rename_i e;split at a
  rotate_left
  ·cases a
  rename_i G B h1 n;cases o:(!(ρ i j)&&(ρ (dP G) 17&&ρ (dP B) 1))<;>rw[o] at a
  ·cases a
  simp only[ξg] at o;obtain⟨d,N,P⟩:=o;have d:=MD d;refine⟨_,_,a,cR a8 ξq rfl,λA O w xs u r b hO K hm=>?_⟩;obtain⟨g,ad,s,Q,T,aa⟩:=qq b h1;obtain⟨y,ae,t,S,U,ab⟩:=qq b n;obtain⟨x1,ys,rfl,⟨X,D,h⟩,x2,x,rfl,⟨Y,E,l⟩,m⟩:=r;rw[s] at D;rw[t] at E;cases D;cases E;cases h;cases l;rw[show x=[] from m,show u=_ from hm];have M:g≠y:=λe=>b.dj i j _ _ _ _ g d h1 n s t rfl (by rw[e];rfl);refine(VU e Q S ((gM T).trans (ξ N)) ((gM U).trans (ξ P)) M).mono ?_;rintro Z W w' ⟨I,J,w1,f1,m1,f2,m2⟩;have f:b' A O w c [(i,some (.box 50 (xd.map .v)))] A O w1:=ti b hO h1 s f1 m1 (N2 (by decide));have L:=b.ca hO f;have H:b1 c [(i,some (.box 50 (xd.map LV.v)))] j=some (.box 27 B):=by
   rw[ei (λV C=>d (by simp at C;exact C.1.symm))];exact n
  have F:b' A O w1 (b1 c [(i,some (.box 50 (xd.map .v)))]) [(j,some (.box 27 [.v (.int .i64 e)]))] A O w':=ti L f.ob H t f2 m2 ⟨[.int .i64 e],[],rfl,⟨rfl,rfl⟩,rfl⟩;exact⟨I,J,A,O,b'.two b d f F hO⟩
 ·cases a
set_option maxHeartbeats 4000000 in
theorem VP {w:World} {f g i:Value}:
  CallsDIn (fw none) 0 γ 70 #[f,g,i] .returning w (λj o w'=>(∃v,j= .returned v)/\o= .returning/\w'=w):=by
 refine callsDIn_of_wpSIn ξA rfl (by simp[fw]) λp cs hu=>?_;apply wpSIn_seq;apply wpSIn_region;simp[wpOpsSIn,go_sem,recoverD,hu,ζ1,ξH];refine wpSIn_of_wpIn rfl ?_;obtain⟨b,e⟩: ∃b:Env,b=[(0,f),(1,g),(2,i),(3,.nilIface)]:=⟨_,rfl⟩;refine(show WC γ none 20 _ _ b [] w from ?_) _ ⟨by simp,rfl,b0 (by subst e;refine⟨?_,?_,?_,?_,trivial⟩<;>simp)⟩;subst e;refine aP (a7 (l:=[0,1]) rfl (aG ai [0] [(7,.nilIface)] rfl ⟨rfl,trivial⟩ (ek (d:=8) rfl rfl rfl rfl (by intro c h;cases h) (λa k=>?_) (v:=.bool false) (w':=w) ?_)))
 ·have h:=k.get 7 _ rfl;show(do let v<-(do eqGuard .neq 20 (.tmp 7) (.const .nilIface) (a.tmps.getD 7 undef) .nilIface;binOp .neq 20 (a.tmps.getD 7 undef) .nilIface:Sem Value);pure (ξn v):Sem Next).run _ w=_;rw[κ,h,MG];rfl
 refine aY (aR (kW rfl (eB λa m=>?_)));have n:(results Tryz.f70 a.tmps).run γ w= .ok (.tuple #[]) w:=by simp[results,ξU]
 simp only[bodyPostS];refine⟨m.defers,.returning,?_,.tuple #[],n,?_⟩
 ·rw[<-hu]
 ·simp
set_option maxHeartbeats 4000000 in
theorem VR {w:World} {i b f:Nat} {g o p:Γb} (e:Int) (x:bE w i 60 g) (h1:bE w b 60 o) (m:bE w f 40 p) (j:g.length=22) (r:o.length=22) (s:p.length=2) (A: ∀u∈g,u.oneCell'=true) (z:b≠f):
  CallsDIn (fw none) 0 γ 70 #[.pointer (some ⟨i,0,none⟩),.pointer (some ⟨b,0,none⟩),.pointer (some ⟨f,0,none⟩)] (.panicking [{v:=.iface 27 (.int .i64 e),recovered:=false}]) w
   (λt E w'=>(∃v,t= .returned v)/\settle E= .returning/\ ∃w1,Fr [b] w w1/\bE w1 b 60 g/\Fr [f] w1 w'/\bE w' f 40 [.int .i64 e,.int .u64 0]):=by
 refine callsDIn_of_wpSIn ξA rfl (by simp[fw]) λF cs hu=>?_;apply wpSIn_seq;apply wpSIn_region;simp[wpOpsSIn,go_sem,recoverD,hu,ζ1,ξH];refine wpSIn_of_wpIn rfl ?_;obtain⟨k,q⟩: ∃k:Env,k=[(0,.pointer (some ⟨i,0,none⟩)),(1,.pointer (some ⟨b,0,none⟩)),(2,.pointer (some ⟨f,0,none⟩)),(3,.iface 27 (.int .i64 e))]:=⟨_,rfl⟩;refine(show WC γ none 20 _ _ k [] w from ?_) _ ⟨by simp,rfl,b0 (by subst q;refine⟨?_,?_,?_,?_,trivial⟩<;>simp)⟩;subst q;refine aP (a7 (l:=[0,1]) rfl (aG ai [0] [(0,.pointer (some ⟨i,0,none⟩)),(1,.pointer (some ⟨b,0,none⟩)),(2,.pointer (some ⟨f,0,none⟩)),(3,.iface 27 (.int .i64 e)),(7,.iface 27 (.int .i64 e))] rfl ⟨rfl,rfl,rfl,rfl,rfl,trivial⟩ (ek (d:=8) rfl rfl rfl rfl (by intro c h;cases h) (λa n=>?_) (v:=.bool true) (w':=w) ?_)))
 ·have h:=n.get 7 _ rfl;show(do let v<-(do eqGuard .neq 20 (.tmp 7) (.const .nilIface) (a.tmps.getD 7 undef) .nilIface;binOp .neq 20 (a.tmps.getD 7 undef) .nilIface:Sem Value);pure (ξn v):Sem Next).run _ w=_;rw[κ,h,ME];rfl
 refine aY (aR (ov rfl (aP (a7 (l:=[0,1,2,3,4,5,6]) rfl (aG ai [0] [(0,.pointer (some ⟨i,0,none⟩)),(1,.pointer (some ⟨b,0,none⟩)),(2,.pointer (some ⟨f,0,none⟩)),(10,.iface 27 (.int .i64 e))] rfl ⟨rfl,rfl,rfl,rfl,trivial⟩ (ek (d:=11) rfl rfl rfl rfl (by intro c h;cases h) (λa n=>?_) (v:=.tuple #[.int .i64 e,.bool true]) (w':=w) ?_))))))
 ·have h:=n.get 10 _ rfl;show(do let v<-ξh (a.tmps.getD 10 undef) 20 27 true;pure (ξn v):Sem Next).run _ w=_;rw[κ,h,PM];rfl
 refine aG ai [2,3,4,5,6] [(0,.pointer (some ⟨i,0,none⟩)),(1,.pointer (some ⟨b,0,none⟩)),(2,.pointer (some ⟨f,0,none⟩)),(4,.int .i64 e),(5,.bool true)] rfl ⟨rfl,rfl,rfl,rfl,rfl,trivial⟩ (aY (aR (aP (aP (a7 (l:=[0,1]) rfl (aG ai [0,1] [(0,.pointer (some ⟨i,0,none⟩)),(1,.pointer (some ⟨b,0,none⟩)),(2,.pointer (some ⟨f,0,none⟩)),(4,.int .i64 e),(15,.bool false)] rfl ⟨rfl,rfl,rfl,rfl,rfl,trivial⟩ (aY (aR (kW rfl (eB (aR (a7 (l:=[0,1,2,3,4]) rfl (dQ ai rfl rfl rfl rfl rfl rfl rfl x g (by rw[ξV];exact List.take_of_length_le (by rw[j];decide)) j (.inl rfl) (.agg g.toArray) rfl ?_)))))))))))));refine aG ai [1,2] [(1,.pointer (some ⟨b,0,none⟩)),(2,.pointer (some ⟨f,0,none⟩)),(17,.agg g.toArray),(19,.agg #[.int .i64 e,.int .u64 0])] rfl ⟨rfl,rfl,rfl,rfl,trivial⟩ (eT ai rfl rfl rfl rfl rfl rfl rfl h1 g rfl j A (by rw[r];rfl) g (by unfold putAt;rw[ξ4 (by simp[r,j]),ξo];rfl) (λw1 C f1=>?_));have m:=m.fr f1 (by simpa using z.symm);refine eT ai rfl rfl rfl rfl rfl rfl rfl m [.int .i64 e,.int .u64 0] rfl rfl (by simp[ξy]) (by rw[s];rfl) [.int .i64 e,.int .u64 0] (by unfold putAt;rw[ξ4 (by simp[s])];rfl) (λw2 D f2=>?_);refine aY λa y=>?_;have B:(results Tryz.f70 a.tmps).run γ w2= .ok (.tuple #[]) w2:=by simp[results,ξU]
 simp only[bodyPostS];refine⟨y.defers,.panicking [{v:=.iface 27 (.int .i64 e),recovered:=true}],rfl,.tuple #[],B,⟨.tuple #[],rfl⟩,rfl,w1,f1,C,f2,D⟩
def te:mr SS:=⟨70,λcs p a k=>match cs with
 |[.one (.an h 0),.one (.an i 0),.one (.an j 0)]=>(match p with
  |none=>k none []
  |some (.iface 27 (.int .i64 e))=>(match a h,a i,a j with
   |some (.box 60 b),some (.box 60 c),some (.box 40 d)=>bif !(ρ i j)&&(ρ (dP b) 22&&(ρ (dP c) 22&&ρ (dP d) 2)) then k none [(i,some (.box 60 b)),(j,some (.box 40 [.v (.int .i64 e),.v (.int .u64 0)]))] else none
   |_,_,_=>none)
  |_=>none)
 |_=>none⟩
theorem VQ {R:Type} (cs:List (ay SS)) (p:Option Value) (c:Nat->Option (Ob SS)) (k:Option Value->Up SS->Option R) (z:R) (a:te.out cs p c k=some z): ∃q up,k q up=some z/\mu KK γ 70 cs p c q up:=by
 simp only[te] at a;split at a
 rotate_left
 ·cases a
 rename_i h i j;split at a
 ·refine⟨_,_,a,cR a8 ξA rfl,λA O w xs u x b hO T hm=>?_⟩;obtain⟨x0,aj,rfl,⟨L,_,m⟩,x1,ys,rfl,⟨l,_,n⟩,x2,D,rfl,⟨E,_,o⟩,r⟩:=x;cases m;cases n;cases o;rw[show D=[] from r,show u=_ from hm];refine VP.mono ?_;rintro e ai w' ⟨h1,rfl,rfl⟩;exact⟨h1,rfl,A,O,b'.none hO⟩
 ·rename_i e;split at a
  rotate_left
  ·cases a
  rename_i f M F N h1 s;cases t:(!(ρ i j)&&(ρ (dP f) 22&&(ρ (dP M) 22&&ρ (dP F) 2)))<;>rw[t] at a
  ·cases a
  simp only[ξg] at t;obtain⟨d,X,Y,Z⟩:=t;have d:=MD d;refine⟨_,_,a,cR a8 ξA rfl,λA O w xs u x b hO T hm=>?_⟩;obtain⟨L,ar,af,aa,C,o0⟩:=qq b N;obtain⟨l,au,y,ab,ag,ae⟩:=qq b h1;obtain⟨E,av,B,ad,ah,aq⟩:=qq b s;obtain⟨x0,aj,rfl,⟨ak,H,m⟩,x1,ys,rfl,⟨al,I,n⟩,x2,D,rfl,⟨an,J,o⟩,r⟩:=x;rw[af] at H;rw[y] at I;rw[B] at J;cases H;cases I;cases J;cases m;cases n;cases o;rw[show D=[] from r,show u=_ from hm];have W:l≠E:=λe=>b.dj i j _ _ _ _ l d h1 s y B rfl (by rw[e];rfl);refine(VR e aa ab ad ((gM C).trans (ξ X)) ((gM ag).trans (ξ Y)) ((gM ah).trans (ξ Z)) (N0 C) W).mono ?_;rintro ao ai w' ⟨Q,S,w1,f1,m1,f2,m2⟩;have g:b' A O w c [(i,some (.box 60 f))] A O w1:=ti b hO h1 y f1 m1 (jO (f1.tr (gJ ae)) (Pl.le.refl A) C);have U:=b.ca hO g;have P:b1 c [(i,some (.box 60 f))] j=some (.box 40 F):=by
   rw[ei (λV G=>d (by simp at G;exact G.1.symm))];exact s
  have K:b' A O w1 (b1 c [(i,some (.box 60 f))]) [(j,some (.box 40 [.v (.int .i64 e),.v (.int .u64 0)]))] A O w':=ti U g.ob P B f2 m2 ⟨[.int .i64 e],[.int .u64 0],rfl,⟨rfl,rfl⟩,[.int .u64 0],[],rfl,⟨rfl,rfl⟩,rfl⟩;exact⟨Q,S,A,O,b'.two b d g K hO⟩
 ·cases a
noncomputable def xG:bw SS:= {G2 with D:=tf::G2.D}
theorem Sy:ak xG γ:=ak.Jl (c:=tf) Sw VT
noncomputable def G3:bw SS:= {xG with D:=te::xG.D}
theorem Sx:ak G3 γ:=ak.Jl (c:=te) Sy VQ
end Go.Proofs.YtoggponeookhbaaGreatDoor
end
section
namespace Go.Proofs
open Go.Shelf
def Tryz.K3:Go.Shelf.Ren:=⟨λ|156=>252|165=>284|166=>285|169=>286|240=>303|241=>304|276=>314|277=>315|n=>n,λ|31=>192|9=>9|3=>3|4=>4|0=>0|20=>20|72=>321|76=>325|70=>319|37=>247|75=>324|127=>336|164=>345|5=>5|80=>327|n=>n,λ|n=>n⟩
theorem Tryz.K2:ζl γ Tryz.K3:= {
 mixed:=by kernel_rfl
 f156:=ζ2.trans (congrArg some (by kernel_rfl))
 f165:=Tryz.func284.trans (congrArg some (by kernel_rfl))
 f166:=Tryz.func285.trans (congrArg some (by kernel_rfl))
 f169:=Tryz.func286.trans (congrArg some (by kernel_rfl))
 f240:=Tryz.func303.trans (congrArg some (by kernel_rfl))
 f241:=Tryz.func304.trans (congrArg some (by kernel_rfl))
 f276:=Tryz.func314.trans (congrArg some (by kernel_rfl))
 f277:=Tryz.func315.trans (congrArg some (by kernel_rfl))
 t0:=Tryz.underlying0
 a0:=Tryz.isAgg0
 z0:=Tryz.sizeOf0
 v0:=Tryz.zeroValue0
 t3:=ξN
 a3:=Tryz.isAgg3
 z3:=Tryz.sizeOf3
 v3:=Tryz.zeroValue3
 t4:=Tryz.underlying4
 a4:=Tryz.isAgg4
 z4:=Tryz.sizeOf4
 v4:=Tryz.zeroValue4
 t9:=Tryz.underlying9
 a9:=Tryz.isAgg9
 z9:=Tryz.sizeOf9
 v9:=Tryz.zeroValue9
 t20:=Tryz.underlying20
 a20:=Tryz.isAgg20
 z20:=Tryz.sizeOf20
 v20:=Tryz.zeroValue20
 t31:=Tryz.underlying192
 a31:=Tryz.isAgg192
 z31:=Tryz.sizeOf192
 v31:=Tryz.zeroValue192
 t37:=Tryz.underlying247
 a37:=Tryz.isAgg247
 z37:=Tryz.sizeOf247
 v37:=Tryz.zeroValue247
 t70:=Tryz.underlying319
 a70:=Tryz.isAgg319
 z70:=Tryz.sizeOf319
 v70:=Tryz.zeroValue319
 t72:=Tryz.underlying321
 a72:=Tryz.isAgg321
 z72:=Tryz.sizeOf321
 v72:=Tryz.zeroValue321
 t75:=Tryz.underlying324
 a75:=Tryz.isAgg324
 z75:=Tryz.sizeOf324
 v75:=Tryz.zeroValue324
 t76:=Tryz.underlying325
 a76:=Tryz.isAgg325
 z76:=Tryz.sizeOf325
 v76:=Tryz.zeroValue325
 t127:=Tryz.underlying336
 a127:=Tryz.isAgg336
 z127:=Tryz.sizeOf336
 v127:=Tryz.zeroValue336
 t164:=Tryz.underlying345
 a164:=Tryz.isAgg345
 z164:=Tryz.sizeOf345
 v164:=Tryz.zeroValue345}
theorem Tryz.Gw:Builder.Extra γ Tryz.K3:= {
 sizeBuilder:=by kernel_rfl
 liesBuilder:=by kernel_rfl
 t5:=Tryz.underlying5
 a5:=Tryz.isAgg5
 z5:=Tryz.sizeOf5
 v5:=Tryz.zeroValue5
 infoByte:=by kernel_rfl
 cellsByte:=by kernel_rfl
 sizeByte:=by kernel_rfl
 neB5:=by decide}
open Go.RowKit in
theorem Tryz.strings_Join_none (a:Option Addr) (c:Nat) (sep:ByteArray) (w:World):
 Calls γ 252 #[.slice a 0 c,.string sep] w λe w'=>e= .returned (.string ⟨#[]⟩)/\w'=w:=Any.strings_Join_none Tryz.K2 Tryz.Gw a c sep w
open Go.RowKit in
theorem Tryz.strings_Join (bk o c:Nat) (xs:List ByteArray) (sep:ByteArray) (w:World) (f: ∀(j:Nat) x,xs[j]? =some x->w.cell? ⟨bk,o+j,none⟩=some (.string x)) (b:bk<w.heap.size) (a:xs.length<=140737488355328) (d:xs.length<=c) (hlen:(ζm (xs.map (·.data.toList)) sep.data.toList).length<=140737488355328):
 Calls γ 252 #[.slice (some ⟨bk,o,none⟩) xs.length c,.string sep] w λe w'=>e= .returned (.string ⟨(ζm (xs.map (·.data.toList)) sep.data.toList).toArray⟩)/\Below w.heap.size w w':=Any.strings_Join Tryz.K2 Tryz.Gw bk o c xs sep w f b a d hlen
end Go.Proofs
end
section
namespace Go.Proofs.YtoggponeookhbaaGreatDoor
open Go.RowKit Go.Dc Go.Vx
def g' (es:List ByteArray) (sep:ByteArray):ByteArray:=⟨(ζm (es.map (·.data.toList)) sep.data.toList).toArray⟩
theorem aef {w:World} {ad:Addr} {v:Value} (h:w.cell? ad=some v):ad.spot=none:=by
 unfold World.cell? at h;split at h
 ·split at h
  ·cases h
  ·rename_i a;simpa using a
 ·cases h
theorem aaa {O:Γ} {w:World} {v:Value} {es:List ByteArray} (sep:ByteArray) (z:(Ty.slice Ty.str).is O w v es) (r:es.length<=140737488355328) (hlen:(g' es sep).size<=140737488355328):
  Calls γ 252 #[v,.string sep] w (λe w'=>e= .returned (.string (g' es sep))/\Fr [] w w'):=by
 obtain⟨cs,⟨A,c,t,hl,m⟩,i⟩:=z;subst t;have i:v= .slice A es.length c:=i;subst i;cases es with
 |nil=>
  refine(Tryz.strings_Join_none A c sep w).mono ?_;rintro e w' ⟨rfl,rfl⟩;exact⟨rfl,Fr.refl _ _⟩
 |cons f es=>
  obtain⟨ad,u,g,s,C,a,he⟩:=m 0 f rfl;subst g;have a:u=[.string f]:=a;subst a;have q:(ad.add (0*Ty.str.n)).add 0=ad:=by simp[Addr.add]
  have h1:=he.1 0 (.string f) rfl;rw[q] at h1;have h:=aef h1;obtain⟨b,o,sp⟩:=ad;have h:sp=none:=h;subst h;refine(Tryz.strings_Join b o c (f::es) sep w (λj x y=>?_) s r hl.1 (by simpa[g',ByteArray.size] using hlen)).mono ?_
  ·obtain⟨B,u,g,_,_,a,he⟩:=m j x y;cases g;have a:u=[.string x]:=a;subst a;have l:=he.1 0 (.string x) rfl;have p:((⟨b,o,none⟩:Addr).add (j*Ty.str.n)).add 0=⟨b,o+j,none⟩:=by
    rw[add_add,show j*Ty.str.n+0=j by show j*1+0=j;omega];unfold Addr.add;split<;>simp_all
   rw[p] at l;exact l
  ·rintro e w' ⟨rfl,d⟩;exact⟨rfl,d.os,d.tape,d.output,d.size,λk hk _=>d.block k hk⟩
def uZ:eJ SS:=⟨252,λxs k=>match xs with
 |[.one l,.one (.v (.string sep))]=>(match ea KK (λ_=>none) 9 l with
  |some es=>bif decide (List.length (α:=ByteArray) es<=140737488355328)&&decide ((g' es sep).size<=140737488355328) then k (.ret (.s (.one (.v (.string (g' es sep)))))) else none
  |none=>none)
 |_=>none⟩
theorem aab {R:Type} (xs:List (ay SS)) (k:Rs SS->Option R) (z:R) (s:xs.all ay.pure=true) (a:uZ.out xs k=some z): ∃r,k r=some z/\eC KK γ 252 xs r:=by
 clear s;simp only[uZ] at a;split at a
 rotate_left
 ·cases a
 rename_i l sep;split at a
 rotate_left
 ·cases a
 rename_i es n;rcases iq a with⟨c,a⟩|⟨_,a⟩
 rotate_left
 ·cases a
 simp only[ξg,decide_eq_true_eq] at c;refine⟨_,a,cR a8 ζ2 rfl,λA O w vs t hO v=>?_⟩;obtain⟨y,ys,rfl,h1,x,u,rfl,⟨d,_⟩,f⟩:=t;cases d;rw[show u=[] from f];have o:bK A O w (λ_=>(none:Option (Ob SS))):=⟨(λi X h=>nomatch h),(λi j X Y p q b _ h=>nomatch h)⟩;have m:=js du o n h1;refine(aaa sep m c.1 c.2).mono ?_;rintro e w' ⟨rfl,g⟩;exact⟨⟨_,rfl,rfl,rfl⟩,g⟩
noncomputable def G4:bw SS:= {G3 with C:=uZ::G3.C}
theorem Sz:ak G4 γ:=ak.ga (c:=uZ) Sx aab
end Go.Proofs.YtoggponeookhbaaGreatDoor
end
section
namespace Go.Dc
open Go.RowKit
def kN (k:IntKind):Ty (Int×Value) where
 agg:=true
 n:=2
 rep _ _ cs x:=cs=[.int k x.1,x.2]/\ ∃A n c,x.2= .slice A n c
 tr _ h:=h
 len:=λ⟨h,_⟩=>by rw[h];rfl
 one:=λ⟨h,A,n,c,a⟩ u hu=>by
  rw[h,a] at hu;simp only[ξX,ξM,or_false] at hu;rcases hu with rfl|rfl<;>rfl
 fv h:=by cases h
theorem E5 (k:IntKind):(kN k).Flat:=λh=>h
structure c0 {α:Type} (T:Ty α) (e B:Nat) (w:World) (v:Value) (xs:List α):Prop where
 ex: ∃cs,w.ownsRow B e T.n v xs.length cs/\bN T [] w cs xs
section
variable {α:Type} {T:Ty α} {e B:Nat} {O O':Γ} {w w':World} {v:Value} {xs:List α}
theorem Own.iC (h:Own T e B O w v xs):c0 T e B w v xs:=by
 obtain⟨cs,h1,a⟩:=h.ex;exact⟨cs,h1,a.tr (Tr.less (aep _))⟩
theorem c0.own (b:T.Flat) (h:c0 T e B w v xs) (hO: ∀g,v.ownBlock=some g->g∈O):Own T e B O w v xs:=by
 obtain⟨cs,h1,a⟩:=h.ex;exact⟨⟨cs,h1,wi b a⟩,hO⟩
theorem c0.lt (h:c0 T e B w v xs): ∀g,v.ownBlock=some g->B<=g/\g<w.heap.size:=by
 obtain⟨cs,h1,_⟩:=h.ex;exact h1.lt
theorem c0.keep (d:T.Flat) (h:c0 T e B w v xs) (hk: ∀g,v.ownBlock=some g->w'.heap[g]? =w.heap[g]?):c0 T e B w' v xs:=by
 obtain⟨cs,⟨b,h1⟩,c⟩:=h.ex;refine⟨cs,⟨b,?_⟩,wi d c⟩;rcases h1 with h1|⟨g,cap,cur,a,f,i,r⟩
 ·exact .inl h1
 ·refine .inr ⟨g,cap,cur,a,f,?_,r⟩;rw[hk g (by rw[a];rfl)];exact i
theorem c0.cc (a:T.Flat) (h:c0 T e B w v xs) (b:Fr [] w w'):c0 T e B w' v xs:=h.keep a λg c=>b.block g (h.lt g c).2 (by simp)
theorem c0.less {a:Nat} (h:c0 T e B w v xs) (d:a<=B):c0 T e a w v xs:=by
 obtain⟨cs,⟨b,h1⟩,c⟩:=h.ex;refine⟨cs,⟨b,?_⟩,c⟩;rcases h1 with h1|⟨g,cap,cur,i,f,r⟩
 ·exact .inl h1
 ·exact .inr ⟨g,cap,cur,i,Nat.le_trans d f,r⟩
theorem c0.form (h:c0 T e B w v xs): ∃A c,v= .slice A xs.length c/\xs.length<=c/\c<=maxLen:=by
 obtain⟨cs,⟨_,h1⟩,_⟩:=h.ex;rcases h1 with⟨rfl,a⟩|⟨g,cap,cur,rfl,_,_,b,d,_⟩
 ·exact⟨none,0,by rw[a],by omega,by unfold maxLen;omega⟩
 ·exact⟨_,cap,rfl,b,d⟩
theorem c0.data (i:T.Flat) (h:c0 T e B w v xs) (hn: ∀g,v.ownBlock=some g->g∉O):T.slice.is O w v xs:=by
 obtain⟨cs,⟨k,h1⟩,b⟩:=h.ex;rcases h1 with⟨rfl,hl⟩|⟨g,cap,cur,rfl,m,j,c,d,l,f⟩
 ·have:xs=[]:=ξi hl;subst this;exact gN _ _ _
 ·have a:bN T O w cs xs:=wi i b;exact FR j (hn g rfl) a (by rw[a.len];exact f) c d
theorem c0.iN:c0 T e B w (.slice none 0 0) []:=⟨[],World.ownsRow_nil w B e T.n,rfl⟩
end
def SP.iC {α:Type} (T:Ty α) (a:T.Flat) (e B:Nat) (xs:List α):SP:=⟨λw v=>c0 T e B w v xs,λb h=>h.cc a b⟩
theorem Ka {α:Type} {T:Ty α} {e B:Nat} {O:Γ} {w w':World} {zs:List α} {a:Ending} (b:w.heap.size=B) (h:eK T e B O w (.slice none 0 0) zs a w'):gu (λ_ w v zs=>c0 T e B w v zs) O w zs a w':=by
 subst b;obtain⟨c,O',he,ap⟩:=h;exact⟨c,he,ap.own.iC,ap.cc Own.iN (Fr.refl [] w)⟩
def c5 {β:Type} (T:Ty β) (e B:Nat) (w:World):Γ->Γd->List (Int×List β)->Prop
 |S,[],[]=>S=[]
 |S,x::r,y::b=> ∃a,x.1=y.1/\S=x.2.ownBlock.toList++a/\c0 T e B w x.2 y.2/\c5 T e B w a r b
 |_,_,_=>False
section
variable {β:Type} {T:Ty β} {e B:Nat} {w w':World}
theorem c5.keep (b:T.Flat): ∀ {S:Γ} {rs:Γd} {xs:List (Int×List β)},c5 T e B w S rs xs->(∀g∈S,w'.heap[g]? =w.heap[g]?)->c5 T e B w' S rs xs
 |_,[],[],h,_=>h
 |_,_::_,_::_,⟨c,h1,d,f,i⟩,hk=>by
  subst d;exact⟨c,h1,rfl,f.keep b λg a=>hk g (ξk _ (by rw[a];simp)),c5.keep b i λg a=>hk g (φ _ a)⟩
 |_,[],_::_,h,_=>h.elim
 |_,_::_,[],h,_=>h.elim
theorem c5.lt: ∀ {S:Γ} {rs:Γd} {xs:List (Int×List β)},c5 T e B w S rs xs-> ∀g∈S,B<=g/\g<w.heap.size
 |_,[],[],h,g,a=>by rw[show _=[] from h] at a;cases a
 |_,_::_,_::_,⟨f,h1,b,c,d⟩,g,a=>by
  subst b;rcases ξp.1 a with a|a
  ·exact c.lt g (by simpa using a)
  ·exact c5.lt d g a
 |_,[],_::_,h,_,_=>h.elim
 |_,_::_,[],h,_,_=>h.elim
theorem c5.cc (a:T.Flat) {S:Γ} {rs:Γd} {xs:List (Int×List β)} (h:c5 T e B w S rs xs) (b:Fr [] w w'):c5 T e B w' S rs xs:=h.keep a λg c=>b.block g (h.lt g c).2 (by simp)
theorem c5.len: ∀ {S:Γ} {rs:Γd} {xs:List (Int×List β)},c5 T e B w S rs xs->rs.length=xs.length
 |_,[],[],_=>rfl
 |_,_::_,_::_,⟨_,_,_,_,a⟩=>by simp[c5.len a]
 |_,[],_::_,h=>h.elim
 |_,_::_,[],h=>h.elim
theorem c5.app: ∀ {S S':Γ} {rs a:Γd} {xs b:List (Int×List β)},c5 T e B w S rs xs->c5 T e B w S' a b->c5 T e B w (S++S') (rs++a) (xs++b)
 |_,_,[],_,[],_,h,k=>by rw[show _=[] from h];exact k
 |_,_,_::_,_,_::_,_,⟨c,h1,d,f,g⟩,k=>by subst d;exact⟨c++_,h1,by simp,f,c5.app g k⟩
 |_,_,[],_,_::_,_,h,_=>h.elim
 |_,_,_::_,_,[],_,h,_=>h.elim
theorem c5.at_: ∀ {S:Γ} {rs:Γd} {xs:List (Int×List β)} {j:Nat} {x:Int×List β},c5 T e B w S rs xs->xs[j]? =some x->
  ∃v i b,rs[j]? =some (x.1,v)/\S=i++v.ownBlock.toList++b/\c0 T e B w v x.2/\
   ∀ {w':World} {d:Value} {ys:List β},(∀g∈i++b,w'.heap[g]? =w.heap[g]?)->T.Flat->c0 T e B w' d ys->c5 T e B w' (i++d.ownBlock.toList++b) (rs.set j (x.1,d)) (xs.set j (x.1,ys))
 |_,[],[],_,_,_,a=>by simp at a
 |_,r::rs,y::xs,0,x,⟨b,h1,k,l,m⟩,a=>by
  simp at a;subst a;refine⟨r.2,[],b,by simp[<-h1],by simpa using k,l,λ{w' d ys} hk f n=>?_⟩;exact⟨b,rfl,by simp,n,m.keep f λg c=>hk g (by simpa using c)⟩
 |_,r::rs,y::xs,j+1,x,⟨b,h1,k,l,m⟩,a=>by
  obtain⟨v,o,p,q,s,t,u⟩:=c5.at_ m (by simpa using a);refine⟨v,r.2.ownBlock.toList++o,p,by simpa using q,by rw[k,s];simp,t,λ{w' d ys} hk f n=>?_⟩;exact⟨o++d.ownBlock.toList++p,h1,by simp,l.keep f λg c=>hk g (by simp[c]),u (λg c=>hk g (by simp at c ⊢;exact .inr c)) f n⟩
 |_,[],_::_,_,_,h,_=>h.elim
 |_,_::_,[],_,_,_,a=>by simp at a
theorem c5.ins: ∀ {S:Γ} {rs:Γd} {xs:List (Int×List β)} (j:Nat) (p:Int),j<=rs.length->c5 T e B w S rs xs->c5 T e B w S (rs.take j++[(p,.slice none 0 0)]++rs.drop j) (xs.take j++[(p,[])]++xs.drop j)
 |S,rs,xs,0,p,_,h=>by
  simp only[List.take_zero,List.nil_append,ξV,List.singleton_append];exact⟨S,rfl,rfl,c0.iN,h⟩
 |_,r::rs,y::xs,j+1,p,a,⟨b,h1,c,d,f⟩=>by
  simp only[List.take_succ_cons,List.drop_succ_cons,List.cons_append];exact⟨b,h1,c,d,c5.ins j p (by simpa using a) f⟩
 |_,[],_,j+1,p,a,_=>by simp at a
 |_,_::_,[],j+1,p,_,h=>h.elim
end
end Go.Dc
end
section
namespace Go.Proofs.YtoggponeookhbaaGreatDoor
open Go.RowKit Go.Dc Go.Vx
def nz (xs:List aj) (j:Int) (ys:List aj):Option (List aj):=hE 24 xs j ys
def nA (xs:List aw) (j:Int) (ys:List aw):Option (List aw):=hE 16 xs j ys
def lO (xs:List ah) (j:Int) (ys:List ah):Option (List ah):=hE 32 xs j ys
def wC (xs:Γd) (j:Int) (ys:Γd):Option (Γd):=hE 32 xs j ys
set_option maxRecDepth 100000 in
set_option maxHeartbeats 12000000 in
theorem uX:(∀ {O:Γ} {w:World},OB O w-> ∀ {B:Nat},B<=w.heap.size-> ∀ {v:Value} {xs:List aj},Go.Dc.Own h7 105 B O w v xs-> ∀ {v1:Value} {j:Int},(Ty.int .i64).is O w v1 j-> ∀ {u:Value} {ys:List aj},(Ty.slice h7).is O w u ys->Plain w u-> ∀ {zs:List aj},nz xs j ys=some zs->let T:Ty aj:=h7;let e:Nat:=105;let S:Nat:=3;Calls γ 212 #[v,v1,u] w (eK T e B O w v zs))/\(∀ {O:Γ} {w:World},OB O w-> ∀ {B:Nat},B<=w.heap.size-> ∀ {v:Value} {xs:List aw},Go.Dc.Own dW 127 B O w v xs-> ∀ {v1:Value} {j:Int},(Ty.int .i64).is O w v1 j-> ∀ {u:Value} {ys:List aw},(Ty.slice dW).is O w u ys->Plain w u-> ∀ {zs:List aw},nA xs j ys=some zs->let T:Ty aw:=dW;let e:Nat:=127;let S:Nat:=2;Calls γ 222 #[v,v1,u] w (eK T e B O w v zs))/\(∀ {O:Γ} {w:World},OB O w-> ∀ {B:Nat},B<=w.heap.size-> ∀ {v:Value} {xs:List ah},Go.Dc.Own gO 115 B O w v xs-> ∀ {v1:Value} {j:Int},(Ty.int .i64).is O w v1 j-> ∀ {u:Value} {ys:List ah},(Ty.slice gO).is O w u ys->Plain w u-> ∀ {zs:List ah},lO xs j ys=some zs->let T:Ty ah:=gO;let e:Nat:=115;let S:Nat:=4;Calls γ 259 #[v,v1,u] w (eK T e B O w v zs))/\(∀ {O:Γ} {w:World},OB O w-> ∀ {B:Nat},B<=w.heap.size-> ∀ {v:Value} {xs:Γd},Go.Dc.Own (kN .u64) 132 B O w v xs-> ∀ {v1:Value} {j:Int},(Ty.int .i64).is O w v1 j-> ∀ {u:Value} {ys:Γd},(Ty.slice (kN .u64)).is O w u ys->Plain w u-> ∀ {zs:Γd},wC xs j ys=some zs->let T:Ty (Int×Value):=(kN .u64);let e:Nat:=132;let S:Nat:=2;Calls γ 293 #[v,v1,u] w (eK T e B O w v zs)):=by
 refine⟨?_,?_,?_,?_⟩
 all_goals
  intro O w hO B aM v xs ae v1 j h1 u ys hu hp zs bK T e S;obtain rfl:=dx.1 h1;obtain⟨bT,bU,bf,rfl⟩:=KJ bK;obtain⟨k,rfl⟩: ∃k:Nat,j=k:=⟨j.toNat,by omega⟩;simp only[Int.toNat_natCast] at*
  have aF:k<=xs.length:=by omega
  obtain⟨A,c,rfl,bA,bR⟩:=ae.form;obtain⟨H,o,rfl,bX,bY⟩:=eS hu;refine gA (args:=[.slice A xs.length c,.int .i64 k,.slice H ys.length o]) (N:=95) (by first|exact ζ3|exact ζ4|exact ζ5|exact Tryz.func293) rfl rfl rfl ?_;refine aP (a7 (l:=[0]) rfl (aG ai [0] [(0,.slice A xs.length c),(1,.int .i64 k),(2,.slice H ys.length o)] rfl ⟨rfl,rfl,rfl,trivial⟩ (aY (aR (aP (a7 (l:=[0,1,2]) rfl (aG ai [0,1] [(0,.slice A xs.length c),(1,.int .i64 k),(2,.slice H ys.length o),(10,.slice A xs.length c),(11,.int .i64 k)] rfl ⟨rfl,rfl,rfl,rfl,rfl,trivial⟩ (q1 ai rfl rfl rfl rfl rfl rfl rfl rfl rfl rfl bA aF (aY (aR (aP (a7 (l:=[0,1,2]) rfl (aG ai [0,1,2] [(0,.slice A xs.length c),(1,.int .i64 k),(2,.slice H ys.length o),(7,.int .i64 (ys.length:Int))] rfl ⟨rfl,rfl,rfl,rfl,trivial⟩ (aY (aR (aP (aP (a7 (l:=[0,1]) rfl (aG ai [0,1] [(0,.slice A xs.length c),(1,.int .i64 k),(2,.slice H ys.length o),(7,.int .i64 (ys.length:Int)),(16,.bool ((ys.length:Int)==0))] rfl ⟨rfl,rfl,rfl,rfl,rfl,trivial⟩ (aY (aR ?_)))))))))))))))))))))
  by_cases aH:ys.length=0
  ·have bJ:ys=[]:=ξi aH;refine fz rfl (by simp[aH]) ?_;refine aP (a7 (l:=[0,1]) rfl (aG ai [0,1] [(6,.slice A xs.length c)] rfl ⟨rfl,trivial⟩ (aY (aR (dC (fA (eU rfl ⟨_,O,rfl,?_⟩)))))));have e:xs.take k++ys++xs.drop k=xs:=by rw[bJ];simp
   rw[e];exact⟨ae,Tr.refl _ _,hO,Sub.refl _,λ_ _ _=>rfl,λ_ _ h=>h⟩
  refine fJ rfl (beq_eq_false_iff_ne.2 (by omega)) ?_;refine eB (aR (aP (a7 (l:=[0,1,2]) rfl (aG ai [0,1,2] [(0,.slice A xs.length c),(1,.int .i64 k),(2,.slice H ys.length o),(7,.int .i64 (ys.length:Int)),(8,.int .i64 (xs.length:Int))] rfl ⟨rfl,rfl,rfl,rfl,rfl,trivial⟩ (aY (aR (aP (aP (a7 (l:=[0,1,2]) rfl (aG ai [0,1,2] [(0,.slice A xs.length c),(1,.int .i64 k),(2,.slice H ys.length o),(7,.int .i64 (ys.length:Int)),(8,.int .i64 (xs.length:Int)),(22,.bool ((k:Int)==(xs.length:Int)))] rfl ⟨rfl,rfl,rfl,rfl,rfl,rfl,trivial⟩ (aY (aR ?_))))))))))))
  by_cases a':k=xs.length
  ·refine fz rfl (by simp[a']) ?_;refine aP (a7 (l:=[0,1,2,3]) rfl (aG ai [0,1] [(23,.slice A xs.length c),(24,.slice H ys.length o)] rfl ⟨rfl,rfl,trivial⟩ (Qq ai rfl rfl rfl rfl rfl rfl rfl rfl rfl (by decide) rfl (by decide) rfl rfl aM hO ae hu (by simp only[ξZ] at bf ⊢;omega) (λbL w' O' br=>?_))));refine aG ai [3] [(6,bL)] rfl ⟨rfl,trivial⟩ (aY (aR (dC (fA (eU rfl ⟨_,O',rfl,?_⟩)))));have e:xs.take k++ys++xs.drop k=xs++ys:=by subst a';simp
   rw[e];exact br
  refine fJ rfl (by simp;omega) ?_;refine eB (aR ?_);obtain⟨cs,⟨ax,aK⟩,aa⟩:=ae.ex;rcases aK with⟨_,bW⟩|⟨g,c2,cur,aK,bn,P,an,bu,ay,aA⟩
  ·omega
  injection aK with bm bZ I;subst bm;subst I;have aC:=ae.mem g rfl;cases H with
  |none=>exact absurd (wF hu) (λh=>aH (by rw[h];rfl))
  |some ad=>
  obtain⟨b5,bN,b8,aE⟩:=hp ad _ _ rfl;obtain⟨_,us,ab,a1⟩:=qR hu;have D:us.length=ys.length*S:=ab.len;have ax:cs.length=xs.length*S:=ax;have U:T.n=S:=rfl;rw[U] at ay aA;have aZ:ad.block≠g:=by
   intro e;obtain⟨y,bI⟩: ∃y,ys[0]? =some y:=⟨_,List.getElem?_eq_getElem (by omega)⟩;obtain⟨bM,bh,bD⟩:=FQ hu bI;cases bh;obtain⟨_,⟨_,_,bs,_,ba,_⟩,I⟩:=bD;subst bs;have I:Value.pointer (some (ad.add (0*T.n)))= .pointer (some _):=I;injection I with I;injection I with I;rw[<-I,ht,e] at ba;exact ba aC
  have bt: ∀j,w.cell? ⟨g,j,none⟩=cur[j]? :=λj=>cell_of_row w g j cur e (0,0) P;have bw: ∀j x,cs[j]? =some x->cur.toList[j]? =some x:=λj x t=>by
   rw[<-aA,ξD] at t;split at t
   ·exact t
   ·cases t
  have az: ∀q,dK w ⟨g,q,none⟩ (cs.drop q):=λq j x t=>by
   rw[e9,bt,<-Array.getElem?_toList];rw[List.getElem?_drop] at t;exact bw _ x t
  have bV:k*S<=xs.length*S:=ξ7 _ aF;have bQ:xs.length*S<=c*S:=ξ7 _ an;have bb: ∀x∈cs,x.oneCell'=true:=aa.one;refine aP (aP (a7 (l:=[0,1,2,3,4,5]) rfl ?_));have aL:δ.wrap ((xs.length:Int)+(ys.length:Int))=((xs.length+ys.length:Nat):Int):=by
   rw[ξj];unfold maxLen at*;omega
  refine aG ai [0,1,2,3,4,5] [(0,.slice (some ⟨g,0,none⟩) xs.length c),(1,.int .i64 k),(2,.slice (some ad) ys.length o),(7,.int .i64 (ys.length:Int)),(8,.int .i64 (xs.length:Int)),(31,.bool (decide (δ.wrap ((xs.length:Int)+(ys.length:Int))>(c:Int))))] rfl ⟨rfl,rfl,rfl,rfl,rfl,rfl,trivial⟩ (aY (aR ?_));rw[aL]
  by_cases bS:c<xs.length+ys.length
  ·refine fz rfl (by simp;omega) ?_;refine aP (a7 (l:=[0,1,2,3,4,5,6,7,8,9]) rfl (aG ai [0,1] [(0,.slice (some ⟨g,0,none⟩) xs.length c),(1,.int .i64 k),(2,.slice (some ad) ys.length o),(7,.int .i64 (ys.length:Int)),(8,.int .i64 (xs.length:Int)),(32,.slice (some ⟨g,0,none⟩) xs.length c),(33,.int .i64 k)] rfl ⟨rfl,rfl,rfl,rfl,rfl,rfl,rfl,trivial⟩ (Gm ai rfl rfl rfl rfl rfl rfl rfl rfl rfl rfl an (by omega) ?_)));refine aG ai [3,4,5,6,7] [(0,.slice (some ⟨g,0,none⟩) xs.length c),(1,.int .i64 k),(2,.slice (some ad) ys.length o),(7,.int .i64 (ys.length:Int)),(34,.slice (some ⟨g,0,none⟩) k c),(39,.int .i64 (δ.wrap (δ.wrap ((xs.length:Int)+(ys.length:Int))-(k:Int))))] rfl ⟨rfl,rfl,rfl,rfl,rfl,rfl,trivial⟩ ?_;have bH:δ.wrap (δ.wrap ((xs.length:Int)+(ys.length:Int))-(k:Int))=((xs.length+ys.length-k:Nat):Int):=by
    rw[aL,ξj];unfold maxLen at*;omega
   rw[bH];have r:(cs.take (k*S)).length=k*S:=by rw[ξ9];omega
   refine afk ai rfl rfl rfl rfl rfl rfl rfl rfl rfl rfl rfl rfl rfl (us:=cs.take (k*S)) (λj x t=>by
    rw[ξD] at t;split at t
    ·have:=az 0 j x (by simpa using t);exact this
    ·cases t) r (by omega) (by omega) (by simp only[ξZ] at bf ⊢;omega) rfl ?_
   have bB:k+(xs.length+ys.length-k)=xs.length+ys.length:=by omega
   rw[bB];generalize aN:grownCap w (xs.length+ys.length) c e=C;have aq:xs.length+ys.length<=C:=by rw[<-aN];exact grownCap_ge _ _ _ _
   have bo:C<=maxLen:=by rw[<-aN];exact grownCap_le_maxLen _ _ _ _ (by unfold maxLen at*;omega)
   have bO:(xs.length+ys.length)*S<=C*S:=ξ7 _ aq;refine aG ai [9] [(0,.slice (some ⟨g,0,none⟩) xs.length c),(1,.int .i64 k),(2,.slice (some ad) ys.length o),(7,.int .i64 (ys.length:Int)),(9,.slice (some ⟨w.heap.size,0,none⟩) (xs.length+ys.length) C)] rfl ⟨rfl,rfl,rfl,rfl,rfl,trivial⟩ (aY (aR ?_));obtain⟨Z,aU,au⟩:=adw (cs:=cs.take (k*S)) (xs.length+ys.length-k) (C-(xs.length+ys.length)) (by first|exact(show(ξB (.agg #[(.int .u64 0),(.int .i64 0),(.int .u64 0)])).size=S from(λ(_:e=105)=>rfl) rfl)|exact(show(ξB (.agg #[(.int .u64 0),(.int .u64 0)])).size=S from(λ(_:e=127)=>rfl) rfl)|exact(show(ξB (.agg #[(.int .u64 0),(.int .u64 0),(.bool false),(.int .u64 0)])).size=S from(λ(_:e=115)=>rfl) rfl)|exact(show(ξB (.agg #[.int .u64 0,.slice none 0 0])).size=S from(λ(_:e=132)=>rfl) rfl));rw[show xs.length+ys.length-k+(C-(xs.length+ys.length))=C-k by omega] at au;generalize (cs.take (k*S)).toArray++ξI _ (xs.length+ys.length-k)++ξI _ (C-(xs.length+ys.length))=row at*
   have bP:(C-k)*S+k*S=C*S:=by rw[<-ξ6];congr 1;omega
   have b4:row.size=C*S:=by rw[<-υ,aU,η,au,r];omega
   have aI:=jG (O:=O) (w:=w.drew) hO e row.toList;simp only[Array.toArray_toList] at aI;generalize b6:w.drew.alloc (.cells row e)=w1 at*
   have ar:w1.heap[w.heap.size]? =some (.cells row e (0,0)):=by have:=aI.bG;unfold bE at this;simpa using this
   have a8:Fr [] w w1:=(Fr.drew [] w).trans aI.fr;have bF:(xs.length+ys.length)*S=k*S+ys.length*S+(xs.length-k)*S:=by rw[<-ξ6,<-ξ6];congr 1;omega
   have a_:(k+ys.length)*S=k*S+ys.length*S:=ξ6 _ _ _;have bC:(xs.length-k)*S+k*S=xs.length*S:=by rw[<-ξ6];congr 1;omega
   refine aP (a7 (l:=[0,1,2,3,4]) rfl (aG ai [0,1] [(0,.slice (some ⟨g,0,none⟩) xs.length c),(1,.int .i64 k),(2,.slice (some ad) ys.length o),(7,.int .i64 (ys.length:Int)),(9,.slice (some ⟨w.heap.size,0,none⟩) (xs.length+ys.length) C),(41,.slice (some ⟨w.heap.size,0,none⟩) (xs.length+ys.length) C),(42,.int .i64 k)] rfl ⟨rfl,rfl,rfl,rfl,rfl,rfl,rfl,trivial⟩ (q1 ai rfl rfl rfl rfl rfl rfl rfl rfl rfl rfl aq (by omega) ?_)));rw[if_neg (by omega),ξ0,e9,ξa];refine aG ai [3] [(0,.slice (some ⟨g,0,none⟩) xs.length c),(1,.int .i64 k),(7,.int .i64 (ys.length:Int)),(9,.slice (some ⟨w.heap.size,0,none⟩) (xs.length+ys.length) C),(43,.slice (some ⟨w.heap.size,k*S,none⟩) (xs.length+ys.length-k) (C-k)),(44,.slice (some ad) ys.length o)] rfl ⟨rfl,rfl,rfl,rfl,rfl,rfl,trivial⟩ ?_;have av:ad.block<w.heap.size:=(ν.1 aE).1;refine Gl ai rfl rfl rfl rfl rfl rfl rfl rfl rfl rfl ar (a1.keep (a8.block _ av (by simp))) D ab.one (by omega) (by omega) (λz=>?_);rw[aU,ξb r];generalize bc:(cs.take (k*S)++us++ξQ (k*S+us.length) (cs.take (k*S)++Z)).toArray=M;obtain⟨ak,aV,aW⟩: ∃ak:Γb,M.toList=cs.take (k*S)++us++ak/\ak.length=C*S-(k*S+ys.length*S):=by
    refine⟨_,by rw[<-bc],?_⟩;simp only[τ,η,r,au,D];omega
   clear bc;have bx:=jT (new:=M) ar;have aS:(w1.setRow w.heap.size M).heap[w.heap.size]? =some (.cells M e (0,0)):=setRow_heap w1 _ _ _ _ _ ar;generalize b7:w1.setRow w.heap.size M=w2 at*
   have bp:Fr [] w w2:=a8.own bx (ξ5 _);refine aY (aR (aP ?_));have ao:δ.wrap ((k:Int)+(ys.length:Int))=((k+ys.length:Nat):Int):=by rw[ξj];unfold maxLen at*;omega
   refine w4 mixed [⟨46,[],[9]⟩,⟨47,[],[1]⟩,⟨48,[],[7]⟩,⟨49,[1,2],[]⟩,⟨50,[0,3],[]⟩,⟨51,[],[0]⟩,⟨52,[],[1]⟩,⟨53,[5,6],[]⟩] [SP.eq (.slice (some ⟨w.heap.size,0,none⟩) (xs.length+ys.length) C),SP.eq (.int .i64 k),SP.eq (.int .i64 (ys.length:Int)),SP.eq (.int .i64 (δ.wrap ((k:Int)+(ys.length:Int)))),SP.eq (.slice (some ⟨w.heap.size,(k+ys.length)*S,none⟩) (xs.length-k) (C-(k+ys.length))),SP.eq (.slice (some ⟨g,0,none⟩) xs.length c),SP.eq (.int .i64 k),SP.eq (.slice (some ⟨g,k*S,none⟩) (xs.length-k) (c-k))] rfl rfl rfl rfl ⟨?_,?_,?_,?_,?_,?_,?_,?_,trivial⟩ ?_
   ·intro a m p b d f i;exact cZ ai ⟨b,d,b0 (E:=[(9,.slice (some ⟨w.heap.size,0,none⟩) (xs.length+ys.length) C)]) ⟨f 9 rfl _ rfl,trivial⟩⟩ rfl rfl rfl rfl rfl
   ·intro a m p b d f i;exact cZ ai ⟨b,d,b0 (E:=[(1,.int .i64 k)]) ⟨f 1 rfl _ rfl,trivial⟩⟩ rfl rfl rfl rfl rfl
   ·intro a m p b d f i;exact cZ ai ⟨b,d,b0 (E:=[(7,.int .i64 (ys.length:Int))]) ⟨f 7 rfl _ rfl,trivial⟩⟩ rfl rfl rfl rfl rfl
   ·intro a m p b d f i;exact cZ ai ⟨b,d,b0 (E:=[(47,.int .i64 k),(48,.int .i64 (ys.length:Int))]) ⟨(i 1 rfl _ _ rfl rfl),(i 2 rfl _ _ rfl rfl),trivial⟩⟩ rfl rfl rfl rfl rfl
   ·intro a m p b d f i;have bk:a.tmps.getD 49 undef= .int .i64 ((k+ys.length:Nat):Int):=by rw[<-ao];exact i 3 rfl _ _ rfl rfl
    refine(qs ai ⟨b,d,b0 (E:=[(46,.slice (some ⟨w.heap.size,0,none⟩) (xs.length+ys.length) C),(49,.int .i64 ((k+ys.length:Nat):Int))]) ⟨(i 0 rfl _ _ rfl rfl),bk,trivial⟩⟩ rfl rfl rfl rfl rfl rfl rfl rfl rfl aq (by omega)).weaken (λu F ⟨hu,L⟩=>⟨?_,L⟩);rw[hu,if_neg (by omega),ξ0,e9,ξa,show xs.length+ys.length-(k+ys.length)=xs.length-k by omega];rfl
   ·intro a m p b d f i;exact cZ ai ⟨b,d,b0 (E:=[(0,.slice (some ⟨g,0,none⟩) xs.length c)]) ⟨f 0 rfl _ rfl,trivial⟩⟩ rfl rfl rfl rfl rfl
   ·intro a m p b d f i;exact cZ ai ⟨b,d,b0 (E:=[(1,.int .i64 k)]) ⟨f 1 rfl _ rfl,trivial⟩⟩ rfl rfl rfl rfl rfl
   ·intro a m p b d f i;refine(qs ai ⟨b,d,b0 (E:=[(51,.slice (some ⟨g,0,none⟩) xs.length c),(52,.int .i64 k)]) ⟨(i 5 rfl _ _ rfl rfl),(i 6 rfl _ _ rfl rfl),trivial⟩⟩ rfl rfl rfl rfl rfl rfl rfl rfl rfl an aF).weaken (λu F ⟨hu,L⟩=>⟨?_,L⟩);rw[hu,if_neg (by omega),ξ0,e9,ξa];rfl
   intro a m f3 b d f W;have K:m.heap[w.heap.size]? =some (.cells M e (0,0)):=(f3.block _ (ν.1 aS).1 (by simp)).trans aS;have aO:Fr [] w m:=bp.trans f3;refine q2 (E:=[(9,.slice (some ⟨w.heap.size,0,none⟩) (xs.length+ys.length) C),(50,.slice (some ⟨w.heap.size,(k+ys.length)*S,none⟩) (xs.length-k) (C-(k+ys.length))),(53,.slice (some ⟨g,k*S,none⟩) (xs.length-k) (c-k))]) (l:=[8]) b d ⟨f 9 _ rfl rfl,(W 4 _ _ rfl rfl),(W 7 _ _ rfl rfl),trivial⟩ rfl ?_;have aD:g<w.heap.size:=(ν.1 P).1;have b1:M.size=C*S:=by rw[<-υ,aV,η,η,r,D,aW];omega
   have J:(cs.drop (k*S)).length=(xs.length-k)*S:=by rw[τ];omega
   refine Gl ai rfl rfl rfl rfl rfl rfl rfl rfl rfl rfl K ((az (k*S)).keep (aO.block _ aD (by simp))) J (λu hu=>bb u (ξx hu)) (ξ5 _) (by omega) (λz=>?_);rw[aV,ξb (by rw[η,r,D,a_])];generalize X:(cs.take (k*S)++us++cs.drop (k*S)++ξQ ((k+ys.length)*S+(cs.drop (k*S)).length) (cs.take (k*S)++us++ak)).toArray=s;obtain⟨G,V,al⟩: ∃G:Γb,s.toList=cs.take (k*S)++us++cs.drop (k*S)++G/\G.length=C*S-(xs.length+ys.length)*S:=by
    refine⟨_,by rw[<-X],?_⟩;simp only[τ,η,r,aW,D,ax];omega
   clear X;have aB:=jT (new:=s) K;have R:(m.setRow w.heap.size s).heap[w.heap.size]? =some (.cells s e (0,0)):=setRow_heap m _ _ _ _ _ K;generalize m.setRow w.heap.size s=F at*
   have Q:Fr [] w F:=aO.own aB (ξ5 _);refine aY (aR (aP (a7 (l:=[0,1]) rfl (aG ai [0,1] [(6,.slice (some ⟨w.heap.size,0,none⟩) (xs.length+ys.length) C)] rfl ⟨rfl,trivial⟩ (aY (aR (dC (fA (eU rfl ⟨_,w.heap.size::O,rfl,?_⟩)))))))));have af:(xs.take k++ys++xs.drop k).length=xs.length+ys.length:=by simp only[η,ξ9,τ];omega
   have aJ:Tr O w (w.heap.size::O) F:=F0 Q (ξ5 _);have:=Kj (T:=T) (e:=e) (B:=B) (v:=.slice (some ⟨g,0,none⟩) xs.length c) (zs:=xs.take k++ys++xs.drop k) (cap:=C) (cs:=cs.take (k*S)++us++cs.drop (k*S)) hO (ξ5 _) aM Q R (by rw[U,<-υ,V];simp only[η,r,D,J,al];omega) bo (by omega)
    ((((aa.take k).app ab).app (aa.drop k)).tr aJ) (by rw[af,U,V];exact ξb (by simp only[η,r,D,J];omega))
   rw[af] at this;exact this
  ·
   refine fJ rfl (by simp;omega) ?_;refine eB (aR ?_);have b3:(xs.length+ys.length)*S<=c*S:=ξ7 _ (by omega);have bF:(xs.length+ys.length)*S=k*S+ys.length*S+(xs.length-k)*S:=by rw[<-ξ6,<-ξ6];congr 1;omega
   have a_:(k+ys.length)*S=k*S+ys.length*S:=ξ6 _ _ _;have bC:(xs.length-k)*S+k*S=xs.length*S:=by rw[<-ξ6];congr 1;omega
   have J:(cs.drop (k*S)).length=(xs.length-k)*S:=by rw[τ];omega
   have r:(cs.take (k*S)).length=k*S:=by rw[ξ9];omega
   refine aP (a7 (l:=[0,1,2,3,4,5]) rfl (aG ai [0,1,2,3] [(1,.int .i64 k),(2,.slice (some ad) ys.length o),(7,.int .i64 (ys.length:Int)),(8,.int .i64 (xs.length:Int)),(56,.slice (some ⟨g,0,none⟩) xs.length c),(59,.int .i64 (δ.wrap ((xs.length:Int)+(ys.length:Int))))] rfl ⟨rfl,rfl,rfl,rfl,rfl,rfl,trivial⟩ ?_));rw[aL];refine Gm ai rfl rfl rfl rfl rfl rfl rfl rfl rfl rfl an (by omega) ?_;refine aG ai [5] [(0,.slice (some ⟨g,0,none⟩) (xs.length+ys.length) c),(1,.int .i64 k),(2,.slice (some ad) ys.length o),(7,.int .i64 (ys.length:Int)),(8,.int .i64 (xs.length:Int))] rfl ⟨rfl,rfl,rfl,rfl,rfl,trivial⟩ (aY (aR (aP (aP (a7 (l:=[0,1,2,3,4,5,6,7]) rfl ?_)))));have ao:δ.wrap ((k:Int)+(ys.length:Int))=((k+ys.length:Nat):Int):=by rw[ξj];unfold maxLen at*;omega
   refine aG ai [0,1,2,3,4] [(0,.slice (some ⟨g,0,none⟩) (xs.length+ys.length) c),(1,.int .i64 k),(2,.slice (some ad) ys.length o),(7,.int .i64 (ys.length:Int)),(8,.int .i64 (xs.length:Int)),(61,.slice (some ad) ys.length o),(62,.slice (some ⟨g,0,none⟩) (xs.length+ys.length) c),(65,.int .i64 (δ.wrap ((k:Int)+(ys.length:Int))))] rfl ⟨rfl,rfl,rfl,rfl,rfl,rfl,rfl,rfl,trivial⟩ ?_;rw[ao];refine q1 ai rfl rfl rfl rfl rfl rfl rfl rfl rfl rfl (by omega) (by omega) ?_;rw[if_neg (by omega),ξ0,e9,ξa];refine afr ai rfl rfl rfl rfl rfl (by first|exact Tryz.func265|exact Tryz.func271|exact Tryz.func289|exact Tryz.func309) rfl rfl rfl rfl rfl rfl rfl rfl rfl aZ aE P (by rw[ay];omega) ?_;refine aG ai [7] [(0,.slice (some ⟨g,0,none⟩) (xs.length+ys.length) c),(1,.int .i64 k),(2,.slice (some ad) ys.length o),(7,.int .i64 (ys.length:Int)),(68,.bool (!false))] rfl ⟨rfl,rfl,rfl,rfl,rfl,trivial⟩ (aY (aR (fz rfl rfl (aP (w4 mixed [⟨69,[],[0]⟩,⟨70,[],[1]⟩,⟨71,[],[7]⟩,⟨72,[1,2],[]⟩,⟨73,[0,3],[]⟩,⟨74,[],[0]⟩,⟨75,[],[1]⟩,⟨76,[5,6],[]⟩] [SP.eq (.slice (some ⟨g,0,none⟩) (xs.length+ys.length) c),SP.eq (.int .i64 k),SP.eq (.int .i64 (ys.length:Int)),SP.eq (.int .i64 (δ.wrap ((k:Int)+(ys.length:Int)))),SP.eq (.slice (some ⟨g,(k+ys.length)*S,none⟩) (xs.length-k) (c-(k+ys.length))),SP.eq (.slice (some ⟨g,0,none⟩) (xs.length+ys.length) c),SP.eq (.int .i64 k),SP.eq (.slice (some ⟨g,k*S,none⟩) (xs.length+ys.length-k) (c-k))] rfl rfl rfl rfl ⟨?_,?_,?_,?_,?_,?_,?_,?_,trivial⟩ ?_)))))
   ·intro a m p b d f i;exact cZ ai ⟨b,d,b0 (E:=[(0,.slice (some ⟨g,0,none⟩) (xs.length+ys.length) c)]) ⟨f 0 rfl _ rfl,trivial⟩⟩ rfl rfl rfl rfl rfl
   ·intro a m p b d f i;exact cZ ai ⟨b,d,b0 (E:=[(1,.int .i64 k)]) ⟨f 1 rfl _ rfl,trivial⟩⟩ rfl rfl rfl rfl rfl
   ·intro a m p b d f i;exact cZ ai ⟨b,d,b0 (E:=[(7,.int .i64 (ys.length:Int))]) ⟨f 7 rfl _ rfl,trivial⟩⟩ rfl rfl rfl rfl rfl
   ·intro a m p b d f i;exact cZ ai ⟨b,d,b0 (E:=[(70,.int .i64 k),(71,.int .i64 (ys.length:Int))]) ⟨(i 1 rfl _ _ rfl rfl),(i 2 rfl _ _ rfl rfl),trivial⟩⟩ rfl rfl rfl rfl rfl
   ·intro a m p b d f i;have bl:a.tmps.getD 72 undef= .int .i64 ((k+ys.length:Nat):Int):=by rw[<-ao];exact i 3 rfl _ _ rfl rfl
    refine(qs ai ⟨b,d,b0 (E:=[(69,.slice (some ⟨g,0,none⟩) (xs.length+ys.length) c),(72,.int .i64 ((k+ys.length:Nat):Int))]) ⟨(i 0 rfl _ _ rfl rfl),bl,trivial⟩⟩ rfl rfl rfl rfl rfl rfl rfl rfl rfl (by omega) (by omega)).weaken (λu F ⟨hu,L⟩=>⟨?_,L⟩);rw[hu,if_neg (by omega),ξ0,e9,ξa,show xs.length+ys.length-(k+ys.length)=xs.length-k by omega];rfl
   ·intro a m p b d f i;exact cZ ai ⟨b,d,b0 (E:=[(0,.slice (some ⟨g,0,none⟩) (xs.length+ys.length) c)]) ⟨f 0 rfl _ rfl,trivial⟩⟩ rfl rfl rfl rfl rfl
   ·intro a m p b d f i;exact cZ ai ⟨b,d,b0 (E:=[(1,.int .i64 k)]) ⟨f 1 rfl _ rfl,trivial⟩⟩ rfl rfl rfl rfl rfl
   ·intro a m p b d f i;refine(qs ai ⟨b,d,b0 (E:=[(74,.slice (some ⟨g,0,none⟩) (xs.length+ys.length) c),(75,.int .i64 k)]) ⟨(i 5 rfl _ _ rfl rfl),(i 6 rfl _ _ rfl rfl),trivial⟩⟩ rfl rfl rfl rfl rfl rfl rfl rfl rfl (by omega) (by omega)).weaken (λu F ⟨hu,L⟩=>⟨?_,L⟩);rw[hu,if_neg (by omega),ξ0,e9,ξa];rfl
   intro a m f3 b d f W;have K:m.heap[g]? =some (.cells cur e (0,0)):=(f3.block _ (ν.1 P).1 (by simp)).trans P;refine q2 (E:=[(0,.slice (some ⟨g,0,none⟩) (xs.length+ys.length) c),(1,.int .i64 k),(2,.slice (some ad) ys.length o),(73,.slice (some ⟨g,(k+ys.length)*S,none⟩) (xs.length-k) (c-(k+ys.length))),(76,.slice (some ⟨g,k*S,none⟩) (xs.length+ys.length-k) (c-k))]) (l:=[8]) b d ⟨f 0 _ rfl rfl,f 1 _ rfl rfl,f 2 _ rfl rfl,(W 4 _ _ rfl rfl),(W 7 _ _ rfl rfl),trivial⟩ rfl ?_;have aD:g<w.heap.size:=(ν.1 P).1;have av:ad.block<w.heap.size:=(ν.1 aE).1;refine afm ai rfl rfl rfl rfl rfl rfl rfl rfl rfl rfl K ((az (k*S)).keep (f3.block _ aD (by simp))) J (λu hu=>bb u (ξx hu)) (by omega) (by omega) (λz=>?_);generalize X:(cur.toList.take ((k+ys.length)*S)++cs.drop (k*S)++ξQ ((k+ys.length)*S+(cs.drop (k*S)).length) cur.toList).toArray=s;have a6:cur.toList.length=c*S:=by rw[υ,ay]
   obtain⟨Y,G,V,aT,al⟩: ∃Y G:Γb,s.toList=cs.take (k*S)++Y++cs.drop (k*S)++G/\Y.length=ys.length*S/\G.length=c*S-(xs.length+ys.length)*S:=by
    refine⟨(cur.toList.take ((k+ys.length)*S)).drop (k*S),ξQ ((k+ys.length)*S+(cs.drop (k*S)).length) cur.toList,?_,?_,?_⟩
    ·rw[<-X];have e:cs.take (k*S)=(cur.toList.take ((k+ys.length)*S)).take (k*S):=by
      rw[<-aA,ξW,ξW];congr 1;omega
     rw[e,List.take_append_drop]
    ·rw[τ,ξ9,a6];omega
    ·rw[τ,a6,J];omega
   clear X;have aB:=jT (new:=s) K;have R:(m.setRow g s).heap[g]? =some (.cells s e (0,0)):=setRow_heap m _ _ _ _ _ K;generalize m.setRow g s=F at*
   have Q:Fr [g] w F:=(f3.more (by simp)).trans aB;refine aY (aR (aP (a7 (l:=[0,1,2,3,4]) rfl (aG ai [0,1] [(0,.slice (some ⟨g,0,none⟩) (xs.length+ys.length) c),(2,.slice (some ad) ys.length o),(78,.slice (some ⟨g,0,none⟩) (xs.length+ys.length) c),(79,.int .i64 k)] rfl ⟨rfl,rfl,rfl,rfl,trivial⟩ (q1 ai rfl rfl rfl rfl rfl rfl rfl rfl rfl rfl (by omega) (by omega) ?_)))));rw[if_neg (by omega),ξ0,e9,ξa];refine aG ai [3] [(0,.slice (some ⟨g,0,none⟩) (xs.length+ys.length) c),(80,.slice (some ⟨g,k*S,none⟩) (xs.length+ys.length-k) (c-k)),(81,.slice (some ad) ys.length o)] rfl ⟨rfl,rfl,rfl,trivial⟩ ?_;have b2:s.size=c*S:=by rw[<-υ,V];simp only[η,r,aT,J,al];omega
   refine Gl ai rfl rfl rfl rfl rfl rfl rfl rfl rfl rfl R (a1.keep (Q.block _ av (by simp[aZ]))) D ab.one (by omega) (by omega) (λz=>?_);have bj:(s.toList.take (k*S)++us++s.toList.drop (k*S+us.length))=cs.take (k*S)++us++(cs.drop (k*S)++G):=by
    rw[V,ξd (cs.take (k*S)++Y),ξd (cs.take (k*S)),ξb r,<-ξd (cs.take (k*S)),List.drop_left' (by rw[η,r,aT,D])]
   rw[bj];generalize bd:(cs.take (k*S)++us++(cs.drop (k*S)++G)).toArray=ag;have aX:ag.toList=cs.take (k*S)++us++cs.drop (k*S)++G:=by rw[<-bd,<-ξd]
   clear bd;have bz:=jT (new:=ag) R;have bq:(F.setRow g ag).heap[g]? =some (.cells ag e (0,0)):=setRow_heap F _ _ _ _ _ R;generalize F.setRow g ag=bg at*
   have aQ:Fr [g] w bg:=Q.trans bz;refine aY (aR (aP (a7 (l:=[0,1]) rfl (aG ai [0,1] [(6,.slice (some ⟨g,0,none⟩) (xs.length+ys.length) c)] rfl ⟨rfl,trivial⟩ (aY (aR (dC (fA (eU rfl ⟨_,O,rfl,?_⟩)))))))));have af:(xs.take k++ys++xs.drop k).length=xs.length+ys.length:=by simp only[η,ξ9,τ];omega
   have aJ:Tr O w O bg:=aQ.tr (gJ aC);have:=xc (T:=T) (e:=e) (B:=B) (n0:=xs.length) (zs:=xs.take k++ys++xs.drop k) (cap:=c) (cs:=cs.take (k*S)++us++cs.drop (k*S)) hO aC bn aQ bq (by rw[U,<-υ,aX];simp only[η,r,D,J,al];omega) bu (by omega)
    ((((aa.take k).app ab).app (aa.drop k)).tr aJ) (by rw[af,U,aX];exact ξb (by simp only[η,r,D,J];omega))
   rw[af] at this;exact this
def DG:dD SS:=qb KK 212 105 nz
theorem ZX {R:Type} (xs:List (ay SS)) (h:AH SS) (k:Rs SS->AH SS->Γ->Option R) (z:R) (a:(DG).out xs h k=some z): ∃r h' dt,k r h' dt=some z/\cU KK γ 212 xs h r h' dt:=
 DK (e:=105) (ins:=nz) du (cR a8 ζ3 rfl) (λO w v u xs ys zs j hO b hu hp a=>uX.1 hO (ξz _) b (dx.2 rfl) hu hp a) xs h k z a
def DH:dD SS:=qb KK 222 127 nA
theorem ZY {R:Type} (xs:List (ay SS)) (h:AH SS) (k:Rs SS->AH SS->Γ->Option R) (z:R) (a:(DH).out xs h k=some z): ∃r h' dt,k r h' dt=some z/\cU KK γ 222 xs h r h' dt:=
 DK (e:=127) (ins:=nA) du (cR a8 ζ4 rfl) (λO w v u xs ys zs j hO b hu hp a=>uX.2.1 hO (ξz _) b (dx.2 rfl) hu hp a) xs h k z a
def DI:dD SS:=qb KK 259 115 lO
theorem ZZ {R:Type} (xs:List (ay SS)) (h:AH SS) (k:Rs SS->AH SS->Γ->Option R) (z:R) (a:(DI).out xs h k=some z): ∃r h' dt,k r h' dt=some z/\cU KK γ 259 xs h r h' dt:=
 DK (e:=115) (ins:=lO) du (cR a8 ζ5 rfl) (λO w v u xs ys zs j hO b hu hp a=>uX.2.2.1 hO (ξz _) b (dx.2 rfl) hu hp a) xs h k z a
theorem ad0 {O:Γ} {w:World} (hO:OB O w) {B:Nat} (a:B<=w.heap.size) {v:Value} {xs:Γd} (b:Go.Dc.Own (kN .u64) 132 B O w v xs) {v1:Value} {j:Int} (h1:(Ty.int .i64).is O w v1 j) {u:Value} {ys:Γd} (hu:(Ty.slice (kN .u64)).is O w u ys) (hp:Plain w u) {zs:Γd} (c:wC xs j ys=some zs):
 Calls γ 293 #[v,v1,u] w (eK (kN .u64) 132 B O w v zs):=uX.2.2.2 hO a b h1 hu hp c
set_option maxRecDepth 100000
noncomputable def xH:bw SS:= {G4 with H:=DG::G4.H}
theorem SA:ak xH γ:=ak.dw (c:=DG) Sz ZX
noncomputable def xI:bw SS:= {xH with H:=DH::xH.H}
theorem SB:ak xI γ:=ak.dw (c:=DH) SA ZY
noncomputable def G5:bw SS:= {xI with H:=DI::xI.H}
theorem Hh:ak G5 γ:=ak.dw (c:=DI) SB ZZ
end Go.Proofs.YtoggponeookhbaaGreatDoor
end
section

/- Words for b entries of a. -/
namespace Go.Vx
noncomputable def vs {S:bo} (x:LV S):AV S:=.s (.one x)
noncomputable def li {S:bo} (x:Int):LV S:=.v (.int .i64 x)
noncomputable def lu {S:bo} (x:Int):LV S:=.v (.int .u64 x)
noncomputable def vi {S:bo} (x:Int):AV S:=.s (.one (.v (.int .i64 x)))
noncomputable def vu {S:bo} (x:Int):AV S:=.s (.one (.v (.int .u64 x)))
noncomputable def vb {S:bo} (x:Bool):AV S:=.s (.one (.v (.bool x)))
noncomputable def va {S:bo} (x y:Nat):AV S:=.s (.one (.an x y))
noncomputable def vd {S:bo} (t:Nat) (x:S.El t):AV S:=.s (.one (.ao t x))
noncomputable def vo {S:bo} (x:Nat):AV S:=.s (.one (.own x))
noncomputable def vc {S:bo} (x:Nat):AV S:=.s (.one (.aD x))
noncomputable def bX {S:bo} (t:Nat) (x:List (LV S)):Option (Ob S):=some (.box t x)
noncomputable def rX {S:bo} (t:Nat) (x:List (S.El t)):Option (Ob S):=some (.row t x)
noncomputable def vl {S:bo} {α:Type} (x:List α):AV S:=.s (.one (.v (.int .i64 (x.length:Int))))
noncomputable def bP {S:bo} (c:eJ S) (G:bw S):bw S:= {G with C:=c::G.C}
def bO {S:bo} (G:bw S) (L:Nat->Nat->Γ) (fn:Func) (f:Nat) (cs:List (bh S)):bw S:= {G with T:=fX G.T f ⟨⟨fn,L f⟩,cs⟩}
abbrev KX (S:bo) (R:Type):=AX->AS S->Option R
abbrev LS {S:bo} (K:Kit S) (P:Program) (L:Nat->Nat->Γ) (fn:Func) (f id:Nat) (c:bh S):Prop:=aX K P ⟨fn,L f⟩ (h2 (bY fn) id) c
noncomputable def xe {S:bo} (l:aV S) (st:AS S):AS S:= {st with env:=l++st.env}
universe u
section
variable {S:bo} {P:Program} {G E:bw S} {K:Kit S}
def cH (K:Kit S) (t:Nat) {R:Type} (k:Rs S->Option R) (r:S.El t):Option R:=k (.ret (.s (K.a1 t r)))
def eP (K:Kit S) (t u:Nat) {R:Type} (k:Rs S->Option R) (r:S.El t×S.El u):Option R:=k (.ret (.br [K.a1 t r.1,K.a1 u r.2]))
def nF (K:Kit S) (t u v:Nat) {R:Type} (k:Rs S->Option R) (r:S.El t×S.El u×S.El v):Option R:=k (.ret (.br [K.a1 t r.1,K.a1 u r.2.1,K.a1 v r.2.2]))
def u2 {A0 A1:Type} {D:Type u} (f:A0->A1->D) (p:A0×A1):D:=f p.1 p.2
def u3 {A0 A1 A2:Type} {D:Type u} (f:A0->A1->A2->D) (p:A0×A1×A2):D:=f p.1 p.2.1 p.2.2
def u4 {A0 A1 A2 a:Type} {D:Type u} (f:A0->A1->A2->a->D) (p:A0×A1×A2×a):D:=f p.1 p.2.1 p.2.2.1 p.2.2.2
def u5 {A0 A1 A2 a b:Type} {D:Type u} (f:A0->A1->A2->a->b->D) (p:A0×A1×A2×a×b):D:=f p.1 p.2.1 p.2.2.1 p.2.2.2.1 p.2.2.2.2
def u6 {A0 A1 A2 a b c:Type} {D:Type u} (f:A0->A1->A2->a->b->c->D) (p:A0×A1×A2×a×b×c):D:=f p.1 p.2.1 p.2.2.1 p.2.2.2.1 p.2.2.2.2.1 p.2.2.2.2.2
def u7 {A0 A1 A2 a b c d:Type} {D:Type u} (f:A0->A1->A2->a->b->c->d->D) (p:A0×A1×A2×a×b×c×d):D:=f p.1 p.2.1 p.2.2.1 p.2.2.2.1 p.2.2.2.2.1 p.2.2.2.2.2.1 p.2.2.2.2.2.2
def u8 {A0 A1 A2 a b c d e:Type} {D:Type u} (f:A0->A1->A2->a->b->c->d->e->D) (p:A0×A1×A2×a×b×c×d×e):D:=f p.1 p.2.1 p.2.2.1 p.2.2.2.1 p.2.2.2.2.1 p.2.2.2.2.2.1 p.2.2.2.2.2.2.1 p.2.2.2.2.2.2.2
def u9 {A0 A1 A2 a b c d e g:Type} {D:Type u} (f:A0->A1->A2->a->b->c->d->e->g->D) (p:A0×A1×A2×a×b×c×d×e×g):D:=f p.1 p.2.1 p.2.2.1 p.2.2.2.1 p.2.2.2.2.1 p.2.2.2.2.2.1 p.2.2.2.2.2.2.1 p.2.2.2.2.2.2.2.1 p.2.2.2.2.2.2.2.2
theorem bQ {L:Nat->Nat->Γ} {fn:Func} {f:Nat} {lc:bh S} {c:Code} (h:a_ G P) (g:P.funcs[f]? =some fn) (a:fn.body=some c) (e:oN P) (h1:vH c lc.id=true) (d:aX G.K P ⟨fn,L f⟩ (h2 c lc.id) lc):a_ (bO G L fn f [lc]) P:=a_.fI h g (by rw[a];rfl) e λi b=>by rw[a] at b;cases b;exact aJ.cons aJ.nil h1 d
abbrev KF (S:bo) (X:Type):= {R:Type}->(Rs S->Option R)->X->Option R
noncomputable def pD (K:Kit S) (f:Nat) {X:Type} (F:Option X) (kf:KF S X):eJ S:=fE K f [] (λ{R} xs k=>match xs with| .nil=>(F).bind (kf k))
def R0 (K:Kit S) (E:bw S) (f:Nat) {X:Type} (rs:Γ) (T:T X) (kf:KF S X):Prop:= ∀ {R:Type} (k:Rs S->Option R),dY E 100 f [] [] (gq K rs k)=(T).run (kf k)
theorem B4 {f:Nat} {X:Type} {rs:Γ} {T:T X} {kf:KF S X} (h:ak G P) (e:a_ E P) (h1:G.K=K) (b:E.K=K) (g:R0 K E f rs T kf):ak {G with C:=pD K f (shut.s _ (T).val) kf::G.C} P:=by
 subst h1;refine ak.ga (c:=pD G.K f (shut.s _ (T).val) kf) h λxs k z _ d=>?_;rw[<-b] at d ⊢;refine ir e (rs:=rs) (λ{R} xs k z a=>?_) d
 match xs,a with
 | .nil,a=>exact⟨100,by rw[b];exact(g k).trans (jB a)⟩
noncomputable def dS (K:Kit S) (f t0:Nat) {X:Type} (F:S.El t0->Option X) (kf:KF S X):eJ S:=fE K f [t0] (λ{R} xs k=>match xs with| .cons a .nil=>(F a).bind (kf k))
def R1 (K:Kit S) (E:bw S) (f t0:Nat) {X:Type} (rs:Γ) (T:S.El t0->T X) (kf:KF S X):Prop:= ∀ {R:Type} (a:S.El t0) (k:Rs S->Option R),dY E 100 f [K.a1 t0 a] [] (gq K rs k)=(T a).run (kf k)
theorem eo {f t0:Nat} {X:Type} {rs:Γ} {T:S.El t0->T X} {kf:KF S X} (h:ak G P) (g:a_ E P) (h1:G.K=K) (d:E.K=K) (i:R1 K E f t0 rs T kf):ak {G with C:=dS K f t0 (λa=>shut.s _ (T a).val) kf::G.C} P:=by
 subst h1;refine ak.ga (c:=dS G.K f t0 (λa=>shut.s _ (T a).val) kf) h λxs k z _ e=>?_;rw[<-d] at e ⊢;refine ir g (rs:=rs) (λ{R} xs k z b=>?_) e
 match xs,b with
 | .cons a .nil,b=>exact⟨100,by rw[d];exact(i a k).trans (jB b)⟩
noncomputable def db (K:Kit S) (f t0 t1:Nat) {X:Type} (F:S.El t0->S.El t1->Option X) (kf:KF S X):eJ S:=fE K f [t0,t1] (λ{R} xs k=>match xs with| .cons a (.cons b .nil)=>(F a b).bind (kf k))
def R2 (K:Kit S) (E:bw S) (f t0 t1:Nat) {X:Type} (rs:Γ) (T:S.El t0->S.El t1->T X) (kf:KF S X):Prop:= ∀ {R:Type} (a:S.El t0) (b:S.El t1) (k:Rs S->Option R),dY E 100 f [K.a1 t0 a,K.a1 t1 b] [] (gq K rs k)=(T a b).run (kf k)
theorem dp {f t0 t1:Nat} {X:Type} {rs:Γ} {T:S.El t0->S.El t1->T X} {kf:KF S X} (h:ak G P) (i:a_ E P) (h1:G.K=K) (e:E.K=K) (j:R2 K E f t0 t1 rs T kf):ak {G with C:=db K f t0 t1 (λa b=>shut.s _ (T a b).val) kf::G.C} P:=by
 subst h1;refine ak.ga (c:=db G.K f t0 t1 (λa b=>shut.s _ (T a b).val) kf) h λxs k z _ g=>?_;rw[<-e] at g ⊢;refine ir i (rs:=rs) (λ{R} xs k z d=>?_) g
 match xs,d with
 | .cons a (.cons b .nil),d=>exact⟨100,by rw[e];exact(j a b k).trans (jB d)⟩
noncomputable def jm (K:Kit S) (f t0 t1 t2:Nat) {X:Type} (F:S.El t0->S.El t1->S.El t2->Option X) (kf:KF S X):eJ S:=fE K f [t0,t1,t2] (λ{R} xs k=>match xs with| .cons a (.cons b (.cons c .nil))=>(F a b c).bind (kf k))
def R3 (K:Kit S) (E:bw S) (f t0 t1 t2:Nat) {X:Type} (rs:Γ) (T:S.El t0->S.El t1->S.El t2->T X) (kf:KF S X):Prop:= ∀ {R:Type} (a:S.El t0) (b:S.El t1) (c:S.El t2) (k:Rs S->Option R),dY E 100 f [K.a1 t0 a,K.a1 t1 b,K.a1 t2 c] [] (gq K rs k)=(T a b c).run (kf k)
theorem lB {f t0 t1 t2:Nat} {X:Type} {rs:Γ} {T:S.El t0->S.El t1->S.El t2->T X} {kf:KF S X} (h:ak G P) (i:a_ E P) (h1:G.K=K) (e:E.K=K) (j:R3 K E f t0 t1 t2 rs T kf):ak {G with C:=jm K f t0 t1 t2 (λa b c=>shut.s _ (T a b c).val) kf::G.C} P:=by
 subst h1;refine ak.ga (c:=jm G.K f t0 t1 t2 (λa b c=>shut.s _ (T a b c).val) kf) h λxs k z _ g=>?_;rw[<-e] at g ⊢;refine ir i (rs:=rs) (λ{R} xs k z d=>?_) g
 match xs,d with
 | .cons a (.cons b (.cons c .nil)),d=>exact⟨100,by rw[e];exact(j a b c k).trans (jB d)⟩
noncomputable def B3 (K:Kit S) (f t0 t1 t2 t3:Nat) {X:Type} (F:S.El t0->S.El t1->S.El t2->S.El t3->Option X) (kf:KF S X):eJ S:=fE K f [t0,t1,t2,t3] (λ{R} xs k=>match xs with| .cons a (.cons b (.cons c (.cons d .nil)))=>(F a b c d).bind (kf k))
def R4 (K:Kit S) (E:bw S) (f t0 t1 t2 t3:Nat) {X:Type} (rs:Γ) (T:S.El t0->S.El t1->S.El t2->S.El t3->T X) (kf:KF S X):Prop:= ∀ {R:Type} (a:S.El t0) (b:S.El t1) (c:S.El t2) (d:S.El t3) (k:Rs S->Option R),dY E 100 f [K.a1 t0 a,K.a1 t1 b,K.a1 t2 c,K.a1 t3 d] [] (gq K rs k)=(T a b c d).run (kf k)
theorem VE {f t0 t1 t2 t3:Nat} {X:Type} {rs:Γ} {T:S.El t0->S.El t1->S.El t2->S.El t3->T X} {kf:KF S X} (h:ak G P) (j:a_ E P) (h1:G.K=K) (g:E.K=K) (l:R4 K E f t0 t1 t2 t3 rs T kf):ak {G with C:=B3 K f t0 t1 t2 t3 (λa b c d=>shut.s _ (T a b c d).val) kf::G.C} P:=by
 subst h1;refine ak.ga (c:=B3 G.K f t0 t1 t2 t3 (λa b c d=>shut.s _ (T a b c d).val) kf) h λxs k z _ i=>?_;rw[<-g] at i ⊢;refine ir j (rs:=rs) (λ{R} xs k z e=>?_) i
 match xs,e with
 | .cons a (.cons b (.cons c (.cons d .nil))),e=>exact⟨100,by rw[g];exact(l a b c d k).trans (jB e)⟩
noncomputable def Ja (K:Kit S) (f t0 t1 t2 t3 t4:Nat) {X:Type} (F:S.El t0->S.El t1->S.El t2->S.El t3->S.El t4->Option X) (kf:KF S X):eJ S:=fE K f [t0,t1,t2,t3,t4] (λ{R} xs k=>match xs with| .cons a (.cons b (.cons c (.cons d (.cons e .nil))))=>(F a b c d e).bind (kf k))
def R5 (K:Kit S) (E:bw S) (f t0 t1 t2 t3 t4:Nat) {X:Type} (rs:Γ) (T:S.El t0->S.El t1->S.El t2->S.El t3->S.El t4->T X) (kf:KF S X):Prop:= ∀ {R:Type} (a:S.El t0) (b:S.El t1) (c:S.El t2) (d:S.El t3) (e:S.El t4) (k:Rs S->Option R),dY E 100 f [K.a1 t0 a,K.a1 t1 b,K.a1 t2 c,K.a1 t3 d,K.a1 t4 e] [] (gq K rs k)=(T a b c d e).run (kf k)
theorem afz {f t0 t1 t2 t3 t4:Nat} {X:Type} {rs:Γ} {T:S.El t0->S.El t1->S.El t2->S.El t3->S.El t4->T X} {kf:KF S X} (h:ak G P) (l:a_ E P) (h1:G.K=K) (i:E.K=K) (m:R5 K E f t0 t1 t2 t3 t4 rs T kf):ak {G with C:=Ja K f t0 t1 t2 t3 t4 (λa b c d e=>shut.s _ (T a b c d e).val) kf::G.C} P:=by
 subst h1;refine ak.ga (c:=Ja G.K f t0 t1 t2 t3 t4 (λa b c d e=>shut.s _ (T a b c d e).val) kf) h λxs k z _ j=>?_;rw[<-i] at j ⊢;refine ir l (rs:=rs) (λ{R} xs k z g=>?_) j
 match xs,g with
 | .cons a (.cons b (.cons c (.cons d (.cons e .nil)))),g=>exact⟨100,by rw[i];exact(m a b c d e k).trans (jB g)⟩
end
end Go.Vx
end
section
namespace Go.Proofs.YtoggponeookhbaaGreatDoor
open Go.RowKit Go.Dc Go.Vx
variable (sh:Sh)
def Tf (sh:Sh) (pid:Int):T Int:=.ok (δ.wrap (pid.tmod 64))
def lE (pid:Int):=sh.s _ (Tf sh pid).val
def xL:=bP (dS KK 101 35 (lE sh) (cH KK 3)) G5
theorem rS:ak (xL shut) γ:=eo (rs:=[3]) Hh (ak.all Hh rfl) rfl rfl λpid k=>by kernel_rfl
def p4 (a:Γa) (b:List ah) (c:Int):AS SS:=⟨[(0,(vs (.fC 0 0 16))),(1,(vs (.v (.func (.func 98) (.mk []) (.mk []))))),(7,(vi 16)),(8,(vi c))],[(bX 50 [(.bu .i64 16 a),(.ao 48 b)])],1,none,false,[],[]⟩
def Wm (a:Γa) (b:List ah) (a0:Int):AS SS:= {p4 a b a0 with env:=[(4,(vi a0))]}
def Wn (b:Γa) (c:List ah) (a0:Bool) (a:Int):AS SS:=xe [(9,(vb a0))] (p4 b c a)
def Ao (sh:Sh) (b:Γa) (c:List ah) (a:Int):T (Int⊕Int⊕(Bool×Int)):=.bf (decide (a<16)) (.bd (c' a 16) λz0=>.bf (decide (aE b z0<0)) (.ok (.inr (.inl a)))<|.bf (decide (aE b z0>65536)) (.ok (.inr (.inl a)))<|.ok (.inl (δ.wrap (a+1))))<|.ok (.inr (.inr ((decide (a<16)),a)))
def zk (a:Γa) (b:List ah) (c:Int):=bM sh (Ao sh a b) 1000000 c
def Tz {R} (k:KX SS R) (a:Γa) (b:List ah) (x:Int⊕(Bool×Int)):Option R:=(λx=>θ (λv=>k .ret (Wm a b v)) (λv=>k (.exit 0) (Wn a b v.1 v.2)) x) x
def Ld:bh SS:=bt 3 (λst=>(e1 (aN st 0 0)).bind λa=>(ba 48 (aN st 0 1)).bind λb=>(aU (aK st 8 0)).bind λc=>some (a,b,c)) (u3 p4) (u3 (zk shut)) (λk p=>Tz k p.1 p.2.1)
theorem Nu:LS KK γ ar Tryz.f141 141 3 Ld:=
 aX.bM (π:=Γa×List ah×Int) (σ:=Int) (ak.all rS rfl) (aJ.nil) rfl 60 (λp a=>p4 p.1 p.2.1 a) (λp=>p.2.2) (St:=λp=>Ao shut p.1 p.2.1) (λp=>1000000) (λp=>rfl)
  (λm p a k=>by kernel_rfl)
def C9 (b:Γa) (a:List ah) (c d:Int):AS SS:=⟨[(0,(vs .cT)),(1,(va 4 0)),(9,(vl a)),(10,(vi d))],[(bX 160 [(.bu .i64 16 b),(.ao 48 a)]),(bX 35 [(lu c)]),(bX 161 [(.v (.pointer none))]),(some (.aD 142 [] [(.one (.an 4 0))])),(bX 158 [(.an 0 0)])],5,(some ⟨⟨μ,ar 97⟩,[9,10],(dT (bY μ) 4),(dU (bY μ) 4),[(3,(va 1 0)),(4,(va 2 0)),(8,(vc 3))],none⟩),false,[],[]⟩
def jS (a:Γa) (b:List ah) (c:Int):AS SS:=C9 a b c 0
def Wz (a:Γa) (b:List ah) (c:Int) (a0:ah):AS SS:=⟨[],[(bX 160 [(.bu .i64 16 a),(.ao 48 b)]),(bX 35 [(lu c)]),(bX 161 [(.ptr 115 a0 0)]),(some (.aD 142 [] [(.one (.an 4 0))])),(bX 158 [(.an 0 0)])],5,(some ⟨⟨μ,ar 97⟩,[9,10],(dT (bY μ) 4),(dU (bY μ) 4),[(3,(va 1 0)),(4,(va 2 0)),(8,(vc 3))],(some .ret)⟩),false,[],[2]⟩
def WA (d:Γa) (a:List ah) (b:Int) (a0:Bool) (c:Int):AS SS:= {C9 d a b b with env:=[(11,(vb a0)),(0,(vs .cT)),(1,(va 4 0)),(9,(vl a)),(10,(vi c))]}
def sn (sh:Sh) (c:Γa) (d:List ah) (b e:Int) (z0:ah) (a:Unit):T (Unit⊕ah⊕(Bool×Int)):=.bf (z0.aa==b) (.ok (.inr (.inl z0)))<|.ok (.inl ())
def re (sh:Sh) (d:Γa) (c:List ah) (e b:Int) (a:Unit):T (ah⊕(Bool×Int)):=.ok (.inr ((decide (b<(↑c.length:Int))),b))
def h_ (b:Γa) (a:List ah) (c:Int):=b4 sh (sn sh b a c) (re sh b a c) a ()
def TG {R} (k:KX SS R) (a:Γa) (b:List ah) (c:Int) (x:ah⊕(Bool×Int)):Option R:=(λx=>θ (λv=>k .ret (Wz a b c v)) (λv=>k (.exit 0) (WA a b c v.1 v.2)) x) x
def D0:bh SS:=bt 2 (λst=>((b9 st 3 142).bind λ_=>fQ st 18 4).bind λ_=>(e1 (aN st 0 0)).bind λa=>(ba 48 (aN st 0 1)).bind λb=>(aU (aN st 1 0)).bind λc=>some (a,b,c)) (u3 jS) (u3 (h_ shut)) (λk=>u3 (TG k))
def xi:=bO (xL shut) ar Tryz.f141 141 [Ld]
theorem Hb:a_ xi γ:=bQ (ak.all rS rfl) ζ6 rfl a8 (by kernel_rfl) Nu
theorem Nw:LS KK γ ar χ 142 2 D0:=
 aX.b_ Hb (aJ.nil) rfl 60 (λp i a=>u3 C9 p i) (λp=>p.2.1) (λp=>()) (St:=u3 (sn shut)) (F:=u3 (re shut)) (λp=>rfl)
  (λm p i a k=>by kernel_rfl) (by rintro p (x|x)<;>exact⟨_,_,λ_=>rfl⟩) (λp N C A O w a b=>D' b (j:=0) (n:=1) (t:=48) rfl rfl λv h=>h)
def C8 (b:Γa) (a:List ah) (c:Int):AS SS:=⟨[(0,(vs .cT)),(1,(va 7 0)),(9,(vl a)),(10,(vi c))],[(bX 50 [(.bu .i64 16 b),(.ao 48 a)]),(bX 27 [(li 0)]),(bX 163 [(.aD 3)]),(some (.aD 96 [] [(.one (.an 4 0))])),(bX 158 [(.an 5 0)]),(bX 160 [(.bu .i64 16 b),(.ao 48 a)]),(some (.aD 142 [] [(.one (.an 7 0))])),(bX 158 [(.an 5 0)])],8,(some ⟨⟨ξE,ar 60⟩,[34,35],(dT (bY ξE) 10),(dU (bY ξE) 10),[(1,(va 0 0)),(2,(va 1 0)),(4,(va 2 0)),(33,(vc 6))],none⟩),false,[],[]⟩
def FH (a:Γa) (b:List ah):AS SS:=C8 a b 0
def Wx (a:Γa) (b:List ah):AS SS:=⟨[],[(bX 50 [(.bu .i64 16 a),(.ao 48 b)]),(bX 27 [(li 320)]),(bX 163 [(.aD 3)]),(some (.aD 96 [] [(.one (.an 4 0))])),(bX 158 [(.an 5 0)]),(bX 160 [(.bu .i64 16 a),(.ao 48 b)]),(some (.aD 142 [] [(.one (.an 7 0))])),(bX 158 [(.an 5 0)])],8,(some ⟨⟨ξE,ar 60⟩,[34,35],(dT (bY ξE) 10),(dU (bY ξE) 10),[(1,(va 0 0)),(2,(va 1 0)),(4,(va 2 0)),(33,(vc 6))],(some .ret)⟩),false,[],[1]⟩
def Wy (b:Γa) (c:List ah) (a0:Bool) (a:Int):AS SS:=xe [(11,(vb a0))] (C8 b c a)
def sm (b:Γa) (c:List ah) (i:Int) (z0:ah) (a:Unit):T (Unit⊕Unit⊕(Bool×Int)):=.bd (lE sh z0.aa) λh=>.bf (decide (h>=1)) (.bf (decide (h<=16)) (.bf (i==0) (.bd (c' (δ.wrap (h-1)) 16) λz2=>.bf (ζ.wrap (ζ.wrap (z0.aa.tdiv 64)+1) !=ζ.wrap (aE b z2)) (.ok (.inr (.inl ())))<|.bf (z0.bp) (.bf (z0.aW==0) (.ok (.inr (.inl ())))<|.bf (!z0.bp) (.bf (z0.cg !=0) (.ok (.inr (.inl ())))<|.bf (z0.aW !=0) (.bf (z0.aW==z0.aa) (.ok (.inr (.inl ())))<|.gd (jS b c z0.aW)<|.bd (h_ sh b c z0.aW) λg=>.cs g (λd=>.bf (!!d.bp) (.ok (.inr (.inl ())))<|.ok (.inl ())) λd=>.ok (.inr (.inl ())))<|.ok (.inl ()))<|.bf (z0.aW !=0) (.bf (z0.aW==z0.aa) (.ok (.inr (.inl ())))<|.gd (jS b c z0.aW)<|.bd (h_ sh b c z0.aW) λf=>.cs f (λd=>.bf (!!d.bp) (.ok (.inr (.inl ())))<|.ok (.inl ())) λd=>.ok (.inr (.inl ())))<|.ok (.inl ()))<|.bf (!z0.bp) (.bf (z0.cg !=0) (.ok (.inr (.inl ())))<|.bf (z0.aW !=0) (.bf (z0.aW==z0.aa) (.ok (.inr (.inl ())))<|.gd (jS b c z0.aW)<|.bd (h_ sh b c z0.aW) λf=>.cs f (λd=>.bf (!!d.bp) (.ok (.inr (.inl ())))<|.ok (.inl ())) λd=>.ok (.inr (.inl ())))<|.ok (.inl ()))<|.bf (z0.aW !=0) (.bf (z0.aW==z0.aa) (.ok (.inr (.inl ())))<|.gd (jS b c z0.aW)<|.bd (h_ sh b c z0.aW) λk=>.cs k (λd=>.bf (!!d.bp) (.ok (.inr (.inl ())))<|.ok (.inl ())) λd=>.ok (.inr (.inl ())))<|.ok (.inl ()))<|.bd (idx c (δ.wrap (i-1))) λz2=>.bd (lE sh z2.aa) λd=>.bf (!decide (d<h)) (.ok (.inr (.inl ())))<|.bd (c' (δ.wrap (h-1)) 16) λz4=>.bf (ζ.wrap (ζ.wrap (z0.aa.tdiv 64)+1) !=ζ.wrap (aE b z4)) (.ok (.inr (.inl ())))<|.bf (z0.bp) (.bf (z0.aW==0) (.ok (.inr (.inl ())))<|.bf (!z0.bp) (.bf (z0.cg !=0) (.ok (.inr (.inl ())))<|.bf (z0.aW !=0) (.bf (z0.aW==z0.aa) (.ok (.inr (.inl ())))<|.gd (jS b c z0.aW)<|.bd (h_ sh b c z0.aW) λj=>.cs j (λe=>.bf (!!e.bp) (.ok (.inr (.inl ())))<|.ok (.inl ())) λe=>.ok (.inr (.inl ())))<|.ok (.inl ()))<|.bf (z0.aW !=0) (.bf (z0.aW==z0.aa) (.ok (.inr (.inl ())))<|.gd (jS b c z0.aW)<|.bd (h_ sh b c z0.aW) λg=>.cs g (λe=>.bf (!!e.bp) (.ok (.inr (.inl ())))<|.ok (.inl ())) λe=>.ok (.inr (.inl ())))<|.ok (.inl ()))<|.bf (!z0.bp) (.bf (z0.cg !=0) (.ok (.inr (.inl ())))<|.bf (z0.aW !=0) (.bf (z0.aW==z0.aa) (.ok (.inr (.inl ())))<|.gd (jS b c z0.aW)<|.bd (h_ sh b c z0.aW) λg=>.cs g (λe=>.bf (!!e.bp) (.ok (.inr (.inl ())))<|.ok (.inl ())) λe=>.ok (.inr (.inl ())))<|.ok (.inl ()))<|.bf (z0.aW !=0) (.bf (z0.aW==z0.aa) (.ok (.inr (.inl ())))<|.gd (jS b c z0.aW)<|.bd (h_ sh b c z0.aW) λf=>.cs f (λe=>.bf (!!e.bp) (.ok (.inr (.inl ())))<|.ok (.inl ())) λe=>.ok (.inr (.inl ())))<|.ok (.inl ()))<|.ok (.inr (.inl ())))<|.ok (.inr (.inl ()))
def q' (sh:Sh) (d:Γa) (c:List ah) (b:Int) (a:Unit):T (Unit⊕(Bool×Int)):=.ok (.inr ((decide (b<(↑c.length:Int))),b))
def r9 (b:Γa) (a:List ah):=b4 sh (sm sh b a) (q' sh b a) a ()
def TF {R} (k:KX SS R) (a:Γa) (b:List ah) (x:Unit⊕(Bool×Int)):Option R:=(λx=>θ (λv=>k .ret (Wx a b)) (λv=>k (.exit 0) (Wy a b v.1 v.2)) x) x
def Lh:bh SS:=bt 2 (λst=>((b9 st 3 96).bind λ_=>(b9 st 6 142).bind λ_=>fQ st 132 10).bind λ_=>(e1 (aN st 0 0)).bind λa=>(ba 48 (aN st 0 1)).bind λb=>some (a,b)) (u2 FH) (u2 (r9 shut)) (λk=>u2 (TF k))
def R7:=bO xi ar χ 142 [D0]
theorem R8:a_ R7 γ:=bQ Hb ξ1 rfl a8 (by kernel_rfl) Nw
theorem ab8:LS KK γ ar χ 142 2 Lh:=
 aX.b_ R8 (aJ.nil) rfl 60 (λp i a=>u2 C8 p i) (λp=>p.2) (λp=>()) (St:=u2 (sm shut)) (F:=u2 (q' shut)) (λp=>rfl)
  (λm p i a k=>by kernel_rfl) (by rintro p (x|x)<;>exact⟨_,_,λ_=>rfl⟩) (λp N C A O w a b=>D' b (j:=0) (n:=1) (t:=48) rfl rfl λv h=>h)
def R9:=bO xi ar χ 142 [mO (λst=>(b9 st 3 142).bind λ_=>fQ st 18 4) D0 (Lh)]
theorem R_:a_ R9 γ:=bQ (a_.fI (ak.all rS rfl) ζ6 rfl a8 λc a=>by cases a;exact aJ.cons (aJ.nil) (by kernel_rfl) Nu) ξ1 rfl a8 (by kernel_rfl) (aX.alt Nw ab8)
def Bp (p:bI):T Int:=.bf ((↑p.ag.length:Int)==0) (.ok 320)<|.bd (idx p.ag 0) λz0=>.bf (!fP z0 (ah.mk 1 0 false 0)) (.ok 320)<|.gd (p4 p.aM p.ag 0)<|.bd (zk sh p.aM p.ag 0) λx4=>.cs x4 (λb=>.bf (decide (b>=0)) (.ok 320)<|.gd (FH p.aM p.ag)<|.bd (r9 sh p.aM p.ag) λa=>.cs a (λ_=>.ok 320) λc=>.ok 0) λb=>.gd (FH p.aM p.ag)<|.bd (r9 sh p.aM p.ag) λa=>.cs a (λ_=>.ok 320) λc=>.ok 0
def kn (p:bI):=sh.s _ (Bp sh p).val
def H0:=bP (dS KK 60 50 (kn sh) (cH KK 27)) (xL sh)
theorem H2:ak (H0 shut) γ:=eo (rs:=[27]) rS R_ rfl rfl λp k=>by kernel_rfl
def Aw (sh:Sh) (d:aj):T Bool:=.bf (decide (d.aa<4294967296)) (.bf (decide (d.bF>=0)) (.ok (decide (d.bF<8)))<|.ok false)<|.ok false
def Cq (d:aj):=sh.s _ (Aw sh d).val
def Hn:=bP (dS KK 102 105 (Cq sh) (cH KK 4)) (H0 sh)
theorem Ho:ak (Hn shut) γ:=eo (rs:=[4]) H2 (ak.all H2 rfl) rfl rfl λd k=>by kernel_rfl
def AB (sh:Sh) (x y:Int):T Int:=.bf (x !=x) (.bf (y !=y) (.ok 0)<|.ok (-1))<|.bf (y !=y) (.ok 1)<|.bf (decide (x<y)) (.ok (-1))<|.bf (decide (x>y)) (.ok 1)<|.ok 0
def hW (x y:Int):=sh.s _ (AB sh x y).val
def Hr:=bP (db KK 144 35 35 (hW sh) (cH KK 3)) (Hn sh)
theorem Hs:ak (Hr shut) γ:=dp (rs:=[3]) Ho (ak.all Ho rfl) rfl rfl λx y k=>by kernel_rfl
def Ti (sh:Sh) (x y:Int):T Int:=.bf (x !=x) (.bf (y !=y) (.ok 0)<|.ok (-1))<|.bf (y !=y) (.ok 1)<|.bf (decide (x<y)) (.ok (-1))<|.bf (decide (x>y)) (.ok 1)<|.ok 0
def nk (x y:Int):=sh.s _ (Ti sh x y).val
def yR:=bP (db KK 37 3 3 (nk sh) (cH KK 3)) (Hr sh)
theorem yS:ak (yR shut) γ:=dp (rs:=[3]) Hs (ak.all Hs rfl) rfl rfl λx y k=>by kernel_rfl
def p5 (a:Γa) (b:Int):AS SS:=⟨[(3,(vi 0)),(6,(vo 0)),(7,(vi 2)),(8,(vi b))],[(rX 3 a)],1,none,false,[],[]⟩
def WB (a:Γa) (a0:Int):AS SS:= {p5 a a0 with env:=[(2,(vi a0))]}
def WD (b:Γa) (a0:Bool) (a:Int):AS SS:=xe [(9,(vb a0))] (p5 b a)
def j9 (sh:Sh) (b:Γa) (a:Int):T (Int⊕Int⊕(Bool×Int)):=.bf (decide (a<2)) (.bd (idx b a) λz0=>.bd (b[a.toNat]?) λc=>.bf (c !=0) (.ok (.inr (.inl c)))<|.ok (.inl (δ.wrap (a+1))))<|.ok (.inr (.inr ((decide (a<2)),a)))
def zp (a:Γa) (b:Int):=bM sh (j9 sh a) 1000000 b
def TH {R} (k:KX SS R) (a:Γa) (x:Int⊕(Bool×Int)):Option R:=(λx=>θ (λv=>k .ret (WB a v)) (λv=>k (.exit 0) (WD a v.1 v.2)) x) x
def Li:bh SS:=bt 4 (λst=>(cd st 0 3).bind λa=>(aU (aK st 8 0)).bind λb=>some (a,b)) (u2 p5) (u2 (zp shut)) (λk p=>TH k p.1)
theorem ab9:LS KK γ ar Tryz.f143 143 4 Li:=
 aX.bM (π:=Γa×Int) (σ:=Int) (ak.all yS rfl) (aJ.nil) rfl 60 (λp a=>p5 p.1 a) (λp=>p.2) (St:=λp=>j9 shut p.1) (λp=>1000000) (λp=>rfl)
  (λm p a k=>by kernel_rfl)
def QD:=bO (yR shut) ar Tryz.f143 143 [Li]
theorem QE:a_ QD γ:=bQ (ak.all yS rfl) Tryz.func143 rfl a8 (by kernel_rfl) ab9
def Ax (a b:aj):T Int:=.bd (hW sh a.aa b.aa) λc=>.bd (nk sh a.bF b.bF) λd=>.gd (p5 [c,d] 0)<|.bd (zp sh [c,d] 0) λx5=>.cs x5 (λe=>.ok e) λe=>.ok 0
def pK (a b:aj):=sh.s _ (Ax sh a b).val
def xM:=bP (db KK 103 105 105 (pK sh) (cH KK 3)) (yR sh)
theorem xN:ak (xM shut) γ:=dp (rs:=[3]) yS QE rfl rfl λa b k=>by kernel_rfl
def uG (a:List aj) (b:Int):AS SS:=⟨[(0,(vd 51 a)),(8,(vd 51 a)),(9,(vl a)),(10,(vi b))],[],0,none,false,[],[]⟩
def Pf (a:List aj):AS SS:=uG a 0
def XO (a:List aj):AS SS:= {uG a 0 with env:=[(2,(vi 330))]}
def XP (b:List aj) (a0:Bool) (a:Int):AS SS:=xe [(11,(vb a0))] (uG b a)
def o8 (c:List aj) (b:Int) (z0:aj) (a:Unit):T (Unit⊕Unit⊕(Bool×Int)):=.bd (Cq sh z0) λd=>.bf (!d) (.ok (.inr (.inl ())))<|.bf (decide (b>0)) (.bd (idx c (δ.wrap (b-1))) λz2=>.bd (pK sh z2 z0) λe=>.bf (decide (e>=0)) (.ok (.inr (.inl ())))<|.ok (.inl ()))<|.ok (.inl ())
def rH (sh:Sh) (c:List aj) (b:Int) (a:Unit):T (Unit⊕(Bool×Int)):=.ok (.inr ((decide (b<(↑c.length:Int))),b))
def Aa (a:List aj):=b4 sh (o8 sh a) (rH sh a) a ()
def Uw {R} (k:KX SS R) (a:List aj) (x:Unit⊕(Bool×Int)):Option R:=(λx=>θ (λv=>k .ret (XO a)) (λv=>k (.exit 0) (XP a v.1 v.2)) x) x
def LZ:bh SS:=bt 5 (λst=>(ba 51 (aK st 0 0)).bind λa=>some a) (λp=>Pf p) (λp=>Aa shut p) (λk p=>Uw k p)
theorem acP:LS KK γ ar Tryz.f61 61 5 LZ:=
 aX.b_ (π:=List aj) (ak.all xN rfl) (aJ.nil) rfl 60 (λp i a=>uG p i) (λp=>p) (λp=>()) (St:=λp=>o8 shut p) (F:=λp=>rH shut p) (λp=>rfl)
  (λm p i a k=>by kernel_rfl) (by rintro p (x|x)<;>exact⟨_,_,λ_=>rfl⟩) (λp N C A O w a b=>cE b (t:=51) (sl:=0) rfl λv h=>h)
def R':=bO (xM shut) ar Tryz.f61 61 [LZ]
theorem Sa:a_ R' γ:=bQ (ak.all xN rfl) Tryz.func61 rfl a8 (by kernel_rfl) acP
def Bq (l:List aj):T Int:=.bf (decide ((↑l.length:Int)>64)) (.ok 330)<|.gd (Pf l)<|.bd (Aa sh l) λx3=>.cs x3 (λ_=>.ok 330) λa=>.ok 0
def iB (l:List aj):=sh.s _ (Bq sh l).val
def r0:=bP (dS KK 61 51 (iB sh) (cH KK 27)) (xM sh)
theorem y0:ak (r0 shut) γ:=eo (rs:=[27]) xN Sa rfl rfl λl k=>by kernel_rfl
def mK (sh:Sh) (p:Int):T Bool:=.bf (decide (p>=1)) (.ok (decide (p<4294967296)))<|.ok false
def m_ (p:Int):=sh.s _ (mK sh p).val
theorem PK:R1 KK (r0 shut) 107 35 [4] (mK shut) (cH KK 4):=by intro R p k;kernel_rfl
def xR:=bP (dS KK 107 35 (m_ sh) (cH KK 4)) (r0 sh)
theorem xS:ak (xR shut) γ:=eo y0 (ak.all y0 rfl) rfl rfl PK
def p6 (a:ByteArray) (b:Γa) (c d:Int):AS SS:=⟨[(0,(vs (.v (.string a)))),(5,(vu c)),(14,(.s (.agg [(.bu .u8 8 b)]))),(15,(vi d))],[],0,none,false,[],[]⟩
def WW (a:ByteArray) (b:Γa):AS SS:= {p6 a b 0 0 with env:=[(2,(vu 0)),(3,(vi 2))]}
def WX (b:ByteArray) (c:Γa) (a0:Bool) (a a2:Int):AS SS:= {p6 b c a a with env:=[(16,(vb a0)),(0,(vs (.v (.string b)))),(5,(vu a)),(14,(.s (.agg [(.bu .u8 8 c)]))),(15,(vi a2))]}
def oV (sh:Sh) (d:ByteArray) (b:Γa) (a:Int×Int):T ((Int×Int)⊕Unit⊕(Bool×Int×Int)):=.bf (decide (a.2<8)) (.bd (c' a.2 8) λz0=>.bf (aE b z0==0) (.bf (decide (a.2<(↑d.size:Int))) (.ok (.inr (.inl ())))<|.bd (mc ζ (ζ.wrap (aE b z0)) (δ.wrap (8*a.2))) λc=>.ok (.inl ((bits BinOp.or ζ a.1 c),(δ.wrap (a.2+1)))))<|.bd (mc ζ (ζ.wrap (aE b z0)) (δ.wrap (8*a.2))) λc=>.ok (.inl ((bits BinOp.or ζ a.1 c),(δ.wrap (a.2+1)))))<|.ok (.inr (.inr ((decide (a.2<8)),a.1,a.2)))
def zy (a:ByteArray) (b:Γa) (c d:Int):=bM sh (oV sh a b) 1000000 (c,d)
def TS {R} (k:KX SS R) (a:ByteArray) (b:Γa) (x:Unit⊕(Bool×Int×Int)):Option R:=(λx=>θ (λv=>k .ret (WW a b)) (λv=>k (.exit 0) (WX a b v.1 v.2.1 v.2.2)) x) x
def Lo:bh SS:=bt 8 (λst=>(tn (aK st 0 0)).bind λa=>(e1 (aK st 14 0)).bind λb=>(aU (aK st 5 0)).bind λc=>(aU (aK st 15 0)).bind λd=>some (a,b,c,d)) (u4 p6) (u4 (zy shut)) (λk p=>TS k p.1 p.2.1)
theorem acf:LS KK γ ar Tryz.f189 189 8 Lo:=
 aX.bM (π:=ByteArray×Γa×Int×Int) (σ:=Int×Int) (ak.all xS rfl) (aJ.nil) rfl 60 (λp a=>p6 p.1 p.2.1 a.1 a.2) (λp=>(p.2.2.1,p.2.2.2)) (St:=λp=>oV shut p.1 p.2.1) (λp=>1000000) (λp=>rfl)
  (λm p a k=>by kernel_rfl)
def Ry:=bO (xR shut) ar Tryz.f189 189 [Lo]
theorem Rz:a_ Ry γ:=bQ (ak.all xS rfl) Tryz.func189 rfl a8 (by kernel_rfl) acf
def A4 (s:ByteArray):T (Int×Int):=.bf (decide ((↑s.size:Int)>8)) (.ok (0,111))<|.bd (wI KK (aC (ew (ew (ew (ew (ew (ew (ew (ew [] []++[]) []++[]) []++[]) []++[]) []++[]) []++[some (Ob.box 303 (List.map LV.v [ξe ξ3 0,ξe ξ3 0,ξe ξ3 0,ξe ξ3 0,ξe ξ3 0,ξe ξ3 0,ξe ξ3 0,ξe ξ3 0]))]) []++[]) []++[])) 5 ξ3 8 (LV.v (Value.string s))) λz0=>.gd (p6 s (c3 [0,0,0,0,0,0,0,0] z0) 0 0)<|.bd (zy sh s (c3 [0,0,0,0,0,0,0,0] z0) 0 0) λx4=>.cs x4 (λ_=>.ok (0,2)) λa=>.ok (a.2.1,0)
def tL (s:ByteArray):=sh.s _ (A4 sh s).val
def yw:=bP (dS KK 189 9 (tL sh) (eP KK 35 27)) (xR sh)
theorem yx:ak (yw shut) γ:=eo (rs:=[35,27]) xS Rz rfl rfl λs k=>by kernel_rfl
def ub (a b:Int) (c:Γa):AS SS:=⟨[(0,(vu a)),(4,(vo 0)),(5,(vu b))],[(rX 5 c)],0,none,false,[],[]⟩
def WE (a:Int) (a0:Bool) (b a2:Int) (a3:Γa):AS SS:= {ub a a a3 with env:=[(12,(vb a0)),(11,(vu b)),(10,(vu a2)),(0,(vu a)),(4,(vo 0)),(5,(vu a2))]}
def oR (sh:Sh) (b:Int) (a:Int×Γa):T ((Int×Γa)⊕(Bool×Int×Int×Γa)):=.bf (bits ζ7 ζ a.1 255 !=0) (.bd (app 1 a.2 [ξ3.wrap a.1]) λz0=>.ok (.inl ((a.1.fdiv 256),z0)))<|.ok (.inr ((bits ζ7 ζ a.1 255 !=0),(bits ζ7 ζ a.1 255),a.1,a.2))
def zq (a b:Int) (c:Γa):=bM sh (oR sh a) 1000000 (b,c)
def TJ {R} (k:KX SS R) (a:Int) (x:(Bool×Int×Int×Γa)):Option R:=(λv=>k (.exit 0) (WE a v.1 v.2.1 v.2.2.1 v.2.2.2)) x
def Lj:bh SS:=bt 4 (λst=>(aU (aK st 0 0)).bind λa=>(aU (aK st 5 0)).bind λb=>(cd st 0 5).bind λc=>some (a,b,c)) (u3 ub) (u3 (zq shut)) (λk p=>TJ k p.1)
theorem ab_:LS KK γ ar Tryz.f146 146 4 Lj:=
 aX.bM (π:=Int×Int×Γa) (σ:=Int×Γa) (ak.all yx rfl) (aJ.nil) rfl 60 (λp a=>ub p.1 a.1 a.2) (λp=>(p.2.1,p.2.2)) (St:=λp=>oR shut p.1) (λp=>1000000) (λp=>rfl)
  (λm p a k=>by kernel_rfl)
def QP:=bO (yw shut) ar Tryz.f146 146 [Lj]
theorem QQ:a_ QP γ:=bQ (ak.all yx rfl) Tryz.func146 rfl a8 (by kernel_rfl) ab_
def AE (w:Int):T (ByteArray×Int):=.gd (ub w w [])<|.bd (zq sh w w []) λc=>.bd (iJ KK 5 ξ3 c.2.2.2) λb=>.bd (tL sh (strOf b)) λa=>.bf (a.2 !=0) (.ok ((ο #[]),2))<|.bf (a.1 !=w) (.ok ((ο #[]),2))<|.ok ((strOf b),0)
def ts (w:Int):=sh.s _ (AE sh w).val
def xU:=bP (dS KK 146 35 (ts sh) (eP KK 9 27)) (yw sh)
theorem xV:ak (xU shut) γ:=eo (rs:=[9,27]) yx QQ rfl rfl λw k=>by kernel_rfl
def iH (a:Bool) (b:ByteArray) (c:Nat):AS SS:=⟨[(5,(vb a)),(20,(vs (.cX 0)))],[(some (.cX b c))],0,none,false,[],[]⟩
def V_ (e:ByteArray) (a0 a:Bool) (a2:Int) (a3 a4 a5 b:Bool) (c:Int) (d:Nat):AS SS:= {iH a0 e d with env:=[(42,(vb a0)),(41,(vb a)),(5,(vb a)),(40,(vb a)),(39,(vb a)),(25,(vb true)),(38,(vb a)),(32,(vb false)),(37,(vb a)),(35,(vb true)),(36,(vs (.v (.int .i32 a2)))),(35,(vb true)),(35,(vb a3)),(32,(vb false)),(34,(vb a3)),(32,(vb false)),(33,(vs (.v (.int .i32 a2)))),(32,(vb false)),(32,(vb a4)),(25,(vb true)),(31,(vb a4)),(25,(vb true)),(30,(vb a4)),(28,(vb true)),(29,(vs (.v (.int .i32 a2)))),(28,(vb true)),(28,(vb a5)),(25,(vb true)),(27,(vb a5)),(25,(vb true)),(26,(vs (.v (.int .i32 a2)))),(25,(vb true)),(25,(vb b)),(24,(vb b)),(7,(vs (.v (.int .i32 a2)))),(23,(vs (.v (.int .i32 a2)))),(22,(vb true)),(21,(.br [(.one (.v (.bool true))),(.one (li c)),(.one (.v (.int .i32 a2)))])),(5,(vb b)),(20,(vs (.cX 0)))]}
def V' (c:ByteArray) (a0:Bool) (a:Int) (a2 a3 a4:Bool) (a5:Int) (b:Nat):AS SS:= {iH a0 c b with env:=[(42,(vb true)),(41,(vb false)),(5,(vb false)),(40,(vb false)),(39,(vb false)),(25,(vb true)),(38,(vb false)),(32,(vb false)),(37,(.br [])),(35,(vb false)),(36,(.br [])),(35,(vb false)),(35,(vb a0)),(32,(vb false)),(34,(vb a0)),(32,(vb false)),(33,(vs (.v (.int .i32 a)))),(32,(vb false)),(32,(vb a2)),(25,(vb true)),(31,(vb a2)),(25,(vb true)),(30,(vb a2)),(28,(vb true)),(29,(vs (.v (.int .i32 a)))),(28,(vb true)),(28,(vb a3)),(25,(vb true)),(27,(vb a3)),(25,(vb true)),(26,(vs (.v (.int .i32 a)))),(25,(vb true)),(25,(vb a4)),(24,(vb a4)),(7,(vs (.v (.int .i32 a)))),(23,(vs (.v (.int .i32 a)))),(22,(vb true)),(21,(.br [(.one (.v (.bool true))),(.one (li a5)),(.one (.v (.int .i32 a)))])),(5,(vb a4)),(20,(vs (.cX 0)))]}
def Wa (d:ByteArray) (a0 a:Bool) (a2:Int) (a3 a4 a5:Bool) (b:Int) (c:Nat):AS SS:= {iH a0 d c with env:=[(42,(vb a0)),(41,(vb a)),(5,(vb a)),(40,(vb a)),(39,(vb a)),(25,(vb true)),(38,(vb a)),(32,(vb false)),(37,(vb a)),(35,(vb true)),(36,(vs (.v (.int .i32 a2)))),(35,(vb true)),(35,(vb a3)),(32,(vb false)),(34,(vb a3)),(32,(vb false)),(33,(vs (.v (.int .i32 a2)))),(32,(vb false)),(32,(vb false)),(25,(vb true)),(31,(vb false)),(25,(vb true)),(30,(.br [])),(28,(vb false)),(29,(.br [])),(28,(vb false)),(28,(vb a4)),(25,(vb true)),(27,(vb a4)),(25,(vb true)),(26,(vs (.v (.int .i32 a2)))),(25,(vb true)),(25,(vb a5)),(24,(vb a5)),(7,(vs (.v (.int .i32 a2)))),(23,(vs (.v (.int .i32 a2)))),(22,(vb true)),(21,(.br [(.one (.v (.bool true))),(.one (li b)),(.one (.v (.int .i32 a2)))])),(5,(vb a5)),(20,(vs (.cX 0)))]}
def Wb (b:ByteArray) (a0:Bool) (a:Int) (a2 a3:Bool) (a4:Int) (a5:Nat):AS SS:= {iH a0 b a5 with env:=[(42,(vb true)),(41,(vb false)),(5,(vb false)),(40,(vb false)),(39,(vb false)),(25,(vb true)),(38,(vb false)),(32,(vb false)),(37,(.br [])),(35,(vb false)),(36,(.br [])),(35,(vb false)),(35,(vb a0)),(32,(vb false)),(34,(vb a0)),(32,(vb false)),(33,(vs (.v (.int .i32 a)))),(32,(vb false)),(32,(vb false)),(25,(vb true)),(31,(vb false)),(25,(vb true)),(30,(.br [])),(28,(vb false)),(29,(.br [])),(28,(vb false)),(28,(vb a2)),(25,(vb true)),(27,(vb a2)),(25,(vb true)),(26,(vs (.v (.int .i32 a)))),(25,(vb true)),(25,(vb a3)),(24,(vb a3)),(7,(vs (.v (.int .i32 a)))),(23,(vs (.v (.int .i32 a)))),(22,(vb true)),(21,(.br [(.one (.v (.bool true))),(.one (li a4)),(.one (.v (.int .i32 a)))])),(5,(vb a3)),(20,(vs (.cX 0)))]}
def Wc (b:ByteArray) (a0:Bool) (a a2:Int) (a3:Nat):AS SS:=xe [(42,(vb true)),(41,(vb false)),(5,(vb false)),(40,(vb false)),(39,(.br [])),(25,(vb false)),(38,(.br [])),(37,(.br [])),(36,(.br [])),(35,(.br [])),(34,(.br [])),(33,(.br [])),(32,(.br [])),(25,(vb false)),(31,(.br [])),(25,(vb false)),(30,(.br [])),(29,(.br [])),(28,(.br [])),(25,(vb false)),(27,(.br [])),(25,(vb false)),(26,(.br [])),(25,(vb false)),(25,(vb a0)),(24,(vb a0)),(7,(vs (.v (.int .i32 a)))),(23,(vs (.v (.int .i32 a)))),(22,(vb true)),(21,(.br [(.one (.v (.bool true))),(.one (li a2)),(.one (.v (.int .i32 a)))]))] (iH a0 b a3)
def Wd (b:ByteArray) (a0:Bool) (a:Nat):AS SS:=xe [(22,(vb false)),(21,(.br [(.one (.v (.bool false)))]))] (iH a0 b a)
def j8 (sh:Sh) (b:ByteArray) (a:Bool×Nat):T ((Bool×Nat)⊕(Bool×Bool×Int×Bool×Bool×Bool×Bool×Int×Nat)⊕(Bool×Int×Bool×Bool×Bool×Int×Nat)⊕(Bool×Bool×Int×Bool×Bool×Bool×Int×Nat)⊕(Bool×Int×Bool×Bool×Int×Nat)⊕(Bool×Int×Int×Nat)⊕(Bool×Nat)):=.bf (decide (a.2<b.size)) (.bf (a.1) (.bf (decide ((↑(ε b a.2).fst:Int)>=97)) (.bf (decide ((↑(ε b a.2).fst:Int)<=122)) (.ok (.inl (true,(a.2+(ε b a.2).snd))))<|.bf (decide ((↑(ε b a.2).fst:Int)>=48)) (.bf (!decide ((↑(ε b a.2).fst:Int)<=57)) (.ok (.inr (.inl ((!decide ((↑(ε b a.2).fst:Int)<=57)),(decide ((↑(ε b a.2).fst:Int)<=57)),((↑(ε b a.2).fst:Int)),(decide ((↑(ε b a.2).fst:Int)>=48)),(decide ((↑(ε b a.2).fst:Int)<=122)),(decide ((↑(ε b a.2).fst:Int)>=97)),a.1,(↑a.2:Int),(a.2+(ε b a.2).snd)))))<|.ok (.inl ((decide ((↑(ε b a.2).fst:Int)<=57)),(a.2+(ε b a.2).snd))))<|.ok (.inr (.inr (.inl ((decide ((↑(ε b a.2).fst:Int)>=48)),((↑(ε b a.2).fst:Int)),(decide ((↑(ε b a.2).fst:Int)<=122)),(decide ((↑(ε b a.2).fst:Int)>=97)),a.1,(↑a.2:Int),(a.2+(ε b a.2).snd))))))<|.bf (decide ((↑(ε b a.2).fst:Int)>=48)) (.bf (!decide ((↑(ε b a.2).fst:Int)<=57)) (.ok (.inr (.inr (.inr (.inl ((!decide ((↑(ε b a.2).fst:Int)<=57)),(decide ((↑(ε b a.2).fst:Int)<=57)),((↑(ε b a.2).fst:Int)),(decide ((↑(ε b a.2).fst:Int)>=48)),(decide ((↑(ε b a.2).fst:Int)>=97)),a.1,(↑a.2:Int),(a.2+(ε b a.2).snd)))))))<|.ok (.inl ((decide ((↑(ε b a.2).fst:Int)<=57)),(a.2+(ε b a.2).snd))))<|.ok (.inr (.inr (.inr (.inr (.inl ((decide ((↑(ε b a.2).fst:Int)>=48)),((↑(ε b a.2).fst:Int)),(decide ((↑(ε b a.2).fst:Int)>=97)),a.1,(↑a.2:Int),(a.2+(ε b a.2).snd))))))))<|.ok (.inr (.inr (.inr (.inr (.inr (.inl (a.1,((↑(ε b a.2).fst:Int)),(↑a.2:Int),(a.2+(ε b a.2).snd)))))))))<|.ok (.inr (.inr (.inr (.inr (.inr (.inr (a.1,a.2)))))))
def oK (a:Bool) (b:ByteArray) (c:Nat):=bM sh (j8 sh b) 1000000 (a,c)
def Ts {R} (k:KX SS R) (a:ByteArray) (x:(Bool×Bool×Int×Bool×Bool×Bool×Bool×Int×Nat)⊕(Bool×Int×Bool×Bool×Bool×Int×Nat)⊕(Bool×Bool×Int×Bool×Bool×Bool×Int×Nat)⊕(Bool×Int×Bool×Bool×Int×Nat)⊕(Bool×Int×Int×Nat)⊕(Bool×Nat)):Option R:=(λx=>θ (λv=>k (.exit 0) (V_ a v.1 v.2.1 v.2.2.1 v.2.2.2.1 v.2.2.2.2.1 v.2.2.2.2.2.1 v.2.2.2.2.2.2.1 v.2.2.2.2.2.2.2.1 v.2.2.2.2.2.2.2.2)) (λx=>θ (λv=>k (.exit 0) (V' a v.1 v.2.1 v.2.2.1 v.2.2.2.1 v.2.2.2.2.1 v.2.2.2.2.2.1 v.2.2.2.2.2.2)) (λx=>θ (λv=>k (.exit 0) (Wa a v.1 v.2.1 v.2.2.1 v.2.2.2.1 v.2.2.2.2.1 v.2.2.2.2.2.1 v.2.2.2.2.2.2.1 v.2.2.2.2.2.2.2)) (λx=>θ (λv=>k (.exit 0) (Wb a v.1 v.2.1 v.2.2.1 v.2.2.2.1 v.2.2.2.2.1 v.2.2.2.2.2)) (λx=>θ (λv=>k (.exit 0) (Wc a v.1 v.2.1 v.2.2.1 v.2.2.2)) (λv=>k (.exit 0) (Wd a v.1 v.2)) x) x) x) x) x) x
def K9:bh SS:=bt 5 (λst=>(iz (aK st 5 0)).bind λa=>(ZD st 0).bind λb=>(KA st 0).bind λc=>some (a,b,c)) (u3 iH) (u3 (oK shut)) (λk p=>Ts k p.2.1)
theorem abZ:LS KK γ ar Tryz.f106 106 5 K9:=
 aX.bM (π:=Bool×ByteArray×Nat) (σ:=Bool×Nat) (ak.all xV rfl) (aJ.nil) rfl 60 (λp a=>iH a.1 p.2.1 a.2) (λp=>(p.1,p.2.2)) (St:=λp=>j8 shut p.2.1) (λp=>1000000) (λp=>rfl)
  (λm p a k=>by kernel_rfl)
def QF:=bO (xU shut) ar Tryz.f106 106 [K9]
theorem QG:a_ QF γ:=bQ (ak.all xV rfl) Tryz.func106 rfl a8 (by kernel_rfl) abZ
def Az (w:Int):T Bool:=.bd (ts sh w) λb=>.bf (b.2==0) (.gd (iH (!b.1.toList==(ο #[]).toList) b.1 0)<|.bd (oK sh (!b.1.toList==(ο #[]).toList) b.1 0) λx5=>.cs x5 (λa=>.ok a.2.1) λg=>.cs g (λa=>.ok false) λh=>.cs h (λa=>.ok a.2.1) λi=>.cs i (λa=>.ok false) λj=>.cs j (λa=>.ok false) λa=>.ok a.1)<|.gd (iH false b.1 0)<|.bd (oK sh false b.1 0) λx4=>.cs x4 (λa=>.ok a.2.1) λc=>.cs c (λa=>.ok false) λd=>.cs d (λa=>.ok a.2.1) λe=>.cs e (λa=>.ok false) λf=>.cs f (λa=>.ok false) λa=>.ok a.1
def jx (w:Int):=sh.s _ (Az sh w).val
def xQ:=bP (dS KK 106 35 (jx sh) (cH KK 4)) (xU sh)
theorem rT:ak (xQ shut) γ:=eo (rs:=[4]) xV QG rfl rfl λw k=>by kernel_rfl
def Dq (a:List aw) (b:List aq) (c:Int):AS SS:=⟨[(1,(va 0 0)),(12,(vd 55 a)),(13,(vl a)),(14,(vi c))],[(bX 58 [(.ao 55 a),(.ao 56 b)])],0,none,false,[],[]⟩
def Pj (a:List aw) (b:List aq):AS SS:=Dq a b 0
def XU (a:List aw) (b:List aq):AS SS:=⟨[(2,(vi 350))],[],0,none,false,[],[]⟩
def XV (b:List aw) (c:List aq) (a0:Bool) (a:Int):AS SS:=xe [(15,(vb a0))] (Dq b c a)
def sO (c:List aw) (f:List aq) (b:Int) (z0:aw) (a:Unit):T (Unit⊕Unit⊕(Bool×Int)):=.bd (jx sh z0.bb) λd=>.bf (!d) (.ok (.inr (.inl ())))<|.bd (m_ sh z0.aa) λe=>.bf (!e) (.ok (.inr (.inl ())))<|.bf (decide (b>0)) (.bd (idx c (δ.wrap (b-1))) λz3=>.bf (decide (z3.bb>=z0.bb)) (.ok (.inr (.inl ())))<|.ok (.inl ()))<|.ok (.inl ())
def rK (sh:Sh) (c:List aw) (d:List aq) (b:Int) (a:Unit):T (Unit⊕(Bool×Int)):=.ok (.inr ((decide (b<(↑c.length:Int))),b))
def Ac (a:List aw) (b:List aq):=b4 sh (sO sh a b) (rK sh a b) a ()
def Uz {R} (k:KX SS R) (a:List aw) (b:List aq) (x:Unit⊕(Bool×Int)):Option R:=(λx=>θ (λv=>k .ret (XU a b)) (λv=>k (.exit 0) (XV a b v.1 v.2)) x) x
def L2:bh SS:=bt 5 (λst=>(ba 55 (aK st 12 0)).bind λa=>(ba 56 (aN st 0 1)).bind λb=>some (a,b)) (u2 Pj) (u2 (Ac shut)) (λk=>u2 (Uz k))
theorem acS:LS KK γ ar ζn 63 5 L2:=
 aX.b_ (ak.all rT rfl) (aJ.nil) rfl 60 (λp i a=>u2 Dq p i) (λp=>p.1) (λp=>()) (St:=u2 (sO shut)) (F:=u2 (rK shut)) (λp=>rfl)
  (λm p i a k=>by kernel_rfl) (by rintro p (x|x)<;>exact⟨_,_,λ_=>rfl⟩) (λp N C A O w a b=>cE b (t:=55) (sl:=12) rfl λv h=>h)
def Dp (a:List aq) (b:List aw) (c:Int):AS SS:=⟨[(1,(va 0 0)),(47,(vd 56 a)),(48,(vl a)),(49,(vi c))],[(bX 58 [(.ao 55 b),(.ao 56 a)])],0,none,false,[],[]⟩
def Ph (a:List aq) (b:List aw):AS SS:=Dp a b 0
def XS (a:List aq) (b:List aw):AS SS:=⟨[(2,(vi 350))],[],0,none,false,[],[]⟩
def XT (b:List aq) (c:List aw) (a0:Bool) (a:Int):AS SS:=xe [(50,(vb a0))] (Dp b c a)
def sN (c:List aq) (e:List aw) (b:Int) (z0:aq) (a:Unit):T (Unit⊕Unit⊕(Bool×Int)):=.bd (m_ sh z0.aa) λd=>.bf (!d) (.ok (.inr (.inl ())))<|.bf (decide ((↑z0.bc.length:Int)<1)) (.ok (.inr (.inl ())))<|.bf (decide ((↑z0.bc.length:Int)>4)) (.ok (.inr (.inl ())))<|.bf (decide (b>0)) (.bd (idx c (δ.wrap (b-1))) λz2=>.bf (decide (z2.aa>=z0.aa)) (.ok (.inr (.inl ())))<|.ok (.inl ()))<|.ok (.inl ())
def rJ (sh:Sh) (c:List aq) (d:List aw) (b:Int) (a:Unit):T (Unit⊕(Bool×Int)):=.ok (.inr ((decide (b<(↑c.length:Int))),b))
def Ab (a:List aq) (b:List aw):=b4 sh (sN sh a b) (rJ sh a b) a ()
def Uy {R} (k:KX SS R) (a:List aq) (b:List aw) (x:Unit⊕(Bool×Int)):Option R:=(λx=>θ (λv=>k .ret (XS a b)) (λv=>k (.exit 2) (XT a b v.1 v.2)) x) x
def L1:bh SS:=bt 11 (λst=>(ba 56 (aK st 47 0)).bind λa=>(ba 55 (aN st 0 0)).bind λb=>some (a,b)) (u2 Ph) (u2 (Ab shut)) (λk=>u2 (Uy k))
theorem acR:LS KK γ ar ζn 63 11 L1:=
 aX.b_ (ak.all rT rfl) (aJ.nil) rfl 60 (λp i a=>u2 Dp p i) (λp=>p.1) (λp=>()) (St:=u2 (sN shut)) (F:=u2 (rJ shut)) (λp=>rfl)
  (λm p i a k=>by kernel_rfl) (by rintro p (x|x)<;>exact⟨_,_,λ_=>rfl⟩) (λp N C A O w a b=>cE b (t:=56) (sl:=47) rfl λv h=>h)
def xj:=bO (xQ shut) ar ζn 63 [L2,L1]
theorem He:a_ xj γ:=(a_.fI (ak.all rT rfl) Tryz.func63 rfl a8 λc a=>by cases a;exact aJ.cons (aJ.cons (aJ.nil) (by kernel_rfl) acR) (by kernel_rfl) acS)
def sY (s:aO):T Int:=.bf (decide ((↑s.ax.length:Int)>16)) (.ok 350)<|.gd (Pj s.ax s.au)<|.bd (Ac sh s.ax s.au) λx3=>.cs x3 (λ_=>.ok 350) λa=>.gd (Ph s.au s.ax)<|.bd (Ab sh s.au s.ax) λx5=>.cs x5 (λ_=>.ok 350) λb=>.ok 0
def jA (s:aO):=sh.s _ (sY sh s).val
theorem PL:R1 KK xj 63 58 [27] (sY shut) (cH KK 27):=by intro R s k;kernel_rfl
def y3:=bP (dS KK 63 58 (jA sh) (cH KK 27)) (xQ sh)
theorem y4:ak (y3 shut) γ:=eo rT He rfl rfl PL
def ue (a:ByteArray) (b:Nat):AS SS:=⟨[(0,(vs (.v (.string a)))),(6,(vs (.cX 0)))],[(some (.cX a b))],0,none,false,[],[]⟩
def WU (a:ByteArray):AS SS:=⟨[(2,(vb false))],[],0,none,false,[],[]⟩
def WV (a:ByteArray) (a0:Nat):AS SS:=xe [(8,(vb false)),(7,(.br [(.one (.v (.bool false)))]))] (ue a a0)
def mE (sh:Sh) (b:ByteArray) (a:Nat):T (Nat⊕Unit⊕Nat):=.bf (decide (a<b.size)) (.bf (decide ((↑(ε b a).fst:Int)>=97)) (.bf (decide ((↑(ε b a).fst:Int)<=122)) (.ok (.inl (a+(ε b a).snd)))<|.bf (decide ((↑(ε b a).fst:Int)>=48)) (.bf (!decide ((↑(ε b a).fst:Int)<=57)) (.ok (.inr (.inl ())))<|.ok (.inl (a+(ε b a).snd)))<|.ok (.inr (.inl ())))<|.bf (decide ((↑(ε b a).fst:Int)>=48)) (.bf (!decide ((↑(ε b a).fst:Int)<=57)) (.ok (.inr (.inl ())))<|.ok (.inl (a+(ε b a).snd)))<|.ok (.inr (.inl ())))<|.ok (.inr (.inr a))
def zx (a:ByteArray) (b:Nat):=bM sh (mE sh a) 1000000 b
def TQ {R} (k:KX SS R) (a:ByteArray) (x:Unit⊕Nat):Option R:=(λx=>θ (λv=>k .ret (WU a)) (λv=>k (.exit 0) (WV a v)) x) x
def Ln:bh SS:=bt 3 (λst=>(tn (aK st 0 0)).bind λa=>(KA st 0).bind λb=>some (a,b)) (u2 ue) (u2 (zx shut)) (λk p=>TQ k p.1)
theorem ace:LS KK γ ar Tryz.f187 187 3 Ln:=
 aX.bM (π:=ByteArray×Nat) (σ:=Nat) (ak.all y4 rfl) (aJ.nil) rfl 60 (λp a=>ue p.1 a) (λp=>p.2) (St:=λp=>mE shut p.1) (λp=>1000000) (λp=>rfl)
  (λm p a k=>by kernel_rfl)
def Ru:=bO (y3 shut) ar Tryz.f187 187 [Ln]
theorem Rv:a_ Ru γ:=bQ (ak.all y4 rfl) Tryz.func187 rfl a8 (by kernel_rfl) ace
def AZ (s:ByteArray):T Bool:=.gd (ue s 0)<|.bd (zx sh s 0) λx3=>.cs x3 (λ_=>.ok false) λa=>.ok (!s.toList==(ο #[]).toList)
def pO (s:ByteArray):=sh.s _ (AZ sh s).val
def yr:=bP (dS KK 187 9 (pO sh) (cH KK 4)) (y3 sh)
theorem yt:ak (yr shut) γ:=eo (rs:=[4]) y4 Rv rfl rfl λs k=>by kernel_rfl
def ux (a:List ByteArray) (b:Int):AS SS:=⟨[(0,(vd 192 a)),(1,(vc 0)),(7,(vl a)),(8,(vi b))],[(some (.aD 288 [] [(.one (.an 1 0))])),(bX 244 [(.v (.func (.func 187) (.mk []) (.mk [])))])],2,none,false,[],[]⟩
def O7 (a:List ByteArray):AS SS:=ux a 0
def Xt (a:List ByteArray) (a0:Int):AS SS:= {ux a a0 with env:=[(4,(vi a0))]}
def Xu (b:List ByteArray) (a0:Bool) (a:Int):AS SS:=xe [(9,(vb a0))] (ux b a)
def sH (d:List ByteArray) (b:Int) (z0:ByteArray) (a:Unit):T (Unit⊕Int⊕(Bool×Int)):=.bd (pO sh z0) λc=>.bf (!c) (.ok (.inr (.inl b)))<|.ok (.inl ())
def rA (sh:Sh) (c:List ByteArray) (b:Int) (a:Unit):T (Int⊕(Bool×Int)):=.ok (.inr ((decide (b<(↑c.length:Int))),b))
def zU (a:List ByteArray):=b4 sh (sH sh a) (rA sh a) a ()
def Ug {R} (k:KX SS R) (a:List ByteArray) (x:Int⊕(Bool×Int)):Option R:=(λx=>θ (λv=>k .ret (Xt a v)) (λv=>k (.exit 0) (Xu a v.1 v.2)) x) x
def LK:bh SS:=bt 3 (λst=>(b9 st 0 288).bind λ_=>(ba 192 (aK st 0 0)).bind λa=>some a) (λp=>O7 p) (λp=>zU shut p) (λk p=>Ug k p)
theorem acC:LS KK γ ar Tryz.f305 305 3 LK:=
 aX.b_ (π:=List ByteArray) (ak.all yt rfl) (aJ.nil) rfl 60 (λp i a=>ux p i) (λp=>p) (λp=>()) (St:=λp=>sH shut p) (F:=λp=>rA shut p) (λp=>rfl)
  (λm p i a k=>by kernel_rfl) (by rintro p (x|x)<;>exact⟨_,_,λ_=>rfl⟩) (λp N C A O w a b=>cE b (t:=192) (sl:=0) rfl λv h=>h)
def Rw:=bO (yr shut) ar Tryz.f305 305 [LK]
theorem Rx:a_ Rw γ:=bQ (ak.all yt rfl) Tryz.func305 rfl a8 (by kernel_rfl) acC
def A3 (p:List ByteArray):T (Int×Bool):=.bf (decide (p.length<=140737488355328)&&decide ((g' p (ο #[47])).size<=140737488355328)) (.bd (ma (ο #[47]) (g' p (ο #[47]))) λz0=>.bd (tL sh z0) λa=>.bf (a.2==0) (.bf (decide ((↑p.length:Int)<=4)) (.gd (O7 p)<|.bd (zU sh p) λc=>.cs c (λb=>.ok (a.1,(!decide (b>=0)))) λb=>.ok (a.1,true))<|.ok (a.1,false))<|.ok (a.1,false))<|.no
def jy (p:List ByteArray):=sh.s _ (A3 sh p).val
def yu:=bP (dS KK 188 193 (jy sh) (eP KK 35 4)) (yr sh)
theorem yv:ak (yu shut) γ:=eo (rs:=[35,4]) yt Rx rfl rfl λp k=>by kernel_rfl
def um (b:ByteArray) (a:Int) (c:Bool) (d:ByteArray) (e:List ByteArray):AS SS:=⟨[(0,(vs .cT)),(1,(va 5 0))],[(bX 195 [(.v (.slice none 0 0)),(lu 0)]),(bX 9 [(.v (.string b))]),(bX 195 [(.own 6),(lu a)]),(bX 4 [(.v (.bool c))]),(some (.aD 248 [] [(.one (.an 5 0))])),(bX 9 [(.v (.string d))]),(rX 9 e)],6,(some ⟨⟨ξr,ar 145⟩,[27],(dT (bY ξr) 9),(dU (bY ξr) 9),[(0,(vu a)),(2,(va 0 0)),(4,(va 1 0)),(6,(va 2 0)),(7,(va 3 0)),(26,(vc 4))],none⟩),false,[],[3,2,5]⟩
def Xc (c:ByteArray) (a:Int) (a0:Bool) (b:ByteArray) (a2:List ByteArray):AS SS:=⟨[],[(bX 195 [(.v (.slice none 0 0)),(lu 0)]),(bX 9 [(.v (.string c))]),(bX 195 [(.own 6),(lu a)]),(bX 4 [(.v (.bool a0))]),(some (.aD 248 [] [(.one (.an 5 0))])),(bX 9 [(.v (.string b))]),(rX 9 a2)],6,(some ⟨⟨ξr,ar 145⟩,[27],(dT (bY ξr) 9),(dU (bY ξr) 9),[(0,(vu a)),(2,(va 0 0)),(4,(va 1 0)),(6,(va 2 0)),(7,(va 3 0)),(26,(vc 4))],(some (.exit 0))⟩),false,[],[3,2,5]⟩
def Xd (b:ByteArray) (c:Int) (a0:Bool) (a:ByteArray) (a2:Bool) (a3:List ByteArray):AS SS:=xe [(5,(vb a0)),(4,(vs (.v (.string a))))] (um b c a2 a a3)
def gy (d:ByteArray) (e:Int) (a:Bool×ByteArray×List ByteArray):T ((Bool×ByteArray×List ByteArray)⊕(Bool×ByteArray×List ByteArray)⊕(Bool×ByteArray×Bool×List ByteArray)):=.bf (decide ((↑a.2.1.size:Int)>=1)) (.bd (eZ a.2.1 none (some 1)) λz0=>.bf (z0.toList==(ο #[47]).toList) (.bd (eZ a.2.1 (some 1) none) λc=>.bf (δ.wrap (ξ2 c.data.toList (ξR 47)+1)==0) (.bd (eZ a.2.1 (some 1) (some (↑a.2.1.size:Int))) λz2=>.bf (d.toList==(ο #[47]).toList) (.ok (.inr (.inl (a.1,a.2.1,a.2.2))))<|.bd (pO sh z2) λb=>.bf (!b) (.ok (.inr (.inl (b,a.2.1,a.2.2))))<|.bd (app 16 a.2.2 [z2]) λz4=>.bd (eZ a.2.1 (some (↑a.2.1.size:Int)) none) λz5=>.ok (.inl (b,z5,z4)))<|.bd (eZ a.2.1 (some 1) (some (δ.wrap (ξ2 c.data.toList (ξR 47)+1)))) λz2=>.bf (d.toList==(ο #[47]).toList) (.ok (.inr (.inl (a.1,a.2.1,a.2.2))))<|.bd (pO sh z2) λb=>.bf (!b) (.ok (.inr (.inl (b,a.2.1,a.2.2))))<|.bd (app 16 a.2.2 [z2]) λz4=>.bd (eZ a.2.1 (some (δ.wrap (ξ2 c.data.toList (ξR 47)+1))) none) λz5=>.ok (.inl (b,z5,z4)))<|.ok (.inr (.inr ((z0.toList==(ο #[47]).toList),a.2.1,a.1,a.2.2))))<|.ok (.inr (.inr (false,a.2.1,a.1,a.2.2)))
def mz (a:ByteArray) (b:Int) (c:Bool) (d:ByteArray) (e:List ByteArray):=bM sh (gy sh a b) 1000000 (c,d,e)
def T7 {R} (k:KX SS R) (a:ByteArray) (b:Int) (x:(Bool×ByteArray×List ByteArray)⊕(Bool×ByteArray×Bool×List ByteArray)):Option R:=(λx=>θ (λv=>k .ret (Xc a b v.1 v.2.1 v.2.2)) (λv=>k (.exit 0) (Xd a b v.1 v.2.1 v.2.2.1 v.2.2.2)) x) x
def LA:bh SS:=gm (λst=>gc (ar 248 1) (d' [3,2,5] (fR 2 0 9 (st))))<|bt 1 (λst=>((b9 st 4 248).bind λ_=>fQ st 59 9).bind λ_=>(tn (aN st 1 0)).bind λa=>(aU (aN st 2 1)).bind λb=>(iz (aN st 3 0)).bind λc=>(tn (aN st 5 0)).bind λd=>(cd st 6 9).bind λe=>some (a,b,c,d,e)) (u5 um) (u5 (mz shut)) (λk p=>T7 k p.1 p.2.1)
theorem acs:LS KK γ ar Tryz.f248 248 1 LA:=aX.pre (bT.comp (bT.gc (ar 248 1)) (bT.comp (bT.d' [3,2,5]) (bT.fR 2 0 9)))<|
 aX.bM (π:=ByteArray×Int×Bool×ByteArray×List ByteArray) (σ:=Bool×ByteArray×List ByteArray) (ak.all yv rfl) (aJ.nil) rfl 60 (λp a=>um p.1 p.2.1 a.1 a.2.1 a.2.2) (λp=>(p.2.2.1,p.2.2.2.1,p.2.2.2.2)) (St:=λp=>gy shut p.1 p.2.1) (λp=>1000000) (λp=>rfl)
  (λm p a k=>by kernel_rfl)
def QN:=bO (yu shut) ar Tryz.f248 248 [LA]
theorem QO:a_ QN γ:=bQ (ak.all yv rfl) Tryz.func248 rfl a8 (by kernel_rfl) acs
def AD (w:Int):T (ja×Bool):=.bd (ts sh w) λb=>.bf (b.2 !=0) (.ok (⟨[],0⟩,false))<|.bf (b.1.toList==(ο #[]).toList) (.ok (⟨[],0⟩,false))<|.gd (um b.1 w true b.1 [])<|.bd (mz sh b.1 w true b.1 []) λx4=>.cs x4 (λa=>.bd (jy sh a.2.2) λc=>.bf (!a.1) (.ok (⟨[],0⟩,false))<|.bf (!c.2) (.ok (⟨[],0⟩,false))<|.bf (c.1 !=w) (.ok (⟨[],0⟩,false))<|.ok (⟨a.2.2,w⟩,true)) λa=>.bd (jy sh a.2.2.2) λc=>.bf (!a.2.2.1) (.ok (⟨[],0⟩,false))<|.bf (!c.2) (.ok (⟨[],0⟩,false))<|.bf (c.1 !=w) (.ok (⟨[],0⟩,false))<|.ok (⟨a.2.2.2,w⟩,true)
def lF (w:Int):=sh.s _ (AD sh w).val
def Ht:=bP (dS KK 145 35 (lF sh) (eP KK 195 4)) (yu sh)
theorem Hu:ak (Ht shut) γ:=eo (rs:=[195,4]) yv QO rfl rfl λw k=>by kernel_rfl
def Ay (w:Int):T Int:=.bd (lF sh w) λa=>.bf (!a.2) (.ok 310)<|.ok 0
def pL (w:Int):=sh.s _ (Ay sh w).val
def xO:=bP (dS KK 104 35 (pL sh) (cH KK 27)) (Ht sh)
theorem xP:ak (xO shut) γ:=eo (rs:=[27]) Hu (ak.all Hu rfl) rfl rfl λw k=>by kernel_rfl
def Dn (a:List av) (b c d:Int):AS SS:=⟨[(1,(va 0 0)),(3,(vu c)),(7,(vd 52 a)),(8,(vl a)),(9,(vi d))],[(bX 54 [(.ao 52 a),(lu b)])],0,none,false,[],[]⟩
def Pg (a:List av) (b c:Int):AS SS:=Dn a b c 0
def XQ (a:List av) (b:Int):AS SS:=⟨[(2,(vi 340))],[],0,none,false,[],[]⟩
def XR (a:List av) (b:Int) (a0:Bool) (c a2:Int):AS SS:= {Dn a b b b with env:=[(10,(vb a0)),(1,(va 0 0)),(3,(vu c)),(7,(vd 52 a)),(8,(vl a)),(9,(vi a2))]}
def j_ (d:List av) (b e:Int) (z0:av) (a:Int):T (Int⊕Unit⊕(Bool×Int×Int)):=.bd (pL sh z0.bl) λc=>.bf (c !=0) (.ok (.inr (.inl ())))<|.bf (decide (z0.a6<=a)) (.ok (.inr (.inl ())))<|.bf (decide (z0.a6>=b)) (.ok (.inr (.inl ())))<|.ok (.inl z0.a6)
def rI (sh:Sh) (c:List av) (d b a:Int):T (Unit⊕(Bool×Int×Int)):=.ok (.inr ((decide (b<(↑c.length:Int))),a,b))
def sb (a:List av) (b c:Int):=b4 sh (j_ sh a b) (rI sh a b) a c
def Ux {R} (k:KX SS R) (a:List av) (b:Int) (x:Unit⊕(Bool×Int×Int)):Option R:=(λx=>θ (λv=>k .ret (XQ a b)) (λv=>k (.exit 0) (XR a b v.1 v.2.1 v.2.2)) x) x
def L0:bh SS:=bt 4 (λst=>(ba 52 (aK st 7 0)).bind λa=>(aU (aN st 0 1)).bind λb=>(aU (aK st 3 0)).bind λc=>some (a,b,c)) (u3 Pg) (u3 (sb shut)) (λk p=>Ux k p.1 p.2.1)
theorem acQ:LS KK γ ar Tryz.f62 62 4 L0:=
 aX.b_ (π:=List av×Int×Int) (σ:=Int) (ak.all xP rfl) (aJ.nil) rfl 60 (λp i a=>Dn p.1 p.2.1 a i) (λp=>p.1) (λp=>p.2.2) (St:=λp=>j_ shut p.1 p.2.1) (F:=λp=>rI shut p.1 p.2.1) (λp=>rfl)
  (λm p i a k=>by kernel_rfl) (by rintro p (x|x)<;>exact⟨_,_,λ_=>rfl⟩) (λp N C A O w a b=>cE b (t:=52) (sl:=7) rfl λv h=>h)
def C2 (a:List av) (b:Int) (c:Γc):AS SS:=⟨[(3,(vs (.mp 0))),(8,(vd 52 a)),(9,(vl a)),(10,(vi b))],[(some (.map .u64 .u64 c))],0,none,false,[],[]⟩
def OI (a:List av) (b:Γc):AS SS:=C2 a 0 b
def V9 (b:List av) (a0:Bool) (a:Int) (a2:Γc):AS SS:=xe [(11,(vb a0))] (C2 b a a2)
def An (sh:Sh) (b:List av) (c:Int) (z0:av) (a:(Γc)):T (((Γc))⊕(Bool×Int×(Γc))):=.ok (.inl (ck a z0.bl z0.a6))
def q6 (sh:Sh) (c:List av) (b:Int) (a:(Γc)):T ((Bool×Int×(Γc))):=.ok ((decide (b<(↑c.length:Int))),b,a)
def r4 (a:List av) (b:Γc):Option ((Bool×Int×(Γc))):=b4 sh (An sh a) (q6 sh a) a b
def Tq {R} (k:KX SS R) (a:List av) (x:(Bool×Int×(Γc))):Option R:=(λv=>k (.exit 0) (V9 a v.1 v.2.1 v.2.2)) x
def K8:bh SS:=bt 4 (λst=>(ba 52 (aK st 8 0)).bind λa=>(gE st 0).bind λb=>some (a,b)) (u2 OI) (u2 (r4 shut)) (λk p=>Tq k p.1)
def Hc:=bO (xO shut) ar Tryz.f62 62 [L0]
theorem Hd:a_ Hc γ:=bQ (ak.all xP rfl) Tryz.func62 rfl a8 (by kernel_rfl) acQ
theorem abY:LS KK γ ar ξc 105 4 K8:=
 aX.b_ (π:=List av×(Γc)) (σ:=(Γc)) Hd (aJ.nil) rfl 60 (λp i a=>C2 p.1 i a) (λp=>p.1) (λp=>p.2) (St:=λp=>An shut p.1) (F:=λp=>q6 shut p.1) (λp=>rfl)
  (λm p i a k=>by kernel_rfl) (λp x=>⟨_,_,λ_=>rfl⟩) (λp N C A O w a b=>cE b (t:=52) (sl:=8) rfl λv h=>h)
def Sb:=bO Hc ar ξc 105 [K8]
theorem Sc:a_ Sb γ:=bQ Hd ξl rfl a8 (by kernel_rfl) abY
def Br (m:bR):T Int:=.gd (Pg m.ag m.bm 0)<|.bd (sb sh m.ag m.bm 0) λx3=>.cs x3 (λ_=>.ok 340) λb=>.bf (decide ((↑m.ag.length:Int)>16)) (.ok 340)<|.gd (OI m.ag [])<|.bd (r4 sh m.ag []) λa=>.bf (decide ((↑a.2.2.length:Int)<(↑m.ag.length:Int))) (.ok 340)<|.bf (decide (m.bm<1)) (.ok 340)<|.bf (decide (m.bm>1073741825)) (.ok 340)<|.ok 0
def pR (m:bR):=sh.s _ (Br sh m).val
def y1:=bP (dS KK 62 54 (pR sh) (cH KK 27)) (xO sh)
theorem y2:ak (y1 shut) γ:=eo (rs:=[27]) xP Sc rfl rfl λm k=>by kernel_rfl
def uC (a b:List aj) (c:Int):AS SS:=⟨[(0,(vd 51 a)),(1,(vd 51 b)),(12,(vl a)),(13,(vi c))],[],0,none,false,[],[]⟩
def Pc (a b:List aj):AS SS:=uC a b 0
def XG (a b:List aj):AS SS:= {uC a b 0 with env:=[(4,(vb false))]}
def XH (b c:List aj) (a0:Bool) (a:Int):AS SS:=xe [(14,(vb a0))] (uC b c a)
def Aq (sh:Sh) (e b:List aj) (c:Int) (z0:aj) (a:Unit):T (Unit⊕Unit⊕(Bool×Int)):=.bd (idx b c) λd=>.bf (!hB z0 d) (.ok (.inr (.inl ())))<|.ok (.inl ())
def rF (sh:Sh) (c d:List aj) (b:Int) (a:Unit):T (Unit⊕(Bool×Int)):=.ok (.inr ((decide (b<(↑c.length:Int))),b))
def H' (a b:List aj):=b4 sh (Aq sh a b) (rF sh a b) a ()
def Uq {R} (k:KX SS R) (a b:List aj) (x:Unit⊕(Bool×Int)):Option R:=(λx=>θ (λv=>k .ret (XG a b)) (λv=>k (.exit 0) (XH a b v.1 v.2)) x) x
def LW:bh SS:=bt 5 (λst=>(ba 51 (aK st 0 0)).bind λa=>(ba 51 (aK st 1 0)).bind λb=>some (a,b)) (u2 Pc) (u2 (H' shut)) (λk=>u2 (Uq k))
theorem acL:LS KK γ ar Tryz.f45 45 5 LW:=
 aX.b_ (ak.all y2 rfl) (aJ.nil) rfl 60 (λp i a=>u2 uC p i) (λp=>p.1) (λp=>()) (St:=u2 (Aq shut)) (F:=u2 (rF shut)) (λp=>rfl)
  (λm p i a k=>by kernel_rfl) (by rintro p (x|x)<;>exact⟨_,_,λ_=>rfl⟩) (λp N C A O w a b=>cE b (t:=51) (sl:=0) rfl λv h=>h)
def RX:=bO (y1 shut) ar Tryz.f45 45 [LW]
theorem RY:a_ RX γ:=bQ (ak.all y2 rfl) Tryz.func45 rfl a8 (by kernel_rfl) acL
def Bj (a b:List aj):T Bool:=.bf ((↑a.length:Int) !=(↑b.length:Int)) (.ok false)<|.gd (Pc a b)<|.bd (H' sh a b) λx3=>.cs x3 (λ_=>.ok false) λc=>.ok true
def CB (a b:List aj):=sh.s _ (Bj sh a b).val
def yW:=bP (db KK 45 51 51 (CB sh) (cH KK 4)) (y1 sh)
theorem yX:ak (yW shut) γ:=dp (rs:=[4]) y2 RY rfl rfl λa b k=>by kernel_rfl
def uH (a b:List ah) (c:Int):AS SS:=⟨[(0,(vd 48 a)),(1,(vd 48 b)),(12,(vl a)),(13,(vi c))],[],0,none,false,[],[]⟩
def Pm (a b:List ah):AS SS:=uH a b 0
def X2 (a b:List ah):AS SS:= {uH a b 0 with env:=[(4,(vb false))]}
def X3 (b c:List ah) (a0:Bool) (a:Int):AS SS:=xe [(14,(vb a0))] (uH b c a)
def Ar (sh:Sh) (e b:List ah) (c:Int) (z0:ah) (a:Unit):T (Unit⊕Unit⊕(Bool×Int)):=.bd (idx b c) λd=>.bf (!fP z0 d) (.ok (.inr (.inl ())))<|.ok (.inl ())
def rL (sh:Sh) (c d:List ah) (b:Int) (a:Unit):T (Unit⊕(Bool×Int)):=.ok (.inr ((decide (b<(↑c.length:Int))),b))
def Ia (a b:List ah):=b4 sh (Ar sh a b) (rL sh a b) a ()
def UD {R} (k:KX SS R) (a b:List ah) (x:Unit⊕(Bool×Int)):Option R:=(λx=>θ (λv=>k .ret (X2 a b)) (λv=>k (.exit 0) (X3 a b v.1 v.2)) x) x
def L6:bh SS:=bt 5 (λst=>(ba 48 (aK st 0 0)).bind λa=>(ba 48 (aK st 1 0)).bind λb=>some (a,b)) (u2 Pm) (u2 (Ia shut)) (λk=>u2 (UD k))
theorem acW:LS KK γ ar Tryz.f81 81 5 L6:=
 aX.b_ (ak.all yX rfl) (aJ.nil) rfl 60 (λp i a=>u2 uH p i) (λp=>p.1) (λp=>()) (St:=u2 (Ar shut)) (F:=u2 (rL shut)) (λp=>rfl)
  (λm p i a k=>by kernel_rfl) (by rintro p (x|x)<;>exact⟨_,_,λ_=>rfl⟩) (λp N C A O w a b=>cE b (t:=48) (sl:=0) rfl λv h=>h)
def Sd:=bO (yW shut) ar Tryz.f81 81 [L6]
theorem Se:a_ Sd γ:=bQ (ak.all yX rfl) Tryz.func81 rfl a8 (by kernel_rfl) acW
def Bu (a b:List ah):T Bool:=.bf ((↑a.length:Int) !=(↑b.length:Int)) (.ok false)<|.gd (Pm a b)<|.bd (Ia sh a b) λx3=>.cs x3 (λ_=>.ok false) λc=>.ok true
def CH (a b:List ah):=sh.s _ (Bu sh a b).val
def y8:=bP (db KK 81 48 48 (CH sh) (cH KK 4)) (yW sh)
theorem y9:ak (y8 shut) γ:=dp (rs:=[4]) yX Se rfl rfl λa b k=>by kernel_rfl
def uI (a b:List av) (c:Int):AS SS:=⟨[(0,(vd 52 a)),(1,(vd 52 b)),(12,(vl a)),(13,(vi c))],[],0,none,false,[],[]⟩
def Pn (a b:List av):AS SS:=uI a b 0
def X4 (a b:List av):AS SS:= {uI a b 0 with env:=[(4,(vb false))]}
def X5 (b c:List av) (a0:Bool) (a:Int):AS SS:=xe [(14,(vb a0))] (uI b c a)
def As (sh:Sh) (e b:List av) (c:Int) (z0:av) (a:Unit):T (Unit⊕Unit⊕(Bool×Int)):=.bd (idx b c) λd=>.bf (!ju z0 d) (.ok (.inr (.inl ())))<|.ok (.inl ())
def rM (sh:Sh) (c d:List av) (b:Int) (a:Unit):T (Unit⊕(Bool×Int)):=.ok (.inr ((decide (b<(↑c.length:Int))),b))
def Ib (a b:List av):=b4 sh (As sh a b) (rM sh a b) a ()
def UE {R} (k:KX SS R) (a b:List av) (x:Unit⊕(Bool×Int)):Option R:=(λx=>θ (λv=>k .ret (X4 a b)) (λv=>k (.exit 0) (X5 a b v.1 v.2)) x) x
def L7:bh SS:=bt 5 (λst=>(ba 52 (aK st 0 0)).bind λa=>(ba 52 (aK st 1 0)).bind λb=>some (a,b)) (u2 Pn) (u2 (Ib shut)) (λk=>u2 (UE k))
theorem acX:LS KK γ ar Tryz.f82 82 5 L7:=
 aX.b_ (ak.all y9 rfl) (aJ.nil) rfl 60 (λp i a=>u2 uI p i) (λp=>p.1) (λp=>()) (St:=u2 (As shut)) (F:=u2 (rM shut)) (λp=>rfl)
  (λm p i a k=>by kernel_rfl) (by rintro p (x|x)<;>exact⟨_,_,λ_=>rfl⟩) (λp N C A O w a b=>cE b (t:=52) (sl:=0) rfl λv h=>h)
def Sf:=bO (y8 shut) ar Tryz.f82 82 [L7]
theorem Sg:a_ Sf γ:=bQ (ak.all y9 rfl) Tryz.func82 rfl a8 (by kernel_rfl) acX
def Bv (a b:List av):T Bool:=.bf ((↑a.length:Int) !=(↑b.length:Int)) (.ok false)<|.gd (Pn a b)<|.bd (Ib sh a b) λx3=>.cs x3 (λ_=>.ok false) λc=>.ok true
def CI (a b:List av):=sh.s _ (Bv sh a b).val
def y_:=bP (db KK 82 52 52 (CI sh) (cH KK 4)) (y8 sh)
theorem y':ak (y_ shut) γ:=dp (rs:=[4]) y9 Sg rfl rfl λa b k=>by kernel_rfl
def uJ (a b:List aw) (c:Int):AS SS:=⟨[(0,(vd 55 a)),(1,(vd 55 b)),(12,(vl a)),(13,(vi c))],[],0,none,false,[],[]⟩
def Po (a b:List aw):AS SS:=uJ a b 0
def X6 (a b:List aw):AS SS:= {uJ a b 0 with env:=[(4,(vb false))]}
def X7 (b c:List aw) (a0:Bool) (a:Int):AS SS:=xe [(14,(vb a0))] (uJ b c a)
def Au (sh:Sh) (e b:List aw) (c:Int) (z0:aw) (a:Unit):T (Unit⊕Unit⊕(Bool×Int)):=.bd (idx b c) λd=>.bf (!jv z0 d) (.ok (.inr (.inl ())))<|.ok (.inl ())
def rN (sh:Sh) (c d:List aw) (b:Int) (a:Unit):T (Unit⊕(Bool×Int)):=.ok (.inr ((decide (b<(↑c.length:Int))),b))
def Ic (a b:List aw):=b4 sh (Au sh a b) (rN sh a b) a ()
def UF {R} (k:KX SS R) (a b:List aw) (x:Unit⊕(Bool×Int)):Option R:=(λx=>θ (λv=>k .ret (X6 a b)) (λv=>k (.exit 0) (X7 a b v.1 v.2)) x) x
def L8:bh SS:=bt 5 (λst=>(ba 55 (aK st 0 0)).bind λa=>(ba 55 (aK st 1 0)).bind λb=>some (a,b)) (u2 Po) (u2 (Ic shut)) (λk=>u2 (UF k))
theorem acY:LS KK γ ar Tryz.f83 83 5 L8:=
 aX.b_ (ak.all y' rfl) (aJ.nil) rfl 60 (λp i a=>u2 uJ p i) (λp=>p.1) (λp=>()) (St:=u2 (Au shut)) (F:=u2 (rN shut)) (λp=>rfl)
  (λm p i a k=>by kernel_rfl) (by rintro p (x|x)<;>exact⟨_,_,λ_=>rfl⟩) (λp N C A O w a b=>cE b (t:=55) (sl:=0) rfl λv h=>h)
def Si:=bO (y_ shut) ar Tryz.f83 83 [L8]
theorem Sj:a_ Si γ:=bQ (ak.all y' rfl) Tryz.func83 rfl a8 (by kernel_rfl) acY
def Bw (a b:List aw):T Bool:=.bf ((↑a.length:Int) !=(↑b.length:Int)) (.ok false)<|.gd (Po a b)<|.bd (Ic sh a b) λx3=>.cs x3 (λ_=>.ok false) λc=>.ok true
def CJ (a b:List aw):=sh.s _ (Bw sh a b).val
def za:=bP (db KK 83 55 55 (CJ sh) (cH KK 4)) (y_ sh)
theorem zb:ak (za shut) γ:=dp (rs:=[4]) y' Sj rfl rfl λa b k=>by kernel_rfl
def uL (a b:Γa) (c:Int):AS SS:=⟨[(0,(vd 130 a)),(1,(vd 130 b)),(12,(vl a)),(13,(vi c))],[],0,none,false,[],[]⟩
def Pq (a b:Γa):AS SS:=uL a b 0
def X_ (a b:Γa):AS SS:= {uL a b 0 with env:=[(4,(vb false))]}
def X' (b c:Γa) (a0:Bool) (a:Int):AS SS:=xe [(14,(vb a0))] (uL b c a)
def Av (sh:Sh) (e b:Γa) (c z0:Int) (a:Unit):T (Unit⊕Unit⊕(Bool×Int)):=.bd (idx b c) λd=>.bf (z0 !=d) (.ok (.inr (.inl ())))<|.ok (.inl ())
def rP (sh:Sh) (c d:Γa) (b:Int) (a:Unit):T (Unit⊕(Bool×Int)):=.ok (.inr ((decide (b<(↑c.length:Int))),b))
def Ie (a b:Γa):=b4 sh (Av sh a b) (rP sh a b) a ()
def UH {R} (k:KX SS R) (a b:Γa) (x:Unit⊕(Bool×Int)):Option R:=(λx=>θ (λv=>k .ret (X_ a b)) (λv=>k (.exit 0) (X' a b v.1 v.2)) x) x
def L_:bh SS:=bt 5 (λst=>(ba 130 (aK st 0 0)).bind λa=>(ba 130 (aK st 1 0)).bind λb=>some (a,b)) (u2 Pq) (u2 (Ie shut)) (λk=>u2 (UH k))
theorem ac0:LS KK γ ar Tryz.f86 86 5 L_:=
 aX.b_ (ak.all zb rfl) (aJ.nil) rfl 60 (λp i a=>u2 uL p i) (λp=>p.1) (λp=>()) (St:=u2 (Av shut)) (F:=u2 (rP shut)) (λp=>rfl)
  (λm p i a k=>by kernel_rfl) (by rintro p (x|x)<;>exact⟨_,_,λ_=>rfl⟩) (λp N C A O w a b=>cE b (t:=130) (sl:=0) rfl λv h=>h)
def Sk:=bO (za shut) ar Tryz.f86 86 [L_]
theorem Sl:a_ Sk γ:=bQ (ak.all zb rfl) Tryz.func86 rfl a8 (by kernel_rfl) ac0
def Bx (a b:Γa):T Bool:=.bf ((↑a.length:Int) !=(↑b.length:Int)) (.ok false)<|.gd (Pq a b)<|.bd (Ie sh a b) λx3=>.cs x3 (λ_=>.ok false) λc=>.ok true
def CK (a b:Γa):=sh.s _ (Bx sh a b).val
def H3:=bP (db KK 86 130 130 (CK sh) (cH KK 4)) (za sh)
theorem H4:ak (H3 shut) γ:=dp (rs:=[4]) zb Sl rfl rfl λa b k=>by kernel_rfl
def Bi (a b:bI):T Bool:=.bf (a.aM==b.aM) (.bd (CH sh a.ag b.ag) λc=>.ok c)<|.ok false
def CA (a b:bI):=sh.s _ (Bi sh a b).val
def HS:=bP (db KK 44 50 50 (CA sh) (cH KK 4)) (H3 sh)
theorem HT:ak (HS shut) γ:=dp (rs:=[4]) H4 (ak.all H4 rfl) rfl rfl λa b k=>by kernel_rfl
def Bm (a b:bR):T Bool:=.bf (a.bm==b.bm) (.bd (CI sh a.ag b.ag) λc=>.ok c)<|.ok false
def CC (a b:bR):=sh.s _ (Bm sh a b).val
def yY:=bP (db KK 46 54 54 (CC sh) (cH KK 4)) (HS sh)
theorem yZ:ak (yY shut) γ:=dp (rs:=[4]) HT (ak.all HT rfl) rfl rfl λa b k=>by kernel_rfl
def uK (b a:List aq) (c:Int):AS SS:=⟨[(1,(vd 56 b)),(2,(vs (.v (.func (.func 85) (.mk []) (.mk []))))),(15,(vd 56 a)),(16,(vl a)),(17,(vi c))],[],0,none,false,[],[]⟩
def Pp (a b:List aq):AS SS:=uK a b 0
def X8 (a b:List aq):AS SS:= {uK a b 0 with env:=[(6,(vb false))]}
def X9 (b c:List aq) (a0:Bool) (a:Int):AS SS:=xe [(18,(vb a0))] (uK b c a)
def sP (c f:List aq) (d:Int) (z0:aq) (a:Unit):T (Unit⊕Unit⊕(Bool×Int)):=.bd (idx c d) λb=>.bf (z0.aa==b.aa) (.bd (CK sh z0.bc b.bc) λe=>.bf (!e) (.ok (.inr (.inl ())))<|.ok (.inl ()))<|.ok (.inr (.inl ()))
def rO (sh:Sh) (d c:List aq) (b:Int) (a:Unit):T (Unit⊕(Bool×Int)):=.ok (.inr ((decide (b<(↑c.length:Int))),b))
def Ae (b a:List aq):=b4 sh (sP sh b a) (rO sh b a) a ()
def UG {R} (k:KX SS R) (a b:List aq) (x:Unit⊕(Bool×Int)):Option R:=(λx=>θ (λv=>k .ret (X8 a b)) (λv=>k (.exit 0) (X9 a b v.1 v.2)) x) x
def L9:bh SS:=bt 5 (λst=>(ba 56 (aK st 1 0)).bind λa=>(ba 56 (aK st 15 0)).bind λb=>some (a,b)) (u2 Pp) (u2 (Ae shut)) (λk=>u2 (UG k))
theorem acZ:LS KK γ ar Tryz.f84 84 5 L9:=
 aX.b_ (ak.all yZ rfl) (aJ.nil) rfl 60 (λp i a=>u2 uK p i) (λp=>p.2) (λp=>()) (St:=u2 (sP shut)) (F:=u2 (rO shut)) (λp=>rfl)
  (λm p i a k=>by kernel_rfl) (by rintro p (x|x)<;>exact⟨_,_,λ_=>rfl⟩) (λp N C A O w a b=>cE b (t:=56) (sl:=15) rfl λv h=>h)
def RZ:=bO (yY shut) ar Tryz.f84 84 [L9]
theorem R6:a_ RZ γ:=bQ (ak.all yZ rfl) Tryz.func84 rfl a8 (by kernel_rfl) acZ
def Bn (a b:aO):T Bool:=.bd (CJ sh a.ax b.ax) λc=>.bf (c) (.bf ((↑a.au.length:Int) !=(↑b.au.length:Int)) (.ok false)<|.gd (Pp b.au a.au)<|.bd (Ae sh b.au a.au) λx5=>.cs x5 (λ_=>.ok false) λd=>.ok true)<|.ok false
def CD (a b:aO):=sh.s _ (Bn sh a b).val
def HU:=bP (db KK 47 58 58 (CD sh) (cH KK 4)) (yY sh)
theorem HV:ak (HU shut) γ:=dp (rs:=[4]) yZ R6 rfl rfl λa b k=>by kernel_rfl
def A6 (a b:aZ):T Bool:=.bd (CA sh a.az b.az) λc=>.bf (c) (.bd (CB sh a.aQ b.aQ) λd=>.bf (d) (.bd (CC sh a.aF b.aF) λe=>.bf (e) (.bd (CD sh a.aA b.aA) λf=>.ok f)<|.ok false)<|.ok false)<|.ok false
def kk (a b:aZ):=sh.s _ (A6 sh a b).val
def HH:=bP (db KK 20 60 60 (kk sh) (cH KK 4)) (HU sh)
theorem HI:ak (HH shut) γ:=dp (rs:=[4]) HV (ak.all HV rfl) rfl rfl λa b k=>by kernel_rfl
def Tj (sh:Sh):T bI:=.ok (⟨[1,0,0,0,0,0,0,0,0,0,0,0,0,0,0,0],[ah.mk 1 0 false 0]⟩)
def JF:=sh.s _ (Tj sh).val
def HM:=bP (pD KK 39 (JF sh) (cH KK 50)) (HH sh)
theorem HN:ak (HM shut) γ:=B4 (rs:=[50]) HI (ak.all HI rfl) rfl rfl λk=>by kernel_rfl
def Tk (sh:Sh):T bR:=.ok (⟨[],1⟩)
def JG:=sh.s _ (Tk sh).val
def HO:=bP (pD KK 40 (JG sh) (cH KK 54)) (HM sh)
theorem HP:ak (HO shut) γ:=B4 (rs:=[54]) HN (ak.all HN rfl) rfl rfl λk=>by kernel_rfl
def Tg:T aZ:=.bd (JF sh) λa=>.bd (JG sh) λb=>.ok (⟨a,[],b,⟨[],[]⟩⟩)
def pN:=sh.s _ (Tg sh).val
def HD:=bP (pD KK 18 (pN sh) (cH KK 60)) (HO sh)
theorem HE:ak (HD shut) γ:=B4 (rs:=[60]) HP (ak.all HP rfl) rfl rfl λk=>by kernel_rfl
def Bt (sh:Sh) (c:cJ):T Bool:=.bf (c.bq==9) (.ok true)<|.ok (c.bq==12)
def CG (c:cJ):=sh.s _ (Bt sh c).val
def y6:=bP (dS KK 74 38 (CG sh) (cH KK 4)) (HD sh)
theorem y7:ak (y6 shut) γ:=eo (rs:=[4]) HE (ak.all HE rfl) rfl rfl λc k=>by kernel_rfl
def uB (a:List aq) (b:Γa) (c:Int) (d:List ah) (e:List aj) (f:List av) (g:List aw) (h i:Int) (j:List aq):AS SS:=⟨[(1,(va 0 0)),(2,(va 6 0)),(31,(vd 56 a)),(32,(vi h)),(33,(vi i))],[(bX 60 [(.bu .i64 16 b),(.own 1),(.own 2),(.own 3),(lu c),(.own 4),(.own 5)]),(rX 115 d),(rX 105 e),(rX 122 f),(rX 127 g),(rX 132 j),(bX 60 [(li 0),(li 0),(li 0),(li 0),(li 0),(li 0),(li 0),(li 0),(li 0),(li 0),(li 0),(li 0),(li 0),(li 0),(li 0),(li 0),(.v (.slice none 0 0)),(.v (.slice none 0 0)),(.v (.slice none 0 0)),(lu 0),(.v (.slice none 0 0)),(.v (.slice none 0 0))])],0,none,false,[],[]⟩
def XF (a:List aq) (e:Γa) (b:Int) (f:List ah) (g:List aj) (h:List av) (i:List aw) (c:Int) (a0:Bool) (d:Int) (a2:List aq):AS SS:= {uB a e b f g h i c b a2 with env:=[(34,(vb a0)),(1,(va 0 0)),(2,(va 6 0)),(31,(vd 56 a)),(32,(vi c)),(33,(vi d))]}
def Is (sh:Sh) (c:List aq) (e:Γa) (f:Int) (g:List ah) (h:List aj) (i:List av) (j:List aw) (b:Int) (a:Int×List aq):T ((Int×List aq)⊕(Bool×Int×List aq)):=.bf (decide (a.1<b)) (.bd (idx c a.1) λz0=>.bd (app 8 [] z0.bc) λd=>.bd (app 32 a.2 [aq.mk z0.aa d]) λz2=>.ok (.inl ((δ.wrap (a.1+1)),z2)))<|.ok (.inr ((decide (a.1<b)),a.1,a.2))
def z1 (a:List aq) (b:Γa) (c:Int) (d:List ah) (e:List aj) (f:List av) (g:List aw) (h i:Int) (j:List aq):=bM sh (Is sh a b c d e f g h) 1000000 (i,j)
def Uo {R} (k:KX SS R) (a:List aq) (b:Γa) (c:Int) (d:List ah) (e:List aj) (f:List av) (g:List aw) (h:Int) (x:(Bool×Int×List aq)):Option R:=(λv=>k (.exit 0) (XF a b c d e f g h v.1 v.2.1 v.2.2)) x
def LU:bh SS:=gm (λst=>gc (ar 43 6) (fR 0 6 132 (st)))<|bt 6 (λst=>(ba 56 (aK st 31 0)).bind λa=>(e1 (aN st 0 0)).bind λb=>(aU (aN st 0 4)).bind λc=>(cd st 1 115).bind λd=>(cd st 2 105).bind λe=>(cd st 3 122).bind λf=>(cd st 4 127).bind λg=>(aU (aK st 32 0)).bind λh=>(aU (aK st 33 0)).bind λi=>(cd st 5 132).bind λj=>some (a,b,c,d,e,f,g,h,i,j)) (λp=>uB p.1 p.2.1 p.2.2.1 p.2.2.2.1 p.2.2.2.2.1 p.2.2.2.2.2.1 p.2.2.2.2.2.2.1 p.2.2.2.2.2.2.2.1 p.2.2.2.2.2.2.2.2.1 p.2.2.2.2.2.2.2.2.2) (λp=>z1 shut p.1 p.2.1 p.2.2.1 p.2.2.2.1 p.2.2.2.2.1 p.2.2.2.2.2.1 p.2.2.2.2.2.2.1 p.2.2.2.2.2.2.2.1 p.2.2.2.2.2.2.2.2.1 p.2.2.2.2.2.2.2.2.2) (λk p=>Uo k p.1 p.2.1 p.2.2.1 p.2.2.2.1 p.2.2.2.2.1 p.2.2.2.2.2.1 p.2.2.2.2.2.2.1 p.2.2.2.2.2.2.2.1)
theorem acK:LS KK γ ar Tryz.f43 43 6 LU:=aX.pre (bT.comp (bT.gc (ar 43 6)) (bT.fR 0 6 132))<|
 aX.bM (π:=List aq×Γa×Int×List ah×List aj×List av×List aw×Int×Int×List aq) (σ:=Int×List aq) (ak.all y7 rfl) (aJ.nil) rfl 60 (λp a=>uB p.1 p.2.1 p.2.2.1 p.2.2.2.1 p.2.2.2.2.1 p.2.2.2.2.2.1 p.2.2.2.2.2.2.1 p.2.2.2.2.2.2.2.1 a.1 a.2) (λp=>(p.2.2.2.2.2.2.2.2.1,p.2.2.2.2.2.2.2.2.2)) (St:=λp=>Is shut p.1 p.2.1 p.2.2.1 p.2.2.2.1 p.2.2.2.2.1 p.2.2.2.2.2.1 p.2.2.2.2.2.2.1 p.2.2.2.2.2.2.2.1) (λp=>1000000) (λp=>rfl)
  (λm p a k=>by kernel_rfl)
def RV:=bO (y6 shut) ar Tryz.f43 43 [LU]
theorem RW:a_ RV γ:=bQ (ak.all y7 rfl) Tryz.func43 rfl a8 (by kernel_rfl) acK
def Bh (s:aZ):T aZ:=.bd (app 32 [] s.az.ag) λz0=>.bd (app 24 [] s.aQ) λa=>.bd (app 16 [] s.aF.ag) λz2=>.bd (app 16 [] s.aA.ax) λz3=>.gd (uB s.aA.au s.az.aM s.aF.bm z0 a z2 z3 ((↑s.aA.au.length:Int)) 0 [])<|.bd (z1 sh s.aA.au s.az.aM s.aF.bm z0 a z2 z3 ((↑s.aA.au.length:Int)) 0 []) λb=>.ok (⟨⟨s.az.aM,z0⟩,a,⟨z2,s.aF.bm⟩,⟨z3,b.2.2⟩⟩)
def Cz (s:aZ):=sh.s _ (Bh sh s).val
def yV:=bP (dS KK 43 60 (Cz sh) (cH KK 60)) (y6 sh)
theorem rZ:ak (yV shut) γ:=eo (rs:=[60]) y7 RW rfl rfl λs k=>by kernel_rfl
def Dm (a:List ah) (b:Γa) (c:List aj) (d:List av) (e:Int) (f:List aw) (g:List aq) (h:Int) (i:Γc):AS SS:=⟨[(1,(va 0 0)),(3,(va 1 0)),(4,(va 3 0)),(37,(vd 48 a)),(38,(vl a)),(39,(vi h))],[(bX 60 [(.bu .i64 16 b),(.ao 48 a),(.ao 51 c),(.ao 52 d),(lu e),(.ao 55 f),(.ao 56 g)]),(bX 120 [(.mp 2)]),(some (.map .u64 .i64 i)),(bX 120 [(.mp 4)]),(some (.map .u64 .i64 []))],0,none,false,[],[]⟩
def Pb (a:List ah) (b:Γa) (c:List aj) (d:List av) (e:Int) (f:List aw) (g:List aq) (h:Γc):AS SS:=Dm a b c d e f g 0 h
def XE (a:List ah) (d:Γa) (e:List aj) (f:List av) (b:Int) (g:List aw) (h:List aq) (a0:Bool) (c:Int) (a2:Γc):AS SS:= {Dm a d e f b g h b a2 with env:=[(40,(vb a0)),(1,(va 0 0)),(3,(va 1 0)),(4,(va 3 0)),(37,(vd 48 a)),(38,(vl a)),(39,(vi c))]}
def o7 (sh:Sh) (b:List ah) (c:Γa) (d:List aj) (e:List av) (f:Int) (g:List aw) (h:List aq) (i:Int) (z0:ah) (a:(Γc)):T (((Γc))⊕(Bool×Int×(Γc))):=.bf (!z0.bp) (.ok (.inl (ck a z0.aa 1)))<|.ok (.inl a)
def rE (sh:Sh) (c:List ah) (d:Γa) (e:List aj) (f:List av) (g:Int) (h:List aw) (i:List aq) (b:Int) (a:(Γc)):T ((Bool×Int×(Γc))):=.ok ((decide (b<(↑c.length:Int))),b,a)
def sa (a:List ah) (b:Γa) (c:List aj) (d:List av) (e:Int) (f:List aw) (g:List aq) (h:Γc):Option ((Bool×Int×(Γc))):=b4 sh (o7 sh a b c d e f g) (rE sh a b c d e f g) a h
def Un {R} (k:KX SS R) (a:List ah) (b:Γa) (c:List aj) (d:List av) (e:Int) (f:List aw) (g:List aq) (x:(Bool×Int×(Γc))):Option R:=(λv=>k (.exit 0) (XE a b c d e f g v.1 v.2.1 v.2.2)) x
def LR:bh SS:=bt 6 (λst=>(ba 48 (aK st 37 0)).bind λa=>(e1 (aN st 0 0)).bind λb=>(ba 51 (aN st 0 2)).bind λc=>(ba 52 (aN st 0 3)).bind λd=>(aU (aN st 0 4)).bind λe=>(ba 55 (aN st 0 5)).bind λf=>(ba 56 (aN st 0 6)).bind λg=>(gE st 2).bind λh=>some (a,b,c,d,e,f,g,h)) (u8 Pb) (u8 (sa shut)) (λk p=>Un k p.1 p.2.1 p.2.2.1 p.2.2.2.1 p.2.2.2.2.1 p.2.2.2.2.2.1 p.2.2.2.2.2.2.1)
theorem acJ:LS KK γ ar ζo 41 6 LR:=
 aX.b_ (π:=List ah×Γa×List aj×List av×Int×List aw×List aq×(Γc)) (σ:=(Γc)) (ak.all rZ rfl) (aJ.nil) rfl 60 (λp i a=>Dm p.1 p.2.1 p.2.2.1 p.2.2.2.1 p.2.2.2.2.1 p.2.2.2.2.2.1 p.2.2.2.2.2.2.1 i a) (λp=>p.1) (λp=>p.2.2.2.2.2.2.2) (St:=λp=>o7 shut p.1 p.2.1 p.2.2.1 p.2.2.2.1 p.2.2.2.2.1 p.2.2.2.2.2.1 p.2.2.2.2.2.2.1) (F:=λp=>rE shut p.1 p.2.1 p.2.2.1 p.2.2.2.1 p.2.2.2.2.1 p.2.2.2.2.2.1 p.2.2.2.2.2.2.1) (λp=>rfl)
  (λm p i a k=>by kernel_rfl) (λp x=>⟨_,_,λ_=>rfl⟩) (λp N C A O w a b=>cE b (t:=48) (sl:=37) rfl λv h=>h)
def Dl (a:List av) (b:Γa) (c:List ah) (d:List aj) (e:Int) (f:List aw) (g:List aq) (h:Γc) (i:Int) (j:Γc):AS SS:=⟨[(1,(va 0 0)),(3,(va 1 0)),(4,(va 3 0)),(52,(vd 52 a)),(53,(vl a)),(54,(vi i))],[(bX 60 [(.bu .i64 16 b),(.ao 48 c),(.ao 51 d),(.ao 52 a),(lu e),(.ao 55 f),(.ao 56 g)]),(bX 120 [(.mp 2)]),(some (.map .u64 .i64 h)),(bX 120 [(.mp 4)]),(some (.map .u64 .i64 j))],0,none,false,[],[]⟩
def Pa (a:List av) (b:Γa) (c:List ah) (d:List aj) (e:Int) (f:List aw) (g:List aq) (h i:Γc):AS SS:=Dl a b c d e f g h 0 i
def XD (a:List av) (d:Γa) (e:List ah) (f:List aj) (b:Int) (g:List aw) (h:List aq) (i:Γc) (a0:Bool) (c:Int) (a2:Γc):AS SS:= {Dl a d e f b g h i b a2 with env:=[(55,(vb a0)),(1,(va 0 0)),(3,(va 1 0)),(4,(va 3 0)),(52,(vd 52 a)),(53,(vl a)),(54,(vi c))]}
def Ap (sh:Sh) (b:List av) (c:Γa) (d:List ah) (e:List aj) (f:Int) (g:List aw) (h:List aq) (i:Γc) (j:Int) (z0:av) (a:(Γc)):T (((Γc))⊕(Bool×Int×(Γc))):=.ok (.inl (ck a z0.a6 1))
def rD (sh:Sh) (c:List av) (d:Γa) (e:List ah) (f:List aj) (g:Int) (h:List aw) (i:List aq) (j:Γc) (b:Int) (a:(Γc)):T ((Bool×Int×(Γc))):=.ok ((decide (b<(↑c.length:Int))),b,a)
def r' (a:List av) (b:Γa) (c:List ah) (d:List aj) (e:Int) (f:List aw) (g:List aq) (h i:Γc):Option ((Bool×Int×(Γc))):=b4 sh (Ap sh a b c d e f g h) (rD sh a b c d e f g h) a i
def Um {R} (k:KX SS R) (a:List av) (b:Γa) (c:List ah) (d:List aj) (e:Int) (f:List aw) (g:List aq) (h:Γc) (x:(Bool×Int×(Γc))):Option R:=(λv=>k (.exit 2) (XD a b c d e f g h v.1 v.2.1 v.2.2)) x
def LQ:bh SS:=bt 12 (λst=>(ba 52 (aK st 52 0)).bind λa=>(e1 (aN st 0 0)).bind λb=>(ba 48 (aN st 0 1)).bind λc=>(ba 51 (aN st 0 2)).bind λd=>(aU (aN st 0 4)).bind λe=>(ba 55 (aN st 0 5)).bind λf=>(ba 56 (aN st 0 6)).bind λg=>(gE st 2).bind λh=>(gE st 4).bind λi=>some (a,b,c,d,e,f,g,h,i)) (u9 Pa) (u9 (r' shut)) (λk p=>Um k p.1 p.2.1 p.2.2.1 p.2.2.2.1 p.2.2.2.2.1 p.2.2.2.2.2.1 p.2.2.2.2.2.2.1 p.2.2.2.2.2.2.2.1)
theorem acI:LS KK γ ar ζo 41 12 LQ:=
 aX.b_ (π:=List av×Γa×List ah×List aj×Int×List aw×List aq×(Γc)×(Γc)) (σ:=(Γc)) (ak.all rZ rfl) (aJ.nil) rfl 60 (λp i a=>Dl p.1 p.2.1 p.2.2.1 p.2.2.2.1 p.2.2.2.2.1 p.2.2.2.2.2.1 p.2.2.2.2.2.2.1 p.2.2.2.2.2.2.2.1 i a) (λp=>p.1) (λp=>p.2.2.2.2.2.2.2.2) (St:=λp=>Ap shut p.1 p.2.1 p.2.2.1 p.2.2.2.1 p.2.2.2.2.1 p.2.2.2.2.2.1 p.2.2.2.2.2.2.1 p.2.2.2.2.2.2.2.1) (F:=λp=>rD shut p.1 p.2.1 p.2.2.1 p.2.2.2.1 p.2.2.2.2.1 p.2.2.2.2.2.1 p.2.2.2.2.2.2.1 p.2.2.2.2.2.2.2.1) (λp=>rfl)
  (λm p i a k=>by kernel_rfl) (λp x=>⟨_,_,λ_=>rfl⟩) (λp N C A O w a b=>cE b (t:=52) (sl:=52) rfl λv h=>h)
def Dr (a:List aj) (b c:Γc) (d:Bool) (e:Int):AS SS:=⟨[(1,(vc 0)),(5,(vb d)),(8,(vd 51 a)),(9,(vl a)),(10,(vi e))],[(some (.aD 65 [] [(.one (.an 1 0)),(.one (.an 3 0))])),(bX 120 [(.mp 2)]),(some (.map .u64 .i64 b)),(bX 120 [(.mp 4)]),(some (.map .u64 .i64 c))],5,none,false,[],[]⟩
def Pk (a:List aj) (b c:Γc) (d:Bool):AS SS:=Dr a b c d 0
def XW (b:List aj) (f g:Γc) (a0 a:Bool) (a2 a3 a4:Int) (a5:aj) (c d:Bool) (e:Int):AS SS:=⟨[(18,(vb a0)),(17,(vb a)),(5,(vb a)),(16,(vb a)),(15,(.s (.agg [(lu a2),(li a3),(lu a4)]))),(14,(vc 0)),(7,(va 5 0)),(13,(.s (.agg [(lu a2),(li a3),(lu a4)]))),(12,(vs (.ptr 105 a5 0))),(11,(vb c)),(1,(vc 0)),(5,(vb d)),(8,(vd 51 b)),(9,(vl b)),(10,(vi e))],[(some (.aD 65 [] [(.one (.an 1 0)),(.one (.an 3 0))])),(bX 120 [(.mp 2)]),(some (.map .u64 .i64 f)),(bX 120 [(.mp 4)]),(some (.map .u64 .i64 g)),(bX 105 [(lu a2),(li a3),(lu a4)])],5,none,false,[],[]⟩
def XX (a:List aj) (c d:Γc) (a0 b:Bool) (a2:Int):AS SS:= {Dr a c d a0 a2 with env:=[(11,(vb a0)),(1,(vc 0)),(5,(vb b)),(8,(vd 51 a)),(9,(vl a)),(10,(vi a2))]}
def mH (sh:Sh) (d:List aj) (e b:Γc) (c:Int) (z0:aj) (a:Bool):T (Bool⊕(Bool×Bool×Int×Int×Int×aj×Bool×Bool×Int)⊕(Bool×Bool×Int)):=
 .bf ((match bD e z0.aa with
 |some x=>x
 |none=>0)==
 1) (
  .bf (!(match bD b z0.cp with
   |some x=>x
   |none=>0)==
   1) (
   .ok (.inr (.inl ((!(match bD b z0.cp with
   |some x=>x
   |none=>0)==
   1),((match bD b z0.cp with
 |some x=>x
 |none=>0)==
 1),z0.aa,z0.bF,z0.cp,z0,(decide (c<(↑d.length:Int))),a,c))))<|
  .ok (.inl ((match bD b z0.cp with
 |some x=>x
 |none=>0)==
 1)))<|
 .ok (.inr (.inl (true,false,z0.aa,z0.bF,z0.cp,z0,(decide (c<(↑d.length:Int))),a,c)))
def xy (sh:Sh) (c:List aj) (d e:Γc) (b:Int) (a:Bool):T ((Bool×Bool×Int×Int×Int×aj×Bool×Bool×Int)⊕(Bool×Bool×Int)):=.ok (.inr ((decide (b<(↑c.length:Int))),a,b))
def Ad (a:List aj) (b c:Γc) (d:Bool):=b4 sh (mH sh a b c) (xy sh a b c) a d
def UA {R} (k:KX SS R) (a:List aj) (b c:Γc) (x:(Bool×Bool×Int×Int×Int×aj×Bool×Bool×Int)⊕(Bool×Bool×Int)):Option R:=(λx=>θ (λv=>k (.exit 0) (XW a b c v.1 v.2.1 v.2.2.1 v.2.2.2.1 v.2.2.2.2.1 v.2.2.2.2.2.1 v.2.2.2.2.2.2.1 v.2.2.2.2.2.2.2.1 v.2.2.2.2.2.2.2.2)) (λv=>k (.exit 0) (XX a b c v.1 v.2.1 v.2.2)) x) x
def L3:bh SS:=bt 4 (λst=>(b9 st 0 65).bind λ_=>(ba 51 (aK st 8 0)).bind λa=>(gE st 2).bind λb=>(gE st 4).bind λc=>(iz (aK st 5 0)).bind λd=>some (a,b,c,d)) (u4 Pk) (u4 (Ad shut)) (λk p=>UA k p.1 p.2.1 p.2.2.1)
def G7:=bO (yV shut) ar ζo 41 [LR,LQ]
theorem G8:a_ G7 γ:=(a_.fI (ak.all rZ rfl) Tryz.func41 rfl a8 λc a=>by cases a;exact aJ.cons (aJ.cons (aJ.nil) (by kernel_rfl) acI) (by kernel_rfl) acJ)
theorem acT:LS KK γ ar Tryz.f64 64 4 L3:=
 aX.b_ (π:=List aj×(Γc)×(Γc)×Bool) (σ:=Bool) G8 (aJ.nil) rfl 60 (λp i a=>Dr p.1 p.2.1 p.2.2.1 a i) (λp=>p.1) (λp=>p.2.2.2) (St:=λp=>mH shut p.1 p.2.1 p.2.2.1) (F:=λp=>xy shut p.1 p.2.1 p.2.2.1) (λp=>rfl)
  (λm p i a k=>by kernel_rfl) (by rintro p (x|x)<;>exact⟨_,_,λ_=>rfl⟩) (λp N C A O w a b=>cE b (t:=51) (sl:=8) rfl λv h=>h)
def Ds (a:List aw) (b:Γc) (c:Bool) (d:Int):AS SS:=⟨[(1,(vc 0)),(5,(vb c)),(8,(vd 55 a)),(9,(vl a)),(10,(vi d))],[(some (.aD 67 [] [(.one (.an 1 0))])),(bX 120 [(.mp 2)]),(some (.map .u64 .i64 b))],3,none,false,[],[]⟩
def FJ (a:List aw) (b:Γc) (c:Bool):AS SS:=Ds a b c 0
def XY (b:List aw) (e:Γc) (a0 a:Bool) (a2 a3:Int) (a4:aw) (a5 c:Bool) (d:Int):AS SS:=⟨[(18,(vb a0)),(17,(vb a)),(5,(vb a)),(16,(vb a)),(15,(.s (.agg [(lu a2),(lu a3)]))),(14,(vc 0)),(7,(va 3 0)),(13,(.s (.agg [(lu a2),(lu a3)]))),(12,(vs (.ptr 127 a4 0))),(11,(vb a5)),(1,(vc 0)),(5,(vb c)),(8,(vd 55 b)),(9,(vl b)),(10,(vi d))],[(some (.aD 67 [] [(.one (.an 1 0))])),(bX 120 [(.mp 2)]),(some (.map .u64 .i64 e)),(bX 127 [(lu a2),(lu a3)])],3,none,false,[],[]⟩
def XZ (a:List aw) (c:Γc) (a0 b:Bool) (a2:Int):AS SS:= {Ds a c a0 a2 with env:=[(11,(vb a0)),(1,(vc 0)),(5,(vb b)),(8,(vd 55 a)),(9,(vl a)),(10,(vi a2))]}
def mI (sh:Sh) (d:List aw) (b:Γc) (c:Int) (z0:aw) (a:Bool):T (Bool⊕(Bool×Bool×Int×Int×aw×Bool×Bool×Int)⊕(Bool×Bool×Int)):=
 .bf (!(match bD b z0.aa with
   |some x=>x
   |none=>0)==
   1) (
  .ok (.inr (.inl ((!(match bD b z0.aa with
   |some x=>x
   |none=>0)==
   1),((match bD b z0.aa with
 |some x=>x
 |none=>0)==
 1),z0.bb,z0.aa,z0,(decide (c<(↑d.length:Int))),a,c))))<|
 .ok (.inl ((match bD b z0.aa with
 |some x=>x
 |none=>0)==
 1))
def xz (sh:Sh) (c:List aw) (d:Γc) (b:Int) (a:Bool):T ((Bool×Bool×Int×Int×aw×Bool×Bool×Int)⊕(Bool×Bool×Int)):=.ok (.inr ((decide (b<(↑c.length:Int))),a,b))
def sc (a:List aw) (b:Γc) (c:Bool):=b4 sh (mI sh a b) (xz sh a b) a c
def UB {R} (k:KX SS R) (a:List aw) (b:Γc) (x:(Bool×Bool×Int×Int×aw×Bool×Bool×Int)⊕(Bool×Bool×Int)):Option R:=(λx=>θ (λv=>k (.exit 0) (XY a b v.1 v.2.1 v.2.2.1 v.2.2.2.1 v.2.2.2.2.1 v.2.2.2.2.2.1 v.2.2.2.2.2.2.1 v.2.2.2.2.2.2.2)) (λv=>k (.exit 0) (XZ a b v.1 v.2.1 v.2.2)) x) x
def L4:bh SS:=bt 4 (λst=>(b9 st 0 67).bind λ_=>(ba 55 (aK st 8 0)).bind λa=>(gE st 2).bind λb=>(iz (aK st 5 0)).bind λc=>some (a,b,c)) (u3 FJ) (u3 (sc shut)) (λk p=>UB k p.1 p.2.1)
def G9:=bO G7 ar Tryz.f64 64 [L3]
theorem G_:a_ G9 γ:=bQ G8 Tryz.func64 rfl a8 (by kernel_rfl) acT
theorem acU:LS KK γ ar Tryz.f66 66 4 L4:=
 aX.b_ (π:=List aw×(Γc)×Bool) (σ:=Bool) G_ (aJ.nil) rfl 60 (λp i a=>Ds p.1 p.2.1 a i) (λp=>p.1) (λp=>p.2.2) (St:=λp=>mI shut p.1 p.2.1) (F:=λp=>xz shut p.1 p.2.1) (λp=>rfl)
  (λm p i a k=>by kernel_rfl) (by rintro p (x|x)<;>exact⟨_,_,λ_=>rfl⟩) (λp N C A O w a b=>cE b (t:=55) (sl:=8) rfl λv h=>h)
def Dt (a:List aq) (b:Γc) (c:Bool) (d:Int):AS SS:=⟨[(1,(vc 0)),(5,(vb c)),(8,(vd 56 a)),(9,(vl a)),(10,(vi d))],[(some (.aD 69 [] [(.one (.an 1 0))])),(bX 120 [(.mp 2)]),(some (.map .u64 .i64 b))],3,none,false,[],[]⟩
def qQ (a:List aq) (b:Γc) (c:Bool):AS SS:=Dt a b c 0
def X0 (b:List aq) (e:Γc) (a0 a:Bool) (a2:Int) (a3:Γa) (a4:aq) (a5 c:Bool) (d:Int):AS SS:=⟨[(18,(vb a0)),(17,(vb a)),(5,(vb a)),(16,(vb a)),(15,(.s (.agg [(lu a2),(.ao 130 a3)]))),(14,(vc 0)),(7,(va 3 0)),(13,(.s (.agg [(lu a2),(.ao 130 a3)]))),(12,(vs (.ptr 132 a4 0))),(11,(vb a5)),(1,(vc 0)),(5,(vb c)),(8,(vd 56 b)),(9,(vl b)),(10,(vi d))],[(some (.aD 69 [] [(.one (.an 1 0))])),(bX 120 [(.mp 2)]),(some (.map .u64 .i64 e)),(bX 132 [(lu a2),(.ao 130 a3)])],3,none,false,[],[]⟩
def X1 (a:List aq) (c:Γc) (a0 b:Bool) (a2:Int):AS SS:= {Dt a c a0 a2 with env:=[(11,(vb a0)),(1,(vc 0)),(5,(vb b)),(8,(vd 56 a)),(9,(vl a)),(10,(vi a2))]}
def mJ (sh:Sh) (d:List aq) (b:Γc) (c:Int) (z0:aq) (a:Bool):T (Bool⊕(Bool×Bool×Int×Γa×aq×Bool×Bool×Int)⊕(Bool×Bool×Int)):=
 .bf (!(match bD b z0.aa with
   |some x=>x
   |none=>0)==
   1) (
  .ok (.inr (.inl ((!(match bD b z0.aa with
   |some x=>x
   |none=>0)==
   1),((match bD b z0.aa with
 |some x=>x
 |none=>0)==
 1),z0.aa,z0.bc,z0,(decide (c<(↑d.length:Int))),a,c))))<|
 .ok (.inl ((match bD b z0.aa with
 |some x=>x
 |none=>0)==
 1))
def xA (sh:Sh) (c:List aq) (d:Γc) (b:Int) (a:Bool):T ((Bool×Bool×Int×Γa×aq×Bool×Bool×Int)⊕(Bool×Bool×Int)):=.ok (.inr ((decide (b<(↑c.length:Int))),a,b))
def mA (a:List aq) (b:Γc) (c:Bool):=b4 sh (mJ sh a b) (xA sh a b) a c
def UC {R} (k:KX SS R) (a:List aq) (b:Γc) (x:(Bool×Bool×Int×Γa×aq×Bool×Bool×Int)⊕(Bool×Bool×Int)):Option R:=(λx=>θ (λv=>k (.exit 0) (X0 a b v.1 v.2.1 v.2.2.1 v.2.2.2.1 v.2.2.2.2.1 v.2.2.2.2.2.1 v.2.2.2.2.2.2.1 v.2.2.2.2.2.2.2)) (λv=>k (.exit 0) (X1 a b v.1 v.2.1 v.2.2)) x) x
def L5:bh SS:=bt 4 (λst=>(b9 st 0 69).bind λ_=>(ba 56 (aK st 8 0)).bind λa=>(gE st 2).bind λb=>(iz (aK st 5 0)).bind λc=>some (a,b,c)) (u3 qQ) (u3 (mA shut)) (λk p=>UC k p.1 p.2.1)
def G':=bO G9 ar Tryz.f66 66 [L4]
theorem Ha:a_ G' γ:=bQ G_ Tryz.func66 rfl a8 (by kernel_rfl) acU
theorem acV:LS KK γ ar Tryz.f68 68 4 L5:=
 aX.b_ (π:=List aq×(Γc)×Bool) (σ:=Bool) Ha (aJ.nil) rfl 60 (λp i a=>Dt p.1 p.2.1 a i) (λp=>p.1) (λp=>p.2.2) (St:=λp=>mJ shut p.1 p.2.1) (F:=λp=>xA shut p.1 p.2.1) (λp=>rfl)
  (λm p i a k=>by kernel_rfl) (by rintro p (x|x)<;>exact⟨_,_,λ_=>rfl⟩) (λp N C A O w a b=>cE b (t:=56) (sl:=8) rfl λv h=>h)
def RT:=bO G' ar Tryz.f68 68 [L5]
theorem RU:a_ RT γ:=bQ Ha Tryz.func68 rfl a8 (by kernel_rfl) acV
def Bf (s:aZ):T Int:=.bd (kn sh s.az) λi=>.bf (i !=0) (.ok 360)<|.bd (iB sh s.aQ) λj=>.bf (j !=0) (.ok 360)<|.bd (pR sh s.aF) λk=>.bf (k !=0) (.ok 360)<|.bd (jA sh s.aA) λl=>.bf (l !=0) (.ok 360)<|.gd (Pb s.az.ag s.az.aM s.aQ s.aF.ag s.aF.bm s.aA.ax s.aA.au [])<|.bd (sa sh s.az.ag s.az.aM s.aQ s.aF.ag s.aF.bm s.aA.ax s.aA.au []) λa=>.gd (Pa s.aF.ag s.az.aM s.az.ag s.aQ s.aF.bm s.aA.ax s.aA.au a.2.2 [])<|.bd (r' sh s.aF.ag s.az.aM s.az.ag s.aQ s.aF.bm s.aA.ax s.aA.au a.2.2 []) λg=>.gd (Pk s.aQ a.2.2 g.2.2 true)<|.bd (Ad sh s.aQ a.2.2 g.2.2 true) λh=>.cs h (λe=>.gd (FJ s.aA.ax a.2.2 true)<|.bd (sc sh s.aA.ax a.2.2 true) λf=>.cs f (λd=>.bf (!e.2.1) (.ok 360)<|.bf (!d.2.1) (.ok 360)<|.gd (qQ s.aA.au a.2.2 true)<|.bd (mA sh s.aA.au a.2.2 true) λc=>.cs c (λb=>.bf (!b.2.1) (.ok 360)<|.ok 0) λb=>.bf (!b.2.1) (.ok 360)<|.ok 0) λd=>.bf (!e.2.1) (.ok 360)<|.bf (!d.2.1) (.ok 360)<|.gd (qQ s.aA.au a.2.2 true)<|.bd (mA sh s.aA.au a.2.2 true) λc=>.cs c (λb=>.bf (!b.2.1) (.ok 360)<|.ok 0) λb=>.bf (!b.2.1) (.ok 360)<|.ok 0) λe=>.gd (FJ s.aA.ax a.2.2 true)<|.bd (sc sh s.aA.ax a.2.2 true) λf=>.cs f (λd=>.bf (!e.2.1) (.ok 360)<|.bf (!d.2.1) (.ok 360)<|.gd (qQ s.aA.au a.2.2 true)<|.bd (mA sh s.aA.au a.2.2 true) λc=>.cs c (λb=>.bf (!b.2.1) (.ok 360)<|.ok 0) λb=>.bf (!b.2.1) (.ok 360)<|.ok 0) λd=>.bf (!e.2.1) (.ok 360)<|.bf (!d.2.1) (.ok 360)<|.gd (qQ s.aA.au a.2.2 true)<|.bd (mA sh s.aA.au a.2.2 true) λc=>.cs c (λb=>.bf (!b.2.1) (.ok 360)<|.ok 0) λb=>.bf (!b.2.1) (.ok 360)<|.ok 0
def tN (s:aZ):=sh.s _ (Bf sh s).val
def yT:=bP (dS KK 41 60 (tN sh) (cH KK 27)) (yV sh)
theorem yU:ak (yT shut) γ:=eo (rs:=[27]) rZ RU rfl rfl λs k=>by kernel_rfl
def C4 (b:Γa) (a:List ah) (c d:Int):AS SS:=⟨[(0,(vs .cT)),(1,(va 4 0)),(9,(vl a)),(10,(vi d))],[(bX 160 [(.bu .i64 16 b),(.ao 48 a)]),(bX 35 [(lu c)]),(bX 161 [(.v (.pointer none))]),(some (.aD 142 [] [(.one (.an 4 0))])),(bX 158 [(.an 0 0)])],5,(some ⟨⟨μ,ar 97⟩,[9,10],(dT (bY μ) 4),(dU (bY μ) 4),[(3,(va 1 0)),(4,(va 2 0)),(8,(vc 3))],none⟩),false,[],[]⟩
def OM (a:Γa) (b:List ah) (c:Int):AS SS:=C4 a b c 0
def Wo (a:Γa) (b:List ah) (c:Int) (a0:ah):AS SS:=⟨[],[(bX 160 [(.bu .i64 16 a),(.ao 48 b)]),(bX 35 [(lu c)]),(bX 161 [(.ptr 115 a0 0)]),(some (.aD 142 [] [(.one (.an 4 0))])),(bX 158 [(.an 0 0)])],5,(some ⟨⟨μ,ar 97⟩,[9,10],(dT (bY μ) 4),(dU (bY μ) 4),[(3,(va 1 0)),(4,(va 2 0)),(8,(vc 3))],(some .ret)⟩),false,[],[2]⟩
def Wp (d:Γa) (a:List ah) (b:Int) (a0:Bool) (c:Int):AS SS:= {C4 d a b b with env:=[(11,(vb a0)),(0,(vs .cT)),(1,(va 4 0)),(9,(vl a)),(10,(vi c))]}
def sk (sh:Sh) (c:Γa) (d:List ah) (b e:Int) (z0:ah) (a:Unit):T (Unit⊕ah⊕(Bool×Int)):=.bf (z0.aa==b) (.ok (.inr (.inl z0)))<|.ok (.inl ())
def q_ (sh:Sh) (d:Γa) (c:List ah) (e b:Int) (a:Unit):T (ah⊕(Bool×Int)):=.ok (.inr ((decide (b<(↑c.length:Int))),b))
def zl (b:Γa) (a:List ah) (c:Int):=b4 sh (sk sh b a c) (q_ sh b a c) a ()
def TA {R} (k:KX SS R) (a:Γa) (b:List ah) (c:Int) (x:ah⊕(Bool×Int)):Option R:=(λx=>θ (λv=>k .ret (Wo a b c v)) (λv=>k (.exit 0) (Wp a b c v.1 v.2)) x) x
def Le:bh SS:=bt 2 (λst=>((b9 st 3 142).bind λ_=>fQ st 18 4).bind λ_=>(e1 (aN st 0 0)).bind λa=>(ba 48 (aN st 0 1)).bind λb=>(aU (aN st 1 0)).bind λc=>some (a,b,c)) (u3 OM) (u3 (zl shut)) (λk=>u3 (TA k))
theorem ab5:LS KK γ ar χ 142 2 Le:=
 aX.b_ (ak.all yU rfl) (aJ.nil) rfl 60 (λp i a=>u3 C4 p i) (λp=>p.2.1) (λp=>()) (St:=u3 (sk shut)) (F:=u3 (q_ shut)) (λp=>rfl)
  (λm p i a k=>by kernel_rfl) (by rintro p (x|x)<;>exact⟨_,_,λ_=>rfl⟩) (λp N C A O w a b=>D' b (j:=0) (n:=1) (t:=48) rfl rfl λv h=>h)
def QH:=bO (yT shut) ar χ 142 [Le]
theorem QI:a_ QH γ:=bQ (ak.all yU rfl) ξ1 rfl a8 (by kernel_rfl) ab5
def AA (p:bI) (pid:Int):T (ah×Bool):=.bd (kn sh p) λb=>.bf (b !=0) (.ok (⟨0,0,false,0⟩,false))<|.gd (OM p.aM p.ag pid)<|.bd (zl sh p.aM p.ag pid) λx4=>.cs x4 (λa=>.ok (a,true)) λa=>.ok (⟨0,0,false,0⟩,false)
def Cr (p:bI) (pid:Int):=sh.s _ (AA sh p pid).val
def Hp:=bP (db KK 108 50 35 (Cr sh) (eP KK 115 4)) (yT sh)
theorem Hq:ak (Hp shut) γ:=dp (rs:=[115,4]) yU QI rfl rfl λp pid k=>by kernel_rfl
def Bs (p:bI) (pid:Int):T Bool:=.bd (Cr sh p pid) λa=>.bf (a.2) (.ok (!a.1.bp))<|.ok false
def pS (p:bI) (pid:Int):=sh.s _ (Bs sh p pid).val
def oH:=bP (db KK 73 50 35 (pS sh) (cH KK 4)) (Hp sh)
theorem oI:ak (oH shut) γ:=dp (rs:=[4]) Hq (ak.all Hq rfl) rfl rfl λp pid k=>by kernel_rfl
def C5 (b:Γa) (a:List ah) (c d:Int):AS SS:=⟨[(0,(vs .cT)),(1,(va 5 0)),(9,(vl a)),(10,(vi d))],[(bX 160 [(.bu .i64 16 b),(.own 1)]),(rX 115 a),(bX 35 [(lu c)]),(bX 161 [(.v (.pointer none))]),(some (.aD 142 [] [(.one (.an 5 0))])),(bX 158 [(.an 0 0)])],6,(some ⟨⟨μ,ar 97⟩,[9,10],(dT (bY μ) 4),(dU (bY μ) 4),[(3,(va 2 0)),(4,(va 3 0)),(8,(vc 4))],none⟩),false,[],[]⟩
def ON (a:Γa) (b:List ah) (c:Int):AS SS:=C5 a b c 0
def Wq (a:Γa) (b:List ah) (c:Int) (a0:Nat):AS SS:=⟨[],[(bX 160 [(.bu .i64 16 a),(.own 1)]),(rX 115 b),(bX 35 [(lu c)]),(bX 161 [(.eb 115 1 a0 0)]),(some (.aD 142 [] [(.one (.an 5 0))])),(bX 158 [(.an 0 0)])],6,(some ⟨⟨μ,ar 97⟩,[9,10],(dT (bY μ) 4),(dU (bY μ) 4),[(3,(va 2 0)),(4,(va 3 0)),(8,(vc 4))],(some .ret)⟩),false,[],[3]⟩
def Wr (d:Γa) (a:List ah) (b:Int) (a0:Bool) (c:Int):AS SS:= {C5 d a b b with env:=[(11,(vb a0)),(0,(vs .cT)),(1,(va 5 0)),(9,(vl a)),(10,(vi c))]}
def Im (sh:Sh) (f:Γa) (c:List ah) (d b:Int) (z0:ah) (a:Unit):T (Unit⊕Nat⊕(Bool×Int)):=.bd (c[b.toNat]?) λe=>.bf (e.aa==d) (.ok (.inr (.inl b.toNat)))<|.ok (.inl ())
def xo (sh:Sh) (d:Γa) (c:List ah) (e b:Int) (a:Unit):T (Nat⊕(Bool×Int)):=.ok (.inr ((decide (b<(↑c.length:Int))),b))
def zm (b:Γa) (a:List ah) (c:Int):=b4 sh (Im sh b a c) (xo sh b a c) a ()
def TB {R} (k:KX SS R) (a:Γa) (b:List ah) (c:Int) (x:Nat⊕(Bool×Int)):Option R:=(λx=>θ (λv=>k .ret (Wq a b c v)) (λv=>k (.exit 0) (Wr a b c v.1 v.2)) x) x
def DY:bh SS:=bt 2 (λst=>((b9 st 4 142).bind λ_=>fQ st 18 4).bind λ_=>(e1 (aN st 0 0)).bind λa=>(cd st 1 115).bind λb=>(aU (aN st 2 0)).bind λc=>some (a,b,c)) (u3 ON) (u3 (zm shut)) (λk=>u3 (TB k))
theorem E2:LS KK γ ar χ 142 2 DY:=
 aX.b_ (ak.all oI rfl) (aJ.nil) rfl 60 (λp i a=>u3 C5 p i) (λp=>p.2.1) (λp=>()) (St:=u3 (Im shut)) (F:=u3 (xo shut)) (λp=>rfl)
  (λm p i a k=>by kernel_rfl) (by rintro p (x|x)<;>exact⟨_,_,λ_=>rfl⟩) (λp N C A O w a b=>lR (j:=1) b rfl)
def uo (a:List ah) (b c:Int):AS SS:=⟨[(0,(vo 0)),(1,(vc 1)),(7,(vl a)),(8,(vi c))],[(rX 115 a),(some (.aD 256 [] [(.one (.an 2 0))])),(bX 3 [(li b)])],3,none,false,[],[]⟩
def O2 (a:List ah) (b:Int):AS SS:=uo a b 0
def Xg (b:List ah) (a a0:Int):AS SS:= {uo b a a with env:=[(4,(vi a0))]}
def Xh (a:List ah) (b:Int) (a0:Bool) (c:Int):AS SS:= {uo a b b with env:=[(9,(vb a0)),(0,(vo 0)),(1,(vc 1)),(7,(vl a)),(8,(vi c))]}
def sC (c:List ah) (d b:Int) (z0:ah) (a:Unit):T (Unit⊕Int⊕(Bool×Int)):=.bd (c[b.toNat]?) λf=>.bd (lE sh f.aa) λe=>.bf (e==δ.wrap (d+1)) (.ok (.inr (.inl b)))<|.ok (.inl ())
def rq (sh:Sh) (c:List ah) (d b:Int) (a:Unit):T (Int⊕(Bool×Int)):=.ok (.inr ((decide (b<(↑c.length:Int))),b))
def zL (a:List ah) (b:Int):=b4 sh (sC sh a b) (rq sh a b) a ()
def T9 {R} (k:KX SS R) (a:List ah) (b:Int) (x:Int⊕(Bool×Int)):Option R:=(λx=>θ (λv=>k .ret (Xg a b v)) (λv=>k (.exit 0) (Xh a b v.1 v.2)) x) x
def D5:bh SS:=bt 3 (λst=>(b9 st 1 256).bind λ_=>(cd st 0 115).bind λa=>(aU (aN st 2 0)).bind λb=>some (a,b)) (u2 O2) (u2 (zL shut)) (λk=>u2 (T9 k))
def xf:=bO (oH shut) ar χ 142 [DY]
theorem GA:a_ xf γ:=bQ (ak.all oI rfl) ξ1 rfl a8 (by kernel_rfl) E2
theorem NB:LS KK γ ar ξS 257 3 D5:=
 aX.b_ GA (aJ.nil) rfl 60 (λp i a=>u2 uo p i) (λp=>p.1) (λp=>()) (St:=u2 (sC shut)) (F:=u2 (rq shut)) (λp=>rfl)
  (λm p i a k=>by kernel_rfl) (by rintro p (x|x)<;>exact⟨_,_,λ_=>rfl⟩) (λp N C A O w a b=>lR (j:=0) b rfl)
def uf (a:Γa) (b:List ah) (c:Int):AS SS:=⟨[(0,(va 0 0)),(3,(va 2 0))],[(bX 160 [(.bu .i64 16 a),(.own 1)]),(rX 115 b),(bX 3 [(li c)])],2,none,false,[],[]⟩
def WY (b:Γa) (c:List ah) (a0:Bool) (a:Int):AS SS:=xe [(6,(vb a0)),(5,(vi a))] (uf b c a)
def WZ (c:Γa) (d:List ah) (a0:Bool) (a:Int) (a2:Nat) (a3:Int) (a4 a5 b:Bool):AS SS:=⟨[(26,(vb a0)),(25,(vb a0)),(17,(vb true)),(24,(vi a)),(17,(vb true)),(23,(vs (.e_ 0 0 16 a2))),(17,(vb true)),(22,(va 0 0)),(17,(vb true)),(21,(va 0 0)),(17,(vb true)),(20,(va 0 0)),(17,(vb true)),(19,(vi a3)),(17,(vb true)),(18,(va 0 0)),(17,(vb true)),(17,(vb a4)),(16,(vb a4)),(15,(vb a5)),(4,(vb a5)),(14,(vb a5)),(13,(vc 3)),(12,(vo 1)),(11,(va 0 16)),(10,(va 0 0)),(9,(va 0 0)),(8,(va 0 0)),(7,(.br [])),(6,(vb b)),(5,(vi a3)),(0,(va 0 0)),(3,(va 2 0))],[(bX 160 [(.bu .i64 16 c),(.own 1)]),(rX 115 d),(bX 3 [(li a3)]),(some (.aD 256 [] [(.one (.an 2 0))]))],2,none,false,[],[]⟩
def mF (c:Γa) (e:List ah) (a:Int):T (Int⊕(Bool×Int)⊕(Bool×Int×Nat×Int×Bool×Bool×Bool)):=.bf (!decide (a<16)) (.ok (.inr (.inl ((decide (a<16)),a))))<|.gd (O2 e a)<|.bd (zL sh e a) λx3=>.cs x3 (λd=>.bf (!decide (d>=0)) (.bd (c' a 16) λb=>.bf (decide (aE c b<=65535)) (.ok (.inr (.inr ((decide (aE c b<=65535)),(aE c b),b,a,(!decide (d>=0)),(decide (d>=0)),(decide (a<16))))))<|.ok (.inl (δ.wrap (a+1))))<|.ok (.inl (δ.wrap (a+1)))) λd=>.bd (c' a 16) λb=>.bf (decide (aE c b<=65535)) (.ok (.inr (.inr ((decide (aE c b<=65535)),(aE c b),b,a,true,false,(decide (a<16))))))<|.ok (.inl (δ.wrap (a+1)))
def zz (a:Γa) (b:List ah) (c:Int):=bM sh (mF sh a b) 1000000 c
def TT {R} (k:KX SS R) (a:Γa) (b:List ah) (x:(Bool×Int)⊕(Bool×Int×Nat×Int×Bool×Bool×Bool)):Option R:=(λx=>θ (λv=>k (.bA (.iface 27 (.int .i64 322))) (WY a b v.1 v.2)) (λv=>k (.exit 0) (WZ a b v.1 v.2.1 v.2.2.1 v.2.2.2.1 v.2.2.2.2.1 v.2.2.2.2.2.1 v.2.2.2.2.2.2)) x) x
def D3:bh SS:=bt 3 (λst=>(e1 (aN st 0 0)).bind λa=>(cd st 1 115).bind λb=>(aU (aN st 2 0)).bind λc=>some (a,b,c)) (u3 uf) (u3 (zz shut)) (λk p=>TT k p.1 p.2.1)
def QR:=bO xf ar ξS 257 [D5]
theorem QS:a_ QR γ:=bQ GA ζ8 rfl a8 (by kernel_rfl) NB
theorem Nz:LS KK γ ar ζ9 193 3 D3:=
 aX.bM (π:=Γa×List ah×Int) (σ:=Int) QS (aJ.nil) rfl 60 (λp a=>uf p.1 p.2.1 a) (λp=>p.2.2) (St:=λp=>mF shut p.1 p.2.1) (λp=>1000000) (λp=>rfl)
  (λm p a k=>by kernel_rfl)
def uq (a:List ah) (b c d:Int):AS SS:=⟨[(0,(vo 0)),(1,(vc 1)),(7,(vl a)),(8,(vi d))],[(rX 115 a),(some (.aD 258 [] [(.one (.an 2 0))])),(bX 115 [(lu b),(lu c),(.v (.bool false)),(lu 0)])],3,none,false,[],[]⟩
def O3 (a:List ah) (b c:Int):AS SS:=uq a b c 0
def Xi (b:List ah) (a c a0:Int):AS SS:= {uq b a c a with env:=[(4,(vi a0))]}
def Xj (a:List ah) (b d:Int) (a0:Bool) (c:Int):AS SS:= {uq a b d b with env:=[(9,(vb a0)),(0,(vo 0)),(1,(vc 1)),(7,(vl a)),(8,(vi c))]}
def sD (c:List ah) (d h b:Int) (z0:ah) (a:Unit):T (Unit⊕Int⊕(Bool×Int)):=.bd (c[b.toNat]?) λg=>.bd (lE sh g.aa) λe=>.bd (lE sh d) λf=>.bf (decide (e>f)) (.ok (.inr (.inl b)))<|.ok (.inl ())
def ru (sh:Sh) (c:List ah) (d e b:Int) (a:Unit):T (Int⊕(Bool×Int)):=.ok (.inr ((decide (b<(↑c.length:Int))),b))
def zM (a:List ah) (b c:Int):=b4 sh (sD sh a b c) (ru sh a b c) a ()
def T_ {R} (k:KX SS R) (a:List ah) (b c:Int) (x:Int⊕(Bool×Int)):Option R:=(λx=>θ (λv=>k .ret (Xi a b c v)) (λv=>k (.exit 0) (Xj a b c v.1 v.2)) x) x
def LB:bh SS:=bt 3 (λst=>(b9 st 1 258).bind λ_=>(cd st 0 115).bind λa=>(aU (aN st 2 0)).bind λb=>(aU (aN st 2 1)).bind λc=>some (a,b,c)) (u3 O3) (u3 (zM shut)) (λk=>u3 (T_ k))
def QT:=bO xf ar ζ9 193 [D3]
theorem QU:a_ QT γ:=bQ (a_.fI (ak.all oI rfl) ξ1 rfl a8 λc a=>by cases a;exact aJ.cons (aJ.nil) (by kernel_rfl) E2) ζa rfl a8 (by kernel_rfl) Nz
theorem acu:LS KK γ ar ξS 257 3 LB:=
 aX.b_ QU (aJ.nil) rfl 60 (λp i a=>u3 uq p i) (λp=>p.1) (λp=>()) (St:=u3 (sD shut)) (F:=u3 (ru shut)) (λp=>rfl)
  (λm p i a k=>by kernel_rfl) (by rintro p (x|x)<;>exact⟨_,_,λ_=>rfl⟩) (λp N C A O w a b=>lR (j:=0) b rfl)
def QV:bw SS:= {(oH shut) with T:=fX (fX (fX ((oH shut).T) 142 ⟨⟨χ,ar 142⟩,[DY]⟩) 257 ⟨⟨ξS,ar 257⟩,[mO (λst=>b9 st 1 256) D5 (LB)]⟩) 193 ⟨⟨ζ9,ar 193⟩,[D3]⟩}
theorem QW:a_ QV γ:=bQ (a_.fI (a_.fI (ak.all oI rfl) ξ1 rfl a8 λc a=>by cases a;exact aJ.cons (aJ.nil) (by kernel_rfl) E2) ζ8 rfl a8 λc a=>by cases a;exact aJ.cons (aJ.nil) (by kernel_rfl) (aX.alt NB acu)) ζa rfl a8 (by kernel_rfl) Nz
def AF (p:bI) (parent:Int):T (bI×Int×Int):=.bd (kn sh p) λi=>.bf (!i==0) (.ok (⟨[0,0,0,0,0,0,0,0,0,0,0,0,0,0,0,0],[]⟩,0,320))<|.bd (app 32 [] p.ag) λb=>.gd (ON p.aM b parent)<|.bd (zm sh p.aM b parent) λx5=>.cs x5 (λf=>.bd (b[f]?) λz3=>.bf (!!z3.bp) (.ok (⟨[0,0,0,0,0,0,0,0,0,0,0,0,0,0,0,0],[]⟩,0,321))<|.gd (uf p.aM b 0)<|.bd (zz sh p.aM b 0) λh=>.cs h (λa=>.ok (⟨[0,0,0,0,0,0,0,0,0,0,0,0,0,0,0,0],[]⟩,0,322)) λa=>.bd (c' a.2.2.2.1 16) λz5=>.bd (c' a.2.2.2.1 16) λd=>.bd (c' a.2.2.2.1 16) λe=>.bf (true&&p.aM.length.beq 16) (.gd (O3 b (ζ.wrap (δ.wrap (δ.wrap (δ.wrap (aE p.aM z5*64)+a.2.2.2.1)+1))) parent)<|.bd (zM sh b (ζ.wrap (δ.wrap (δ.wrap (δ.wrap (aE p.aM z5*64)+a.2.2.2.1)+1))) parent) λg=>.cs g (λc=>.bf (decide (c<0)) (.bd (lO b (↑b.length:Int) [ah.mk (ζ.wrap (δ.wrap (δ.wrap (δ.wrap (aE p.aM z5*64)+a.2.2.2.1)+1))) parent false 0]) λz9=>.ok (⟨(p.aM.set e (δ.wrap (aE p.aM d+1))),z9⟩,(ζ.wrap (δ.wrap (δ.wrap (δ.wrap (aE p.aM z5*64)+a.2.2.2.1)+1))),0))<|.bd (lO b c [ah.mk (ζ.wrap (δ.wrap (δ.wrap (δ.wrap (aE p.aM z5*64)+a.2.2.2.1)+1))) parent false 0]) λz9=>.ok (⟨(p.aM.set e (δ.wrap (aE p.aM d+1))),z9⟩,(ζ.wrap (δ.wrap (δ.wrap (δ.wrap (aE p.aM z5*64)+a.2.2.2.1)+1))),0)) λc=>.bd (lO b (↑b.length:Int) [ah.mk (ζ.wrap (δ.wrap (δ.wrap (δ.wrap (aE p.aM z5*64)+a.2.2.2.1)+1))) parent false 0]) λz9=>.ok (⟨(p.aM.set e (δ.wrap (aE p.aM d+1))),z9⟩,(ζ.wrap (δ.wrap (δ.wrap (δ.wrap (aE p.aM z5*64)+a.2.2.2.1)+1))),0))<|.no) λf=>.ok (⟨[0,0,0,0,0,0,0,0,0,0,0,0,0,0,0,0],[]⟩,0,321)
def tt (p:bI) (parent:Int):=sh.s _ (AF sh p parent).val
def mw:=bP (db KK 147 50 35 (tt sh) (nF KK 50 35 27)) (oH sh)
theorem oE:ak (mw shut) γ:=dp (rs:=[50,35,27]) oI QW rfl rfl λp parent k=>by kernel_rfl
def C6 (b:Γa) (a:List ah) (c d:Int):AS SS:=⟨[(0,(vs .cT)),(1,(va 5 0)),(9,(vl a)),(10,(vi d))],[(bX 160 [(.bu .i64 16 b),(.own 1)]),(rX 115 a),(bX 35 [(lu c)]),(bX 161 [(.v (.pointer none))]),(some (.aD 142 [] [(.one (.an 5 0))])),(bX 158 [(.an 0 0)])],6,(some ⟨⟨μ,ar 97⟩,[9,10],(dT (bY μ) 4),(dU (bY μ) 4),[(3,(va 2 0)),(4,(va 3 0)),(8,(vc 4))],none⟩),false,[],[]⟩
def OO (a:Γa) (b:List ah) (c:Int):AS SS:=C6 a b c 0
def Ws (a:Γa) (b:List ah) (c:Int) (a0:Nat):AS SS:=⟨[],[(bX 160 [(.bu .i64 16 a),(.own 1)]),(rX 115 b),(bX 35 [(lu c)]),(bX 161 [(.eb 115 1 a0 0)]),(some (.aD 142 [] [(.one (.an 5 0))])),(bX 158 [(.an 0 0)])],6,(some ⟨⟨μ,ar 97⟩,[9,10],(dT (bY μ) 4),(dU (bY μ) 4),[(3,(va 2 0)),(4,(va 3 0)),(8,(vc 4))],(some .ret)⟩),false,[],[3]⟩
def Wt (d:Γa) (a:List ah) (b:Int) (a0:Bool) (c:Int):AS SS:= {C6 d a b b with env:=[(11,(vb a0)),(0,(vs .cT)),(1,(va 5 0)),(9,(vl a)),(10,(vi c))]}
def Io (sh:Sh) (f:Γa) (c:List ah) (d b:Int) (z0:ah) (a:Unit):T (Unit⊕Nat⊕(Bool×Int)):=.bd (c[b.toNat]?) λe=>.bf (e.aa==d) (.ok (.inr (.inl b.toNat)))<|.ok (.inl ())
def xp (sh:Sh) (d:Γa) (c:List ah) (e b:Int) (a:Unit):T (Nat⊕(Bool×Int)):=.ok (.inr ((decide (b<(↑c.length:Int))),b))
def zn (b:Γa) (a:List ah) (c:Int):=b4 sh (Io sh b a c) (xp sh b a c) a ()
def TC {R} (k:KX SS R) (a:Γa) (b:List ah) (c:Int) (x:Nat⊕(Bool×Int)):Option R:=(λx=>θ (λv=>k .ret (Ws a b c v)) (λv=>k (.exit 0) (Wt a b c v.1 v.2)) x) x
def DZ:bh SS:=bt 2 (λst=>((b9 st 4 142).bind λ_=>fQ st 18 4).bind λ_=>(e1 (aN st 0 0)).bind λa=>(cd st 1 115).bind λb=>(aU (aN st 2 0)).bind λc=>some (a,b,c)) (u3 OO) (u3 (zn shut)) (λk=>u3 (TC k))
theorem Nv:LS KK γ ar χ 142 2 DZ:=
 aX.b_ (ak.all oE rfl) (aJ.nil) rfl 60 (λp i a=>u3 C6 p i) (λp=>p.2.1) (λp=>()) (St:=u3 (Io shut)) (F:=u3 (xp shut)) (λp=>rfl)
  (λm p i a k=>by kernel_rfl) (by rintro p (x|x)<;>exact⟨_,_,λ_=>rfl⟩) (λp N C A O w a b=>lR (j:=1) b rfl)
def ug (a:List ah) (b:Int) (c:Bool) (d e:Int) (f:List ah):AS SS:=⟨[(1,(vc 1)),(5,(vo 4)),(8,(vo 0)),(9,(vi d)),(10,(vi e))],[(rX 115 a),(some (.aD 198 [] [(.one (.an 2 0)),(.one (.an 3 0))])),(bX 35 [(lu b)]),(bX 4 [(.v (.bool c))]),(rX 115 f)],4,none,false,[],[]⟩
def W0 (d:List ah) (a:Int) (e:Bool) (b:Int) (a0:Bool) (c:Int) (a2:List ah):AS SS:= {ug d a e b a a2 with env:=[(11,(vb a0)),(1,(vc 1)),(5,(vo 4)),(8,(vo 0)),(9,(vi b)),(10,(vi c))]}
def oW (sh:Sh) (d:List ah) (c:Int) (f:Bool) (e:Int) (a:Int×List ah):T ((Int×List ah)⊕(Bool×Int×List ah)):=.bf (decide (a.1<e)) (.bd (idx d a.1) λz0=>.bd (d[a.1.toNat]?) λb=>.bf (b.aa !=c) (.bf (b.aW !=c) (.bd (app 32 a.2 [b]) λz2=>.ok (.inl ((δ.wrap (a.1+1)),z2)))<|.bf (!b.bp) (.bd (app 32 a.2 [b]) λz2=>.ok (.inl ((δ.wrap (a.1+1)),z2)))<|.ok (.inl ((δ.wrap (a.1+1)),a.2)))<|.bf (!f) (.bf (b.aW !=c) (.bd (app 32 a.2 [b]) λz2=>.ok (.inl ((δ.wrap (a.1+1)),z2)))<|.bf (!b.bp) (.bd (app 32 a.2 [b]) λz2=>.ok (.inl ((δ.wrap (a.1+1)),z2)))<|.ok (.inl ((δ.wrap (a.1+1)),a.2)))<|.ok (.inl ((δ.wrap (a.1+1)),a.2)))<|.ok (.inr ((decide (a.1<e)),a.1,a.2))
def zA (a:List ah) (b:Int) (c:Bool) (d e:Int) (f:List ah):=bM sh (oW sh a b c d) 1000000 (e,f)
def TU {R} (k:KX SS R) (a:List ah) (b:Int) (c:Bool) (d:Int) (x:(Bool×Int×List ah)):Option R:=(λv=>k (.exit 0) (W0 a b c d v.1 v.2.1 v.2.2)) x
def D4:bh SS:=bt 4 (λst=>(b9 st 1 198).bind λ_=>(cd st 0 115).bind λa=>(aU (aN st 2 0)).bind λb=>(iz (aN st 3 0)).bind λc=>(aU (aK st 9 0)).bind λd=>(aU (aK st 10 0)).bind λe=>(cd st 4 115).bind λf=>some (a,b,c,d,e,f)) (u6 ug) (u6 (zA shut)) (λk p=>TU k p.1 p.2.1 p.2.2.1 p.2.2.2.1)
def QX:=bO (mw shut) ar χ 142 [DZ]
theorem QY:a_ QX γ:=bQ (ak.all oE rfl) ξ1 rfl a8 (by kernel_rfl) Nv
theorem NA:LS KK γ ar ξF 197 4 D4:=
 aX.bM (π:=List ah×Int×Bool×Int×Int×List ah) (σ:=Int×List ah) QY (aJ.nil) rfl 60 (λp a=>ug p.1 p.2.1 p.2.2.1 p.2.2.2.1 a.1 a.2) (λp=>(p.2.2.2.2.1,p.2.2.2.2.2)) (St:=λp=>oW shut p.1 p.2.1 p.2.2.1 p.2.2.2.1) (λp=>1000000) (λp=>rfl)
  (λm p a k=>by kernel_rfl)
def ua (a:Γa) (b:List ah) (c d:Int) (e:List ah) (f:Int) (g:List ah):AS SS:=⟨[(0,(vs .cT)),(1,(va 6 0)),(9,(vl e)),(10,(vi f))],[(bX 160 [(.bu .i64 16 a),(.own 4)]),(rX 115 b),(bX 35 [(lu c)]),(bX 35 [(lu d)]),(rX 115 g),(some (.aD 142 [] [(.one (.an 6 0))])),(bX 158 [(.an 0 0)])],7,(some ⟨⟨ζb,ar 195⟩,[41,42],(dT (bY ζb) 8),(dU (bY ζb) 8),[(1,(va 2 0)),(40,(vc 5))],none⟩),false,[],[4]⟩
def Wu (d:Γa) (e:List ah) (a f:Int) (b:List ah) (a0:Bool) (c:Int) (a2:List ah):AS SS:= {ua d e a f b a a2 with env:=[(11,(vb a0)),(0,(vs .cT)),(1,(va 6 0)),(9,(vl b)),(10,(vi c))]}
def oQ (sh:Sh) (e:Γa) (f:List ah) (c g:Int) (b:List ah) (a:Int×List ah):T ((Int×List ah)⊕(Bool×Int×List ah)):=.bf (decide (a.1<(↑b.length:Int))) (.bd (idx a.2 a.1) λz0=>.bd (a.2[a.1.toNat]?) λd=>.bf (d.aW==c) (.bd (a.2[a.1.toNat]?) λz2=>.ok (.inl ((δ.wrap (a.1+1)),(a.2.set a.1.toNat (ah.mk z2.aa 0 z2.bp z2.cg)))))<|.ok (.inl ((δ.wrap (a.1+1)),a.2)))<|.ok (.inr ((decide (a.1<(↑b.length:Int))),a.1,a.2))
def zo (a:Γa) (b:List ah) (c d:Int) (e:List ah) (f:Int) (g:List ah):=bM sh (oQ sh a b c d e) 1000000 (f,g)
def TD {R} (k:KX SS R) (a:Γa) (b:List ah) (c d:Int) (e:List ah) (x:(Bool×Int×List ah)):Option R:=(λv=>k (.exit 0) (Wu a b c d e v.1 v.2.1 v.2.2)) x
def Lf:bh SS:=gm (λst=>gc (ar 142 2) (d' [4] (st)))<|bt 2 (λst=>((b9 st 5 142).bind λ_=>fQ st 52 8).bind λ_=>(e1 (aN st 0 0)).bind λa=>(cd st 1 115).bind λb=>(aU (aN st 2 0)).bind λc=>(aU (aN st 3 0)).bind λd=>(cd st 4 115).bind λe=>(aU (aK st 10 0)).bind λf=>(cd st 4 115).bind λg=>some (a,b,c,d,e,f,g)) (u7 ua) (u7 (zo shut)) (λk p=>TD k p.1 p.2.1 p.2.2.1 p.2.2.2.1 p.2.2.2.2.1)
def QZ:=bO (mw shut) ar ξF 197 [D4]
theorem Q0:a_ QZ γ:=bQ (ak.all oE rfl) ξJ rfl a8 (by kernel_rfl) NA
theorem ab6:LS KK γ ar χ 142 2 Lf:=aX.pre (bT.comp (bT.gc (ar 142 2)) (bT.d' [4]))<|
 aX.bM (π:=Γa×List ah×Int×Int×List ah×Int×List ah) (σ:=Int×List ah) Q0 (aJ.nil) rfl 60 (λp a=>ua p.1 p.2.1 p.2.2.1 p.2.2.2.1 p.2.2.2.2.1 a.1 a.2) (λp=>(p.2.2.2.2.2.1,p.2.2.2.2.2.2)) (St:=λp=>oQ shut p.1 p.2.1 p.2.2.1 p.2.2.2.1 p.2.2.2.2.1) (λp=>1000000) (λp=>rfl)
  (λm p a k=>by kernel_rfl)
def Q1:bw SS:= {(mw shut) with T:=fX (fX ((mw shut).T) 142 ⟨⟨χ,ar 142⟩,[mO (λst=>(b9 st 4 142).bind λ_=>fQ st 18 4) DZ (Lf)]⟩) 197 ⟨⟨ξF,ar 197⟩,[D4]⟩}
theorem Q2:a_ Q1 γ:=bQ (a_.fI (ak.all oE rfl) ξ1 rfl a8 λc a=>by cases a;exact aJ.cons (aJ.nil) (by kernel_rfl) (aX.alt Nv ab6)) ξJ rfl a8 (by kernel_rfl) NA
def AG (p:bI) (pid code:Int):T (bI×Int):=.bd (kn sh p) λe=>.bf (!e==0) (.ok (⟨[0,0,0,0,0,0,0,0,0,0,0,0,0,0,0,0],[]⟩,320))<|.bd (app 32 [] p.ag) λb=>.gd (OO p.aM b pid)<|.bd (zn sh p.aM b pid) λx5=>.cs x5 (λa=>.bd (b[a]?) λz3=>.bf (!!z3.bp) (.ok (⟨[0,0,0,0,0,0,0,0,0,0,0,0,0,0,0,0],[]⟩,321))<|.bf (!pid !=1) (.ok (⟨[0,0,0,0,0,0,0,0,0,0,0,0,0,0,0,0],[]⟩,323))<|.bd (b[a]?) λz4=>.bd ((b.set a (ah.mk z4.aa z4.aW true z4.cg))[a]?) λz5=>.bd (((b.set a (ah.mk z4.aa z4.aW true z4.cg)).set a (ah.mk z5.aa z5.aW z5.bp code))[a]?) λd=>.gd (ug ((b.set a (ah.mk z4.aa z4.aW true z4.cg)).set a (ah.mk z5.aa z5.aW z5.bp code)) pid (d.aW==0) ((↑((b.set a (ah.mk z4.aa z4.aW true z4.cg)).set a (ah.mk z5.aa z5.aW z5.bp code)).length:Int)) 0 [])<|.bd (zA sh ((b.set a (ah.mk z4.aa z4.aW true z4.cg)).set a (ah.mk z5.aa z5.aW z5.bp code)) pid (d.aW==0) ((↑((b.set a (ah.mk z4.aa z4.aW true z4.cg)).set a (ah.mk z5.aa z5.aW z5.bp code)).length:Int)) 0 []) λc=>.gd (ua p.aM ((b.set a (ah.mk z4.aa z4.aW true z4.cg)).set a (ah.mk z5.aa z5.aW z5.bp code)) pid code c.2.2 0 c.2.2)<|.bd (zo sh p.aM ((b.set a (ah.mk z4.aa z4.aW true z4.cg)).set a (ah.mk z5.aa z5.aW z5.bp code)) pid code c.2.2 0 c.2.2) λf=>.ok (⟨p.aM,f.2.2⟩,0)) λa=>.ok (⟨[0,0,0,0,0,0,0,0,0,0,0,0,0,0,0,0],[]⟩,321)
def tu (p:bI) (pid code:Int):=sh.s _ (AG sh p pid code).val
def xW:=bP (jm KK 149 50 35 35 (tu sh) (eP KK 50 27)) (mw sh)
theorem xX:ak (xW shut) γ:=lB (rs:=[50,27]) oE Q2 rfl rfl λp pid code k=>by kernel_rfl
def C7 (b:Γa) (a:List ah) (c d:Int):AS SS:=⟨[(0,(vs .cT)),(1,(va 5 0)),(9,(vl a)),(10,(vi d))],[(bX 160 [(.bu .i64 16 b),(.own 1)]),(rX 115 a),(bX 35 [(lu c)]),(bX 161 [(.v (.pointer none))]),(some (.aD 142 [] [(.one (.an 5 0))])),(bX 158 [(.an 0 0)])],6,(some ⟨⟨μ,ar 97⟩,[9,10],(dT (bY μ) 4),(dU (bY μ) 4),[(3,(va 2 0)),(4,(va 3 0)),(8,(vc 4))],none⟩),false,[],[]⟩
def FG (a:Γa) (b:List ah) (c:Int):AS SS:=C7 a b c 0
def Wv (a:Γa) (b:List ah) (c:Int) (a0:Nat):AS SS:=⟨[],[(bX 160 [(.bu .i64 16 a),(.own 1)]),(rX 115 b),(bX 35 [(lu c)]),(bX 161 [(.eb 115 1 a0 0)]),(some (.aD 142 [] [(.one (.an 5 0))])),(bX 158 [(.an 0 0)])],6,(some ⟨⟨μ,ar 97⟩,[9,10],(dT (bY μ) 4),(dU (bY μ) 4),[(3,(va 2 0)),(4,(va 3 0)),(8,(vc 4))],(some .ret)⟩),false,[],[3]⟩
def Ww (d:Γa) (a:List ah) (b:Int) (a0:Bool) (c:Int):AS SS:= {C7 d a b b with env:=[(11,(vb a0)),(0,(vs .cT)),(1,(va 5 0)),(9,(vl a)),(10,(vi c))]}
def Ip (sh:Sh) (f:Γa) (c:List ah) (d b:Int) (z0:ah) (a:Unit):T (Unit⊕Nat⊕(Bool×Int)):=.bd (c[b.toNat]?) λe=>.bf (e.aa==d) (.ok (.inr (.inl b.toNat)))<|.ok (.inl ())
def xq (sh:Sh) (d:Γa) (c:List ah) (e b:Int) (a:Unit):T (Nat⊕(Bool×Int)):=.ok (.inr ((decide (b<(↑c.length:Int))),b))
def r8 (b:Γa) (a:List ah) (c:Int):=b4 sh (Ip sh b a c) (xq sh b a c) a ()
def TE {R} (k:KX SS R) (a:Γa) (b:List ah) (c:Int) (x:Nat⊕(Bool×Int)):Option R:=(λx=>θ (λv=>k .ret (Wv a b c v)) (λv=>k (.exit 0) (Ww a b c v.1 v.2)) x) x
def Lg:bh SS:=bt 2 (λst=>((b9 st 4 142).bind λ_=>fQ st 18 4).bind λ_=>(e1 (aN st 0 0)).bind λa=>(cd st 1 115).bind λb=>(aU (aN st 2 0)).bind λc=>some (a,b,c)) (u3 FG) (u3 (r8 shut)) (λk=>u3 (TE k))
theorem ab7:LS KK γ ar χ 142 2 Lg:=
 aX.b_ (ak.all xX rfl) (aJ.nil) rfl 60 (λp i a=>u3 C7 p i) (λp=>p.2.1) (λp=>()) (St:=u3 (Ip shut)) (F:=u3 (xq shut)) (λp=>rfl)
  (λm p i a k=>by kernel_rfl) (by rintro p (x|x)<;>exact⟨_,_,λ_=>rfl⟩) (λp N C A O w a b=>lR (j:=1) b rfl)
def C_ (a:List ah) (b c:Int) (d:List ah):AS SS:=⟨[(1,(vc 1)),(5,(vo 3)),(8,(vo 0)),(9,(vl a)),(10,(vi c))],[(rX 115 a),(some (.aD 205 [] [(.one (.an 2 0))])),(bX 35 [(lu b)]),(rX 115 d)],3,none,false,[],[]⟩
def OU (a:List ah) (b:Int) (c:List ah):AS SS:=C_ a b 0 c
def W1 (a:List ah) (b:Int) (a0:Bool) (c:Int) (a2:List ah):AS SS:= {C_ a b b a2 with env:=[(11,(vb a0)),(1,(vc 1)),(5,(vo 3)),(8,(vo 0)),(9,(vl a)),(10,(vi c))]}
def sw (sh:Sh) (c:List ah) (d e:Int) (z0:ah) (a:List ah):T (List ah⊕(Bool×Int×List ah)):=.bd (c[e.toNat]?) λb=>.bf (b.aa !=d) (.bd (app 32 a [b]) λz2=>.ok (.inl z2))<|.ok (.inl a)
def ri (sh:Sh) (c:List ah) (d b:Int) (a:List ah):T ((Bool×Int×List ah)):=.ok ((decide (b<(↑c.length:Int))),b,a)
def zB (a:List ah) (b:Int) (c:List ah):=b4 sh (sw sh a b) (ri sh a b) a c
def TV {R} (k:KX SS R) (a:List ah) (b:Int) (x:(Bool×Int×List ah)):Option R:=(λv=>k (.exit 0) (W1 a b v.1 v.2.1 v.2.2)) x
def Lp:bh SS:=bt 4 (λst=>(b9 st 1 205).bind λ_=>(cd st 0 115).bind λa=>(aU (aN st 2 0)).bind λb=>(cd st 3 115).bind λc=>some (a,b,c)) (u3 OU) (u3 (zB shut)) (λk p=>TV k p.1 p.2.1)
def GB:=bO (xW shut) ar χ 142 [Lg]
theorem GC:a_ GB γ:=bQ (ak.all xX rfl) ξ1 rfl a8 (by kernel_rfl) ab7
theorem acg:LS KK γ ar ξF 197 4 Lp:=
 aX.b_ (π:=List ah×Int×List ah) (σ:=List ah) GC (aJ.nil) rfl 60 (λp i a=>C_ p.1 p.2.1 i a) (λp=>p.1) (λp=>p.2.2) (St:=λp=>sw shut p.1 p.2.1) (F:=λp=>ri shut p.1 p.2.1) (λp=>rfl)
  (λm p i a k=>by kernel_rfl) (λp x=>⟨_,_,λ_=>rfl⟩) (λp N C A O w a b=>lR (j:=0) b rfl)
def Q7:=bO GB ar ξF 197 [Lp]
theorem Q8:a_ Q7 γ:=bQ GC ξJ rfl a8 (by kernel_rfl) acg
def AK (p:bI) (pid child:Int):T (bI×Int×Int):=.bd (kn sh p) λe=>.bf (!e==0) (.ok (⟨[0,0,0,0,0,0,0,0,0,0,0,0,0,0,0,0],[]⟩,0,320))<|.bd (app 32 [] p.ag) λa=>.gd (FG p.aM a pid)<|.bd (r8 sh p.aM a pid) λx5=>.cs x5 (λc=>.bd (a[c]?) λz3=>.bf (!!z3.bp) (.ok (⟨[0,0,0,0,0,0,0,0,0,0,0,0,0,0,0,0],[]⟩,0,321))<|.gd (FG p.aM a child)<|.bd (r8 sh p.aM a child) λd=>.cs d (λb=>.bd (a[b]?) λz5=>.bf (!z5.aW==pid) (.ok (⟨[0,0,0,0,0,0,0,0,0,0,0,0,0,0,0,0],[]⟩,0,324))<|.bd (a[b]?) λg=>.bf (!g.bp) (.ok (⟨[0,0,0,0,0,0,0,0,0,0,0,0,0,0,0,0],[]⟩,0,322))<|.bd (a[b]?) λh=>.gd (OU a child [])<|.bd (zB sh a child []) λf=>.ok (⟨p.aM,f.2.2⟩,h.cg,0)) λb=>.ok (⟨[0,0,0,0,0,0,0,0,0,0,0,0,0,0,0,0],[]⟩,0,324)) λc=>.ok (⟨[0,0,0,0,0,0,0,0,0,0,0,0,0,0,0,0],[]⟩,0,321)
def tA (p:bI) (pid child:Int):=sh.s _ (AK sh p pid child).val
def x_:=bP (jm KK 154 50 35 35 (tA sh) (nF KK 50 35 27)) (xW sh)
theorem ya:ak (x_ shut) γ:=lB (rs:=[50,35,27]) xX Q8 rfl rfl λp pid child k=>by kernel_rfl
def C' (a:List aj) (b c:Int) (d:List aj):AS SS:=⟨[(1,(vc 0)),(5,(vo 2)),(8,(vd 51 a)),(9,(vl a)),(10,(vi c))],[(some (.aD 201 [] [(.one (.an 1 0))])),(bX 35 [(lu b)]),(rX 105 d)],2,none,false,[],[]⟩
def OV (a:List aj) (b:Int) (c:List aj):AS SS:=C' a b 0 c
def W2 (a:List aj) (b:Int) (a0:Bool) (c:Int) (a2:List aj):AS SS:= {C' a b b a2 with env:=[(11,(vb a0)),(1,(vc 0)),(5,(vo 2)),(8,(vd 51 a)),(9,(vl a)),(10,(vi c))]}
def sx (sh:Sh) (d:List aj) (b e:Int) (z0:aj) (a:List aj):T (List aj⊕(Bool×Int×List aj)):=.bf (z0.aa !=b) (.bd (app 24 a [z0]) λc=>.ok (.inl c))<|.ok (.inl a)
def rj (sh:Sh) (c:List aj) (d b:Int) (a:List aj):T ((Bool×Int×List aj)):=.ok ((decide (b<(↑c.length:Int))),b,a)
def zC (a:List aj) (b:Int) (c:List aj):=b4 sh (sx sh a b) (rj sh a b) a c
def TX {R} (k:KX SS R) (a:List aj) (b:Int) (x:(Bool×Int×List aj)):Option R:=(λv=>k (.exit 0) (W2 a b v.1 v.2.1 v.2.2)) x
def Lq:bh SS:=bt 4 (λst=>(b9 st 0 201).bind λ_=>(ba 51 (aK st 8 0)).bind λa=>(aU (aN st 1 0)).bind λb=>(cd st 2 105).bind λc=>some (a,b,c)) (u3 OV) (u3 (zC shut)) (λk p=>TX k p.1 p.2.1)
theorem ach:LS KK γ ar ξs 200 4 Lq:=
 aX.b_ (π:=List aj×Int×List aj) (σ:=List aj) (ak.all ya rfl) (aJ.nil) rfl 60 (λp i a=>C' p.1 p.2.1 i a) (λp=>p.1) (λp=>p.2.2) (St:=λp=>sx shut p.1 p.2.1) (F:=λp=>rj shut p.1 p.2.1) (λp=>rfl)
  (λm p i a k=>by kernel_rfl) (λp x=>⟨_,_,λ_=>rfl⟩) (λp N C A O w a b=>cE b (t:=51) (sl:=8) rfl λv h=>h)
def Q5:=bO (x_ shut) ar ξs 200 [Lq]
theorem Q6:a_ Q5 γ:=bQ (ak.all ya rfl) ξK rfl a8 (by kernel_rfl) ach
def AJ (l:List aj) (pid:Int):T (List aj×Int):=.bd (iB sh l) λb=>.bf (b !=0) (.ok ([],0))<|.gd (OV l pid [])<|.bd (zC sh l pid []) λa=>.ok (a.2.2,(δ.wrap ((↑l.length:Int)-(↑a.2.2.length:Int))))
def tw (l:List aj) (pid:Int):=sh.s _ (AJ sh l pid).val
def x6:=bP (db KK 151 51 35 (tw sh) (eP KK 51 3)) (x_ sh)
theorem x7:ak (x6 shut) γ:=dp (rs:=[51,3]) ya Q6 rfl rfl λl pid k=>by kernel_rfl
def Dg (a:List aj) (b c d:Int):AS SS:=⟨[(0,(vs .cT)),(2,(va 5 0)),(6,(vd 51 a)),(7,(vl a)),(8,(vi d))],[(bX 3 [(li b)]),(bX 35 [(lu 0)]),(bX 4 [(.v (.bool false))]),(some (.aD 264 [] [(.one (.an 4 0)),(.one (.an 5 0))])),(bX 51 [(.ao 51 a)]),(bX 35 [(lu c)])],6,(some ⟨⟨ξt,ar 213⟩,[15],(dT (bY ξt) 6),(dU (bY ξt) 6),[(5,(va 0 0)),(6,(va 1 0)),(7,(va 2 0)),(14,(vc 3))],none⟩),false,[],[]⟩
def O5 (a:List aj) (b c:Int):AS SS:=Dg a b c 0
def Xm (a:List aj) (b c a0:Int):AS SS:=⟨[],[(bX 3 [(li b)]),(bX 35 [(lu a0)]),(bX 4 [(.v (.bool true))]),(some (.aD 264 [] [(.one (.an 4 0)),(.one (.an 5 0))])),(bX 51 [(.ao 51 a)]),(bX 35 [(lu c)])],6,(some ⟨⟨ξt,ar 213⟩,[15],(dT (bY ξt) 6),(dU (bY ξt) 6),[(5,(va 0 0)),(6,(va 1 0)),(7,(va 2 0)),(14,(vc 3))],(some .ret)⟩),false,[],[1,2]⟩
def Xn (a:List aj) (b d:Int) (a0:Bool) (c:Int):AS SS:= {Dg a b d b with env:=[(9,(vb a0)),(0,(vs .cT)),(2,(va 5 0)),(6,(vd 51 a)),(7,(vl a)),(8,(vi c))]}
def sF (sh:Sh) (d:List aj) (b c e:Int) (z0:aj) (a:Unit):T (Unit⊕Int⊕(Bool×Int)):=.bf (z0.aa==c) (.bf (z0.bF==b) (.ok (.inr (.inl z0.cp)))<|.ok (.inl ()))<|.ok (.inl ())
def ry (sh:Sh) (c:List aj) (d e b:Int) (a:Unit):T (Int⊕(Bool×Int)):=.ok (.inr ((decide (b<(↑c.length:Int))),b))
def zP (a:List aj) (b c:Int):=b4 sh (sF sh a b c) (ry sh a b c) a ()
def Ub {R} (k:KX SS R) (a:List aj) (b c:Int) (x:Int⊕(Bool×Int)):Option R:=(λx=>θ (λv=>k .ret (Xm a b c v)) (λv=>k (.exit 0) (Xn a b c v.1 v.2)) x) x
def LF:bh SS:=bt 2 (λst=>((b9 st 3 264).bind λ_=>fQ st 22 6).bind λ_=>(ba 51 (aK st 6 0)).bind λa=>(aU (aN st 0 0)).bind λb=>(aU (aN st 5 0)).bind λc=>some (a,b,c)) (u3 O5) (u3 (zP shut)) (λk=>u3 (Ub k))
theorem acx:LS KK γ ar ξT 264 2 LF:=
 aX.b_ (ak.all x7 rfl) (aJ.nil) rfl 60 (λp i a=>u3 Dg p i) (λp=>p.1) (λp=>()) (St:=u3 (sF shut)) (F:=u3 (ry shut)) (λp=>rfl)
  (λm p i a k=>by kernel_rfl) (by rintro p (x|x)<;>exact⟨_,_,λ_=>rfl⟩) (λp N C A O w a b=>cE b (t:=51) (sl:=6) rfl λv h=>h)
def RC:=bO (x6 shut) ar ξT 264 [LF]
theorem RD:a_ RC γ:=bQ (ak.all x7 rfl) ζc rfl a8 (by kernel_rfl) acx
def A9 (l:List aj) (pid fd:Int):T (Int×Bool):=.bd (iB sh l) λb=>.bf (b !=0) (.ok (0,false))<|.gd (O5 l fd pid)<|.bd (zP sh l fd pid) λx4=>.cs x4 (λa=>.ok (a,true)) λa=>.ok (0,false)
def km (l:List aj) (pid fd:Int):=sh.s _ (A9 sh l pid fd).val
def yC:=bP (jm KK 213 51 35 3 (km sh) (eP KK 35 4)) (x6 sh)
theorem yD:ak (yC shut) γ:=lB (rs:=[35,4]) x7 RD rfl rfl λl pid fd k=>by kernel_rfl
def Db (a:List aj) (b c:Int) (d:List aj):AS SS:=⟨[(1,(vc 0)),(5,(vo 2)),(8,(vd 51 a)),(9,(vl a)),(10,(vi c))],[(some (.aD 215 [] [(.one (.an 1 0))])),(bX 35 [(lu b)]),(rX 105 d)],2,none,false,[],[]⟩
def OX (a:List aj) (b:Int) (c:List aj):AS SS:=Db a b 0 c
def W4 (a:List aj) (b:Int) (a0:Bool) (c:Int) (a2:List aj):AS SS:= {Db a b b a2 with env:=[(11,(vb a0)),(1,(vc 0)),(5,(vo 2)),(8,(vd 51 a)),(9,(vl a)),(10,(vi c))]}
def sA (sh:Sh) (d:List aj) (b e:Int) (z0:aj) (a:List aj):T (List aj⊕(Bool×Int×List aj)):=.bf (z0.cp==b) (.bd (app 24 a [z0]) λc=>.ok (.inl c))<|.ok (.inl a)
def rl (sh:Sh) (c:List aj) (d b:Int) (a:List aj):T ((Bool×Int×List aj)):=.ok ((decide (b<(↑c.length:Int))),b,a)
def zE (a:List aj) (b:Int) (c:List aj):=b4 sh (sA sh a b) (rl sh a b) a c
def TZ {R} (k:KX SS R) (a:List aj) (b:Int) (x:(Bool×Int×List aj)):Option R:=(λv=>k (.exit 0) (W4 a b v.1 v.2.1 v.2.2)) x
def Ls:bh SS:=bt 4 (λst=>(b9 st 0 215).bind λ_=>(ba 51 (aK st 8 0)).bind λa=>(aU (aN st 1 0)).bind λb=>(cd st 2 105).bind λc=>some (a,b,c)) (u3 OX) (u3 (zE shut)) (λk p=>TZ k p.1 p.2.1)
theorem acj:LS KK γ ar ξs 200 4 Ls:=
 aX.b_ (π:=List aj×Int×List aj) (σ:=List aj) (ak.all yD rfl) (aJ.nil) rfl 60 (λp i a=>Db p.1 p.2.1 i a) (λp=>p.1) (λp=>p.2.2) (St:=λp=>sA shut p.1 p.2.1) (F:=λp=>rl shut p.1 p.2.1) (λp=>rfl)
  (λm p i a k=>by kernel_rfl) (λp x=>⟨_,_,λ_=>rfl⟩) (λp N C A O w a b=>cE b (t:=51) (sl:=8) rfl λv h=>h)
def Ri:=bO (yC shut) ar ξs 200 [Ls]
theorem Rj:a_ Ri γ:=bQ (ak.all yD rfl) ξK rfl a8 (by kernel_rfl) acj
def AR (l:List aj) (bC:Int):T Int:=.bd (iB sh l) λa=>.bf (a !=0) (.ok 0)<|.gd (OX l bC [])<|.bd (zE sh l bC []) λb=>.ok ((↑b.2.2.length:Int))
def tF (l:List aj) (bC:Int):=sh.s _ (AR sh l bC).val
def yj:=bP (db KK 165 51 35 (tF sh) (cH KK 3)) (yC sh)
theorem yk:ak (yj shut) γ:=dp (rs:=[3]) yD Rj rfl rfl λl bC k=>by kernel_rfl
def Df (a:List aj) (b c d:Int) (e:List Bool):AS SS:=⟨[(0,(vs .cT)),(2,(va 3 0)),(6,(vd 51 a)),(7,(vl a)),(8,(vi d))],[(bX 267 [(.b2 8 e)]),(some (.aD 264 [] [(.one (.an 2 0)),(.one (.an 3 0))])),(bX 51 [(.ao 51 a)]),(bX 35 [(lu b)])],4,(some ⟨⟨ζd,ar 157⟩,[26],(dT (bY ζd) 9),(dU (bY ζd) 9),[(0,(vd 51 a)),(1,(vu b)),(2,(vu c)),(9,(va 0 0)),(25,(vc 1))],none⟩),false,[],[0]⟩
def O4 (a:List aj) (b c:Int) (d:List Bool):AS SS:=Df a b c 0 d
def Xl (a:List aj) (b d:Int) (a0:Bool) (c:Int) (a2:List Bool):AS SS:= {Df a b d b a2 with env:=[(9,(vb a0)),(0,(vs .cT)),(2,(va 3 0)),(6,(vd 51 a)),(7,(vl a)),(8,(vi c))]}
def sE (sh:Sh) (d:List aj) (b e f:Int) (z0:aj) (a:List Bool):T (List Bool⊕(Bool×Int×List Bool)):=.bf (z0.aa==b) (.bd (c' z0.bF 8) λc=>.bf (a.length.beq 8) (.ok (.inl (a.set c true)))<|.no)<|.ok (.inl a)
def oB (sh:Sh) (c:List aj) (d e b:Int) (a:List Bool):T ((Bool×Int×List Bool)):=.ok ((decide (b<(↑c.length:Int))),b,a)
def zO (a:List aj) (b c:Int) (d:List Bool):=b4 sh (sE sh a b c) (oB sh a b c) a d
def Ua {R} (k:KX SS R) (a:List aj) (b c:Int) (x:(Bool×Int×List Bool)):Option R:=(λv=>k (.exit 0) (Xl a b c v.1 v.2.1 v.2.2)) x
def LD:bh SS:=gm (λst=>gc (ar 264 2) (d' [0] (ik 0 (st))))<|bt 2 (λst=>((b9 st 1 264).bind λ_=>fQ st 61 9).bind λ_=>(ba 51 (aK st 6 0)).bind λa=>(aU (aN st 3 0)).bind λb=>(aU (lpL st 2 0)).bind λc=>(kj (aN st 0 0)).bind λd=>some (a,b,c,d)) (u4 O4) (u4 (zO shut)) (λk p=>Ua k p.1 p.2.1 p.2.2.1)
theorem acw:LS KK γ ar ξT 264 2 LD:=aX.pre (bT.comp (bT.gc (ar 264 2)) (bT.comp (bT.d' [0]) (bT.ik 0)))<|
 aX.b_ (π:=List aj×Int×Int×List Bool) (σ:=List Bool) (ak.all yk rfl) (aJ.nil) rfl 60 (λp i a=>Df p.1 p.2.1 p.2.2.1 i a) (λp=>p.1) (λp=>p.2.2.2) (St:=λp=>sE shut p.1 p.2.1 p.2.2.1) (F:=λp=>oB shut p.1 p.2.1 p.2.2.1) (λp=>rfl)
  (λm p i a k=>by kernel_rfl) (λp x=>⟨_,_,λ_=>rfl⟩) (λp N C A O w a b=>cE b (t:=51) (sl:=6) rfl λv h=>h)
def p7 (a:List Bool) (b:Int):AS SS:=⟨[(0,(vs (.fC 0 0 8))),(1,(vb false)),(7,(vi 8)),(8,(vi b))],[(bX 267 [(.b2 8 a)])],1,none,false,[],[]⟩
def W6 (a:List Bool) (a0:Int):AS SS:= {p7 a a0 with env:=[(4,(vi a0))]}
def W7 (b:List Bool) (a0:Bool) (a:Int):AS SS:=xe [(9,(vb a0))] (p7 b a)
def oX (sh:Sh) (b:List Bool) (a:Int):T (Int⊕Int⊕(Bool×Int)):=.bf (decide (a<8)) (.bd (c' a 8) λz0=>.bf (false==cn b z0) (.ok (.inr (.inl a)))<|.ok (.inl (δ.wrap (a+1))))<|.ok (.inr (.inr ((decide (a<8)),a)))
def zG (a:List Bool) (b:Int):=bM sh (oX sh a) 1000000 b
def T1 {R} (k:KX SS R) (a:List Bool) (x:Int⊕(Bool×Int)):Option R:=(λx=>θ (λv=>k .ret (W6 a v)) (λv=>k (.exit 0) (W7 a v.1 v.2)) x) x
def Lu:bh SS:=bt 3 (λst=>(kj (aN st 0 0)).bind λa=>(aU (aK st 8 0)).bind λb=>some (a,b)) (u2 p7) (u2 (zG shut)) (λk p=>T1 k p.1)
def GG:=bO (yj shut) ar ξT 264 [LD]
theorem GH:a_ GG γ:=bQ (ak.all yk rfl) ζc rfl a8 (by kernel_rfl) acw
theorem acm:LS KK γ ar Tryz.f210 210 3 Lu:=
 aX.bM (π:=List Bool×Int) (σ:=Int) GH (aJ.nil) rfl 60 (λp a=>p7 p.1 a) (λp=>p.2) (St:=λp=>oX shut p.1) (λp=>1000000) (λp=>rfl)
  (λm p a k=>by kernel_rfl)
def ui (a:List aj) (b c d e f g:Int):AS SS:=⟨[(0,(vo 0)),(2,(vs (.v (.func (.func 103) (.mk []) (.mk []))))),(4,(va 1 0)),(8,(vi e)),(9,(vi g)),(10,(vi f))],[(rX 105 a),(bX 105 [(lu b),(li c),(lu d)])],1,none,false,[],[]⟩
def W8 (d:List aj) (a e f c:Int) (a0:Bool) (b a2:Int):AS SS:= {ui d a e f c a a with env:=[(17,(vb a0)),(16,(vi b)),(15,(vi a2)),(0,(vo 0)),(2,(vs (.v (.func (.func 103) (.mk []) (.mk []))))),(4,(va 1 0)),(8,(vi c)),(9,(vi a2)),(10,(vi b))]}
def oY (b:List aj) (c d e h:Int) (a:Int×Int):T ((Int×Int)⊕(Bool×Int×Int)):=.bf (decide (a.1<a.2)) (.bd (idx b (δ.wrap ((ζ.wrap (δ.wrap (a.1+a.2))).fdiv 2))) λz0=>.bd (b[(δ.wrap ((ζ.wrap (δ.wrap (a.1+a.2))).fdiv 2)).toNat]?) λg=>.bd (pK sh g (aj.mk c d e)) λf=>.bf (decide (f<0)) (.ok (.inl ((δ.wrap (δ.wrap ((ζ.wrap (δ.wrap (a.1+a.2))).fdiv 2)+1)),a.2)))<|.ok (.inl (a.1,(δ.wrap ((ζ.wrap (δ.wrap (a.1+a.2))).fdiv 2)))))<|.ok (.inr ((decide (a.1<a.2)),a.2,a.1))
def zH (a:List aj) (b c d e f g:Int):=bM sh (oY sh a b c d e) 1000000 (g,f)
def T2 {R} (k:KX SS R) (a:List aj) (b c d e:Int) (x:(Bool×Int×Int)):Option R:=(λv=>k (.exit 0) (W8 a b c d e v.1 v.2.1 v.2.2)) x
def Lv:bh SS:=bt 4 (λst=>(cd st 0 105).bind λa=>(aU (aN st 1 0)).bind λb=>(aU (aN st 1 1)).bind λc=>(aU (aN st 1 2)).bind λd=>(aU (aK st 8 0)).bind λe=>(aU (aK st 10 0)).bind λf=>(aU (aK st 9 0)).bind λg=>some (a,b,c,d,e,f,g)) (u7 ui) (u7 (zH shut)) (λk p=>T2 k p.1 p.2.1 p.2.2.1 p.2.2.2.1 p.2.2.2.2.1)
def GI:=bO GG ar Tryz.f210 210 [Lu]
theorem GJ:a_ GI γ:=bQ GH Tryz.func210 rfl a8 (by kernel_rfl) acm
theorem acn:LS KK γ ar Tryz.f211 211 4 Lv:=
 aX.bM (π:=List aj×Int×Int×Int×Int×Int×Int) (σ:=Int×Int) GJ (aJ.nil) rfl 60 (λp a=>ui p.1 p.2.1 p.2.2.1 p.2.2.2.1 p.2.2.2.2.1 a.2 a.1) (λp=>(p.2.2.2.2.2.2,p.2.2.2.2.2.1)) (St:=λp=>oY shut p.1 p.2.1 p.2.2.1 p.2.2.2.1 p.2.2.2.2.1) (λp=>1000000) (λp=>rfl)
  (λm p a k=>by kernel_rfl)
def Q':=bO GI ar Tryz.f211 211 [Lv]
theorem Ra:a_ Q' γ:=bQ GJ Tryz.func211 rfl a8 (by kernel_rfl) acn
def AM (l:List aj) (pid bC:Int):T (List aj×Int×Int):=.bd (iB sh l) λe=>.bf (e !=0) (.ok ([],0,330))<|.bf (decide (pid>=4294967296)) (.ok ([],0,2))<|.gd (O4 l pid bC [false,false,false,false,false,false,false,false])<|.bd (zO sh l pid bC [false,false,false,false,false,false,false,false]) λc=>.gd (p7 c.2.2 0)<|.bd (zG sh c.2.2 0) λd=>.cs d (λa=>.bf (decide (a<0)) (.ok ([],0,6))<|.bf ((↑l.length:Int)==64) (.ok ([],0,6))<|.bd (h4 24 ((↑l.length:Int)) ((↑l.length:Int)) (aj.mk 0 0 0)) λz3=>.gd (ui (c3 z3 l) pid a bC ((↑(c3 z3 l).length:Int)) ((↑(c3 z3 l).length:Int)) 0)<|.bd (zH sh (c3 z3 l) pid a bC ((↑(c3 z3 l).length:Int)) ((↑(c3 z3 l).length:Int)) 0) λb=>.bf (decide (b.2.2<(↑(c3 z3 l).length:Int))) (.bd (idx (c3 z3 l) b.2.2) λz5=>.bd ((c3 z3 l)[b.2.2.toNat]?) λf=>.bd (pK sh f (aj.mk pid a bC)) λh=>.bd (nz (c3 z3 l) b.2.2 [aj.mk pid a bC]) λg=>.ok (g,a,0))<|.bd (nz (c3 z3 l) b.2.2 [aj.mk pid a bC]) λz5=>.ok (z5,a,0)) λa=>.ok ([],0,6)
def pM (l:List aj) (pid bC:Int):=sh.s _ (AM sh l pid bC).val
def Hv:=bP (jm KK 157 51 35 35 (pM sh) (nF KK 51 3 27)) (yj sh)
theorem Hw:ak (Hv shut) γ:=lB (rs:=[51,3,27]) yk Ra rfl rfl λl pid bC k=>by kernel_rfl
def AO (l:List aj) (pid fd:Int):T (List aj×Int×Int):=.bd (iB sh l) λc=>.bf (c !=0) (.ok ([],0,330))<|.bf (decide (pid>=4294967296)) (.ok ([],0,2))<|.bd (km sh l pid fd) λb=>.bf (!b.2) (.ok ([],0,4))<|.bd (pM sh l pid b.1) λa=>.ok (a.1,a.2.1,a.2.2)
def tC (l:List aj) (pid fd:Int):=sh.s _ (AO sh l pid fd).val
def yd:=bP (jm KK 161 51 35 3 (tC sh) (nF KK 51 3 27)) (Hv sh)
theorem ye:ak (yd shut) γ:=lB (rs:=[51,3,27]) Hw (ak.all Hw rfl) rfl rfl λl pid fd k=>by kernel_rfl
def Da (a:List aj) (b c d e:Int) (f:List aj):AS SS:=⟨[(1,(vc 1)),(5,(vo 3)),(8,(vo 0)),(9,(vl a)),(10,(vi e))],[(rX 105 a),(some (.aD 214 [] [(.one (.an 2 0))])),(bX 105 [(lu b),(li c),(lu d)]),(rX 105 f)],3,none,false,[],[]⟩
def OW (a:List aj) (b c d:Int) (e:List aj):AS SS:=Da a b c d 0 e
def W3 (a:List aj) (b d e:Int) (a0:Bool) (c:Int) (a2:List aj):AS SS:= {Da a b d e b a2 with env:=[(11,(vb a0)),(1,(vc 1)),(5,(vo 3)),(8,(vo 0)),(9,(vl a)),(10,(vi c))]}
def sy (sh:Sh) (c:List aj) (d e f g:Int) (z0:aj) (a:List aj):T (List aj⊕(Bool×Int×List aj)):=.bd (c[g.toNat]?) λb=>.bf (!hB b (aj.mk d e f)) (.bd (app 24 a [b]) λz2=>.ok (.inl z2))<|.ok (.inl a)
def rk (sh:Sh) (c:List aj) (d e f b:Int) (a:List aj):T ((Bool×Int×List aj)):=.ok ((decide (b<(↑c.length:Int))),b,a)
def zD (a:List aj) (b c d:Int) (e:List aj):=b4 sh (sy sh a b c d) (rk sh a b c d) a e
def TY {R} (k:KX SS R) (a:List aj) (b c d:Int) (x:(Bool×Int×List aj)):Option R:=(λv=>k (.exit 0) (W3 a b c d v.1 v.2.1 v.2.2)) x
def Lr:bh SS:=bt 4 (λst=>(b9 st 1 214).bind λ_=>(cd st 0 105).bind λa=>(aU (aN st 2 0)).bind λb=>(aU (aN st 2 1)).bind λc=>(aU (aN st 2 2)).bind λd=>(cd st 3 105).bind λe=>some (a,b,c,d,e)) (u5 OW) (u5 (zD shut)) (λk p=>TY k p.1 p.2.1 p.2.2.1 p.2.2.2.1)
theorem aci:LS KK γ ar ξs 200 4 Lr:=
 aX.b_ (π:=List aj×Int×Int×Int×List aj) (σ:=List aj) (ak.all ye rfl) (aJ.nil) rfl 60 (λp i a=>Da p.1 p.2.1 p.2.2.1 p.2.2.2.1 i a) (λp=>p.1) (λp=>p.2.2.2.2) (St:=λp=>sy shut p.1 p.2.1 p.2.2.1 p.2.2.2.1) (F:=λp=>rk shut p.1 p.2.1 p.2.2.1 p.2.2.2.1) (λp=>rfl)
  (λm p i a k=>by kernel_rfl) (λp x=>⟨_,_,λ_=>rfl⟩) (λp N C A O w a b=>lR (j:=0) b rfl)
def ud (b:Int) (a:Γa) (c:List aj) (d:Bool) (e:Int):AS SS:=⟨[(1,(vu b)),(9,(vo 0)),(10,(vb d)),(23,(vd 31 a)),(24,(vl a)),(25,(vi e))],[(rX 105 c)],0,none,false,[],[]⟩
def OQ (a:Int) (b:Γa) (c:List aj) (d:Bool):AS SS:=ud a b c d 0
def WI (b:Int) (c:Γa) (a0 a:Bool) (a2 a3:Int) (a4 a5:Bool) (d:Int) (e:List aj):AS SS:= {ud b c e a0 b with env:=[(38,(vb a0)),(37,(vb a)),(10,(vb a)),(36,(vb a)),(14,(vb a)),(13,(vu a2)),(35,(vb a)),(34,(vu a2)),(29,(.br [(.one (lu a2)),(.one (.v (.bool a)))])),(33,(.br [(.one (lu a2)),(.one (.v (.bool a)))])),(32,(vi a3)),(31,(vu b)),(30,(vo 0)),(12,(vi a3)),(28,(vi a3)),(27,(vs (.ptr 3 a3 0))),(26,(vb a4)),(1,(vu b)),(9,(vo 0)),(10,(vb a5)),(23,(vd 31 c)),(24,(vl c)),(25,(vi d))]}
def WJ (a:Int) (b:Γa) (a0 c:Bool) (a2:Int) (a3:List aj):AS SS:= {ud a b a3 a0 a with env:=[(26,(vb a0)),(1,(vu a)),(9,(vo 0)),(10,(vb c)),(23,(vd 31 b)),(24,(vl b)),(25,(vi a2))]}
def so (c:Int) (e:Γa) (d z0:Int) (a:Bool×List aj):T ((Bool×List aj)⊕(Bool×Bool×Int×Int×Bool×Bool×Int×List aj)⊕(Bool×Bool×Int×List aj)):=.bd (km sh a.2 c z0) λb=>.bf (!b.2) (.ok (.inr (.inl (!b.2,b.2,b.1,z0,(decide (d<(↑e.length:Int))),a.1,d,a.2))))<|.gd (OW a.2 c z0 b.1 [])<|.bd (zD sh a.2 c z0 b.1 []) λf=>.ok (.inl (b.2,f.2.2))
def xt (sh:Sh) (d:Int) (c:Γa) (b:Int) (a:Bool×List aj):T ((Bool×Bool×Int×Int×Bool×Bool×Int×List aj)⊕(Bool×Bool×Int×List aj)):=.ok (.inr ((decide (b<(↑c.length:Int))),a.1,b,a.2))
def zt (b:Int) (a:Γa) (c:List aj) (d:Bool):=b4 sh (so sh b a) (xt sh b a) a (d,c)
def TL {R} (k:KX SS R) (a:Int) (b:Γa) (x:(Bool×Bool×Int×Int×Bool×Bool×Int×List aj)⊕(Bool×Bool×Int×List aj)):Option R:=(λx=>θ (λv=>k (.exit 0) (WI a b v.1 v.2.1 v.2.2.1 v.2.2.2.1 v.2.2.2.2.1 v.2.2.2.2.2.1 v.2.2.2.2.2.2.1 v.2.2.2.2.2.2.2)) (λv=>k (.exit 0) (WJ a b v.1 v.2.1 v.2.2.1 v.2.2.2)) x) x
def Ll:bh SS:=bt 8 (λst=>(aU (aK st 1 0)).bind λa=>(ba 31 (aK st 23 0)).bind λb=>(cd st 0 105).bind λc=>(iz (aK st 10 0)).bind λd=>some (a,b,c,d)) (u4 OQ) (u4 (zt shut)) (λk p=>TL k p.1 p.2.1)
def GK:=bO (yd shut) ar ξs 200 [Lr]
theorem GL:a_ GK γ:=bQ (ak.all ye rfl) ξK rfl a8 (by kernel_rfl) aci
theorem aca:LS KK γ ar Tryz.f159 159 8 Ll:=
 aX.b_ (π:=Int×Γa×List aj×Bool) (σ:=Bool×List aj) GL (aJ.nil) rfl 60 (λp i a=>ud p.1 p.2.1 a.2 a.1 i) (λp=>p.2.1) (λp=>(p.2.2.2,p.2.2.1)) (St:=λp=>so shut p.1 p.2.1) (F:=λp=>xt shut p.1 p.2.1) (λp=>rfl)
  (λm p i a k=>by kernel_rfl) (by rintro p (x|x)<;>exact⟨_,_,λ_=>rfl⟩) (λp N C A O w a b=>cE b (t:=31) (sl:=23) rfl λv h=>h)
def Rb:=bO GK ar Tryz.f159 159 [Ll]
theorem Rc:a_ Rb γ:=bQ GL Tryz.func159 rfl a8 (by kernel_rfl) aca
def AN (l:List aj) (pid:Int) (fds:Γa):T (List aj×Int):=.bd (iB sh l) λb=>.bf (b !=0) (.ok ([],b))<|.bd (app 24 [] l) λc=>.gd (OQ pid fds c true)<|.bd (zt sh pid fds c true) λx5=>.cs x5 (λa=>.bf (!a.2.1) (.ok ([],4))<|.ok (a.2.2.2.2.2.2.2,0)) λa=>.bf (!a.2.1) (.ok ([],4))<|.ok (a.2.2.2,0)
def tB (l:List aj) (pid:Int) (fds:Γa):=sh.s _ (AN sh l pid fds).val
def Hx:=bP (jm KK 159 51 35 31 (tB sh) (eP KK 51 27)) (yd sh)
theorem Hy:ak (Hx shut) γ:=lB (rs:=[51,27]) ye Rc rfl rfl λl pid fds k=>by kernel_rfl
def A7 (m:bR) (w:Int):T Int:=.bd (pR sh m) λa=>.bf (a !=0) (.ok a)<|.bd (pL sh w) λb=>.ok b
def nh (m:bR) (w:Int):=sh.s _ (A7 sh m w).val
def yy:=bP (db KK 206 54 35 (nh sh) (cH KK 27)) (Hx sh)
theorem yz:ak (yy shut) γ:=dp (rs:=[27]) Hy (ak.all Hy rfl) rfl rfl λm w k=>by kernel_rfl
def uh (a:List ByteArray) (b c:Int) (d:Γa):AS SS:=⟨[(4,(va 0 0)),(6,(vo 1)),(7,(vi c))],[(bX 195 [(.ao 192 a),(lu b)]),(rX 35 d)],0,none,false,[],[]⟩
def W5 (c:List ByteArray) (b:Int) (a0:Bool) (a:Int) (a2:Γa):AS SS:= {uh c b b a2 with env:=[(21,(vb a0)),(20,(vi a)),(4,(va 0 0)),(6,(vo 1)),(7,(vi a))]}
def mG (b:List ByteArray) (d:Int) (a:Int×Γa):T ((Int×Γa)⊕(Bool×Int×Γa)):=.bf (decide (a.1>=0)) (.bd (ep b none (some a.1) (some a.1)) λz0=>.bd (jy sh z0) λc=>.bd (app 8 a.2 [c.1]) λz2=>.ok (.inl ((δ.wrap (a.1-1)),z2)))<|.ok (.inr ((decide (a.1>=0)),a.1,a.2))
def zF (a:List ByteArray) (b c:Int) (d:Γa):=bM sh (mG sh a b) 1000000 (c,d)
def T0 {R} (k:KX SS R) (a:List ByteArray) (b:Int) (x:(Bool×Int×Γa)):Option R:=(λv=>k (.exit 0) (W5 a b v.1 v.2.1 v.2.2)) x
def Lt:bh SS:=bt 7 (λst=>(ba 192 (aN st 0 0)).bind λa=>(aU (aN st 0 1)).bind λb=>(aU (aK st 7 0)).bind λc=>(cd st 1 35).bind λd=>some (a,b,c,d)) (u4 uh) (u4 (zF shut)) (λk p=>T0 k p.1 p.2.1)
theorem ack:LS KK γ ar Tryz.f207 207 7 Lt:=
 aX.bM (π:=List ByteArray×Int×Int×Γa) (σ:=Int×Γa) (ak.all yz rfl) (aJ.nil) rfl 60 (λp a=>uh p.1 p.2.1 a.1 a.2) (λp=>(p.2.2.1,p.2.2.2)) (St:=λp=>mG shut p.1 p.2.1) (λp=>1000000) (λp=>rfl)
  (λm p a k=>by kernel_rfl)
def RA:=bO (yy shut) ar Tryz.f207 207 [Lt]
theorem RB:a_ RA γ:=bQ (ak.all yz rfl) Tryz.func207 rfl a8 (by kernel_rfl) ack
def A8 (w:Int):T (Γa×Int):=.bd (lF sh w) λa=>.bf (!a.2) (.ok ([],310))<|.gd (uh a.1.gD a.1.pY (↑a.1.gD.length:Int) [])<|.bd (zF sh a.1.gD a.1.pY ((↑a.1.gD.length:Int)) []) λb=>.ok (b.2.2,0)
def Cv (w:Int):=sh.s _ (A8 sh w).val
def yA:=bP (dS KK 207 35 (Cv sh) (eP KK 130 27)) (yy sh)
theorem yB:ak (yA shut) γ:=eo (rs:=[130,27]) yz RB rfl rfl λw k=>by kernel_rfl
def uz (a b:List ByteArray) (c:Int):AS SS:=⟨[(0,(vd 192 a)),(1,(vd 192 b)),(12,(vl a)),(13,(vi c))],[],0,none,false,[],[]⟩
def O8 (a b:List ByteArray):AS SS:=uz a b 0
def Xw (a b:List ByteArray):AS SS:= {uz a b 0 with env:=[(4,(vb false))]}
def Xx (b c:List ByteArray) (a0:Bool) (a:Int):AS SS:=xe [(14,(vb a0))] (uz b c a)
def sI (sh:Sh) (e b:List ByteArray) (c:Int) (z0:ByteArray) (a:Unit):T (Unit⊕Unit⊕(Bool×Int)):=.bd (idx b c) λd=>.bf (!ByteArray.toList z0==ByteArray.toList d) (.ok (.inr (.inl ())))<|.ok (.inl ())
def rB (sh:Sh) (c d:List ByteArray) (b:Int) (a:Unit):T (Unit⊕(Bool×Int)):=.ok (.inr ((decide (b<(↑c.length:Int))),b))
def zW (a b:List ByteArray):=b4 sh (sI sh a b) (rB sh a b) a ()
def Ui {R} (k:KX SS R) (a b:List ByteArray) (x:Unit⊕(Bool×Int)):Option R:=(λx=>θ (λv=>k .ret (Xw a b)) (λv=>k (.exit 0) (Xx a b v.1 v.2)) x) x
def LM:bh SS:=bt 5 (λst=>(ba 192 (aK st 0 0)).bind λa=>(ba 192 (aK st 1 0)).bind λb=>some (a,b)) (u2 O8) (u2 (zW shut)) (λk=>u2 (Ui k))
theorem acE:LS KK γ ar Tryz.f312 312 5 LM:=
 aX.b_ (ak.all yB rfl) (aJ.nil) rfl 60 (λp i a=>u2 uz p i) (λp=>p.1) (λp=>()) (St:=u2 (sI shut)) (F:=u2 (rB shut)) (λp=>rfl)
  (λm p i a k=>by kernel_rfl) (by rintro p (x|x)<;>exact⟨_,_,λ_=>rfl⟩) (λp N C A O w a b=>cE b (t:=192) (sl:=0) rfl λv h=>h)
def RJ:=bO (yA shut) ar Tryz.f312 312 [LM]
theorem RK:a_ RJ γ:=bQ (ak.all yB rfl) Tryz.func312 rfl a8 (by kernel_rfl) acE
def A_ (a b:Int):T Bool:=.bd (lF sh a) λc=>.bd (lF sh b) λd=>.bf (c.2) (.bf (d.2) (.bf (decide ((↑c.1.gD.length:Int)<=(↑d.1.gD.length:Int))) (.bd (ep d.1.gD none (some (↑c.1.gD.length:Int)) none) λz2=>.bf ((↑c.1.gD.length:Int) !=(↑z2.length:Int)) (.ok false)<|.gd (O8 c.1.gD z2)<|.bd (zW sh c.1.gD z2) λe=>.cs e (λ_=>.ok false) λf=>.ok true)<|.ok false)<|.ok false)<|.ok false
def Cw (a b:Int):=sh.s _ (A_ sh a b).val
def yH:=bP (db KK 268 35 35 (Cw sh) (cH KK 4)) (yA sh)
theorem yI:ak (yH shut) γ:=dp (rs:=[4]) yB RK rfl rfl λa b k=>by kernel_rfl
def CZ (a:List av) (b:Int) (c:Γc):AS SS:=⟨[(3,(vs (.mp 0))),(8,(vd 52 a)),(9,(vl a)),(10,(vi b))],[(some (.map .u64 .u64 c))],0,none,false,[],[]⟩
def OF (a:List av) (b:Γc):AS SS:=CZ a 0 b
def V6 (b:List av) (a0:Bool) (a:Int) (a2:Γc):AS SS:=xe [(11,(vb a0))] (CZ b a a2)
def Ij (sh:Sh) (b:List av) (c:Int) (z0:av) (a:(Γc)):T (((Γc))⊕(Bool×Int×(Γc))):=.ok (.inl (ck a z0.bl z0.a6))
def xl (sh:Sh) (c:List av) (b:Int) (a:(Γc)):T ((Bool×Int×(Γc))):=.ok ((decide (b<(↑c.length:Int))),b,a)
def zf (a:List av) (b:Γc):Option ((Bool×Int×(Γc))):=b4 sh (Ij sh a) (xl sh a) a b
def Tn {R} (k:KX SS R) (a:List av) (x:(Bool×Int×(Γc))):Option R:=(λv=>k (.exit 0) (V6 a v.1 v.2.1 v.2.2)) x
def K5:bh SS:=bt 4 (λst=>(ba 52 (aK st 8 0)).bind λa=>(gE st 0).bind λb=>some (a,b)) (u2 OF) (u2 (zf shut)) (λk p=>Tn k p.1)
theorem abV:LS KK γ ar ξc 105 4 K5:=
 aX.b_ (π:=List av×(Γc)) (σ:=(Γc)) (ak.all yI rfl) (aJ.nil) rfl 60 (λp i a=>CZ p.1 i a) (λp=>p.1) (λp=>p.2) (St:=λp=>Ij shut p.1) (F:=λp=>xl shut p.1) (λp=>rfl)
  (λm p i a k=>by kernel_rfl) (λp x=>⟨_,_,λ_=>rfl⟩) (λp N C A O w a b=>cE b (t:=52) (sl:=8) rfl λv h=>h)
def Re:=bO (yH shut) ar ξc 105 [K5]
theorem Rf:a_ Re γ:=bQ (ak.all yI rfl) ξl rfl a8 (by kernel_rfl) abV
def AP (m:bR) (w:Int):T (bR×Int×Int):=
 .bd (nh sh m w) λa=>
  .bf (a !=0) (
   .ok (⟨[],0⟩,0,a))<|
  .gd (OF m.ag [])<|
   .bd (zf sh m.ag []) λb=>
    .bf (match bD b.2.2 w with
|some val=>true
|none=>false) (
     .ok (⟨[],0⟩,0,5))<|
    .bf ((↑m.ag.length:Int)==16) (
     .ok (⟨[],0⟩,0,6))<|
    .bf (decide (m.bm>1073741824)) (
     .ok (⟨[],0⟩,0,6))<|
    .bd (h4 16 ((↑m.ag.length:Int)) (δ.wrap ((↑m.ag.length:Int)+1)) (av.mk 0 0)) λz2=>
     .bd (app 16 (c3 z2 m.ag) [av.mk w m.bm]) λz3=>
      .ok (⟨z3,(ζ.wrap (m.bm+1))⟩,m.bm,0)
def tD (m:bR) (w:Int):=sh.s _ (AP sh m w).val
def yf:=bP (db KK 162 54 35 (tD sh) (nF KK 54 35 27)) (yH sh)
theorem yg:ak (yf shut) γ:=dp (rs:=[54,35,27]) yI Rf rfl rfl λm w k=>by kernel_rfl
def C0 (a:List av) (b:Int) (c:Γc):AS SS:=⟨[(3,(vs (.mp 0))),(8,(vd 52 a)),(9,(vl a)),(10,(vi b))],[(some (.map .u64 .u64 c))],0,none,false,[],[]⟩
def OG (a:List av) (b:Γc):AS SS:=C0 a 0 b
def V7 (b:List av) (a0:Bool) (a:Int) (a2:Γc):AS SS:=xe [(11,(vb a0))] (C0 b a a2)
def Ik (sh:Sh) (b:List av) (c:Int) (z0:av) (a:(Γc)):T (((Γc))⊕(Bool×Int×(Γc))):=.ok (.inl (ck a z0.bl z0.a6))
def xm (sh:Sh) (c:List av) (b:Int) (a:(Γc)):T ((Bool×Int×(Γc))):=.ok ((decide (b<(↑c.length:Int))),b,a)
def zg (a:List av) (b:Γc):Option ((Bool×Int×(Γc))):=b4 sh (Ik sh a) (xm sh a) a b
def To {R} (k:KX SS R) (a:List av) (x:(Bool×Int×(Γc))):Option R:=(λv=>k (.exit 0) (V7 a v.1 v.2.1 v.2.2)) x
def K6:bh SS:=bt 4 (λst=>(ba 52 (aK st 8 0)).bind λa=>(gE st 0).bind λb=>some (a,b)) (u2 OG) (u2 (zg shut)) (λk p=>To k p.1)
theorem abW:LS KK γ ar ξc 105 4 K6:=
 aX.b_ (π:=List av×(Γc)) (σ:=(Γc)) (ak.all yg rfl) (aJ.nil) rfl 60 (λp i a=>C0 p.1 i a) (λp=>p.1) (λp=>p.2) (St:=λp=>Ik shut p.1) (F:=λp=>xm shut p.1) (λp=>rfl)
  (λm p i a k=>by kernel_rfl) (λp x=>⟨_,_,λ_=>rfl⟩) (λp N C A O w a b=>cE b (t:=52) (sl:=8) rfl λv h=>h)
def Rg:=bO (yf shut) ar ξc 105 [K6]
theorem Rh:a_ Rg γ:=bQ (ak.all yg rfl) ξl rfl a8 (by kernel_rfl) abW
def AQ (m:bR) (w:Int):T (Int×Int):=
 .bd (nh sh m w) λa=>
  .bf (a !=0) (
   .ok (0,a))<|
  .gd (OG m.ag [])<|
   .bd (zg sh m.ag []) λb=>
    .bf (!match bD b.2.2 w with
 |some val=>true
 |none=>false) (
     .ok (0,4))<|
    .ok ((match bD b.2.2 w with
|some x=>x
|none=>0),0)
def tE (m:bR) (w:Int):=sh.s _ (AQ sh m w).val
def yh:=bP (db KK 164 54 35 (tE sh) (eP KK 35 27)) (yf sh)
theorem yi:ak (yh shut) γ:=dp (rs:=[35,27]) yg Rh rfl rfl λm w k=>by kernel_rfl
def C1 (a:List av) (b:Int) (c:Γc):AS SS:=⟨[(3,(vs (.mp 0))),(8,(vd 52 a)),(9,(vl a)),(10,(vi b))],[(some (.map .u64 .u64 c))],0,none,false,[],[]⟩
def OH (a:List av) (b:Γc):AS SS:=C1 a 0 b
def V8 (b:List av) (a0:Bool) (a:Int) (a2:Γc):AS SS:=xe [(11,(vb a0))] (C1 b a a2)
def Il (sh:Sh) (b:List av) (c:Int) (z0:av) (a:(Γc)):T (((Γc))⊕(Bool×Int×(Γc))):=.ok (.inl (ck a z0.bl z0.a6))
def xn (sh:Sh) (c:List av) (b:Int) (a:(Γc)):T ((Bool×Int×(Γc))):=.ok ((decide (b<(↑c.length:Int))),b,a)
def zh (a:List av) (b:Γc):Option ((Bool×Int×(Γc))):=b4 sh (Il sh a) (xn sh a) a b
def Tp {R} (k:KX SS R) (a:List av) (x:(Bool×Int×(Γc))):Option R:=(λv=>k (.exit 0) (V8 a v.1 v.2.1 v.2.2)) x
def K7:bh SS:=bt 4 (λst=>(ba 52 (aK st 8 0)).bind λa=>(gE st 0).bind λb=>some (a,b)) (u2 OH) (u2 (zh shut)) (λk p=>Tp k p.1)
theorem abX:LS KK γ ar ξc 105 4 K7:=
 aX.b_ (π:=List av×(Γc)) (σ:=(Γc)) (ak.all yi rfl) (aJ.nil) rfl 60 (λp i a=>C1 p.1 i a) (λp=>p.1) (λp=>p.2) (St:=λp=>Il shut p.1) (F:=λp=>xn shut p.1) (λp=>rfl)
  (λm p i a k=>by kernel_rfl) (λp x=>⟨_,_,λ_=>rfl⟩) (λp N C A O w a b=>cE b (t:=52) (sl:=8) rfl λv h=>h)
def Dh (a:List av) (b c d:Int):AS SS:=⟨[(0,(vs .cT)),(2,(va 6 0)),(7,(vd 52 a)),(8,(vl a)),(9,(vi d))],[(bX 54 [(.ao 52 a),(lu b)]),(bX 35 [(lu c)]),(bX 54 [(.v (.slice none 0 0)),(lu 0)]),(bX 27 [(li 0)]),(some (.aD 267 [] [(.one (.an 5 0)),(.one (.an 6 0))])),(bX 54 [(.ao 52 a),(lu b)]),(bX 35 [(lu c)])],7,(some ⟨⟨ξu,ar 166⟩,[29],(dT (bY ξu) 9),(dU (bY ξu) 9),[(2,(va 0 0)),(3,(va 1 0)),(4,(va 2 0)),(5,(va 3 0)),(28,(vc 4))],none⟩),false,[],[]⟩
def O6 (a:List av) (b c:Int):AS SS:=Dh a b c 0
def Xo (a:List av) (b c:Int):AS SS:=⟨[],[(bX 54 [(.ao 52 a),(lu b)]),(bX 35 [(lu c)]),(bX 54 [(.v (.slice none 0 0)),(lu 0)]),(bX 27 [(li 341)]),(some (.aD 267 [] [(.one (.an 5 0)),(.one (.an 6 0))])),(bX 54 [(.ao 52 a),(lu b)]),(bX 35 [(lu c)])],7,(some ⟨⟨ξu,ar 166⟩,[29],(dT (bY ξu) 9),(dU (bY ξu) 9),[(2,(va 0 0)),(3,(va 1 0)),(4,(va 2 0)),(5,(va 3 0)),(28,(vc 4))],(some .ret)⟩),false,[],[2,3]⟩
def Xp (a:List av) (b d:Int) (a0:Bool) (c:Int):AS SS:= {Dh a b d b with env:=[(10,(vb a0)),(0,(vs .cT)),(2,(va 6 0)),(7,(vd 52 a)),(8,(vl a)),(9,(vi c))]}
def sG (d:List av) (e b f:Int) (z0:av) (a:Unit):T (Unit⊕Unit⊕(Bool×Int)):=.bf (z0.bl !=b) (.bd (Cw sh b z0.bl) λc=>.bf (c) (.ok (.inr (.inl ())))<|.ok (.inl ()))<|.ok (.inl ())
def rz (sh:Sh) (c:List av) (d e b:Int) (a:Unit):T (Unit⊕(Bool×Int)):=.ok (.inr ((decide (b<(↑c.length:Int))),b))
def zQ (a:List av) (b c:Int):=b4 sh (sG sh a b c) (rz sh a b c) a ()
def Uc {R} (k:KX SS R) (a:List av) (b c:Int) (x:Unit⊕(Bool×Int)):Option R:=(λx=>θ (λv=>k .ret (Xo a b c)) (λv=>k (.exit 0) (Xp a b c v.1 v.2)) x) x
def LG:bh SS:=bt 2 (λst=>((b9 st 4 267).bind λ_=>fQ st 38 9).bind λ_=>(ba 52 (aK st 7 0)).bind λa=>(aU (aN st 0 1)).bind λb=>(aU (aN st 1 0)).bind λc=>some (a,b,c)) (u3 O6) (u3 (zQ shut)) (λk=>u3 (Uc k))
def GM:=bO (yh shut) ar ξc 105 [K7]
theorem GN:a_ GM γ:=bQ (ak.all yi rfl) ξl rfl a8 (by kernel_rfl) abX
theorem acy:LS KK γ ar Tryz.f267 267 2 LG:=
 aX.b_ GN (aJ.nil) rfl 60 (λp i a=>u3 Dh p i) (λp=>p.1) (λp=>()) (St:=u3 (sG shut)) (F:=u3 (rz shut)) (λp=>rfl)
  (λm p i a k=>by kernel_rfl) (by rintro p (x|x)<;>exact⟨_,_,λ_=>rfl⟩) (λp N C A O w a b=>cE b (t:=52) (sl:=7) rfl λv h=>h)
def Dd (a:List av) (b c:Int) (d:List av):AS SS:=⟨[(1,(vc 0)),(5,(vo 2)),(8,(vd 52 a)),(9,(vl a)),(10,(vi c))],[(some (.aD 218 [] [(.one (.an 1 0))])),(bX 35 [(lu b)]),(rX 122 d)],2,none,false,[],[]⟩
def OY (a:List av) (b:Int) (c:List av):AS SS:=Dd a b 0 c
def W9 (a:List av) (b:Int) (a0:Bool) (c:Int) (a2:List av):AS SS:= {Dd a b b a2 with env:=[(11,(vb a0)),(1,(vc 0)),(5,(vo 2)),(8,(vd 52 a)),(9,(vl a)),(10,(vi c))]}
def sB (sh:Sh) (d:List av) (b e:Int) (z0:av) (a:List av):T (List av⊕(Bool×Int×List av)):=.bf (z0.bl !=b) (.bd (app 16 a [z0]) λc=>.ok (.inl c))<|.ok (.inl a)
def rm (sh:Sh) (c:List av) (d b:Int) (a:List av):T ((Bool×Int×List av)):=.ok ((decide (b<(↑c.length:Int))),b,a)
def zI (a:List av) (b:Int) (c:List av):=b4 sh (sB sh a b) (rm sh a b) a c
def T3 {R} (k:KX SS R) (a:List av) (b:Int) (x:(Bool×Int×List av)):Option R:=(λv=>k (.exit 0) (W9 a b v.1 v.2.1 v.2.2)) x
def Lw:bh SS:=bt 4 (λst=>(b9 st 0 218).bind λ_=>(ba 52 (aK st 8 0)).bind λa=>(aU (aN st 1 0)).bind λb=>(cd st 2 122).bind λc=>some (a,b,c)) (u3 OY) (u3 (zI shut)) (λk p=>T3 k p.1 p.2.1)
def GO:=bO GM ar Tryz.f267 267 [LG]
theorem GP:a_ GO γ:=bQ GN Tryz.func267 rfl a8 (by kernel_rfl) acy
theorem aco:LS KK γ ar Tryz.f217 217 4 Lw:=
 aX.b_ (π:=List av×Int×List av) (σ:=List av) GP (aJ.nil) rfl 60 (λp i a=>Dd p.1 p.2.1 i a) (λp=>p.1) (λp=>p.2.2) (St:=λp=>sB shut p.1 p.2.1) (F:=λp=>rm shut p.1 p.2.1) (λp=>rfl)
  (λm p i a k=>by kernel_rfl) (λp x=>⟨_,_,λ_=>rfl⟩) (λp N C A O w a b=>cE b (t:=52) (sl:=8) rfl λv h=>h)
def Rk:=bO GO ar Tryz.f217 217 [Lw]
theorem Rl:a_ Rk γ:=bQ GP Tryz.func217 rfl a8 (by kernel_rfl) aco
def AT (m:bR) (w:Int):T (bR×Int):=
 .bd (nh sh m w) λa=>
  .bf (a !=0) (
   .ok (⟨[],0⟩,a))<|
  .gd (OH m.ag [])<|
   .bd (zh sh m.ag []) λc=>
    .bf (!match bD c.2.2 w with
 |some val=>true
 |none=>false) (
     .ok (⟨[],0⟩,4))<|
    .gd (O6 m.ag m.bm w)<|
     .bd (zQ sh m.ag m.bm w) λb=>.cs b (λ_=>
      .ok (⟨[],0⟩,341)) λe=>
      .gd (OY m.ag w [])<|
       .bd (zI sh m.ag w []) λd=>
        .ok (⟨d.2.2,m.bm⟩,0)
def tG (m:bR) (w:Int):=sh.s _ (AT sh m w).val
def yl:=bP (db KK 166 54 35 (tG sh) (eP KK 54 27)) (yh sh)
theorem ym:ak (yl shut) γ:=dp (rs:=[54,27]) yi Rl rfl rfl λm w k=>by kernel_rfl
def CY (a:List av) (b:Int) (c:Γc):AS SS:=⟨[(3,(vs (.mp 0))),(8,(vd 52 a)),(9,(vl a)),(10,(vi b))],[(some (.map .u64 .u64 c))],0,none,false,[],[]⟩
def OE (a:List av) (b:Γc):AS SS:=CY a 0 b
def V5 (b:List av) (a0:Bool) (a:Int) (a2:Γc):AS SS:=xe [(11,(vb a0))] (CY b a a2)
def Ii (sh:Sh) (b:List av) (c:Int) (z0:av) (a:(Γc)):T (((Γc))⊕(Bool×Int×(Γc))):=.ok (.inl (ck a z0.bl z0.a6))
def xk (sh:Sh) (c:List av) (b:Int) (a:(Γc)):T ((Bool×Int×(Γc))):=.ok ((decide (b<(↑c.length:Int))),b,a)
def ze (a:List av) (b:Γc):Option ((Bool×Int×(Γc))):=b4 sh (Ii sh a) (xk sh a) a b
def Tm {R} (k:KX SS R) (a:List av) (x:(Bool×Int×(Γc))):Option R:=(λv=>k (.exit 0) (V5 a v.1 v.2.1 v.2.2)) x
def K4:bh SS:=bt 4 (λst=>(ba 52 (aK st 8 0)).bind λa=>(gE st 0).bind λb=>some (a,b)) (u2 OE) (u2 (ze shut)) (λk p=>Tm k p.1)
theorem abU:LS KK γ ar ξc 105 4 K4:=
 aX.b_ (π:=List av×(Γc)) (σ:=(Γc)) (ak.all ym rfl) (aJ.nil) rfl 60 (λp i a=>CY p.1 i a) (λp=>p.1) (λp=>p.2) (St:=λp=>Ii shut p.1) (F:=λp=>xk shut p.1) (λp=>rfl)
  (λm p i a k=>by kernel_rfl) (λp x=>⟨_,_,λ_=>rfl⟩) (λp N C A O w a b=>cE b (t:=52) (sl:=8) rfl λv h=>h)
def uc (a:Γa) (b:Γc) (c d:Int):AS SS:=⟨[(10,(vc 0)),(11,(vu c)),(28,(vd 130 a)),(29,(vl a)),(30,(vi d))],[(some (.aD 208 [] [(.one (.an 1 0))])),(bX 171 [(.mp 2)]),(some (.map .u64 .u64 b))],0,none,false,[],[]⟩
def OP (a:Γa) (b:Γc) (c:Int):AS SS:=uc a b c 0
def WG (b:Γa) (c:Γc) (a0:Bool) (a a2:Int) (a3:Bool) (a4 a5:Int):AS SS:= {uc b c a a with env:=[(38,(vb a0)),(37,(vu a)),(11,(vu a)),(36,(vu a)),(35,(vu a2)),(34,(vc 0)),(13,(vu a2)),(33,(vu a2)),(32,(vs (.ptr 35 a2 0))),(31,(vb a3)),(10,(vc 0)),(11,(vu a4)),(28,(vd 130 b)),(29,(vl b)),(30,(vi a5))]}
def WH (b:Γa) (c:Γc) (a0:Bool) (a a2:Int):AS SS:= {uc b c a a with env:=[(31,(vb a0)),(10,(vc 0)),(11,(vu a)),(28,(vd 130 b)),(29,(vl b)),(30,(vi a2))]}
def oS (sh:Sh) (d:Γa) (b:Γc) (c z0 a:Int):T (Int⊕(Bool×Int×Int×Bool×Int×Int)⊕(Bool×Int×Int)):=.bf (decide ((bD b z0).getD 0>0)) (.ok (.inr (.inl ((decide ((bD b z0).getD 0>0)),((bD b z0).getD 0),z0,(decide (c<(↑d.length:Int))),a,c))))<|.ok (.inl ((bD b z0).getD 0))
def xr (sh:Sh) (c:Γa) (d:Γc) (b a:Int):T ((Bool×Int×Int×Bool×Int×Int)⊕(Bool×Int×Int)):=.ok (.inr ((decide (b<(↑c.length:Int))),a,b))
def zr (a:Γa) (b:Γc) (c:Int):=b4 sh (oS sh a b) (xr sh a b) a c
def TK {R} (k:KX SS R) (a:Γa) (b:Γc) (x:(Bool×Int×Int×Bool×Int×Int)⊕(Bool×Int×Int)):Option R:=(λx=>θ (λv=>k (.exit 0) (WG a b v.1 v.2.1 v.2.2.1 v.2.2.2.1 v.2.2.2.2.1 v.2.2.2.2.2)) (λv=>k (.exit 0) (WH a b v.1 v.2.1 v.2.2)) x) x
def Lk:bh SS:=bt 10 (λst=>(b9 st 0 208).bind λ_=>(ba 130 (aK st 28 0)).bind λa=>(gE st 2).bind λb=>(aU (aK st 11 0)).bind λc=>some (a,b,c)) (u3 OP) (u3 (zr shut)) (λk p=>TK k p.1 p.2.1)
def GD:=bO (yl shut) ar ξc 105 [K4]
theorem GF:a_ GD γ:=bQ (ak.all ym rfl) ξl rfl a8 (by kernel_rfl) abU
theorem ab':LS KK γ ar Tryz.f156 156 10 Lk:=
 aX.b_ (π:=Γa×(Γc)×Int) (σ:=Int) GF (aJ.nil) rfl 60 (λp i a=>uc p.1 p.2.1 a i) (λp=>p.1) (λp=>p.2.2) (St:=λp=>oS shut p.1 p.2.1) (F:=λp=>xr shut p.1 p.2.1) (λp=>rfl)
  (λm p i a k=>by kernel_rfl) (by rintro p (x|x)<;>exact⟨_,_,λ_=>rfl⟩) (λp N C A O w a b=>cE b (t:=130) (sl:=28) rfl λv h=>h)
def Q9:=bO GD ar Tryz.f156 156 [Lk]
theorem Q_:a_ Q9 γ:=bQ GF Tryz.func156 rfl a8 (by kernel_rfl) ab'
def AL (m:bR) (w:Int):T (Int×Int):=.bd (nh sh m w) λb=>.bf (b !=0) (.ok (0,b))<|.bd (Cv sh w) λc=>.gd (OE m.ag [])<|.bd (ze sh m.ag []) λd=>.gd (OP c.1 d.2.2 0)<|.bd (zr sh c.1 d.2.2 0) λe=>.cs e (λa=>.bf (a.2.1==0) (.ok (0,4))<|.ok (a.2.1,0)) λa=>.bf (a.2.1==0) (.ok (0,4))<|.ok (a.2.1,0)
def nf (m:bR) (w:Int):=sh.s _ (AL sh m w).val
def yb:=bP (db KK 156 54 35 (nf sh) (eP KK 35 27)) (yl sh)
theorem yc:ak (yb shut) γ:=dp (rs:=[35,27]) ym Q_ rfl rfl λm w k=>by kernel_rfl
end Go.Proofs.YtoggponeookhbaaGreatDoor
end
