/- A part of the proof that OrderReads returns true for every input: the machine of values, its soundness, the program as plain functions, the law. Conditions: those of the given rows. -/
import Derived.Test.YtoggponeookhbaaGreatDoorR2
import Derived.Test.YtoggponeookhbaaGreatDoorProg
import Derived.Lib.Bytealg
import Derived.Shelf.Strings.OnBuilder
set_option linter.unusedVariables false
set_option linter.unusedSimpArgs false
noncomputable section
set_option maxRecDepth 1000000
set_option maxHeartbeats 12000000
open Array renaming getElem?_eq_some_iff→ν,length_toList→υ
open Bool renaming and_eq_true→ξg
open ByteArray renaming mk→ο,empty→ω
open Go.BinOp renaming and→ζ7
open Go.Builtin renaming zeroCells→ξI
open Go.Exit renaming thenS→ξH
open Go.Instr renaming typeAssert→ξh
open Go.IntKind renaming i64→δ,u64→ζ,u8→ξ3,wrap_i64→ξj
open Go.Lib renaming indexByte→ξ2,join→ζm
open Go.Next renaming value→ξn
open Go.Op renaming equalIn→ξv
open Go.Program renaming fieldsOf→ξ8
open Go.Proofs.Lays renaming n156→ζl
open Go.Proofs.Tryz renaming prog→γ,f97→μ,f142→χ,func142→ξ1,f105→ξc,func105→ξl,func254→ξq,f145→ξr,f200→ξs,f213→ξt,f166→ξu,func70→ξA,f60→ξE,f197→ξF,func197→ξJ,func200→ξK,underlying3→ξN,results254→ξP,f257→ξS,f264→ξT,results70→ξU,ntmps254→ξY,func283→ζ0,ntmps70→ζ1,func252→ζ2,func212→ζ3,func222→ζ4,func259→ζ5,func141→ζ6,func257→ζ8,f193→ζ9,func193→ζa,f195→ζb,func264→ζc,f157→ζd,func76→ζe,func77→ζf,func78→ζg,func79→ζh,func80→ζi,func14→ζj,f63→ζn,f41→ζo
open Go.Result renaming andThen_ok→ι
open Go.Sem renaming run_bind→κ
open Go.Utf8 renaming decode→ε
open Go.Value renaming int→ξe,oneCell'→ξy,cells→ξB,slice→ζk
open List renaming length_append→η,length_drop→τ,mem_append_right→φ,replicate→ψ,drop_eq_nil_of_le→ξ4,length_take→ξ9,take_left'→ξb,append_assoc→ξd,eq_nil_of_length_eq_zero→ξi,mem_append_left→ξk,getElem?_set→ξm,append_nil→ξo,mem_append→ξp,mem_cons_of_mem→ξw,mem_of_mem_drop→ξx,mem_cons_self→ξC,getElem?_take→ξD,length_cons→ξL,not_mem_nil→ξM,find?_cons→ξO,drop→ξQ,drop_zero→ξV,take_take→ξW,mem_cons→ξX
open Nat renaming eq_of_beq_eq_true→ξ,beq→ρ,le_refl→ξ5,add_mul→ξ6,mul_le_mul_right→ξ7,zero_add→ξa,zero_le→ξz,toUInt8→ξR,reduceMul→ξZ
open Option renaming map_some→ξ0,bind_some→ξf
open Option.some renaming injEq→ξG
open Sum renaming rec→θ
section
namespace Go.Vx
open Go.RowKit Go.Dc
inductive T (X:Type):Type 1
 |no
 |ok (x:X)
 |bf (c:Bool) (a b:T X)
 |bd {α:Type} (o:Option α) (f:α->T X)
 |cs {α β:Type} (x:α⊕β) (f:α->T X) (g:β->T X)
 |gd {α:Type} (a:α) (t:T X)
namespace T
variable {X R:Type}
noncomputable def run (t:T X) (k:X->Option R):Option R:=T.rec none (λx=>k x) (λc _ _ a b=>bif c then a else b) (λo _ f=>o.bind f) (λx _ _ f g=>θ f g x) (λa _ r=>Go.Vx.gd a r) t
noncomputable def val (t:T X):Option X:=T.rec none (λx=>some x) (λc _ _ a b=>bif c then a else b) (λo _ f=>o.bind f) (λx _ _ f g=>θ f g x) (λ_ _ r=>r) t
@[simp] theorem l1:(T.no:T X).val=none:=rfl
@[simp] theorem aC (x:X):(T.ok x).val=some x:=rfl
@[simp] theorem aE (c:Bool) (a b:T X):(T.bf c a b).val=bif c then a.val else b.val:=rfl
@[simp] theorem aN {α:Type} (o:Option α) (f:α->T X):(T.bd o f).val=o.bind λy=>(f y).val:=rfl
@[simp] theorem cM {α β:Type} (x:α⊕β) (f:α->T X) (g:β->T X):(T.cs x f g).val=match x with| .inl a=>(f a).val| .inr b=>(g b).val:=by cases x<;>rfl
@[simp] theorem bM {α:Type} (a:α) (t:T X):(T.gd a t).val=t.val:=rfl
theorem n5 (t:T X) (k:X->Option R):t.run k=t.val.bind k:=by
 induction t with
 |no=>rfl
 |ok x=>rfl
 |bf c a b i j=>cases c<;>assumption
 |bd o f h=>
  cases o with
  |none=>rfl
  |some y=>exact h y
 |cs x f g d e=>
  cases x with
  |inl a=>exact d a
  |inr b=>exact e b
 |gd a t h=>rw[bM,<-h];exact XX a (t.run k)
end T
def Ys {S:bh} (st:AS S) (j:Nat):Option ByteArray:=match av st.h j with
 |some (.cP s _)=>some s
 |_=>none
def JG {S:bh} (st:AS S) (j:Nat):Option Nat:=match av st.h j with
 |some (.cP _ n)=>some n
 |_=>none
def JF {S:bh} (st:AS S) (j g:Nat):Option Unit:=match av st.h j with
 |some (.box _ [.v (.func (.func a) _ _)])=>bif ρ a g then some () else none
 |_=>none
structure Sh where
 s:(α:Type)->α->α
theorem Oy: ∃f:Sh,f=⟨λ_ a=>a⟩:=⟨_,rfl⟩
noncomputable def shut:Sh:=Classical.choose Oy
abbrev ab:Sh:=⟨λ_ a=>a⟩
theorem lV:shut=ab:=Classical.choose_spec Oy
theorem mV {X R:Type} {t:T X} {kf:X->Option R} {z:R} (h:(shut.s _ t.val).bind kf=some z):t.run kf=some z:=by
 rw[lV] at h;rw[T.n5];exact h
def bS {α σ X:Type} (step:Int->α->σ->Option (σ⊕X)) (fin:Int->σ->Option X):Nat->List α->σ->Option X
 |i,[],a=>fin i a
 |i,z::r,a=>(step i z a).bind λy=>match y with| .inl a'=>bS step fin (i+1) r a'| .inr x=>some x
def b4 {σ X:Type} (step:σ->Option (σ⊕X)):Nat->σ->Option X
 |0,_=>none
 |n+1,a=>(step a).bind λy=>match y with| .inl a'=>b4 step n a'| .inr x=>some x
noncomputable def b8 (sh:Sh) {α σ X:Type} (S:Int->α->σ->T (σ⊕X)) (F:Int->σ->T X) (l:List α) (a:σ):Option X:=sh.s _ (bS (λi z a=>(S i z a).val) (λi a=>(F i a).val) 0 l a)
noncomputable def bJ (sh:Sh) {σ X:Type} (S:σ->T (σ⊕X)) (n:Nat) (a:σ):Option X:=sh.s _ (b4 (λa=>(S a).val) n a)
theorem ab' {α σ X:Type} (S:Int->α->σ->T (σ⊕X)) (F:Int->σ->T X) (l:List α) (a:σ):b8 shut S F l a=bS (λi z a=>(S i z a).val) (λi a=>(F i a).val) 0 l a:=by unfold b8;rw[lV]
theorem ad4 {σ X:Type} (S:σ->T (σ⊕X)) (n:Nat) (a:σ):bJ shut S n a=b4 (λa=>(S a).val) n a:=by unfold bJ;rw[lV]
section
variable {S:bh} {P:Program} {G:bE S} {I:dm S} {x:Code}
noncomputable def br {π X:Type} (id:Nat) (ext:AS S->Option π) (s:π->AS S) (L:π->Option X) (out: {R:Type}->(AX->AS S->Option R)->π->X->Option R):bc S:=⟨id,λst k=>(ext st).bind λp=>pS (st=s p) ((L p).bind (out k p))⟩
noncomputable def u_ {σ X R:Type} (f:σ->Option R) (g:X->Option R):σ⊕X->Option R:=λy=>θ f g y
theorem Fh {α R:Type} {o:Option α} {f:α->Option R} {z:R} (h:o.bind f=some z): ∃y,o=some y/\f y=some z:=bind_some h
theorem Nn {π σ X α R:Type} (N:Nat) {k:AX->AS S->Option R} (c:fZ I.lc (dG x)=none) {l:List α} (hm:l.length<=maxLen) {s:Int->σ->AS S} {St:Int->α->σ->T (σ⊕X)} {F:Int->σ->T X} {ex:X->Option R}
  (b: ∀m (i:Int) a,cc G (m+N) I x (s i a) (qa G (m+N) I x k)=bif decide (i<(l.length:Int)) then(idx l i).bind λz=>(St i z a).run (u_ (λa'=>cc G (m+N) I (.loop x) (s (δ.wrap (i+1)) a') k) ex) else(F i a).run ex):
  ∀(r pre:List α) (a:σ),l=pre++r->cc G (r.length+N+1) I (.loop x) (s (pre.length:Int) a) k=(bS (λi z a=>(St i z a).val) (λi a=>(F i a).val) pre.length r a).bind ex
 |[],pre,a,h=>by
  rw[ξo] at h;subst h;rw[DF c,b,Zi,cond_false,T.n5];rfl
 |z::r,pre,a,h=>by
  have f:l[pre.length]? =some z:=by rw[h];simp
  have d:pre.length<l.length:=by rw[h];simp
  rw[DF c,b,Zj d,cond_true,dq f,ξf,T.n5];show _=(((St (pre.length:Int) z a).val).bind λy=>match y with| .inl a'=>bS _ _ (pre.length+1) r a'| .inr x=>some x).bind ex;cases (St (pre.length:Int) z a).val with
  |none=>rfl
  |some y=>
   cases y with
   |inr x=>rfl
   |inl a'=>
    show cc G (r.length+1+N) I (.loop x) (s (δ.wrap ((pre.length:Int)+1)) a') k=(bS _ _ (pre.length+1) r a').bind ex;rw[l4 d hm];have e:=Nn (π:=π) N c hm b r (pre++[z]) a' (by rw[h];simp);rw[show(pre++[z]).length=pre.length+1 by simp] at e;rw[<-e,show r.length+1+N=r.length+N+1 by omega]
theorem aZ.cd {π σ X α:Type} (g:a7 G P) {id:Nat} {ext:AS S->Option π} {L:π->Option X} {out: {R:Type}->(AX->AS S->Option R)->π->X->Option R}
  (j:aO G.K P I (.loop x)) (o:(match fZ I.lc (dG x) with|some _=>false|none=>true)=true) (N:Nat) (s:π->Int->σ->AS S) (l:π->List α) (a0:π->σ) {St:π->Int->α->σ->T (σ⊕X)} {F:π->Int->σ->T X}
  (q: ∀p,L p=b8 shut (St p) (F p) (l p) (a0 p))
  (n: ∀ {R:Type} m (p:π) (i:Int) a (k:AX->AS S->Option R),cc G (m+N) I x (s p i a) (qa G (m+N) I x k)=bif decide (i<((l p).length:Int)) then(idx (l p) i).bind λz=>(St p i z a).run (u_ (λa'=>cc G (m+N) I (.loop x) (s p (δ.wrap (i+1)) a') k) (out k p)) else(F p i a).run (out k p))
  (hex: ∀(p:π) (x:X),∃e c,∀ {R:Type} (k:AX->AS S->Option R),out k p x=k e c)
  (f: ∀(p:π) (N:Nat) (C:cI) (A:Pl) (O:Γ) (w:World) (a:Act),bg G.K P N C A O w (s p 0 (a0 p)) a->(l p).length<=maxLen):
  aZ G.K P I.tokP x (br id ext (λp=>s p 0 (a0 p)) L out):=by
 intro R st k z b;obtain⟨p,_,h1⟩:=Fh b;clear b;obtain⟨d,b⟩:=Jy h1;clear h1;subst d
 by_cases hm:(l p).length<=maxLen
 ·rw[q,ab'] at b;have h:=(Nn (π:=π) N (J3 o) hm (λm i a=>n m p i a k) (l p) [] (a0 p) rfl).trans b;exact AZ g _ I (.loop x) (s p 0 (a0 p)) k z j h
 ·obtain⟨y,_,t⟩:=Fh b;obtain⟨e,c,he⟩:=hex p y;exact⟨e,c,(he k).symm.trans t,λC A O w a r=>absurd (f p _ C A O w a r) hm⟩
theorem Pr {σ X R:Type} (N:Nat) {k:AX->AS S->Option R} (c:fZ I.lc (dG x)=none) {s:σ->AS S} {St:σ->T (σ⊕X)} {ex:X->Option R}
  (b: ∀m a,cc G (m+N) I x (s a) (qa G (m+N) I x k)=(St a).run (u_ (λa'=>cc G (m+N) I (.loop x) (s a') k) ex)):
  ∀(n:Nat) (a:σ) {z:R},(b4 (λa=>(St a).val) n a).bind ex=some z->cc G (n+N) I (.loop x) (s a) k=some z
 |0,a,z,h=>by cases h
 |n+1,a,z,h=>by
  rw[show n+1+N=n+N+1 by omega,DF c,b,T.n5]
  change (((St a).val).bind λy=>match y with| .inl a'=>b4 _ n a'| .inr x=>some x).bind ex=some z at h
  revert h
  cases (St a).val with
  |none=>intro h;cases h
  |some y=>
   cases y with
   |inr x=>intro h;exact h
   |inl a'=>intro h;exact Pr N c b n a' h
theorem aZ.bJ {π σ X:Type} (d:a7 G P) {id:Nat} {ext:AS S->Option π} {L:π->Option X} {out: {R:Type}->(AX->AS S->Option R)->π->X->Option R}
  (e:aO G.K P I (.loop x)) (g:(match fZ I.lc (dG x) with|some _=>false|none=>true)=true) (N:Nat) (s:π->σ->AS S) (a0:π->σ) {St:π->σ->T (σ⊕X)} (n:π->Nat)
  (h: ∀p,L p=Vx.bJ shut (St p) (n p) (a0 p))
  (f: ∀ {R:Type} m (p:π) a (k:AX->AS S->Option R),cc G (m+N) I x (s p a) (qa G (m+N) I x k)=(St p a).run (u_ (λa'=>cc G (m+N) I (.loop x) (s p a') k) (out k p))):
  aZ G.K P I.tokP x (br id ext (λp=>s p (a0 p)) L out):=by
 intro R st k z b;obtain⟨p,_,h1⟩:=Fh b;clear b;obtain⟨c,b⟩:=Jy h1;clear h1;subst c;rw[h,ad4] at b;exact AZ d _ I (.loop x) (s p (a0 p)) k z e (Pr N (J3 g) (λm a=>f m p a k) (n p) (a0 p) b)
end
end Go.Vx
end
section
namespace Go.Vx
open Go.RowKit Go.Dc
section
variable {α σ X:Type}
theorem gG {step:Int->α->σ->Option (σ⊕X)} {fin:Int->σ->Option X} {i:Nat} {z:α} {r:List α} {a:σ}:bS step fin i (z::r) a=(step i z a).bind λy=>match y with| .inl a'=>bS step fin (i+1) r a'| .inr x=>some x:=rfl
theorem qD {step:Int->α->Unit->Option (Unit⊕X)} {fin:Int->Unit->Option X} {p:α->Bool} {e:α->X}:
  ∀ {l:List α} {i:Nat},(∀i z,z∈l->step i z ()=bif p z then some (.inr (e z)) else some (.inl ()))->bS step fin i l ()=match l.find? p with|some z=>some (e z)|none=>fin ((i+l.length:Nat):Int) ()
 |[],i,_=>by simp[bS]
 |z::r,i,h=>by
  rw[gG,h _ z ξC,ξO];cases hp:p z with
  |true=>rfl
  |false=>
   simp only[cond_false,ξf];rw[qD λi z a=>h i z (ξw _ a)];cases r.find? p with
   |some _=>rfl
   |none=>simp only[ξL];rw[show i+1+r.length=i+(r.length+1) by omega]
def allI (q:Nat->α->Bool):Nat->List α->Bool
 |_,[]=>true
 |i,z::r=>q i z&&allI q (i+1) r
theorem kZ {q:Nat->α->Bool}: ∀ {l:List α} {i:Nat},allI q i l=true↔ ∀k z,l[k]? =some z->q (i+k) z=true
 |[],i=>by simp[allI]
 |z::r,i=>by
  simp only[allI,ξg];rw[kZ];constructor
  ·rintro ⟨h1,a⟩ k y hk;cases k with
   |zero=>simp at hk;subst hk;exact h1
   |succ k=>rw[show i+(k+1)=i+1+k by omega];exact a k y (by simpa using hk)
  ·intro h;refine⟨h 0 z rfl,λk y hk=>?_⟩;rw[show i+1+k=i+(k+1) by omega];exact h (k+1) y (by simpa using hk)
theorem Nj {step:Int->α->Unit->Option (Unit⊕X)} {fin:Int->Unit->Option X} {q:Nat->α->Bool} {x:X} {l:List α} (h: ∀(i:Nat) z,l[i]? =some z->step i z ()=bif q i z then some (.inl ()) else some (.inr x)):
  ∀(r pre:List α),l=pre++r->bS step fin pre.length r ()=bif allI q pre.length r then fin (l.length:Int) () else some x
 |[],pre,e=>by
  rw[ξo] at e;subst e;rfl
 |z::r,pre,e=>by
  rw[gG,h pre.length z (by rw[e];simp)];unfold allI;cases q pre.length z with
  |false=>rfl
  |true=>
   simp only[cond_true,ξf,Bool.true_and];have:=Nj (fin:=fin) h r (pre++[z]) (by rw[e];simp);rw[show(pre++[z]).length=pre.length+1 by simp] at this;exact this
theorem nX {step:Int->α->Unit->Option (Unit⊕X)} {fin:Int->Unit->Option X} {q:Nat->α->Bool} {x:X} {l:List α} (h: ∀(i:Nat) z,l[i]? =some z->step i z ()=bif q i z then some (.inl ()) else some (.inr x)):
 bS step fin 0 l ()=bif allI q 0 l then fin (l.length:Int) () else some x:=Nj h l [] rfl
theorem nY {step:Int->α->σ->Option (σ⊕X)} {fin:Int->σ->Option X} {g:σ->α->σ}: ∀ {l:List α} {i:Nat} {a:σ},(∀i z a,z∈l->step i z a=some (.inl (g a z)))->bS step fin i l a=fin ((i+l.length:Nat):Int) (l.foldl g a)
 |[],i,a,_=>by simp[bS]
 |z::r,i,a,h=>by
  rw[gG,h _ z _ ξC];show bS step fin (i+1) r (g a z)=_;rw[nY λi z a b=>h i z a (ξw _ b),ξL,List.foldl_cons,show i+1+r.length=i+(r.length+1) by omega]
theorem wJ {step:Int->Option (Int⊕X)} {q:Nat->Bool} {x:Nat->X} {y:X} {N:Nat} (h: ∀a:Nat,a<N->step (a:Int)=bif q a then some (.inl ((a+1:Nat):Int)) else some (.inr (x a))) (c:step (N:Int)=some (.inr y)):
  ∀ {k n a:Nat},a+k=N->k<n->b4 step n (a:Int)=some (match(List.range' a k).find? (λb=>!q b) with|some b=>x b|none=>y)
 |0,n+1,a,e,_=>by
  obtain rfl:a=N:=by omega
  unfold b4;rw[c];rfl
 |k+1,n+1,a,e,hn=>by
  unfold b4;rw[h a (by omega),List.range'_succ,ξO];cases q a with
  |false=>rfl
  |true=>
   simp only[cond_true,ξf,Bool.not_true];exact wJ h c (by omega) (by omega)
theorem XN {p:α->Bool} {l:List α}:(l.find? p).isSome=l.any p:=by rw[Bool.eq_iff_iff,List.find?_isSome,List.any_eq_true]
end
section
variable {S:bh} {K:Kit S} {P:Program}
def Gt {α:Type} (T:Ty α):Prop:= ∀(O:Γ) (w:World) (O':Γ) (w':World) (cs:Γb) (x:α),T.rep O w cs x->T.rep O' w' cs x
theorem I2 {α:Type} {T:Ty α} (a:Gt T) {O O':Γ} {w w':World}: ∀ {xs:List α} {cs:Γb},bH T O w cs xs->bH T O' w' cs xs
 |[],_,h=>h
 |_::_,_,⟨c,r,e,h1,b⟩=>⟨c,r,e,a O w O' w' c _ h1,I2 a b⟩
def ko (K:Kit S) (f e:Nat) (cl:List (S.El e)->Option (List (S.El e))):dI S:=⟨f,λaen h k=>match aen with
 |[.one l]=>(match dX K (av h) e l with|some xs=>(cl xs).bind λzs=>k (.ret (.s (.one (.own h.length)))) (h++[some (.row e zs)]) []|none=>none)
 |_=>none⟩
theorem jy {h:AH S} {X:Ob S} {i:Nat} {Y:Ob S} (hi:av (h++[some X]) i=some Y):av h i=some Y\/(i=h.length/\Y=X):=by
 rw[iF] at hi;rcases fk hi with h1|⟨h1,a⟩
 ·exact .inl (iF.2 h1)
 ·exact .inr ⟨h1,Option.some.inj a⟩
theorem ny (ae:bU K P) {f e:Nat} {cl:List (S.El e)->Option (List (S.El e))} (ah:ep P f) (ai:Gt (S.ty e))
  (ad: ∀(O:Γ) (w:World) (v:Value) (xs zs:List (S.El e)),OB O w->(S.ty e).slice.is O w v xs->cl xs=some zs->Calls P f #[v] w (eB (S.ty e) e w.heap.size O w (.slice none 0 0) zs))
  {R:Type} (aen:List (an S)) (h:AH S) (k:Rs S->AH S->Γ->Option R) (z:R) (u:(ko K f e cl).out aen h k=some z): ∃r h' dt,k r h' dt=some z/\dv K P f aen h r h' dt:=by
 simp only[ko] at u;split at u
 rotate_left
 ·cases u
 rename_i l;split at u
 rotate_left
 ·cases u
 rename_i xs ay;obtain⟨zs,az,hk⟩:=bind_some u;refine⟨_,_,_,hk,ah,λA O w vs aw t hO aD M ao=>?_⟩;obtain⟨v,rest,rfl,ax,au⟩:=aw;rw[show rest=[] from au];have L:=jk ae t ay ax;obtain⟨O1,J⟩: ∃O1,O1=db A (jC l) O:=⟨_,rfl⟩;rw[<-J] at L;have U:Dc.Sub O1 O:=by rw[J];exact eE
 refine(ad O1 w v xs zs (λb a=>hO b (U b a)) L az).mono ?_;rintro aC w' ⟨o,x,rfl,d⟩;obtain⟨A',C⟩: ∃A':Pl,A'=⟨λi=>bif ρ i h.length then some o else A.pl i,A.ls⟩:=⟨_,rfl⟩;have y: ∀i,i≠h.length->A'.pl i=A.pl i:=λi hi=>by
  rw[C];have:ρ i h.length=false:=by
   cases a:ρ i h.length with
   |false=>rfl
   |true=>exact absurd (ξ a) hi
  simp only[this,cond_false]
 have B:A'.pl h.length=some o:=by rw[C];simp
 have hle:A.le A':=⟨λi p hp=>by
  rw[y i (λe=>by subst e;rw[M _ (ξ5 _)] at hp;cases hp)];exact hp,by rw[C]⟩
 have I: ∀b,b<w.heap.size->w'.heap[b]? =w.heap[b]? :=λb a=>d.fr b a (by simp[Value.ownBlock]);have aq:OB (x++O) w':=λb a=>by
  rcases ξp.1 a with a|a
  ·exact d.ob b a
  ·exact Nat.lt_of_lt_of_le (hO b a) d.tr.size
 have V:Tr O w (x++O) w':=⟨d.tr.os,d.tr.tape,d.tr.output,d.tr.size,λb a hn=>⟨λhm=>by
  rcases ξp.1 hm with hm|hm
  ·exact(d.tr.keep b a λh1=>hn (U b h1)).1 hm
  ·exact hn hm,I b a⟩⟩
 have D: ∀b,bR o=some b->w.heap.size<=b/\b∈x:=by
  intro b a;have W:o.ownBlock=some b:=by
   rcases gZ d.own with⟨s,_⟩|⟨Z,c,s⟩
   ·rw[s] at a;cases a
   ·rw[s] at a ⊢;cases a;rfl
  exact⟨(d.own.lt b W).1,d.own.mem b W⟩
 have ar:o.oneCell'=true:=by
  rcases gZ d.own with⟨s,_⟩|⟨Z,c,s⟩<;>rw[s]<;>rfl
 have ak:Dc.Own (S.ty e) e 0 (x++O) w' o zs:=by
  obtain⟨cs,⟨aa,h1⟩,n⟩:=d.own.ex;refine⟨⟨cs,⟨aa,?_⟩,I2 ai n⟩,λb a=>ξk _ (d.own.mem b a)⟩;rcases h1 with h1|⟨g,cap,cur,aA,aF,aB⟩
  ·exact .inl h1
  ·exact .inr ⟨g,cap,cur,aA,ξz _,aB⟩
 have Q: ∀i X,av (h++[some (.row e zs)]) i=some X->X.nt=true:=λi X hi=>by
  rcases jy hi with h1|⟨_,rfl⟩
  ·exact ao i X h1
  ·rfl
 refine⟨A',x++O,⟨o,rfl,⟨o,B,rfl,ar⟩⟩,⟨bI.qc Q ?_ ?_,aq,V,λi hi=>y i (by omega),(λj E=>by cases E),by rw[C],by simp,?_,?_,λi X _=>Q i X⟩⟩
 ·intro i X hi;rcases jy hi with h1|⟨rfl,rfl⟩
  ·obtain⟨p,hp,af,a⟩:=t.al i X h1;have aj:=e_ h1;exact⟨p,by rw[y i (by omega)];exact hp,af.keep V hle λb m=>⟨I b (hO b (t.gu h1 hp m)),φ _ (t.gu h1 hp m)⟩,λb m=>φ _ (a b m)⟩
  ·exact⟨o,B,ak,λb a=>ξk _ (D b a).2⟩
 ·intro i j X Y p q b N hi E hp F m G;have H: ∀ {i:Nat} {X:Ob S} {p:Value},av h i=some X->A'.pl i=some p->bR p=some b->b<w.heap.size/\A.pl i=some p:=by
   intro i X p h1 n ab;have aj:=e_ h1;rw[y i (by omega)] at n;obtain⟨aE,T,_,a⟩:=t.al i X h1;rw[n] at T;cases T;exact⟨hO b (a b ab),n⟩
  rcases jy hi with h1|⟨rfl,rfl⟩
  ·rcases jy E with n|⟨rfl,rfl⟩
   ·exact t.dj i j X Y p q b N h1 n (H h1 hp m).2 (H n F G).2 m G
   ·rw[B] at F;cases F;have:=(H h1 hp m).1;have:=(D b G).1;omega
  ·rcases jy E with n|⟨rfl,rfl⟩
   ·rw[B] at hp;cases hp;have:=(H n F G).1;have:=(D b m).1;omega
   ·exact absurd rfl N
 ·intro i hi;simp at hi;rw[y i (by omega)];exact M i (by omega)
 ·intro b a _;refine⟨I b (hO b a),φ _ a,λi X p hi ag hp m=>?_⟩;rcases jy ag with h1|⟨rfl,rfl⟩
  ·have:=e_ h1;omega
  ·rw[B] at hp;cases hp;have:=(D b (e0 rfl m)).1;have:=hO b a;omega
end
section
variable {S:bh} {K:Kit S} {P:Program} {N:Nat} {B:cI} {A A':Pl} {O:Γ} {w:World} {st:AS S} {a:Act}
def fK (j c e:Nat) (st:AS S):AS S:=match av st.h j with
 |some (.box t cs)=>(match cs[c]? with
  |some (.v (.slice none 0 0))=> {st with h:=st.h.set j (some (.box t (cs.set c (.own st.h.length))))++[some (.row e [])]}
  |_=>st)
 |_=>st
theorem M7 {n:Nat} (d:A.le A') (hn:A'.pl n=some (.slice none 0 0)): ∀ {ls:List (LV S)} {xs:Γb} {c:Nat},bt A O w ls xs->ls[c]? =some (.v (.slice none 0 0))->bt A' O w (ls.set c (.own n)) xs
 |[],_,c,_,h=>by simp at h
 |l::ls,xs,0,⟨ys,zs,h1,a,b⟩,h=>by
  have h:l= .v (.slice none 0 0):=by simpa using h
  subst h;exact⟨ys,zs,h1,⟨_,hn,a.1,rfl⟩,jE (Tr.refl O w) d b⟩
 |l::ls,xs,c+1,⟨ys,zs,h1,a,b⟩,h=>⟨ys,zs,h1,a.tr (Tr.refl O w) d,M7 d hn b (by simpa using h)⟩
theorem bg.fK (j c e:Nat) (h:bg K P N B A O w st a): ∃A',bg K P N B A' O w (Vx.fK j c e st) a:=by
 unfold Vx.fK;split
 rotate_left
 ·exact⟨A,h⟩
 rename_i t cs o;split
 rotate_left
 ·exact⟨A,h⟩
 rename_i I;have V:=e_ o;obtain⟨A',n⟩: ∃A',A'=A.put st.h.length (.slice none 0 0):=⟨_,rfl⟩;have L:=h.free st.h.length (ξ5 _);have hle:A.le A':=by rw[n];exact Pl.kv L
 have u:A'.pl st.h.length=some (.slice none 0 0):=by rw[n];exact Pl.fb _ _ _
 have g: ∀i,i≠st.h.length->A'.pl i=A.pl i:=λi hi=>by rw[n];exact Pl.kx (λe=>hi e.symm)
 have hlen:(st.h.set j (some (.box t (cs.set c (.own st.h.length))))).length=st.h.length:=List.length_set;have r: ∀ {i:Nat} {X:Ob S},av (st.h.set j (some (.box t (cs.set c (.own st.h.length))))++[some (.row e [])]) i=some X->(i=st.h.length/\X= .row e [])\/(i=j/\X= .box t (cs.set c (.own st.h.length)))\/(i≠j/\av st.h i=some X):=by
  intro i X hi;rcases jy hi with h1|⟨h1,f⟩
  ·right;rw[iF,ξm] at h1;split at h1
   ·rename_i he;simp only[ξG] at h1;exact .inl ⟨he.symm,h1.symm⟩
   ·rename_i he;exact .inr ⟨λx=>he x.symm,iF.2 h1⟩
  ·exact .inl ⟨h1.trans hlen,f⟩
 have hold: ∀ {i:Nat} {X:Ob S} {p:Value} {b:Nat},av (st.h.set j (some (.box t (cs.set c (.own st.h.length))))++[some (.row e [])]) i=some X->A'.pl i=some p->cv w X p b-> ∃Y,av st.h i=some Y/\A.pl i=some p/\cv w Y p b:=by
  intro i X p b hi hp d;rcases r hi with⟨rfl,rfl⟩|⟨rfl,rfl⟩|⟨_,h1⟩
  ·rw[u] at hp;cases hp;rcases d with d|d<;>cases d
  ·exact⟨_,o,by rw[<-g i (by omega)];exact hp,.inl (e0 rfl d)⟩
  ·have:=e_ h1;exact⟨_,h1,by rw[<-g i (by omega)];exact hp,d⟩
 refine⟨A',h.size,h.env.tr (Tr.refl O w) hle,⟨?_,?_⟩,h.ob,h.cZ,?_,h.nb,?_,h.tr,?_,by rw[n];exact h.ls,?_,?_,?_,h.lp,h.dl,h.hi,h.o0,h.rr,?_⟩
 ·intro i X hi;rcases r hi with⟨rfl,rfl⟩|⟨rfl,rfl⟩|⟨v,h1⟩
  ·exact⟨_,u,Own.iE,λb d=>by cases d⟩
  ·obtain⟨p,hp,⟨b,vs,f,k,s⟩,d⟩:=h.rel.al i _ o;exact⟨p,by rw[g i (by omega)];exact hp,⟨b,vs,f,k,M7 hle u s I⟩,d⟩
  ·obtain⟨p,hp,H,d⟩:=h.rel.al i X h1;have:=e_ h1;exact⟨p,by rw[g i (by omega)];exact hp,H.keep (Tr.refl O w) hle λb m=>⟨rfl,h.rel.gu h1 hp m⟩,d⟩
 ·intro i U X Y p q b v hi M hp Q m R;obtain⟨y,h1,f,E⟩:=hold hi hp m;obtain⟨z,k,s,F⟩:=hold M Q R;exact h.rel.gr i U y z p q b v h1 k f s E F
 ·intro i hi;simp at hi;rw[g i (by omega)];exact h.free i (by omega)
 ·show B.nb<=(st.h.set j _++[_]).length;have:=h.le;simp;omega
 ·intro i hi;have:=h.le;rw[g i (by omega)];exact h.pl i hi
 ·intro i X hi l;have:=h.le;rcases r l with⟨rfl,_⟩|⟨rfl,_⟩|⟨_,h1⟩
  ·omega
  ·exact h.lv i _ hi o
  ·exact h.lv i X hi h1
 ·intro b d T J;obtain⟨c1,c2,C⟩:=h.cl b d T J;refine⟨c1,c2,λi X p hi l hp m=>?_⟩;obtain⟨Y,h1,f,k⟩:=hold l hp m;exact C i Y p hi h1 f k
 ·exact cW.qQ hle.at_ (λD G=>G) h.df
 ·intro i X hi l;rcases r l with⟨rfl,rfl⟩|⟨rfl,rfl⟩|⟨_,h1⟩
  ·rfl
  ·rfl
  ·exact h.nt i X hi h1
def eu (l:Γ) (st:AS S):AS S:= {st with dt:=l++st.dt}
theorem bg.eu (l:Γ) (h:bg K P N B A O w st a):bg K P N B A O w (Vx.eu l st) a:=
 ⟨h.size,h.env,h.rel,h.ob,h.cZ,h.free,h.nb,h.le,h.tr,h.pl,h.ls,h.lv,λb c e d=>h.cl b c e λi hi=>d i (φ _ hi),h.df,h.lp,h.dl,h.hi,h.o0,h.rr,h.nt⟩
theorem bg.seen {j:Nat} {X d:Ob S} (h:bg K P N B A O w st a) (k:av st.h j=some X) (t: ∀p,dd A O w X p->dd A O w d p) (hn:d.nt=true:=by rfl):bg K P N B A O w {st with h:=st.h.set j (some d)} a:=by
 have F:=e_ k;have l: ∀ {i:Nat} {Y:Ob S},av (st.h.set j (some d)) i=some Y->(i=j/\Y=d)\/(i≠j/\av st.h i=some Y):=by
  intro i Y hi;rw[iF,ξm] at hi;split at hi
  ·rename_i he;simp only[ξG] at hi;exact .inl ⟨he.symm,hi.symm⟩
  ·rename_i he;exact .inr ⟨λx=>he x.symm,iF.2 hi⟩
 have hold: ∀ {i:Nat} {Y:Ob S},av (st.h.set j (some d)) i=some Y-> ∃Z,av st.h i=some Z/\ ∀p b,cv w Y p b->cv w Z p b:=by
  intro i Y hi;rcases l hi with⟨rfl,rfl⟩|⟨_,h1⟩
  ·exact⟨_,k,λp b c=>.inl (e0 hn c)⟩
  ·exact⟨_,h1,λp b c=>c⟩
 refine⟨h.size,h.env,⟨?_,?_⟩,h.ob,h.cZ,?_,h.nb,?_,h.tr,h.pl,h.ls,?_,?_,h.df,h.lp,h.dl,h.hi,h.o0,h.rr,?_⟩
 ·intro i Y hi;rcases l hi with⟨rfl,rfl⟩|⟨_,h1⟩
  ·obtain⟨p,hp,f,c⟩:=h.rel.al i _ k;exact⟨p,hp,t p f,c⟩
  ·exact h.rel.al i Y h1
 ·intro i E Y Z p q b y hi v hp z m C;obtain⟨n,h1,g⟩:=hold hi;obtain⟨o,f,s⟩:=hold v;exact h.rel.gr i E n o p q b y h1 f hp z (g p b m) (s q b C)
 ·intro i hi;exact h.free i (by simpa using hi)
 ·show B.nb<=(st.h.set j _).length;have:=h.le;simp;omega
 ·intro i Y hi e;obtain⟨Z,h1,_⟩:=hold e;exact h.lv i Z hi h1
 ·intro b c D u;obtain⟨c1,c2,r⟩:=h.cl b c D u;refine⟨c1,c2,λi Y p hi e hp m=>?_⟩;obtain⟨Z,h1,g⟩:=hold e;exact r i Z p hi h1 hp (g p b m)
 ·intro i Y hi e;rcases l e with⟨rfl,rfl⟩|⟨_,h1⟩
  ·exact hn
  ·exact h.nt i Y hi h1
def Bb (cs:List (LV S)):List (LV S):=match mB cs with
 |some bs=>[.cS bs.length bs]
 |none=>(match iB cs with|some (k,gs)=>[.bG k gs.length gs]|none=>cs)
theorem TZ {cs:List (LV S)} {xs:Γb} (h:bt A O w cs xs):bt A O w (Bb cs) xs:=by
 unfold Bb;split
 ·rename_i bs a;exact⟨xs,[],by simp,⟨rfl,Bg a h⟩,rfl⟩
 ·split
  ·rename_i k gs b;exact⟨xs,[],by simp,⟨rfl,Dg b h⟩,rfl⟩
  ·exact h
def j1 (j:Nat) (st:AS S):AS S:=match av st.h j with
 |some (.box t cs)=> {st with h:=st.h.set j (some (.box t (Bb cs)))}
 |_=>st
theorem bg.j1 (j:Nat) (h:bg K P N B A O w st a):bg K P N B A O w (Vx.j1 j st) a:=by
 unfold Vx.j1;split
 ·rename_i t cs e;refine h.seen e ?_;rintro p ⟨b,vs,h1,c,d⟩;exact⟨b,vs,h1,c,TZ d⟩
 ·exact h
def IN:Option (LV S)->Option (List Bool)
 |some (.cS _ x)=>some x
 |_=>none
def gU (pre:AS S->AS S) (lc:bc S):bc S:=⟨lc.id,λst k=>lc.out (pre st) k⟩
def bY (K:Kit S) (P:Program) (pre:AS S->AS S):Prop:= ∀ {N:Nat} {B:cI} {A:Pl} {O:Γ} {w:World} {st:AS S} {a:Act},bg K P N B A O w st a-> ∃A',bg K P N B A' O w (pre st) a
theorem bY.gc (sl:Γ):bY K P (Vx.gc sl):=λh=>h.gc
theorem bY.fK (j c e:Nat):bY K P (Vx.fK j c e):=λh=>h.fK j c e
theorem bY.eu (l:Γ):bY K P (Vx.eu l):=λh=>⟨_,h.eu l⟩
theorem bY.j1 (j:Nat):bY K P (Vx.j1 j):=λh=>⟨_,h.j1 j⟩
theorem bY.comp {f g:AS S->AS S} (a:bY K P f) (b:bY K P g):bY K P (λst=>f (g st)):=λh=>
 let⟨_,h1⟩:=b h
 a h1
theorem aZ.pre {J:kP} {x:Code} {lc:bc S} {pre:AS S->AS S} (hp:bY K P pre) (h:aZ K P J x lc):aZ K P J x (gU pre lc):=by
 intro R st k z f;obtain⟨e,g,h1,b⟩:=h (pre st) k z f;refine⟨e,g,h1,λC A O w a c=>?_⟩;obtain⟨A',d⟩:=hp c;exact b C A' O w a d
end
section
variable {S:bh} {K:Kit S} {P:Program}
def p4 (K:Kit S) (f e:Nat) (ins:List (S.El e)->Int->List (S.El e)->Option (List (S.El e))):dI S:=⟨f,λaen h k=>match aen with
 |[.one (.own r),.one (.v (.int .i64 j)),.one (.own a)]=>bif ρ r a then none else(match dX K (av h) e (.own r),dX K (av h) e (.own a) with
  |some xs,some ys=>(ins xs j ys).bind λzs=>k (.ret (.s (.one (.own h.length)))) ((h.set r none).set a none++[some (.row e zs)]) [r,a]
  |_,_=>none)
 |_=>none⟩
theorem BN {g:Nat->Option (Ob S)} {e r:Nat} {xs:List (S.El e)} (h:dX K g e (.own r)=some xs):g r=some (.row e xs):=by
 simp only[dX] at h;split at h
 ·rename_i b ys a;split at h
  ·rename_i p _;subst p;cases h;exact a
  ·cases h
 ·cases h
theorem D1 {h:AH S} {r i:Nat} {X:Ob S} (hi:av (h.set r none) i=some X):i≠r/\av h i=some X:=by
 rw[iF] at hi;rw[ξm] at hi;split at hi
 ·split at hi<;>simp at hi
 ·rename_i a;exact⟨λe=>a e.symm,iF.2 hi⟩
theorem Dd (aL:bU K P) {f e:Nat} {ins:List (S.El e)->Int->List (S.El e)->Option (List (S.El e))} (aP:ep P f)
  (aK: ∀(O:Γ) (w:World) (v u:Value) (xs ys zs:List (S.El e)) (j:Int),OB O w->Dc.Own (S.ty e) e 0 O w v xs->(S.ty e).slice.is O w u ys->Plain w u->ins xs j ys=some zs->Calls P f #[v,.int .i64 j,u] w (eB (S.ty e) e 0 O w v zs))
  {R:Type} (aen:List (an S)) (h:AH S) (k:Rs S->AH S->Γ->Option R) (z:R) (y:(p4 K f e ins).out aen h k=some z): ∃r h' dt,k r h' dt=some z/\dv K P f aen h r h' dt:=by
 simp only[p4] at y;split at y
 rotate_left
 ·cases y
 rename_i r j m;cases F:ρ r m<;>rw[F] at y
 rotate_left
 ·cases y
 simp only[cond_false] at y;split at y
 rotate_left
 ·cases y
 rename_i xs ys a8 aE;obtain⟨zs,a_,hk⟩:=bind_some y;have F:r≠m:=λe=>by subst e;rw[Nat.beq_refl] at F;cases F
 have G:=BN a8;have T:=BN aE;refine⟨_,_,_,hk,aP,λA O w vs ai o hO ba aj au=>?_⟩;obtain⟨v,_,rfl,a6,v1,_,rfl,⟨aZ,_⟩,u,rest,rfl,aC,aW⟩:=ai;rw[show rest=[] from aW];obtain rfl:v1= .int .i64 j:=by simpa using aZ
 have ab:=jk aL o aE aC;obtain⟨_,H,a7,_⟩:=a6;cases a7;obtain⟨_,U,aY,_⟩:=aC;cases aY;obtain⟨v0,aD,af,aO⟩:=o.al r _ G;rw[H] at aD;cases aD;obtain⟨bd,aB,aU,bb⟩:=o.al m _ T;rw[U] at aB;cases aB;obtain⟨O1,L⟩: ∃O1,O1=db A [m] O:=⟨_,rfl⟩;have ab:(S.ty e).slice.is O1 w u ys:=by rw[L];exact ab
 have ah:Dc.Sub O1 O:=by rw[L];exact eE
 have a1: ∀g,bR v=some g->g∈O1:=by
  intro g M;rw[L,hz];refine⟨aO g M,λaa ag p hp=>?_⟩;have:aa=m:=by simpa using ag
  subst this;exact o.dj r aa _ _ v p g F G T H hp M
 have aV:Dc.Own (S.ty e) e 0 O1 w v xs:=by
  have af:Dc.Own (S.ty e) e 0 O w v xs:=af;obtain⟨cs,h1,l⟩:=af.ex;exact⟨⟨cs,h1,l.tr (Tr.less ah)⟩,λg M=>a1 g (fA M)⟩
 refine(aK O1 w v u xs ys zs j (λb a=>hO b (ah b a)) aV ab (Dc.Own.plain aU) a_).mono ?_;rintro a' w' ⟨s,D,rfl,t⟩;obtain⟨A',J⟩: ∃A':Pl,A'=⟨λi=>bif ρ i h.length then some s else A.pl i,A.ls⟩:=⟨_,rfl⟩;have E: ∀i,i≠h.length->A'.pl i=A.pl i:=λi hi=>by
  rw[J];have:ρ i h.length=false:=by
   cases a:ρ i h.length with
   |false=>rfl
   |true=>exact absurd (ξ a) hi
  simp only[this,cond_false]
 have I:A'.pl h.length=some s:=by rw[J];simp
 have hle:A.le A':=⟨λi p hp=>by
  rw[E i (λe=>by subst e;rw[aj _ (ξ5 _)] at hp;cases hp)];exact hp,by rw[J]⟩
 have x: ∀b,bR v≠some b->v.ownBlock≠some b:=λb a ai=>a (fA ai);have az: ∀b,b<w.heap.size->bR v≠some b->w'.heap[b]? =w.heap[b]? :=λb a hn=>t.fr b a (x b hn);have aq: ∀b,b∈O->bR u≠some b->b∈D:=λb a hn=>t.sub b (by
  rw[L,hz];refine⟨a,λaa ag p hp=>?_⟩;have:aa=m:=by simpa using ag
  subst this;rw[U] at hp;cases hp;exact hn)
 have aA:Tr O w D w':=(Tr.less ah).trans t.tr;have ak: ∀b,bR s=some b->s.ownBlock=some b/\b∈D:=by
  intro b a;have x:s.ownBlock=some b:=by
   rcases gZ t.own with⟨B,_⟩|⟨aF,c,B⟩
   ·rw[B] at a;cases a
   ·rw[B] at a ⊢;cases a;rfl
  exact⟨x,t.own.mem b x⟩
 have ae: ∀b,b<w.heap.size->bR v≠some b->bR s≠some b:=λb a hn h'=>t.ne b a (x b hn) (ak b h').1;have aT:s.oneCell'=true:=by
  rcases gZ t.own with⟨B,_⟩|⟨aF,c,B⟩<;>rw[B]<;>rfl
 have hlen:((h.set r none).set m none).length=h.length:=by simp
 have C: ∀ {i:Nat} {X:Ob S},av ((h.set r none).set m none++[some (.row e zs)]) i=some X->(i≠r/\i≠m/\av h i=some X)\/(i=h.length/\X= .row e zs):=by
  intro i X hi;rcases jy hi with h1|⟨h1,l⟩
  ·obtain⟨n,aH⟩:=D1 h1;obtain⟨aI,aJ⟩:=D1 aH;exact .inl ⟨aI,n,aJ⟩
  ·exact .inr ⟨h1.trans hlen,l⟩
 have aw: ∀i X,av ((h.set r none).set m none++[some (.row e zs)]) i=some X->X.nt=true:=λi X hi=>by
  rcases C hi with⟨_,_,h1⟩|⟨_,rfl⟩
  ·exact au i X h1
  ·rfl
 refine⟨A',D,⟨s,rfl,⟨s,I,rfl,aT⟩⟩,⟨bI.qc aw ?_ ?_,t.ob,aA,λi hi=>E i (by omega),(λj Q=>?_),by rw[J],by simp,?_,?_,λi X _=>aw i X⟩⟩
 ·intro i X hi;rcases C hi with⟨N,aQ,h1⟩|⟨rfl,rfl⟩
  ·obtain⟨p,hp,aM,a⟩:=o.al i X h1;have aR:=e_ h1;have ar: ∀b,bR p=some b->b∈D:=λb d=>aq b (a b d) (λaX=>o.dj i m _ _ p u b aQ h1 T hp U d aX);exact⟨p,by rw[E i (by omega)];exact hp,aM.keep aA hle λb d=>have d:=e0 (au i X h1) d;⟨az b (hO b (a b d)) (λx=>o.dj i r _ _ p v b N h1 G hp H d x),ar b d⟩,ar⟩
  ·exact⟨s,I,t.own,λb a=>(ak b a).2⟩
 ·intro i j X Y p q b ao hi Q hp V d W;have Z: ∀ {i:Nat} {X:Ob S} {p:Value},i≠r->av h i=some X->A'.pl i=some p->bR p=some b->b<w.heap.size/\A.pl i=some p/\bR v≠some b:=by
   intro i X p aG h1 l n;have aR:=e_ h1;rw[E i (by omega)] at l;obtain⟨bc,ay,_,a⟩:=o.al i X h1;rw[l] at ay;cases ay;exact⟨hO b (a b n),l,λx=>o.dj i r _ _ p v b aG h1 G l H n x⟩
  rcases C hi with⟨N,_,h1⟩|⟨rfl,rfl⟩
  ·rcases C Q with⟨ad,_,l⟩|⟨rfl,rfl⟩
   ·exact o.dj i j X Y p q b ao h1 l (Z N h1 hp d).2.1 (Z ad l V W).2.1 d W
   ·rw[I] at V;cases V;have n:=Z N h1 hp d;exact ae b n.1 n.2.2 W
  ·rcases C Q with⟨ad,_,l⟩|⟨rfl,rfl⟩
   ·rw[I] at hp;cases hp;have n:=Z ad l V W;exact ae b n.1 n.2.2 d
   ·exact absurd rfl ao
 ·have:j=r\/j=m:=by simpa using Q
  rcases this with rfl|rfl
  ·exact e_ G
  ·exact e_ T
 ·intro i hi;simp at hi;rw[E i (by omega)];exact aj i (by omega)
 ·intro b a hn;have ax:=hn r (by simp) v H;have aS:=hn m (by simp) u U;refine⟨az b (hO b a) ax,aq b a aS,λi X p hi aN hp d=>?_⟩;rcases C aN with⟨_,_,h1⟩|⟨rfl,rfl⟩
  ·have:=e_ h1;omega
  ·rw[I] at hp;cases hp;exact ae b (hO b a) ax (e0 rfl d)
end
end Go.Vx
end
section
namespace Go.Proofs.YtoggponeookhbaaGreatDoor
open Go.Dc
structure ai where
 aa:Int
 aW:Int
 bl:Bool
 b_:Int
 deriving DecidableEq
structure bF where
 aS:Γa
 ae:List ai
 deriving DecidableEq
structure ak where
 aa:Int
 bA:Int
 cf:Int
 deriving DecidableEq
structure aA where
 ba:Int
 aX:Int
 deriving DecidableEq
structure bT where
 ae:List aA
 bp:Int
 deriving DecidableEq
structure aD where
 a1:Int
 aa:Int
 deriving DecidableEq
structure aw where
 aa:Int
 a6:Γa
 deriving DecidableEq
structure aL where
 au:List aD
 ao:List aw
 deriving DecidableEq
structure bb where
 az:bF
 aV:List ak
 aI:bT
 aB:aL
 deriving DecidableEq
structure cN where
 bm:Int
 fArgs:Γa
 deriving DecidableEq
structure cX where
 cq:Int
 cD:Int
 deriving DecidableEq
structure iV where
 gv:List ByteArray
 pN:Int
 deriving DecidableEq
structure ag where
 cO:Int
 b9:cN
 cn:cX
 bP:Int
 aR:Int
 bK:Int
 deriving DecidableEq
structure dH where
 cA:List ag
 deriving DecidableEq
def tE:ai:=⟨1,0,false,0⟩
def fC (x y:cX):Bool:=(x.cq==y.cq)&&(x.cD==y.cD)
def fJ (x y:ai):Bool:=(x.aa==y.aa)&&(x.aW==y.aW)&&(x.bl==y.bl)&&(x.b_==y.b_)
def hs (x y:ak):Bool:=(x.aa==y.aa)&&(x.bA==y.bA)&&(x.cf==y.cf)
def jl (x y:aA):Bool:=(x.ba==y.ba)&&(x.aX==y.aX)
def jm (x y:aD):Bool:=(x.a1==y.a1)&&(x.aa==y.aa)
end Go.Proofs.YtoggponeookhbaaGreatDoor
end
section
namespace Go.Proofs.YtoggponeookhbaaGreatDoor
open Go.RowKit Go.Dc Go.Vx
def ra (n:Nat) (v:Value):Array Value:=(ψ n v).toArray
def rb (l:Γb) (n:Nat) (v:Value) (r:Γb):Array Value:=(l++(ψ n v++r)).toArray
def Θ:cz:=[(2,⟨2,3,0,[],1,8,.int .i64 0⟩),(3,⟨2,3,0,[],1,8,.int .i64 0⟩),(4,⟨1,0,0,[],1,1,.bool false⟩),(5,⟨2,4,0,[],1,1,.int .u8 0⟩),(6,⟨2,4,0,[],1,1,.int .u8 0⟩),(7,⟨8,0,0,[(2,0),(3,1),(4,2),(6,3)],4,24,.agg #[.int .i64 0,.int .i64 0,.bool false,.int .u8 0]⟩),(8,⟨8,0,0,[(2,0),(3,1),(4,2),(6,3)],4,24,.agg #[.int .i64 0,.int .i64 0,.bool false,.int .u8 0]⟩),(9,⟨3,0,0,[],1,16,.string ω⟩),(10,⟨3,0,0,[],1,16,.string ω⟩),(11,⟨3,0,0,[],1,16,.string ω⟩),(12,⟨2,7,0,[],1,8,.int .u64 0⟩),(13,⟨8,0,0,[(9,0),(12,1)],2,24,.agg #[.string ω,.int .u64 0]⟩),(14,⟨8,0,0,[(9,0),(12,1)],2,24,.agg #[.string ω,.int .u64 0]⟩),(15,⟨4,0,351,[],1,8,.pointer none⟩),(16,⟨4,0,354,[],1,8,.pointer none⟩),(17,⟨4,0,361,[],1,8,.pointer none⟩),(18,⟨8,0,0,[(17,0)],1,8,.agg #[.pointer none]⟩),(19,⟨8,0,0,[(17,0)],1,8,.agg #[.pointer none]⟩),(20,⟨10,0,0,[],1,16,.nilIface⟩),(21,⟨2,2,0,[],1,4,.int .i32 0⟩),(22,⟨5,0,42,[],1,24,.slice none 0 0⟩),(23,⟨8,0,0,[(22,0)],1,24,.agg #[.slice none 0 0]⟩),(24,⟨8,0,0,[(22,0)],1,24,.agg #[.slice none 0 0]⟩),(25,⟨9,0,0,[],1,8,.nilFunc⟩),(27,⟨2,3,0,[],1,8,.int .i64 0⟩),(31,⟨5,0,3,[],1,24,.slice none 0 0⟩),(34,⟨2,7,0,[],1,8,.int .u64 0⟩),(35,⟨2,7,0,[],1,8,.int .u64 0⟩),(36,⟨6,4,35,[],4,32,.agg (rb [] 4 (.int .u64 0) [])⟩),(37,⟨8,0,0,[(35,0),(36,1)],5,40,.agg (ra 5 (.int .u64 0))⟩),(38,⟨8,0,0,[(35,0),(36,1)],5,40,.agg (ra 5 (.int .u64 0))⟩),(39,⟨8,0,0,[(27,0),(35,1)],2,16,.agg #[.int .i64 0,.int .u64 0]⟩),(40,⟨8,0,0,[(27,0),(35,1)],2,16,.agg #[.int .i64 0,.int .u64 0]⟩),(41,⟨8,0,0,[(3,0),(38,1),(40,6),(3,8),(3,9),(3,10)],11,88,.agg (rb [.int .i64 0] 5 (.int .u64 0) [.int .i64 0,.int .u64 0,.int .i64 0,.int .i64 0,.int .i64 0])⟩),(42,⟨8,0,0,[(3,0),(38,1),(40,6),(3,8),(3,9),(3,10)],11,88,.agg (rb [.int .i64 0] 5 (.int .u64 0) [.int .i64 0,.int .u64 0,.int .i64 0,.int .i64 0,.int .i64 0])⟩),(47,⟨6,16,3,[],16,128,.agg (ra 16 (.int .i64 0))⟩),(48,⟨5,0,115,[],1,24,.slice none 0 0⟩),(49,⟨8,0,0,[(47,0),(48,16)],17,152,.agg (rb [] 16 (.int .i64 0) [.slice none 0 0])⟩),(50,⟨8,0,0,[(47,0),(48,16)],17,152,.agg (rb [] 16 (.int .i64 0) [.slice none 0 0])⟩),(51,⟨5,0,105,[],1,24,.slice none 0 0⟩),(52,⟨5,0,122,[],1,24,.slice none 0 0⟩),(53,⟨8,0,0,[(52,0),(35,1)],2,32,.agg #[.slice none 0 0,.int .u64 0]⟩),(54,⟨8,0,0,[(52,0),(35,1)],2,32,.agg #[.slice none 0 0,.int .u64 0]⟩),(55,⟨5,0,127,[],1,24,.slice none 0 0⟩),(56,⟨5,0,132,[],1,24,.slice none 0 0⟩),(57,⟨8,0,0,[(55,0),(56,1)],2,48,.agg #[.slice none 0 0,.slice none 0 0]⟩),(58,⟨8,0,0,[(55,0),(56,1)],2,48,.agg #[.slice none 0 0,.slice none 0 0]⟩),(59,⟨8,0,0,[(50,0),(51,17),(54,18),(58,20)],22,256,.agg (rb [] 16 (.int .i64 0) [.slice none 0 0,.slice none 0 0,.slice none 0 0,.int .u64 0,.slice none 0 0,.slice none 0 0])⟩),(60,⟨8,0,0,[(50,0),(51,17),(54,18),(58,20)],22,256,.agg (rb [] 16 (.int .i64 0) [.slice none 0 0,.slice none 0 0,.slice none 0 0,.int .u64 0,.slice none 0 0,.slice none 0 0])⟩),(64,⟨5,0,38,[],1,24,.slice none 0 0⟩),(73,⟨4,0,77,[],1,8,.pointer none⟩),(74,⟨6,64,4,[],64,64,.agg (ra 64 (.bool false))⟩),(75,⟨6,64,4,[],64,64,.agg (ra 64 (.bool false))⟩),(76,⟨8,0,0,[(24,0),(75,1)],65,88,.agg (rb [.slice none 0 0] 64 (.bool false) [])⟩),(77,⟨8,0,0,[(24,0),(75,1)],65,88,.agg (rb [.slice none 0 0] 64 (.bool false) [])⟩),(78,⟨9,0,0,[],1,8,.nilFunc⟩),(79,⟨9,0,0,[],1,8,.nilFunc⟩),(80,⟨9,0,0,[],1,8,.nilFunc⟩),(84,⟨9,0,0,[],1,8,.nilFunc⟩),(86,⟨5,0,31,[],1,24,.slice none 0 0⟩),(89,⟨5,0,60,[],1,24,.slice none 0 0⟩),(95,⟨9,0,0,[],1,8,.nilFunc⟩),(104,⟨8,0,0,[(35,0),(3,1),(35,2)],3,24,.agg #[.int .u64 0,.int .i64 0,.int .u64 0]⟩),(105,⟨8,0,0,[(35,0),(3,1),(35,2)],3,24,.agg #[.int .u64 0,.int .i64 0,.int .u64 0]⟩),(109,⟨7,3,3,[],1,8,.map none⟩),(110,⟨9,0,0,[],1,8,.nilFunc⟩),(114,⟨8,0,0,[(35,0),(35,1),(4,2),(35,3)],4,32,.agg #[.int .u64 0,.int .u64 0,.bool false,.int .u64 0]⟩),(115,⟨8,0,0,[(35,0),(35,1),(4,2),(35,3)],4,32,.agg #[.int .u64 0,.int .u64 0,.bool false,.int .u64 0]⟩),(120,⟨7,35,3,[],1,8,.map none⟩),(121,⟨8,0,0,[(35,0),(35,1)],2,16,.agg #[.int .u64 0,.int .u64 0]⟩),(122,⟨8,0,0,[(35,0),(35,1)],2,16,.agg #[.int .u64 0,.int .u64 0]⟩),(124,⟨9,0,0,[],1,8,.nilFunc⟩),(126,⟨8,0,0,[(35,0),(35,1)],2,16,.agg #[.int .u64 0,.int .u64 0]⟩),(127,⟨8,0,0,[(35,0),(35,1)],2,16,.agg #[.int .u64 0,.int .u64 0]⟩),(128,⟨9,0,0,[],1,8,.nilFunc⟩),(130,⟨5,0,35,[],1,24,.slice none 0 0⟩),(131,⟨8,0,0,[(35,0),(130,1)],2,32,.agg #[.int .u64 0,.slice none 0 0]⟩),(132,⟨8,0,0,[(35,0),(130,1)],2,32,.agg #[.int .u64 0,.slice none 0 0]⟩),(133,⟨9,0,0,[],1,8,.nilFunc⟩),(138,⟨4,0,140,[],1,8,.pointer none⟩),(139,⟨8,0,0,[(60,0),(36,22)],26,288,.agg (rb [] 16 (.int .i64 0) [.slice none 0 0,.slice none 0 0,.slice none 0 0,.int .u64 0,.slice none 0 0,.slice none 0 0,.int .u64 0,.int .u64 0,.int .u64 0,.int .u64 0])⟩),(140,⟨8,0,0,[(60,0),(36,22)],26,288,.agg (rb [] 16 (.int .i64 0) [.slice none 0 0,.slice none 0 0,.slice none 0 0,.int .u64 0,.slice none 0 0,.slice none 0 0,.int .u64 0,.int .u64 0,.int .u64 0,.int .u64 0])⟩),(141,⟨9,0,0,[],1,8,.nilFunc⟩),(142,⟨6,15,141,[],15,120,.agg #[.nilFunc,.nilFunc,.nilFunc,.nilFunc,.nilFunc,.nilFunc,.nilFunc,.nilFunc,.nilFunc,.nilFunc,.nilFunc,.nilFunc,.nilFunc,.nilFunc,.nilFunc]⟩),(154,⟨9,0,0,[],1,8,.nilFunc⟩),(158,⟨4,0,160,[],1,8,.pointer none⟩),(159,⟨8,0,0,[(50,0)],17,152,.agg (rb [] 16 (.int .i64 0) [.slice none 0 0])⟩),(160,⟨8,0,0,[(50,0)],17,152,.agg (rb [] 16 (.int .i64 0) [.slice none 0 0])⟩),(161,⟨4,0,115,[],1,8,.pointer none⟩),(163,⟨9,0,0,[],1,8,.nilFunc⟩),(165,⟨9,0,0,[],1,8,.nilFunc⟩),(166,⟨9,0,0,[],1,8,.nilFunc⟩),(169,⟨9,0,0,[],1,8,.nilFunc⟩),(171,⟨7,35,35,[],1,8,.map none⟩),(180,⟨2,3,0,[],1,8,.int .i64 0⟩),(187,⟨2,6,0,[],1,4,.int .u32 0⟩),(189,⟨9,0,0,[],1,8,.nilFunc⟩),(192,⟨5,0,9,[],1,24,.slice none 0 0⟩),(193,⟨5,0,9,[],1,24,.slice none 0 0⟩),(194,⟨8,0,0,[(193,0),(35,1)],2,32,.agg #[.slice none 0 0,.int .u64 0]⟩),(195,⟨8,0,0,[(193,0),(35,1)],2,32,.agg #[.slice none 0 0,.int .u64 0]⟩),(236,⟨2,7,0,[],1,8,.int .u64 0⟩),(239,⟨4,0,3,[],1,8,.pointer none⟩),(241,⟨9,0,0,[],1,8,.nilFunc⟩),(242,⟨9,0,0,[],1,8,.nilFunc⟩),(244,⟨9,0,0,[],1,8,.nilFunc⟩),(247,⟨5,0,5,[],1,24,.slice none 0 0⟩),(251,⟨9,0,0,[],1,8,.nilFunc⟩),(253,⟨9,0,0,[],1,8,.nilFunc⟩),(254,⟨9,0,0,[],1,8,.nilFunc⟩),(255,⟨9,0,0,[],1,8,.nilFunc⟩),(258,⟨4,0,262,[],1,8,.pointer none⟩),(261,⟨8,0,0,[(58,0)],2,48,.agg #[.slice none 0 0,.slice none 0 0]⟩),(262,⟨8,0,0,[(58,0)],2,48,.agg #[.slice none 0 0,.slice none 0 0]⟩),(267,⟨6,8,4,[],8,8,.agg (ra 8 (.bool false))⟩),(268,⟨9,0,0,[],1,8,.nilFunc⟩),(269,⟨9,0,0,[],1,8,.nilFunc⟩),(272,⟨5,0,4,[],1,24,.slice none 0 0⟩),(276,⟨9,0,0,[],1,8,.nilFunc⟩),(277,⟨9,0,0,[],1,8,.nilFunc⟩),(280,⟨9,0,0,[],1,8,.nilFunc⟩),(284,⟨9,0,0,[],1,8,.nilFunc⟩),(295,⟨4,0,236,[],1,8,.pointer none⟩),(303,⟨6,8,5,[],8,8,.agg (ra 8 (.int .u8 0))⟩),(311,⟨9,0,0,[],1,8,.nilFunc⟩),(319,⟨4,0,321,[],1,8,.pointer none⟩),(320,⟨8,0,0,[(319,0),(247,1)],2,32,.agg #[.pointer none,.slice none 0 0]⟩),(321,⟨8,0,0,[(319,0),(247,1)],2,32,.agg #[.pointer none,.slice none 0 0]⟩),(323,⟨10,0,0,[],1,16,.nilIface⟩),(324,⟨10,0,0,[],1,16,.nilIface⟩),(330,⟨9,0,0,[],1,8,.nilFunc⟩),(336,⟨4,0,5,[],1,8,.pointer none⟩),(339,⟨9,0,0,[],1,8,.nilFunc⟩),(345,⟨0,0,0,[],1,8,.pointer none⟩),(350,⟨8,0,0,[(17,0),(17,1),(17,2),(9,3)],4,40,.agg #[.pointer none,.pointer none,.pointer none,.string ω]⟩),(351,⟨8,0,0,[(17,0),(17,1),(17,2),(9,3)],4,40,.agg #[.pointer none,.pointer none,.pointer none,.string ω]⟩),(352,⟨6,0,16,[],0,0,.agg #[]⟩),(353,⟨8,0,0,[(352,0)],0,0,.agg #[]⟩),(354,⟨8,0,0,[(352,0)],0,0,.agg #[]⟩),(355,⟨2,4,0,[],1,1,.int .u8 0⟩),(356,⟨2,4,0,[],1,1,.int .u8 0⟩),(357,⟨9,0,0,[],1,8,.nilFunc⟩),(358,⟨2,2,0,[],1,4,.int .i32 0⟩),(359,⟨2,2,0,[],1,4,.int .i32 0⟩),(360,⟨8,0,0,[(12,0),(12,1),(187,2),(355,3),(5,4),(5,5),(356,6),(357,7),(336,8),(358,9),(359,10)],11,48,.agg #[.int .u64 0,.int .u64 0,.int .u32 0,.int .u8 0,.int .u8 0,.int .u8 0,.int .u8 0,.nilFunc,.pointer none,.int .i32 0,.int .i32 0]⟩),(361,⟨8,0,0,[(12,0),(12,1),(187,2),(355,3),(5,4),(5,5),(356,6),(357,7),(336,8),(358,9),(359,10)],11,48,.agg #[.int .u64 0,.int .u64 0,.int .u32 0,.int .u8 0,.int .u8 0,.int .u8 0,.int .u8 0,.nilFunc,.pointer none,.int .i32 0,.int .i32 0]⟩)]
theorem ah:Θ.ok γ:=by repeat' (first|exact trivial|refine⟨⟨by kernel_rfl,by kernel_rfl⟩,?_⟩)
theorem mixed:γ.follows .mixedOrders=true:=by kernel_rfl
def gI:Ty ai:=(Ty.pair (Ty.int .u64) (Ty.pair (Ty.int .u64) (Ty.pair Ty.bool (Ty.int .u64)))).fm λd=>(d.aa,d.aW,d.bl,d.b_)
def wv:Ty bF:=(Ty.pair (jb .i64 16) (Ty.slice gI)).fm λd=>(d.aS,d.ae)
def hZ:Ty ak:=(Ty.pair (Ty.int .u64) (Ty.pair (Ty.int .i64) (Ty.int .u64))).fm λd=>(d.aa,d.bA,d.cf)
def kH:Ty aA:=(Ty.pair (Ty.int .u64) (Ty.int .u64)).fm λd=>(d.ba,d.aX)
def wq:Ty bT:=(Ty.pair (Ty.slice kH) (Ty.int .u64)).fm λd=>(d.ae,d.bp)
def dT:Ty aD:=(Ty.pair (Ty.int .u64) (Ty.int .u64)).fm λd=>(d.a1,d.aa)
def iO:Ty aw:=(Ty.pair (Ty.int .u64) (Ty.slice (Ty.int .u64))).fm λd=>(d.aa,d.a6)
def fQ:Ty aL:=(Ty.pair (Ty.slice dT) (Ty.slice iO)).fm λd=>(d.au,d.ao)
def wx:Ty bb:=(Ty.pair wv (Ty.pair (Ty.slice hZ) (Ty.pair wq fQ))).fm λd=>(d.az,d.aV,d.aI,d.aB)
def iP:Ty cN:=(Ty.pair (Ty.int .u64) (jb .u64 4)).fm λd=>(d.bm,d.fArgs)
def jK:Ty cX:=(Ty.pair (Ty.int .i64) (Ty.int .u64)).fm λd=>(d.cq,d.cD)
def Fl:Ty iV:=(Ty.pair (Ty.slice Ty.str) (Ty.int .u64)).fm λd=>(d.gv,d.pN)
def dA:Ty ag:=(Ty.pair (Ty.int .i64) (Ty.pair iP (Ty.pair jK (Ty.pair (Ty.int .i64) (Ty.pair (Ty.int .i64) (Ty.int .i64)))))).fm λd=>(d.cO,d.b9,d.cn,d.bP,d.aR,d.bK)
def qN:Ty dH:=(Ty.single (Ty.slice dA)).fm λd=>d.cA
def DH:Ty Unit:= {agg:=false,n:=1,rep:=λ_ _ _ _=>False,tr:=λ_ h=>h,len:=λh=>h.elim,one:=λh=>h.elim,fv:=λ_=>rfl}
def qM (t:Nat):(α:Type)×Ty α:=match t with
 |3=>⟨Int,(Ty.int .i64)⟩
 |4=>⟨Bool,Ty.bool⟩
 |5=>⟨Int,(Ty.int .u8)⟩
 |9=>⟨ByteArray,Ty.str⟩
 |21=>⟨Int,(Ty.int .i32)⟩
 |22=>⟨List ag,(Ty.slice dA)⟩
 |24=>⟨dH,qN⟩
 |27=>⟨Int,(Ty.int .i64)⟩
 |31=>⟨Γa,(Ty.slice (Ty.int .i64))⟩
 |35=>⟨Int,(Ty.int .u64)⟩
 |36=>⟨Γa,(jb .u64 4)⟩
 |38=>⟨cN,iP⟩
 |40=>⟨cX,jK⟩
 |42=>⟨ag,dA⟩
 |47=>⟨Γa,(jb .i64 16)⟩
 |48=>⟨List ai,(Ty.slice gI)⟩
 |50=>⟨bF,wv⟩
 |51=>⟨List ak,(Ty.slice hZ)⟩
 |52=>⟨List aA,(Ty.slice kH)⟩
 |54=>⟨bT,wq⟩
 |55=>⟨List aD,(Ty.slice dT)⟩
 |56=>⟨List aw,(Ty.slice iO)⟩
 |58=>⟨aL,fQ⟩
 |60=>⟨bb,wx⟩
 |64=>⟨List cN,(Ty.slice iP)⟩
 |89=>⟨List bb,(Ty.slice wx)⟩
 |105=>⟨ak,hZ⟩
 |115=>⟨ai,gI⟩
 |122=>⟨aA,kH⟩
 |127=>⟨aD,dT⟩
 |130=>⟨Γa,(Ty.slice (Ty.int .u64))⟩
 |132=>⟨aw,iO⟩
 |192=>⟨List ByteArray,(Ty.slice Ty.str)⟩
 |193=>⟨List ByteArray,(Ty.slice Ty.str)⟩
 |195=>⟨iV,Fl⟩
 |_=>⟨Unit,DH⟩
abbrev SS:bh:=⟨λt=>(qM t).1,λt=>(qM t).2⟩
def Fb (t:Nat):Option (sE SS t):=match t with
 |22=>some ⟨42,id,id⟩
 |31=>some ⟨3,id,id⟩
 |48=>some ⟨115,id,id⟩
 |51=>some ⟨105,id,id⟩
 |52=>some ⟨122,id,id⟩
 |55=>some ⟨127,id,id⟩
 |56=>some ⟨132,id,id⟩
 |64=>some ⟨38,id,id⟩
 |89=>some ⟨60,id,id⟩
 |130=>some ⟨35,id,id⟩
 |192=>some ⟨9,id,id⟩
 |193=>some ⟨9,id,id⟩
 |_=>none
def ET (e:Nat):Option (r8 SS e):=match e with
 |42=>some ⟨22,id⟩
 |3=>some ⟨31,id⟩
 |115=>some ⟨48,id⟩
 |105=>some ⟨51,id⟩
 |122=>some ⟨52,id⟩
 |127=>some ⟨55,id⟩
 |132=>some ⟨56,id⟩
 |38=>some ⟨64,id⟩
 |60=>some ⟨89,id⟩
 |35=>some ⟨130,id⟩
 |9=>some ⟨192,id⟩
 |_=>none
def Mg:(t:Nat)->SS.El t->an SS:=λt=>match t with
 |3=>λx=>.one (.v (.int .i64 x))
 |4=>λx=>.one (.v (.bool x))
 |5=>λx=>.one (.v (.int .u8 x))
 |9=>λx=>.one (.v (.string x))
 |21=>λx=>.one (.v (.int .i32 x))
 |22=>λx=>.one (.aH 22 x)
 |24=>λx=>.agg [.aH 22 x.cA]
 |27=>λx=>.one (.v (.int .i64 x))
 |31=>λx=>.one (.aH 31 x)
 |35=>λx=>.one (.v (.int .u64 x))
 |36=>λx=>.agg [.bG .u64 4 x]
 |38=>λx=>.agg [.v (.int .u64 x.bm),.bG .u64 4 x.fArgs]
 |40=>λx=>.agg [.v (.int .i64 x.cq),.v (.int .u64 x.cD)]
 |42=>λx=>.agg [.v (.int .i64 x.cO),.v (.int .u64 x.b9.bm),.bG .u64 4 x.b9.fArgs,.v (.int .i64 x.cn.cq),.v (.int .u64 x.cn.cD),.v (.int .i64 x.bP),.v (.int .i64 x.aR),.v (.int .i64 x.bK)]
 |47=>λx=>.agg [.bG .i64 16 x]
 |48=>λx=>.one (.aH 48 x)
 |50=>λx=>.agg [.bG .i64 16 x.aS,.aH 48 x.ae]
 |51=>λx=>.one (.aH 51 x)
 |52=>λx=>.one (.aH 52 x)
 |54=>λx=>.agg [.aH 52 x.ae,.v (.int .u64 x.bp)]
 |55=>λx=>.one (.aH 55 x)
 |56=>λx=>.one (.aH 56 x)
 |58=>λx=>.agg [.aH 55 x.au,.aH 56 x.ao]
 |60=>λx=>.agg [.bG .i64 16 x.az.aS,.aH 48 x.az.ae,.aH 51 x.aV,.aH 52 x.aI.ae,.v (.int .u64 x.aI.bp),.aH 55 x.aB.au,.aH 56 x.aB.ao]
 |64=>λx=>.one (.aH 64 x)
 |89=>λx=>.one (.aH 89 x)
 |105=>λx=>.agg [.v (.int .u64 x.aa),.v (.int .i64 x.bA),.v (.int .u64 x.cf)]
 |115=>λx=>.agg [.v (.int .u64 x.aa),.v (.int .u64 x.aW),.v (.bool x.bl),.v (.int .u64 x.b_)]
 |122=>λx=>.agg [.v (.int .u64 x.ba),.v (.int .u64 x.aX)]
 |127=>λx=>.agg [.v (.int .u64 x.a1),.v (.int .u64 x.aa)]
 |130=>λx=>.one (.aH 130 x)
 |132=>λx=>.agg [.v (.int .u64 x.aa),.aH 130 x.a6]
 |192=>λx=>.one (.aH 192 x)
 |193=>λx=>.one (.aH 192 x)
 |195=>λx=>.agg [.aH 192 x.gv,.v (.int .u64 x.pN)]
 |t=>λx=>.one (.aH t x)
theorem ZW:dQ (S:=SS) gI λx=>[.v (.int .u64 x.aa),.v (.int .u64 x.aW),.v (.bool x.bl),.v (.int .u64 x.b_)]:=gD (eF d' (eF d' (eF Md d')))
def vO:List (LV SS)->Option (ai×List (LV SS)):=fO (rdPair (dM .u64) (rdPair (dM .u64) (rdPair vK (dM .u64)))) (λ(a0,a,a2,a3)=>⟨a0,a,a2,a3⟩)
theorem EH:dJ (S:=SS) gI vO:=gE (eH ea (eH ea (eH MW ea))) λ_=>rfl
theorem Mb:dQ (S:=SS) wv λx=>[.bG .i64 16 x.aS,.aH 48 x.ae]:=gD (eF vq (e4 (S:=SS) (t:=48) rfl))
def EB:List (LV SS)->Option (bF×List (LV SS)):=fO (rdPair (kA .i64 16) (eG (S:=SS) 48 (some ([]:List ai)))) (λ(a0,a)=>⟨a0,a⟩)
theorem MV:dJ (S:=SS) wv EB:=gE (eH nS (e6 (S:=SS) (t:=48) λx a O w=>by cases a;exact e3 O w)) λ_=>rfl
theorem ZR:dQ (S:=SS) hZ λx=>[.v (.int .u64 x.aa),.v (.int .i64 x.bA),.v (.int .u64 x.cf)]:=gD (eF d' (eF d' d'))
def vL:List (LV SS)->Option (ak×List (LV SS)):=fO (rdPair (dM .u64) (rdPair (dM .i64) (dM .u64))) (λ(a0,a,a2)=>⟨a0,a,a2⟩)
theorem EE:dJ (S:=SS) hZ vL:=gE (eH ea (eH ea ea)) λ_=>rfl
theorem ZT:dQ (S:=SS) kH λx=>[.v (.int .u64 x.ba),.v (.int .u64 x.aX)]:=gD (eF d' d')
def vM:List (LV SS)->Option (aA×List (LV SS)):=fO (rdPair (dM .u64) (dM .u64)) (λ(a0,a)=>⟨a0,a⟩)
theorem EF:dJ (S:=SS) kH vM:=gE (eH ea ea) λ_=>rfl
theorem Ma:dQ (S:=SS) wq λx=>[.aH 52 x.ae,.v (.int .u64 x.bp)]:=gD (eF (e4 (S:=SS) (t:=52) rfl) d')
def EA:List (LV SS)->Option (bT×List (LV SS)):=fO (rdPair (eG (S:=SS) 52 (some ([]:List aA))) (dM .u64)) (λ(a0,a)=>⟨a0,a⟩)
theorem MU:dJ (S:=SS) wq EA:=gE (eH (e6 (S:=SS) (t:=52) λx a O w=>by cases a;exact e3 O w) ea) λ_=>rfl
theorem ZU:dQ (S:=SS) dT λx=>[.v (.int .u64 x.a1),.v (.int .u64 x.aa)]:=gD (eF d' d')
def vN:List (LV SS)->Option (aD×List (LV SS)):=fO (rdPair (dM .u64) (dM .u64)) (λ(a0,a)=>⟨a0,a⟩)
theorem EG:dJ (S:=SS) dT vN:=gE (eH ea ea) λ_=>rfl
theorem ZP:dQ (S:=SS) iO λx=>[.v (.int .u64 x.aa),.aH 130 x.a6]:=gD (eF d' (e4 (S:=SS) (t:=130) rfl))
def MN:List (LV SS)->Option (aw×List (LV SS)):=fO (rdPair (dM .u64) (eG (S:=SS) 130 (some ([]:Γa)))) (λ(a0,a)=>⟨a0,a⟩)
theorem abT:dJ (S:=SS) iO MN:=gE (eH ea (e6 (S:=SS) (t:=130) λx a O w=>by cases a;exact e3 O w)) λ_=>rfl
theorem L':dQ (S:=SS) fQ λx=>[.aH 55 x.au,.aH 56 x.ao]:=gD (eF (e4 (S:=SS) (t:=55) rfl) (e4 (S:=SS) (t:=56) rfl))
def Ez:List (LV SS)->Option (aL×List (LV SS)):=fO (rdPair (eG (S:=SS) 55 (some ([]:List aD))) (eG (S:=SS) 56 (some ([]:List aw)))) (λ(a0,a)=>⟨a0,a⟩)
theorem MT:dJ (S:=SS) fQ Ez:=gE (eH (e6 (S:=SS) (t:=55) λx a O w=>by cases a;exact e3 O w) (e6 (S:=SS) (t:=56) λx a O w=>by cases a;exact e3 O w)) λ_=>rfl
theorem ZX:dQ (S:=SS) wx λx=>[.bG .i64 16 x.az.aS,.aH 48 x.az.ae,.aH 51 x.aV,.aH 52 x.aI.ae,.v (.int .u64 x.aI.bp),.aH 55 x.aB.au,.aH 56 x.aB.ao]:=gD (eF Mb (eF (e4 (S:=SS) (t:=51) rfl) (eF Ma L')))
def MR:List (LV SS)->Option (bb×List (LV SS)):=fO (rdPair EB (rdPair (eG (S:=SS) 51 (some ([]:List ak))) (rdPair EA Ez))) (λ(a0,a,a2,a3)=>⟨a0,a,a2,a3⟩)
theorem abX:dJ (S:=SS) wx MR:=gE (eH MV (eH (e6 (S:=SS) (t:=51) λx a O w=>by cases a;exact e3 O w) (eH MU MT))) λ_=>rfl
theorem L_:dQ (S:=SS) iP λx=>[.v (.int .u64 x.bm),.bG .u64 4 x.fArgs]:=gD (eF d' vq)
def Ey:List (LV SS)->Option (cN×List (LV SS)):=fO (rdPair (dM .u64) (kA .u64 4)) (λ(a0,a)=>⟨a0,a⟩)
theorem MS:dJ (S:=SS) iP Ey:=gE (eH ea nS) λ_=>rfl
theorem Mc:dQ (S:=SS) jK λx=>[.v (.int .i64 x.cq),.v (.int .u64 x.cD)]:=gD (eF d' d')
def qv:List (LV SS)->Option (cX×List (LV SS)):=fO (rdPair (dM .i64) (dM .u64)) (λ(a0,a)=>⟨a0,a⟩)
theorem vP:dJ (S:=SS) jK qv:=gE (eH ea ea) λ_=>rfl
theorem ZV:dQ (S:=SS) Fl λx=>[.aH 192 x.gv,.v (.int .u64 x.pN)]:=gD (eF (e4 (S:=SS) (t:=192) rfl) d')
def MQ:List (LV SS)->Option (iV×List (LV SS)):=fO (rdPair (eG (S:=SS) 192 (some ([]:List ByteArray))) (dM .u64)) (λ(a0,a)=>⟨a0,a⟩)
theorem abW:dJ (S:=SS) Fl MQ:=gE (eH (e6 (S:=SS) (t:=192) λx a O w=>by cases a;exact e3 O w) ea) λ_=>rfl
theorem ZS:dQ (S:=SS) dA λx=>[.v (.int .i64 x.cO),.v (.int .u64 x.b9.bm),.bG .u64 4 x.b9.fArgs,.v (.int .i64 x.cn.cq),.v (.int .u64 x.cn.cD),.v (.int .i64 x.bP),.v (.int .i64 x.aR),.v (.int .i64 x.bK)]:=gD (eF d' (eF L_ (eF Mc (eF d' (eF d' d')))))
def MP:List (LV SS)->Option (ag×List (LV SS)):=fO (rdPair (dM .i64) (rdPair Ey (rdPair qv (rdPair (dM .i64) (rdPair (dM .i64) (dM .i64)))))) (λ(a0,a,a2,a3,a4,a5)=>⟨a0,a,a2,a3,a4,a5⟩)
theorem abV:dJ (S:=SS) dA MP:=gE (eH ea (eH MS (eH vP (eH ea (eH ea ea))))) λ_=>rfl
theorem ZQ:dQ (S:=SS) qN λx=>[.aH 22 x.cA]:=gD (Z2 (e4 (S:=SS) (t:=22) rfl))
def MO:List (LV SS)->Option (dH×List (LV SS)):=fO (eG (S:=SS) 22 (some ([]:List ag))) (λa=>⟨a⟩)
theorem abU:dJ (S:=SS) qN MO:=gE (abY (e6 (S:=SS) (t:=22) λx a O w=>by cases a;exact e3 O w)) λ_=>rfl
def By:(t:Nat)->List (LV SS)->Option (SS.El t):=λt=>match t with
 |3=>λr=>b' ((dM .i64) r)
 |4=>λr=>b' (vK r)
 |5=>λr=>b' ((dM .u8) r)
 |9=>λr=>b' (ED r)
 |21=>λr=>b' ((dM .i32) r)
 |22=>λr=>b' ((eG (S:=SS) 22 (some ([]:List ag))) r)
 |24=>λr=>b' (MO r)
 |27=>λr=>b' ((dM .i64) r)
 |31=>λr=>b' ((eG (S:=SS) 31 (some ([]:Γa))) r)
 |35=>λr=>b' ((dM .u64) r)
 |36=>λr=>b' ((kA .u64 4) r)
 |38=>λr=>b' (Ey r)
 |40=>λr=>b' (qv r)
 |42=>λr=>b' (MP r)
 |47=>λr=>b' ((kA .i64 16) r)
 |48=>λr=>b' ((eG (S:=SS) 48 (some ([]:List ai))) r)
 |50=>λr=>b' (EB r)
 |51=>λr=>b' ((eG (S:=SS) 51 (some ([]:List ak))) r)
 |52=>λr=>b' ((eG (S:=SS) 52 (some ([]:List aA))) r)
 |54=>λr=>b' (EA r)
 |55=>λr=>b' ((eG (S:=SS) 55 (some ([]:List aD))) r)
 |56=>λr=>b' ((eG (S:=SS) 56 (some ([]:List aw))) r)
 |58=>λr=>b' (Ez r)
 |60=>λr=>b' (MR r)
 |64=>λr=>b' ((eG (S:=SS) 64 (some ([]:List cN))) r)
 |89=>λr=>b' ((eG (S:=SS) 89 (some ([]:List bb))) r)
 |105=>λr=>b' (vL r)
 |115=>λr=>b' (vO r)
 |122=>λr=>b' (vM r)
 |127=>λr=>b' (vN r)
 |130=>λr=>b' ((eG (S:=SS) 130 (some ([]:Γa))) r)
 |132=>λr=>b' (MN r)
 |192=>λr=>b' ((eG (S:=SS) 192 (some ([]:List ByteArray))) r)
 |193=>λr=>b' ((eG (S:=SS) 192 (some ([]:List ByteArray))) r)
 |195=>λr=>b' (MQ r)
 |t=>λr=>none
theorem IJ (d:Nat) (w:World) (x y:cX):(ξv (d+2) 40 (.agg #[.int .i64 x.cq,.int .u64 x.cD]) (.agg #[.int .i64 y.cq,.int .u64 y.cD])).run γ w= .ok (fC x y) w:=by
 have a:γ.underlying 40=some (.struct (γ.fieldsOf 40)):=by kernel_rfl
 have hp:γ.stoodInHeld 40=false:=by kernel_rfl
 rw[show d+2=(d+1)+1 from rfl,run_equalIn_agg w _ 40 _ _ a hp];simp only[ξ8,Tryz.underlying40];unfold fC
 go_simp
 by_cases b:x.cq=y.cq<;>by_cases h1:x.cD=y.cD<;>simp_all
theorem XA {ox oy:Operand} {w:World} (x y:cX):(do eqGuard .eql 40 ox oy (.agg #[.int .i64 x.cq,.int .u64 x.cD]) (.agg #[.int .i64 y.cq,.int .u64 y.cD]);binOp .eql 40 (.agg #[.int .i64 x.cq,.int .u64 x.cD]) (.agg #[.int .i64 y.cq,.int .u64 y.cD]):Sem Value).run γ w= .ok (.bool (fC x y)) w:=by
 simp only[κ];rw[run_eqGuard_agg w .eql 40 ox oy _ _ (by kernel_rfl)];simp only[ι];rw[run_eql_struct,show(10000:Nat)=9998+2 from rfl,IJ];rfl
theorem Zy {ox oy:Operand} {w:World} (x y:cX):(do eqGuard .neq 40 ox oy (.agg #[.int .i64 x.cq,.int .u64 x.cD]) (.agg #[.int .i64 y.cq,.int .u64 y.cD]);binOp .neq 40 (.agg #[.int .i64 x.cq,.int .u64 x.cD]) (.agg #[.int .i64 y.cq,.int .u64 y.cD]):Sem Value).run γ w= .ok (.bool (!fC x y)) w:=by
 simp only[κ];rw[run_eqGuard_agg w .neq 40 ox oy _ _ (by kernel_rfl)];simp only[ι];rw[run_neq_struct,show(10000:Nat)=9998+2 from rfl,IJ];rfl
theorem IG (d:Nat) (w:World) (x y:ai):(ξv (d+2) 115 (.agg #[.int .u64 x.aa,.int .u64 x.aW,.bool x.bl,.int .u64 x.b_]) (.agg #[.int .u64 y.aa,.int .u64 y.aW,.bool y.bl,.int .u64 y.b_])).run γ w= .ok (fJ x y) w:=by
 have a:γ.underlying 115=some (.struct (γ.fieldsOf 115)):=by kernel_rfl
 have hp:γ.stoodInHeld 115=false:=by kernel_rfl
 rw[show d+2=(d+1)+1 from rfl,run_equalIn_agg w _ 115 _ _ a hp];simp only[ξ8,Tryz.underlying115];unfold fJ
 go_simp
 by_cases b:x.aa=y.aa<;>by_cases h1:x.aW=y.aW<;>by_cases c:x.bl=y.bl<;>by_cases e:x.b_=y.b_<;>simp_all
theorem Xx {ox oy:Operand} {w:World} (x y:ai):(do eqGuard .eql 115 ox oy (.agg #[.int .u64 x.aa,.int .u64 x.aW,.bool x.bl,.int .u64 x.b_]) (.agg #[.int .u64 y.aa,.int .u64 y.aW,.bool y.bl,.int .u64 y.b_]);binOp .eql 115 (.agg #[.int .u64 x.aa,.int .u64 x.aW,.bool x.bl,.int .u64 x.b_]) (.agg #[.int .u64 y.aa,.int .u64 y.aW,.bool y.bl,.int .u64 y.b_]):Sem Value).run γ w= .ok (.bool (fJ x y)) w:=by
 simp only[κ];rw[run_eqGuard_agg w .eql 115 ox oy _ _ (by kernel_rfl)];simp only[ι];rw[run_eql_struct,show(10000:Nat)=9998+2 from rfl,IG];rfl
theorem Zv {ox oy:Operand} {w:World} (x y:ai):(do eqGuard .neq 115 ox oy (.agg #[.int .u64 x.aa,.int .u64 x.aW,.bool x.bl,.int .u64 x.b_]) (.agg #[.int .u64 y.aa,.int .u64 y.aW,.bool y.bl,.int .u64 y.b_]);binOp .neq 115 (.agg #[.int .u64 x.aa,.int .u64 x.aW,.bool x.bl,.int .u64 x.b_]) (.agg #[.int .u64 y.aa,.int .u64 y.aW,.bool y.bl,.int .u64 y.b_]):Sem Value).run γ w= .ok (.bool (!fJ x y)) w:=by
 simp only[κ];rw[run_eqGuard_agg w .neq 115 ox oy _ _ (by kernel_rfl)];simp only[ι];rw[run_neq_struct,show(10000:Nat)=9998+2 from rfl,IG];rfl
theorem IF (d:Nat) (w:World) (x y:ak):(ξv (d+2) 105 (.agg #[.int .u64 x.aa,.int .i64 x.bA,.int .u64 x.cf]) (.agg #[.int .u64 y.aa,.int .i64 y.bA,.int .u64 y.cf])).run γ w= .ok (hs x y) w:=by
 have a:γ.underlying 105=some (.struct (γ.fieldsOf 105)):=by kernel_rfl
 have hp:γ.stoodInHeld 105=false:=by kernel_rfl
 rw[show d+2=(d+1)+1 from rfl,run_equalIn_agg w _ 105 _ _ a hp];simp only[ξ8,Tryz.underlying105];unfold hs
 go_simp
 by_cases b:x.aa=y.aa<;>by_cases h1:x.bA=y.bA<;>by_cases c:x.cf=y.cf<;>simp_all
theorem Xw {ox oy:Operand} {w:World} (x y:ak):(do eqGuard .eql 105 ox oy (.agg #[.int .u64 x.aa,.int .i64 x.bA,.int .u64 x.cf]) (.agg #[.int .u64 y.aa,.int .i64 y.bA,.int .u64 y.cf]);binOp .eql 105 (.agg #[.int .u64 x.aa,.int .i64 x.bA,.int .u64 x.cf]) (.agg #[.int .u64 y.aa,.int .i64 y.bA,.int .u64 y.cf]):Sem Value).run γ w= .ok (.bool (hs x y)) w:=by
 simp only[κ];rw[run_eqGuard_agg w .eql 105 ox oy _ _ (by kernel_rfl)];simp only[ι];rw[run_eql_struct,show(10000:Nat)=9998+2 from rfl,IF];rfl
theorem Zu {ox oy:Operand} {w:World} (x y:ak):(do eqGuard .neq 105 ox oy (.agg #[.int .u64 x.aa,.int .i64 x.bA,.int .u64 x.cf]) (.agg #[.int .u64 y.aa,.int .i64 y.bA,.int .u64 y.cf]);binOp .neq 105 (.agg #[.int .u64 x.aa,.int .i64 x.bA,.int .u64 x.cf]) (.agg #[.int .u64 y.aa,.int .i64 y.bA,.int .u64 y.cf]):Sem Value).run γ w= .ok (.bool (!hs x y)) w:=by
 simp only[κ];rw[run_eqGuard_agg w .neq 105 ox oy _ _ (by kernel_rfl)];simp only[ι];rw[run_neq_struct,show(10000:Nat)=9998+2 from rfl,IF];rfl
theorem IH (d:Nat) (w:World) (x y:aA):(ξv (d+2) 122 (.agg #[.int .u64 x.ba,.int .u64 x.aX]) (.agg #[.int .u64 y.ba,.int .u64 y.aX])).run γ w= .ok (jl x y) w:=by
 have a:γ.underlying 122=some (.struct (γ.fieldsOf 122)):=by kernel_rfl
 have hp:γ.stoodInHeld 122=false:=by kernel_rfl
 rw[show d+2=(d+1)+1 from rfl,run_equalIn_agg w _ 122 _ _ a hp];simp only[ξ8,Tryz.underlying122];unfold jl
 go_simp
 by_cases b:x.ba=y.ba<;>by_cases h1:x.aX=y.aX<;>simp_all
theorem Xy {ox oy:Operand} {w:World} (x y:aA):(do eqGuard .eql 122 ox oy (.agg #[.int .u64 x.ba,.int .u64 x.aX]) (.agg #[.int .u64 y.ba,.int .u64 y.aX]);binOp .eql 122 (.agg #[.int .u64 x.ba,.int .u64 x.aX]) (.agg #[.int .u64 y.ba,.int .u64 y.aX]):Sem Value).run γ w= .ok (.bool (jl x y)) w:=by
 simp only[κ];rw[run_eqGuard_agg w .eql 122 ox oy _ _ (by kernel_rfl)];simp only[ι];rw[run_eql_struct,show(10000:Nat)=9998+2 from rfl,IH];rfl
theorem Zw {ox oy:Operand} {w:World} (x y:aA):(do eqGuard .neq 122 ox oy (.agg #[.int .u64 x.ba,.int .u64 x.aX]) (.agg #[.int .u64 y.ba,.int .u64 y.aX]);binOp .neq 122 (.agg #[.int .u64 x.ba,.int .u64 x.aX]) (.agg #[.int .u64 y.ba,.int .u64 y.aX]):Sem Value).run γ w= .ok (.bool (!jl x y)) w:=by
 simp only[κ];rw[run_eqGuard_agg w .neq 122 ox oy _ _ (by kernel_rfl)];simp only[ι];rw[run_neq_struct,show(10000:Nat)=9998+2 from rfl,IH];rfl
theorem II (d:Nat) (w:World) (x y:aD):(ξv (d+2) 127 (.agg #[.int .u64 x.a1,.int .u64 x.aa]) (.agg #[.int .u64 y.a1,.int .u64 y.aa])).run γ w= .ok (jm x y) w:=by
 have a:γ.underlying 127=some (.struct (γ.fieldsOf 127)):=by kernel_rfl
 have hp:γ.stoodInHeld 127=false:=by kernel_rfl
 rw[show d+2=(d+1)+1 from rfl,run_equalIn_agg w _ 127 _ _ a hp];simp only[ξ8,Tryz.underlying127];unfold jm
 go_simp
 by_cases b:x.a1=y.a1<;>by_cases h1:x.aa=y.aa<;>simp_all
theorem Xz {ox oy:Operand} {w:World} (x y:aD):(do eqGuard .eql 127 ox oy (.agg #[.int .u64 x.a1,.int .u64 x.aa]) (.agg #[.int .u64 y.a1,.int .u64 y.aa]);binOp .eql 127 (.agg #[.int .u64 x.a1,.int .u64 x.aa]) (.agg #[.int .u64 y.a1,.int .u64 y.aa]):Sem Value).run γ w= .ok (.bool (jm x y)) w:=by
 simp only[κ];rw[run_eqGuard_agg w .eql 127 ox oy _ _ (by kernel_rfl)];simp only[ι];rw[run_eql_struct,show(10000:Nat)=9998+2 from rfl,II];rfl
theorem Zx {ox oy:Operand} {w:World} (x y:aD):(do eqGuard .neq 127 ox oy (.agg #[.int .u64 x.a1,.int .u64 x.aa]) (.agg #[.int .u64 y.a1,.int .u64 y.aa]);binOp .neq 127 (.agg #[.int .u64 x.a1,.int .u64 x.aa]) (.agg #[.int .u64 y.a1,.int .u64 y.aa]):Sem Value).run γ w= .ok (.bool (!jm x y)) w:=by
 simp only[κ];rw[run_eqGuard_agg w .neq 127 ox oy _ _ (by kernel_rfl)];simp only[ι];rw[run_neq_struct,show(10000:Nat)=9998+2 from rfl,II];rfl
def BT (t:Nat) (ls ms:List (LV SS)):Option Bool:=match t with
 |40=>(match b' (qv ls),b' (qv ms) with|some x,some y=>some (fC x y)|_,_=>none)
 |115=>(match b' (vO ls),b' (vO ms) with|some x,some y=>some (fJ x y)|_,_=>none)
 |47=>(match b' ((kA .i64 16) ls),b' ((kA .i64 16) ms) with|some x,some y=>some (x==y)|_,_=>none)
 |105=>(match b' (vL ls),b' (vL ms) with|some x,some y=>some (hs x y)|_,_=>none)
 |122=>(match b' (vM ls),b' (vM ms) with|some x,some y=>some (jl x y)|_,_=>none)
 |127=>(match b' (vN ls),b' (vN ms) with|some x,some y=>some (jm x y)|_,_=>none)
 |_=>none
def Cr (g:Nat):Option ((t:Nat)×SS.El t):=match g with
 |0=>some ⟨115,tE⟩
 |_=>none
def KK:Kit SS:=⟨Θ,Fb,ET,Mg,By,Cr,BT⟩
theorem acZ {t:Nat} (h:t∉([3,4,5,9,21,22,24,27,31,35,36,38,40,42,47,48,50,51,52,54,55,56,58,60,64,89,105,115,122,127,130,132,192,193,195]:Γ)):qM t=⟨Unit,DH⟩:=by
 unfold qM;split<;>first|rfl|(exfalso;exact h (by decide))
theorem ZD {t:Nat} (h:t∉([3,4,5,9,21,22,24,27,31,35,36,38,40,42,47,48,50,51,52,54,55,56,58,60,64,89,105,115,122,127,130,132,192,193,195]:Γ)) {O:Γ} {w:World} {cs:Γb} {x:SS.El t}: ¬(SS.ty t).rep O w cs x:=by
 have key: ∀(p:(α:Type)×Ty α) (_:p=⟨Unit,DH⟩) (x:p.1),¬p.2.rep O w cs x:=by
  rintro _ rfl x a;exact a
 exact key (qM t) (acZ h) x
theorem LB {t:Nat} {p:Prop} (h:t∈([3,4,5,9,21,22,24,27,31,35,36,38,40,42,47,48,50,51,52,54,55,56,58,60,64,89,105,115,122,127,130,132,192,193,195]:Γ)) (o:t=3->p) (v:t=4->p) (A:t=5->p) (L:t=9->p) (k:t=21->p) (l:t=22->p) (m:t=24->p) (n:t=27->p) (q:t=31->p) (r:t=35->p) (s:t=36->p) (u:t=38->p) (w:t=40->p) (x:t=42->p) (y:t=47->p) (z:t=48->p) (B:t=50->p) (C:t=51->p) (D:t=52->p) (E:t=54->p) (F:t=55->p) (G:t=56->p) (H:t=58->p) (I:t=60->p) (J:t=64->p) (K:t=89->p) (a:t=105->p) (b:t=115->p) (c:t=122->p) (d:t=127->p) (e:t=130->p) (f:t=132->p) (g:t=192->p) (i:t=193->p) (j:t=195->p):p:=by
 simp only[ξX,ξM,or_false] at h;rcases h with h|h|h|h|h|h|h|h|h|h|h|h|h|h|h|h|h|h|h|h|h|h|h|h|h|h|h|h|h|h|h|h|h|h|h
 ·exact o h
 ·exact v h
 ·exact A h
 ·exact L h
 ·exact k h
 ·exact l h
 ·exact m h
 ·exact n h
 ·exact q h
 ·exact r h
 ·exact s h
 ·exact u h
 ·exact w h
 ·exact x h
 ·exact y h
 ·exact z h
 ·exact B h
 ·exact C h
 ·exact D h
 ·exact E h
 ·exact F h
 ·exact G h
 ·exact H h
 ·exact I h
 ·exact J h
 ·exact K h
 ·exact a h
 ·exact b h
 ·exact c h
 ·exact d h
 ·exact e h
 ·exact f h
 ·exact g h
 ·exact i h
 ·exact j h
theorem aaf (A:Pl) (O:Γ) (w:World) (t:Nat) (x:SS.El t) (cs:Γb) (h:(SS.ty t).rep O w cs x):bt A O w (Mg t x).cells cs:=by
 by_cases hm:t∈([3,4,5,9,21,22,24,27,31,35,36,38,40,42,47,48,50,51,52,54,55,56,58,60,64,89,105,115,122,127,130,132,192,193,195]:Γ)
 ·refine LB hm ?_ ?_ ?_ ?_ ?_ ?_ ?_ ?_ ?_ ?_ ?_ ?_ ?_ ?_ ?_ ?_ ?_ ?_ ?_ ?_ ?_ ?_ ?_ ?_ ?_ ?_ ?_ ?_ ?_ ?_ ?_ ?_ ?_ ?_ ?_
  ·intro e;subst e;exact d' A O w x cs h
  ·intro e;subst e;exact Md A O w x cs h
  ·intro e;subst e;exact d' A O w x cs h
  ·intro e;subst e;exact Z3 A O w x cs h
  ·intro e;subst e;exact d' A O w x cs h
  ·intro e;subst e;exact(e4 (S:=SS) (t:=22) rfl) A O w x cs h
  ·intro e;subst e;exact ZQ A O w x cs h
  ·intro e;subst e;exact d' A O w x cs h
  ·intro e;subst e;exact(e4 (S:=SS) (t:=31) rfl) A O w x cs h
  ·intro e;subst e;exact d' A O w x cs h
  ·intro e;subst e;exact vq A O w x cs h
  ·intro e;subst e;exact L_ A O w x cs h
  ·intro e;subst e;exact Mc A O w x cs h
  ·intro e;subst e;exact ZS A O w x cs h
  ·intro e;subst e;exact vq A O w x cs h
  ·intro e;subst e;exact(e4 (S:=SS) (t:=48) rfl) A O w x cs h
  ·intro e;subst e;exact Mb A O w x cs h
  ·intro e;subst e;exact(e4 (S:=SS) (t:=51) rfl) A O w x cs h
  ·intro e;subst e;exact(e4 (S:=SS) (t:=52) rfl) A O w x cs h
  ·intro e;subst e;exact Ma A O w x cs h
  ·intro e;subst e;exact(e4 (S:=SS) (t:=55) rfl) A O w x cs h
  ·intro e;subst e;exact(e4 (S:=SS) (t:=56) rfl) A O w x cs h
  ·intro e;subst e;exact L' A O w x cs h
  ·intro e;subst e;exact ZX A O w x cs h
  ·intro e;subst e;exact(e4 (S:=SS) (t:=64) rfl) A O w x cs h
  ·intro e;subst e;exact(e4 (S:=SS) (t:=89) rfl) A O w x cs h
  ·intro e;subst e;exact ZR A O w x cs h
  ·intro e;subst e;exact ZW A O w x cs h
  ·intro e;subst e;exact ZT A O w x cs h
  ·intro e;subst e;exact ZU A O w x cs h
  ·intro e;subst e;exact(e4 (S:=SS) (t:=130) rfl) A O w x cs h
  ·intro e;subst e;exact ZP A O w x cs h
  ·intro e;subst e;exact(e4 (S:=SS) (t:=192) rfl) A O w x cs h
  ·intro e;subst e;exact(e4 (S:=SS) (t:=192) rfl) A O w x cs h
  ·intro e;subst e;exact ZV A O w x cs h
 ·exact absurd h (ZD hm)
theorem Ur (A:Pl) (O:Γ) (w:World) (t:Nat) (ls:List (LV SS)) (x:SS.El t) (cs:Γb) (a:By t ls=some x) (h:bt A O w ls cs):(SS.ty t).rep O w cs x:=by
 by_cases hm:t∈([3,4,5,9,21,22,24,27,31,35,36,38,40,42,47,48,50,51,52,54,55,56,58,60,64,89,105,115,122,127,130,132,192,193,195]:Γ)
 ·refine LB hm ?_ ?_ ?_ ?_ ?_ ?_ ?_ ?_ ?_ ?_ ?_ ?_ ?_ ?_ ?_ ?_ ?_ ?_ ?_ ?_ ?_ ?_ ?_ ?_ ?_ ?_ ?_ ?_ ?_ ?_ ?_ ?_ ?_ ?_ ?_
  ·intro e;subst e;exact ch (S:=SS) ea a h
  ·intro e;subst e;exact ch (S:=SS) MW a h
  ·intro e;subst e;exact ch (S:=SS) ea a h
  ·intro e;subst e;exact ch (S:=SS) abZ a h
  ·intro e;subst e;exact ch (S:=SS) ea a h
  ·intro e;subst e;exact ch (S:=SS) (e6 (S:=SS) (t:=22) λx b O w=>by cases b;exact e3 O w) a h
  ·intro e;subst e;exact ch (S:=SS) abU a h
  ·intro e;subst e;exact ch (S:=SS) ea a h
  ·intro e;subst e;exact ch (S:=SS) (e6 (S:=SS) (t:=31) λx b O w=>by cases b;exact e3 O w) a h
  ·intro e;subst e;exact ch (S:=SS) ea a h
  ·intro e;subst e;exact ch (S:=SS) nS a h
  ·intro e;subst e;exact ch (S:=SS) MS a h
  ·intro e;subst e;exact ch (S:=SS) vP a h
  ·intro e;subst e;exact ch (S:=SS) abV a h
  ·intro e;subst e;exact ch (S:=SS) nS a h
  ·intro e;subst e;exact ch (S:=SS) (e6 (S:=SS) (t:=48) λx b O w=>by cases b;exact e3 O w) a h
  ·intro e;subst e;exact ch (S:=SS) MV a h
  ·intro e;subst e;exact ch (S:=SS) (e6 (S:=SS) (t:=51) λx b O w=>by cases b;exact e3 O w) a h
  ·intro e;subst e;exact ch (S:=SS) (e6 (S:=SS) (t:=52) λx b O w=>by cases b;exact e3 O w) a h
  ·intro e;subst e;exact ch (S:=SS) MU a h
  ·intro e;subst e;exact ch (S:=SS) (e6 (S:=SS) (t:=55) λx b O w=>by cases b;exact e3 O w) a h
  ·intro e;subst e;exact ch (S:=SS) (e6 (S:=SS) (t:=56) λx b O w=>by cases b;exact e3 O w) a h
  ·intro e;subst e;exact ch (S:=SS) MT a h
  ·intro e;subst e;exact ch (S:=SS) abX a h
  ·intro e;subst e;exact ch (S:=SS) (e6 (S:=SS) (t:=64) λx b O w=>by cases b;exact e3 O w) a h
  ·intro e;subst e;exact ch (S:=SS) (e6 (S:=SS) (t:=89) λx b O w=>by cases b;exact e3 O w) a h
  ·intro e;subst e;exact ch (S:=SS) EE a h
  ·intro e;subst e;exact ch (S:=SS) EH a h
  ·intro e;subst e;exact ch (S:=SS) EF a h
  ·intro e;subst e;exact ch (S:=SS) EG a h
  ·intro e;subst e;exact ch (S:=SS) (e6 (S:=SS) (t:=130) λx b O w=>by cases b;exact e3 O w) a h
  ·intro e;subst e;exact ch (S:=SS) abT a h
  ·intro e;subst e;exact ch (S:=SS) (e6 (S:=SS) (t:=192) λx b O w=>by cases b;exact e3 O w) a h
  ·intro e;subst e;exact ch (S:=SS) (e6 (S:=SS) (t:=192) λx b O w=>by cases b;exact e3 O w) a h
  ·intro e;subst e;exact ch (S:=SS) abW a h
 ·unfold By at a;split at a<;>first|cases a|(exfalso;exact hm (by decide))
theorem acV (t:Nat) (I:sE SS t) (h:Fb t=some I):(SS.ty t).agg=false/\(∀(O:Γ) (w:World) (v:Value) (x:SS.El t),(SS.ty t).is O w v x->(SS.ty I.e).slice.is O w v (I.to x))/\ ∀(O:Γ) (w:World) (v:Value) (xs:List (SS.El I.e)),(SS.ty I.e).slice.is O w v xs->(SS.ty t).is O w v (I.of xs):=by
 unfold Fb at h;split at h<;>first|(cases h;exact⟨rfl,λ_ _ _ _ h=>h,λ_ _ _ _ h=>h⟩)|cases h
theorem ace (e:Nat) (I:r8 SS e) (h:ET e=some I):(SS.ty I.t).agg=false/\ ∀(O:Γ) (w:World) (v:Value) (xs:List (SS.El e)),(SS.ty e).slice.is O w v xs->(SS.ty I.t).is O w v (I.of xs):=by
 unfold ET at h;split at h<;>first|(cases h;exact⟨rfl,λ_ _ _ _ h=>h⟩)|cases h
theorem XE (A:Pl) (O:Γ) (w:World) (t:Nat) (ls ms:List (LV SS)) (b:Bool) (xs ys:Γb) (ox oy:Operand) (h:BT t ls ms=some b) (e:bt A O w ls xs) (f:bt A O w ms ys):
  (do eqGuard .eql t ox oy (.agg xs.toArray) (.agg ys.toArray);binOp .eql t (.agg xs.toArray) (.agg ys.toArray):Sem Value).run γ w= .ok (.bool b) w/\
  (do eqGuard .neq t ox oy (.agg xs.toArray) (.agg ys.toArray);binOp .neq t (.agg xs.toArray) (.agg ys.toArray):Sem Value).run γ w= .ok (.bool (!b)) w:=by
 unfold BT at h;split at h
 ·split at h
  ·rename_i x y h1 a;cases h;have c:=ch (S:=SS) vP h1 e;have d:=ch (S:=SS) vP a f;obtain⟨_,_,rfl,rfl,rfl⟩:=c;obtain⟨_,_,rfl,rfl,rfl⟩:=d;exact⟨XA x y,Zy x y⟩
  ·cases h
 ·split at h
  ·rename_i x y h1 a;cases h;have c:=ch (S:=SS) EH h1 e;have d:=ch (S:=SS) EH a f;obtain⟨_,_,rfl,rfl,⟨_,_,rfl,rfl,⟨_,_,rfl,rfl,rfl⟩⟩⟩:=c;obtain⟨_,_,rfl,rfl,⟨_,_,rfl,rfl,⟨_,_,rfl,rfl,rfl⟩⟩⟩:=d;exact⟨Xx x y,Zv x y⟩
  ·cases h
 ·split at h
  ·rename_i x y h1 a;cases h;have c:=ch (S:=SS) nS h1 e;have d:=ch (S:=SS) nS a f;obtain⟨g,rfl⟩:=c;obtain⟨i,rfl⟩:=d;exact acv w 47 3 16 .i64 .i64 Tryz.underlying47 ξN (λw=>by go_simp) (by kernel_rfl) x y g i ox oy
  ·cases h
 ·split at h
  ·rename_i x y h1 a;cases h;have c:=ch (S:=SS) EE h1 e;have d:=ch (S:=SS) EE a f;obtain⟨_,_,rfl,rfl,⟨_,_,rfl,rfl,rfl⟩⟩:=c;obtain⟨_,_,rfl,rfl,⟨_,_,rfl,rfl,rfl⟩⟩:=d;exact⟨Xw x y,Zu x y⟩
  ·cases h
 ·split at h
  ·rename_i x y h1 a;cases h;have c:=ch (S:=SS) EF h1 e;have d:=ch (S:=SS) EF a f;obtain⟨_,_,rfl,rfl,rfl⟩:=c;obtain⟨_,_,rfl,rfl,rfl⟩:=d;exact⟨Xy x y,Zw x y⟩
  ·cases h
 ·split at h
  ·rename_i x y h1 a;cases h;have c:=ch (S:=SS) EG h1 e;have d:=ch (S:=SS) EG a f;obtain⟨_,_,rfl,rfl,rfl⟩:=c;obtain⟨_,_,rfl,rfl,rfl⟩:=d;exact⟨Xz x y,Zx x y⟩
  ·cases h
 ·cases h
theorem c8:bU KK γ:=⟨ah,acV,ace,aaf,Ur,XE⟩
theorem aY:oG γ:=by
 have h:γ.funcs.toList.all (λfn=>fn.name != "runtime.NumGoroutine" ||fn.body.isNone)=true:=by kernel_rfl
 intro f fn d a;rw[List.all_eq_true] at h;have:=h fn (by rw[Array.mem_toList_iff];exact Array.mem_of_getElem? d);cases b:fn.body with
 |none=>rw[b] at a;cases a
 |some c=>rw[b] at this;simpa using this
def Lw:List (Nat×Γ)->Nat->Γ|[],_=>[]|(a,b)::r,k=>bif ρ a k then b else Lw r k
def Lx:List (Nat×List (Nat×Γ)×List (Γ))->Nat->Nat->Γ|[],_,_=>[]|(a,b,c)::r,f,k=>bif ρ a f then(bif Nat.ble 1000000 k&&Nat.ble k 1000049 then c.getD (Nat.sub k 1000000) [] else Lw b k) else Lx r f k
def aq:Nat->Nat->Γ:=Lx [(4,[(15,[7,8,10,11,59,60,61])],[[4],[7,10,11],[7,8,10,11,59,60,61],[7,8,10,11,59,60,61]]),(7,[],[[0]]),(8,[],[[2]]),(9,[],[[2,3],[1]]),(12,[(11,[1,5,6,8,36,37,38]),(21,[1,5,13,73,74,75])],[[2,3],[1,5,8],[1,5,6,8,36,37,38],[13],[1,5,13,73,74,75]]),(13,[],[[6]]),(14,[],[[2]]),(15,[(5,[0,1,12,13])],[[4],[],[0,1,12,13]]),(18,[],[[0]]),(19,[],[[4,5,6]]),(20,[],[[4]]),(21,[],[[6]]),(22,[],[[6]]),(23,[(6,[1,3,19,20,21])],[[2],[],[1,3,19,20,21]]),(24,[(3,[0,9,10,11])],[[2],[],[0,9,10,11]]),(25,[(2000008,[2,3,4,5,7,14])],[[6],[7],[2,3,4,5,7]]),(26,[],[[2]]),(27,[],[[4,5],[3,4,6,7]]),(32,[(4,[1,3,7,8,9])],[[2],[1,3],[1,3,7,8,9]]),(33,[(4,[2,6,14,15,16])],[[4,5],[6],[2,6,14,15,16]]),(34,[(3,[1,2,4,7,15,16])],[[8,9],[],[1,2,4,7,15,16]]),(36,[],[[5]]),(37,[],[[4]]),(38,[],[[4]]),(39,[],[[0]]),(40,[],[[0]]),(41,[(6,[1,3,4,37,38,39]),(12,[1,3,4,52,53,54])],[[2],[1,3,4],[1,3,4,37,38,39],[1,3,4],[1,3,4,52,53,54]]),(42,[],[[4,5]]),(43,[(6,[1,2,31,32,33])],[[2],[1,2],[1,2,31,32,33]]),(44,[],[[4]]),(45,[(5,[0,1,12,13])],[[4],[],[0,1,12,13]]),(46,[],[[4]]),(47,[],[[4]]),(48,[],[[4]]),(49,[],[[2]]),(50,[],[[3]]),(51,[(2,[0,1,12,13,14]),(7,[0,1,3,4,5,12,13,14,29,30,31])],[[],[],[0,1,12,13,14],[0,1,3,5,12,13,14],[0,1,3,4,5,12,13,14,29,30,31]]),(52,[],[[2]]),(57,[],[[5]]),(58,[(3,[0,1,2,6,7,8]),(8,[0,1,2,6]),(10,[0,1,2,6,7,8])],[[],[0,1,2,6,7],[0,1,2,6,7,8],[],[0,1,2,6],[0,1,2,6,7],[0,1,2,6,7,8]]),(59,[],[[2]]),(60,[(2000011,[1,2,4,33])],[[2],[2],[1,2,4]]),(61,[(5,[0,8,9,10])],[[2],[],[0,8,9,10]]),(62,[(4,[1,3,7,8,9])],[[2],[1],[1,3,7,8,9]]),(63,[(5,[1,12,13,14]),(11,[1,47,48,49])],[[2],[1],[1,12,13,14],[],[1,47,48,49]]),(64,[(4,[1,5,8,9,10])],[[4],[5],[1,5,8,9,10]]),(65,[],[[4]]),(66,[(4,[1,5,8,9,10])],[[4],[5],[1,5,8,9,10]]),(67,[],[[3]]),(68,[(4,[1,5,8,9,10])],[[4],[5],[1,5,8,9,10]]),(69,[],[[3]]),(72,[],[[2]]),(73,[],[[4]]),(74,[],[[2]]),(75,[],[[0]]),(76,[],[[2]]),(77,[],[[2]]),(78,[],[[2]]),(79,[],[[2]]),(80,[],[[2]]),(81,[(5,[0,1,12,13])],[[4],[],[0,1,12,13]]),(82,[(5,[0,1,12,13])],[[4],[],[0,1,12,13]]),(83,[(5,[0,1,12,13])],[[4],[],[0,1,12,13]]),(84,[(5,[1,2,15,16,17])],[[6],[],[1,2,15,16,17]]),(85,[],[[4]]),(86,[(5,[0,1,12,13])],[[4],[],[0,1,12,13]]),(87,[],[[4]]),(88,[],[[3]]),(92,[(3,[0,1,2,3,4,10,11])],[[],[],[0,1,2,3,4,10,11]]),(93,[],[[2]]),(94,[(2,[0,1,2,3,8]),(5,[0,1,2,3,8,9])],[[],[],[0,1,2,3,8],[0,1,2,3,8],[0,1,2,3,8,9]]),(95,[(4,[0,1,4,10,11]),(10,[0,10,13]),(16,[0,2,4,14,15]),(22,[0,14,17]),(34,[0,1,2,3,4,18,19,20,21,22])],[[],[0,1,10],[0,1,4,10,11],[],[0,10,13],[0,2,14],[0,2,4,14,15],[],[0,14,17],[0,1,2,3,4,18,19,20],[0,1,2,3,4,18,19,20,21,22]]),(96,[],[[3]]),(97,[(2000005,[3,4,8])],[[4],[4],[3,4]]),(98,[],[[2]]),(99,[],[[4]]),(100,[],[[2]]),(101,[],[[2]]),(102,[],[[2]]),(103,[],[[4]]),(104,[],[[2]]),(105,[(4,[3,8,9,10])],[[2],[3],[3,8,9,10]]),(106,[(5,[5,20])],[[2],[5],[5,20]]),(107,[],[[2]]),(108,[],[[4,5]]),(109,[],[[2]]),(110,[],[[2]]),(111,[],[[2]]),(112,[],[[2]]),(113,[],[[2]]),(114,[],[[2]]),(115,[],[[2]]),(116,[],[[2]]),(117,[],[[2]]),(118,[],[[2]]),(119,[],[[2]]),(120,[],[[2]]),(121,[],[[2]]),(122,[],[[2]]),(123,[(3,[0,1,7,8])],[[4],[],[0,1,7,8]]),(131,[(5,[0,3,8,9,10,11]),(9,[0,3,8,9,12])],[[],[0,3,8,9,10],[0,3,8,9,10,11],[],[0,3,8,9,12]]),(132,[(6,[0,1,8,9,10,11])],[[],[],[0,1,8,9,10,11]]),(133,[],[[8,9],[8,9]]),(134,[(3,[0,8,9])],[[],[],[0,8,9]]),(135,[(4,[0,1,2,3,9,10]),(6,[0,1,2,3,9,10]),(15,[0,1,2,3,9,10,11]),(21,[0,1,2,3,9,10,12])],[[8],[],[0,1,2,3,9,10],[0,1,2,3,9,10],[0,1,2,3,9,10],[0,1,2,3,9,10],[0,1,2,3,9,10,11],[0,1,2,3,9,10],[0,1,2,3,9,10,12]]),(136,[(4,[0,1,4,11,12]),(6,[0,1,4,11,12])],[[10],[11],[0,1,4,11,12],[0,1,4,11,12],[0,1,4,11,12],[0,1,4,11,12],[0,1,4,11,12]]),(137,[(4,[0,1,4,12,13]),(6,[0,1,4,12,13]),(14,[0,1,4,12,13]),(16,[0,1,4,12,13])],[[10,11],[0,1,4,12,13],[0,1,4,12,13],[0,1,4,12,13],[0,1,4,12,13],[0,1,13],[0,1,4,12,13],[0,1,4,12,13],[0,1,4,12,13],[0,1,4,12,13],[0,1,4,12,13]]),(138,[],[[2]]),(139,[],[[2]]),(140,[(3,[0,2,4,10,11])],[[],[0,2,4,10],[0,2,4,10,11]]),(141,[(3,[0,1,7,8])],[[4],[],[0,1,7,8]]),(142,[(2,[0,1,9,10])],[[],[],[0,1,9,10]]),(143,[(4,[3,6,7,8])],[[2],[3],[3,6,7,8]]),(144,[],[[4]]),(145,[(2000010,[0,2,4,6,7,26])],[[2,3],[0,2,6,7],[0,2,4,6,7]]),(146,[(4,[0,4,5])],[[2,3],[0,4],[0,4,5]]),(147,[],[[4,5,6]]),(148,[],[[4]]),(149,[],[[6,7]]),(150,[(2000008,[5,12])],[[4],[5],[5]]),(151,[],[[4,5]]),(152,[],[[4,5,6]]),(153,[],[[4]]),(154,[],[[6,7,8]]),(155,[],[[4]]),(156,[(10,[10,11,28,29,30])],[[4,5],[11],[10,11,28,29,30]]),(157,[(2000010,[0,1,2,9,25])],[[6,7,8],[0,1,2],[0,1,2,9],[9]]),(158,[],[[4]]),(159,[(8,[1,9,10,23,24,25])],[[6,7],[9,10],[1,9,10,23,24,25]]),(160,[],[[2]]),(161,[],[[6,7,8],[0,1,2]]),(162,[],[[4,5,6],[1,2,4]]),(163,[],[[4]]),(164,[],[[4,5]]),(165,[],[[4]]),(166,[(2000010,[2,3,4,5,28])],[[4,5],[2,3,4,5],[4,5]]),(167,[],[[6,7],[1,2,6,8],[1,2,6,8,10]]),(168,[],[[4,5],[1,4,6]]),(169,[],[[4,5],[1,2]]),(170,[],[[6,7]]),(171,[],[[4,5,6]]),(179,[(2,[0,2,3,4,10])],[[],[],[0,2,3,4,10]]),(180,[],[[2]]),(181,[],[[2]]),(182,[],[[8]]),(183,[],[[12]]),(184,[(2,[0,1,2,3,10])],[[],[],[0,1,2,3,10]]),(185,[],[[2]]),(186,[],[[2]]),(187,[(3,[0,6])],[[2],[0],[0,6]]),(188,[],[[2,3]]),(189,[(8,[0,5,14,15])],[[2,3],[5],[0,5,14,15]]),(190,[],[[4,5]]),(192,[],[[4]]),(193,[(3,[0,3])],[[2],[3],[0,3]]),(195,[(2000009,[1,40])],[[],[],[1]]),(197,[(4,[1,5,8,9,10])],[[4],[5],[1,5,8,9,10]]),(198,[],[[4]]),(199,[],[[4]]),(200,[(4,[1,5,8,9,10])],[[4],[5],[1,5,8,9,10]]),(201,[],[[3]]),(202,[],[[4,5,6],[1,7]]),(205,[],[[3]]),(206,[],[[4]]),(207,[(7,[4,6,7])],[[2,3],[6],[4,6,7]]),(208,[],[[3]]),(209,[],[[4]]),(210,[(3,[0,1,7,8])],[[4],[],[0,1,7,8]]),(211,[(4,[0,2,4,8,9,10])],[[6,7],[0,2,4,8,9],[0,2,4,8,9,10]]),(212,[],[[6]]),(213,[(2000007,[5,6,7,14])],[[6,7],[6,7],[5,6,7]]),(214,[],[[3]]),(215,[],[[3]]),(216,[],[[4]]),(217,[(4,[1,5,8,9,10])],[[4],[5],[1,5,8,9,10]]),(218,[],[[3]]),(219,[(7,[5,20,21,22])],[[2,3],[5],[5,20,21,22]]),(220,[],[[6,7]]),(221,[],[[2]]),(222,[],[[6]]),(223,[],[[6]]),(247,[],[[10,11]]),(248,[(1,[0,1])],[[],[],[0,1]]),(249,[],[[4]]),(250,[],[[4]]),(251,[],[[2]]),(252,[(13,[0,1,5,39,40,41]),(23,[1,8,63,64,65])],[[4],[0,1],[0,1,5],[0,1,5,39,40,41],[8],[1,8,63,64,65]]),(253,[],[[4]]),(255,[],[[4]]),(256,[],[[3]]),(257,[(3,[0,1,7,8])],[[4],[],[0,1,7,8]]),(258,[],[[3]]),(259,[],[[6]]),(260,[(2,[0,2,7,8,9])],[[],[],[0,2,7,8,9]]),(261,[],[[4]]),(262,[(6,[0,1,5,6])],[[4],[0,5],[0,1,5,6]]),(263,[],[[2]]),(264,[(2,[0,2,6,7,8])],[[],[],[0,2,6,7,8]]),(267,[(2,[0,2,7,8,9])],[[],[],[0,2,7,8,9]]),(268,[],[[4]]),(269,[(4,[0,1,2,8,9,10])],[[6,7],[0,1,2,8,9],[0,1,2,8,9,10]]),(270,[],[[5]]),(282,[],[[4]]),(283,[],[[4]]),(285,[],[[4,5]]),(286,[],[[2]]),(287,[],[[4]]),(288,[],[[3]]),(291,[],[[6,7]]),(292,[],[[2]]),(293,[],[[6]]),(294,[(3,[0,1,7,8])],[[4],[],[0,1,7,8]]),(296,[],[[4]]),(305,[(3,[0,1,7,8])],[[4],[],[0,1,7,8]]),(307,[(4,[0,1,2,8,9,10])],[[6,7],[0,1,2,8,9],[0,1,2,8,9,10]]),(308,[],[[5]]),(311,[(2,[0,2,3])],[[],[],[0,2,3]]),(312,[(5,[0,1,12,13])],[[4],[],[0,1,12,13]]),(313,[(2,[0,2,3])],[[],[],[0,2,3]]),(316,[(2,[0,2,3])],[[],[],[0,2,3]]),(318,[(2,[0,2,3])],[[],[],[0,2,3]])]
noncomputable def G0:bE SS:=⟨KK,[],[],[],qO γ aq,[]⟩
theorem Ro:aj G0 γ:=⟨c8,⟨λf a h=>by cases h⟩,(λf c h=>by cases h),(λg b h=>by cases h),mixed,aY⟩
end Go.Proofs.YtoggponeookhbaaGreatDoor
end
section
namespace Go.Proofs.YtoggponeookhbaaGreatDoor
open Go.RowKit Go.Dc Go.Vx
set_option maxRecDepth 100000 in
set_option maxHeartbeats 12000000 in
theorem j5:(∀ {O:Γ} {w:World},OB O w-> ∀ {v0:Value} {x0:List ai},(Ty.slice gI).is O w v0 x0-> ∀ {r:List ai},app 32 [] x0=some r->let T:=gI;Calls γ 76 #[v0] w (eB gI 115 w.heap.size O w (.slice none 0 0) r))/\(∀ {O:Γ} {w:World},OB O w-> ∀ {v0:Value} {x0:List ak},(Ty.slice hZ).is O w v0 x0-> ∀ {r:List ak},app 24 [] x0=some r->let T:=hZ;Calls γ 77 #[v0] w (eB hZ 105 w.heap.size O w (.slice none 0 0) r))/\(∀ {O:Γ} {w:World},OB O w-> ∀ {v0:Value} {x0:List aA},(Ty.slice kH).is O w v0 x0-> ∀ {r:List aA},app 16 [] x0=some r->let T:=kH;Calls γ 78 #[v0] w (eB kH 122 w.heap.size O w (.slice none 0 0) r))/\(∀ {O:Γ} {w:World},OB O w-> ∀ {v0:Value} {x0:List aD},(Ty.slice dT).is O w v0 x0-> ∀ {r:List aD},app 16 [] x0=some r->let T:=dT;Calls γ 79 #[v0] w (eB dT 127 w.heap.size O w (.slice none 0 0) r))/\(∀ {O:Γ} {w:World},OB O w-> ∀ {v0:Value} {x0:Γa},(Ty.slice (Ty.int .u64)).is O w v0 x0-> ∀ {r:Γa},app 8 [] x0=some r->let T:=(Ty.int .u64);Calls γ 80 #[v0] w (eB (Ty.int .u64) 35 w.heap.size O w (.slice none 0 0) r))/\(∀ {O:Γ} {w:World},OB O w-> ∀ {v0:Value} {x0:List ag},(Ty.slice dA).is O w v0 x0-> ∀ {r:List ag},app 88 [] x0=some r->let T:=dA;Calls γ 14 #[v0] w (eB dA 42 w.heap.size O w (.slice none 0 0) r)):=by
 refine⟨?_,?_,?_,?_,?_,?_⟩
 all_goals
  intro O w hO v0 x0 c r h T;have a:=Fr.refl [] w;have k:=hO;have b:=Dc.Sub.refl O;have j:=ξ5 w.heap.size;refine fV (args:=[v0]) (N:=8) (by first|exact ζe|exact ζf|exact ζg|exact ζh|exact ζi|exact ζj) rfl rfl rfl ?_;refine aF (aT (l:=[0]) rfl (ax ah [0] [(0,v0)] rfl ⟨rfl,trivial⟩ (aQ (aG (aF (aF (aT (l:=[0,1]) rfl (ax ah [0] [(0,v0),(3,v0)] rfl ⟨rfl,rfl,trivial⟩ ?_))))))));obtain⟨A2,g,rfl,s,t⟩:=eS c;refine ax ah [1] [(0,(.slice A2 x0.length g)),(4,(.bool A2.isNone))] rfl ⟨rfl,rfl,trivial⟩ (aQ (aG ?_));rcases A2 with _|n
  ·obtain rfl:=wg c;simp[app] at h;subst h;refine og rfl (aF (aT (l:=[0]) rfl (ax ah [0] [(2,(.slice none 0 0))] rfl ⟨rfl,trivial⟩ (aQ (aG (dk ?_))))));exact ff (ez rfl (I_ Own.iE b a k j))
  refine kI rfl (eo (aG (aF (aT (l:=[0,1,2,3]) rfl (Pz ah rfl rfl rfl rfl rfl rfl rfl rfl rfl rfl (T:=T) (xs:=[]) (vs:=[]) rfl trivial rfl rfl rfl hO (λf v m=>?_))))));obtain⟨_,e,_⟩:=m.new;have i:=m.own a.size;have c:=c.tr e.tr;have hO:=e.ob;have a:=a.trans e.fr;have b:=Sub.cons b f;generalize (ζk (some ⟨f,0,none⟩) 0 0)=p at*
  refine ax ah [1] [(5,p),(6,(.slice (some n) x0.length g))] rfl ⟨rfl,rfl,trivial⟩ (Pt ah rfl rfl rfl rfl rfl rfl rfl rfl rfl rfl rfl rfl rfl rfl a hO i c h (λv11 u q d=>?_));have a:=d.b7 i a;have b:=Sub.trans b d.sub;have hO:=d.ob;have o:=d.own;refine ax ah [3] [(2,v11)] rfl ⟨rfl,trivial⟩ (aQ (aG (dk ?_)));exact ez rfl (I_ o b a k j)
def Bs:dI SS:=ko KK 76 115 (λxs=>app 32 [] xs)
theorem Uk {R:Type} (xs:List (an SS)) (h:AH SS) (k:Rs SS->AH SS->Γ->Option R) (z:R) (a:(Bs).out xs h k=some z): ∃r h' dt,k r h' dt=some z/\dv KK γ 76 xs h r h' dt:=
 ny (e:=115) (cl:=λxs=>app 32 [] xs) c8 (cG aY ζe rfl) (λ_ _ _ _ _ _ h=>h) (λO w v xs zs hO b a=>j5.1 hO b a) xs h k z a
def Bt:dI SS:=ko KK 77 105 (λxs=>app 24 [] xs)
theorem Ul {R:Type} (xs:List (an SS)) (h:AH SS) (k:Rs SS->AH SS->Γ->Option R) (z:R) (a:(Bt).out xs h k=some z): ∃r h' dt,k r h' dt=some z/\dv KK γ 77 xs h r h' dt:=
 ny (e:=105) (cl:=λxs=>app 24 [] xs) c8 (cG aY ζf rfl) (λ_ _ _ _ _ _ h=>h) (λO w v xs zs hO b a=>j5.2.1 hO b a) xs h k z a
def Bu:dI SS:=ko KK 78 122 (λxs=>app 16 [] xs)
theorem Um {R:Type} (xs:List (an SS)) (h:AH SS) (k:Rs SS->AH SS->Γ->Option R) (z:R) (a:(Bu).out xs h k=some z): ∃r h' dt,k r h' dt=some z/\dv KK γ 78 xs h r h' dt:=
 ny (e:=122) (cl:=λxs=>app 16 [] xs) c8 (cG aY ζg rfl) (λ_ _ _ _ _ _ h=>h) (λO w v xs zs hO b a=>j5.2.2.1 hO b a) xs h k z a
def Bv:dI SS:=ko KK 79 127 (λxs=>app 16 [] xs)
theorem Un {R:Type} (xs:List (an SS)) (h:AH SS) (k:Rs SS->AH SS->Γ->Option R) (z:R) (a:(Bv).out xs h k=some z): ∃r h' dt,k r h' dt=some z/\dv KK γ 79 xs h r h' dt:=
 ny (e:=127) (cl:=λxs=>app 16 [] xs) c8 (cG aY ζh rfl) (λ_ _ _ _ _ _ h=>h) (λO w v xs zs hO b a=>j5.2.2.2.1 hO b a) xs h k z a
def Bw:dI SS:=ko KK 80 35 (λxs=>app 8 [] xs)
theorem Uo {R:Type} (xs:List (an SS)) (h:AH SS) (k:Rs SS->AH SS->Γ->Option R) (z:R) (a:(Bw).out xs h k=some z): ∃r h' dt,k r h' dt=some z/\dv KK γ 80 xs h r h' dt:=
 ny (e:=35) (cl:=λxs=>app 8 [] xs) c8 (cG aY ζi rfl) (λ_ _ _ _ _ _ h=>h) (λO w v xs zs hO b a=>j5.2.2.2.2.1 hO b a) xs h k z a
def Br:dI SS:=ko KK 14 42 (λxs=>app 88 [] xs)
theorem Uj {R:Type} (xs:List (an SS)) (h:AH SS) (k:Rs SS->AH SS->Γ->Option R) (z:R) (a:(Br).out xs h k=some z): ∃r h' dt,k r h' dt=some z/\dv KK γ 14 xs h r h' dt:=
 ny (e:=42) (cl:=λxs=>app 88 [] xs) c8 (cG aY ζj rfl) (λ_ _ _ _ _ _ h=>h) (λO w v xs zs hO b a=>j5.2.2.2.2.2 hO b a) xs h k z a
set_option maxRecDepth 100000
noncomputable def xb:bE SS:= {G0 with H:=Bs::G0.H}
theorem Rj:aj xb γ:=aj.dw (c:=Bs) Ro Uk
noncomputable def xc:bE SS:= {xb with H:=Bt::xb.H}
theorem Rk:aj xc γ:=aj.dw (c:=Bt) Rj Ul
noncomputable def xd:bE SS:= {xc with H:=Bu::xc.H}
theorem Rl:aj xd γ:=aj.dw (c:=Bu) Rk Um
noncomputable def xf:bE SS:= {xd with H:=Bv::xd.H}
theorem Rm:aj xf γ:=aj.dw (c:=Bv) Rl Un
noncomputable def xg:bE SS:= {xf with H:=Bw::xf.H}
theorem Rn:aj xg γ:=aj.dw (c:=Bw) Rm Uo
noncomputable def G1:bE SS:= {xg with H:=Br::xg.H}
theorem Rp:aj G1 γ:=aj.dw (c:=Br) Rn Uj
end Go.Proofs.YtoggponeookhbaaGreatDoor
end
section
namespace Go.Proofs.YtoggponeookhbaaGreatDoor
open Go.RowKit Go.Dc Go.Vx
set_option maxRecDepth 100000 in
set_option maxHeartbeats 4000000 in
theorem YF {w:World} (s:ByteArray) (c:Int):Calls γ 283 #[.string s,.int .u8 c] w (λe w'=>e= .returned (.int .i64 (ξ2 s.data.toList c.toNat.toUInt8))/\Fr [] w w'):=by
 have g:=Fr.refl [] w;refine fV (args:=[.string s,.int .u8 c]) (N:=8) ζ0 rfl rfl rfl (aF (aT (l:=[0]) rfl (ax ah [0] [(0,.string s),(1,.int .u8 c)] rfl ⟨rfl,rfl,trivial⟩ (aQ (aG (aF (aT (l:=[0,1,2,3]) rfl (ax ah [0,1] [(5,.string s),(6,.int .u8 c)] rfl ⟨rfl,rfl,trivial⟩ ?_))))))));have i:(callFunc 302 #[.string s,.int .u8 c]).run γ w= .ok (.value (.int .i64 (ξ2 s.data.toList c.toNat.toUInt8))) w:=by
  rw[run_callFunc_extern Tryz.func302 rfl rfl rfl rfl,Lib.run_indexByteString];rfl
 refine ee rfl rfl rfl rfl (by intro c h;cases h) (λa b=>?_) (v:=.int .i64 (ξ2 s.data.toList c.toNat.toUInt8)) (w':=w) (d:=7) ?_
 ·have h1:=b.get 5 _ rfl;have f:=b.get 6 _ rfl;simp only[execOp,κ,resolve,Act.eval,Deferred.ofValue,Sem.run_pure,ι,invoke];simpa[Act.eval,h1,f] using i
 refine ax ah [3] [(4,.int .i64 (ξ2 s.data.toList c.toNat.toUInt8))] rfl ⟨rfl,trivial⟩ (aQ (aG (dk ?_)));exact ez rfl ⟨rfl,g⟩
def uF:fg SS:=⟨283,λxs k=>match xs with
 |[.one (.v (.string s)),.one (.v (.int .u8 c))]=>k (.ret (.s (.one (.v (.int .i64 (ξ2 s.data.toList c.toNat.toUInt8))))))
 |_=>none⟩
theorem YI {R:Type} (xs:List (an SS)) (k:Rs SS->Option R) (z:R) (_:xs.all an.pure=true) (a:uF.out xs k=some z): ∃r,k r=some z/\eA KK γ 283 xs r:=by
 simp only[uF] at a;split at a
 ·rename_i s c i;refine⟨_,a,cG aY ζ0 rfl,λA O w vs g hO j=>?_⟩;obtain⟨y,ys,rfl,⟨h1,_⟩,l,h,rfl,⟨b,_⟩,d⟩:=g;cases h1;cases b;rw[show h=[] from d];refine(YF s c).mono ?_;rintro e w' ⟨rfl,f⟩;exact⟨⟨_,rfl,rfl,rfl⟩,f⟩
 ·cases a
set_option maxRecDepth 100000
noncomputable def G2:bE SS:= {G1 with C:=uF::G1.C}
theorem Rq:aj G2 γ:=aj.ho (c:=uF) Rp YI
end Go.Proofs.YtoggponeookhbaaGreatDoor
end
section
namespace Go.Proofs.YtoggponeookhbaaGreatDoor
open Go.RowKit Go.Dc Go.Vx
theorem OM (e:Int) (w:World):(ξh (.iface 27 (.int .i64 e)) 20 27 true).run γ w= .ok (.tuple #[.int .i64 e,.bool true]) w:=by
 simp[ξh,run_underlying Tryz.underlying27]
theorem LN (e:Int) (w:World) (ox oy:Operand):(do eqGuard .neq 20 ox oy (.iface 27 (.int .i64 e)) .nilIface;binOp .neq 20 (.iface 27 (.int .i64 e)) .nilIface:Sem Value).run γ w= .ok (.bool true) w:=by
 simp[go_sem]
theorem LP (w:World) (ox:Operand):(do eqGuard .neq 20 ox (.const .nilIface) .nilIface .nilIface;binOp .neq 20 .nilIface .nilIface:Sem Value).run γ w= .ok (.bool false) w:=by
 simp[go_sem,eqGuard]
set_option maxHeartbeats 4000000 in
theorem UN {w:World} {f p2:Value}:
  CallsDIn (fw none) 0 γ 254 #[f,p2] .returning w (λg m w'=>(∃v,g= .returned v)/\m= .returning/\w'=w):=by
 refine callsDIn_of_wpSIn ξq rfl (by simp[fw]) λn cs hu=>?_;apply wpSIn_seq;apply wpSIn_region;simp[wpOpsSIn,go_sem,recoverD,hu,ξY,ξH];refine wpSIn_of_wpIn rfl ?_;obtain⟨b,e⟩: ∃b:Env,b=[(0,f),(1,p2),(2,.nilIface)]:=⟨_,rfl⟩;refine(show WC γ none 18 _ _ b [] w from ?_) _ ⟨by simp,rfl,bQ (by subst e;refine⟨?_,?_,?_,trivial⟩<;>simp)⟩;subst e;refine aF (aT (l:=[0,1]) rfl (ax ah [0] [(6,.nilIface)] rfl ⟨rfl,trivial⟩ (ee (d:=7) rfl rfl rfl rfl (by intro c h;cases h) (λa i=>?_) (v:=.bool false) (w':=w) ?_)))
 ·have h:=i.get 6 _ rfl;show(do let v<-(do eqGuard .neq 20 (.tmp 6) (.const .nilIface) (a.tmps.getD 6 undef) .nilIface;binOp .neq 20 (a.tmps.getD 6 undef) .nilIface:Sem Value);pure (ξn v):Sem Next).run _ w=_;rw[κ,h,LP];rfl
 refine aQ (aG (kI rfl (eo λa j=>?_)));have k:(results Tryz.f254 a.tmps).run γ w= .ok (.tuple #[]) w:=by simp[results,ξP]
 simp only[bodyPostS];refine⟨j.defers,.returning,?_,.tuple #[],k,?_⟩
 ·rw[<-hu]
 ·simp
set_option maxHeartbeats 4000000 in
theorem UP {w:World} {b f:Nat} {n o:Γb} (e:Int) (h1:bz w b 50 n) (i:bz w f 27 o) (k:n.length=17) (m:o.length=1) (s:b≠f):
  CallsDIn (fw none) 0 γ 254 #[.pointer (some ⟨b,0,none⟩),.pointer (some ⟨f,0,none⟩)] (.panicking [{v:=.iface 27 (.int .i64 e),recovered:=false}]) w
   (λq y w'=>(∃v,q= .returned v)/\settle y= .returning/\ ∃w1,Fr [b] w w1/\bz w1 b 50 (ψ 16 (.int .i64 0)++[.slice none 0 0])/\Fr [f] w1 w'/\bz w' f 27 [.int .i64 e]):=by
 refine callsDIn_of_wpSIn ξq rfl (by simp[fw]) λz cs hu=>?_;apply wpSIn_seq;apply wpSIn_region;simp[wpOpsSIn,go_sem,recoverD,hu,ξY,ξH];refine wpSIn_of_wpIn rfl ?_;obtain⟨g,p⟩: ∃g:Env,g=[(0,.pointer (some ⟨b,0,none⟩)),(1,.pointer (some ⟨f,0,none⟩)),(2,.iface 27 (.int .i64 e))]:=⟨_,rfl⟩;refine(show WC γ none 18 _ _ g [] w from ?_) _ ⟨by simp,rfl,bQ (by subst p;refine⟨?_,?_,?_,trivial⟩<;>simp)⟩;subst p;refine aF (aT (l:=[0,1]) rfl (ax ah [0] [(0,.pointer (some ⟨b,0,none⟩)),(1,.pointer (some ⟨f,0,none⟩)),(2,.iface 27 (.int .i64 e)),(6,.iface 27 (.int .i64 e))] rfl ⟨rfl,rfl,rfl,rfl,trivial⟩ (ee (d:=7) rfl rfl rfl rfl (by intro c h;cases h) (λa j=>?_) (v:=.bool true) (w':=w) ?_)))
 ·have h:=j.get 6 _ rfl;show(do let v<-(do eqGuard .neq 20 (.tmp 6) (.const .nilIface) (a.tmps.getD 6 undef) .nilIface;binOp .neq 20 (a.tmps.getD 6 undef) .nilIface:Sem Value);pure (ξn v):Sem Next).run _ w=_;rw[κ,h,LN];rfl
 refine aQ (aG (og rfl (aF (aT (l:=[0,1,2,3,4,5,6]) rfl (ax ah [0] [(0,.pointer (some ⟨b,0,none⟩)),(1,.pointer (some ⟨f,0,none⟩)),(9,.iface 27 (.int .i64 e))] rfl ⟨rfl,rfl,rfl,trivial⟩ (ee (d:=10) rfl rfl rfl rfl (by intro c h;cases h) (λa j=>?_) (v:=.tuple #[.int .i64 e,.bool true]) (w':=w) ?_))))))
 ·have h:=j.get 9 _ rfl;show(do let v<-ξh (a.tmps.getD 9 undef) 20 27 true;pure (ξn v):Sem Next).run _ w=_;rw[κ,h,OM];rfl
 refine ax ah [2,3,4,5,6] [(0,.pointer (some ⟨b,0,none⟩)),(1,.pointer (some ⟨f,0,none⟩)),(3,.int .i64 e),(4,.bool true)] rfl ⟨rfl,rfl,rfl,rfl,trivial⟩ (aQ (aG (aF (aF (aT (l:=[0,1]) rfl (ax ah [0,1] [(0,.pointer (some ⟨b,0,none⟩)),(1,.pointer (some ⟨f,0,none⟩)),(3,.int .i64 e),(14,.bool false)] rfl ⟨rfl,rfl,rfl,rfl,trivial⟩ (aQ (aG (kI rfl (eo (aG (aT (l:=[0,1,2,3]) rfl (ax ah [0,1] [(0,.pointer (some ⟨b,0,none⟩)),(1,.pointer (some ⟨f,0,none⟩)),(16,.agg (ψ 16 (ξe .i64 0)++[ζk none 0 0]).toArray),(17,.int .i64 e)] rfl ⟨rfl,rfl,rfl,rfl,trivial⟩ (eT ah rfl rfl rfl rfl rfl rfl rfl h1 (ψ 16 (.int .i64 0)++[.slice none 0 0]) rfl rfl (by simp[ψ,ξy]) (by rw[k];rfl) (ψ 16 (.int .i64 0)++[.slice none 0 0]) (by unfold putAt;rw[ξ4 (by simp[k,m])];rfl) (λw1 u f1=>?_)))))))))))))));have i:=i.fr f1 (by simpa using s.symm);refine eT ah rfl rfl rfl rfl rfl rfl rfl i [.int .i64 e] rfl rfl (by simp[ξy]) (by rw[m];rfl) [.int .i64 e] (by unfold putAt;rw[ξ4 (by simp[k,m])];rfl) (λw2 x f2=>?_);refine aQ λa r=>?_;have t:(results Tryz.f254 a.tmps).run γ w2= .ok (.tuple #[]) w2:=by simp[results,ξP]
 simp only[bodyPostS];refine⟨r.defers,.panicking [{v:=.iface 27 (.int .i64 e),recovered:=true}],rfl,.tuple #[],t,⟨.tuple #[],rfl⟩,rfl,w1,f1,u,f2,x⟩
def wQ:Γb:=ψ 16 (.int .i64 0)++[.slice none 0 0]
def sW:l8 SS:=⟨254,λcs p a k=>match cs with
 |[.one (.aK i 0),.one (.aK j 0)]=>(match p with
  |none=>k none []
  |some (.iface 27 (.int .i64 e))=>(match a i,a j with
   |some (.box 50 b),some (.box 27 c)=>bif !(ρ i j)&&(ρ (dO b) 17&&ρ (dO c) 1) then k none [(i,some (.box 50 (wQ.map .v))),(j,some (.box 27 [.v (.int .i64 e)]))] else none
   |_,_=>none)
  |_=>none)
 |_=>none⟩
theorem LM {i j:Nat} (h:(!(ρ i j))=true):i≠j:=λe=>by subst e;simp at h
theorem UO {R:Type} (cs:List (an SS)) (p:Option Value) (c:Nat->Option (Ob SS)) (k:Option Value->Up SS->Option R) (z:R) (a:sW.out cs p c k=some z): ∃q up,k q up=some z/\l9 KK γ 254 cs p c q up:=by
 simp only[sW] at a;split at a
 rotate_left
 ·cases a
 rename_i i j;split at a
 ·refine⟨_,_,a,cG aY ξq rfl,λA O w xs u r b hO J hm=>?_⟩;obtain⟨x1,ys,rfl,⟨g,_,h⟩,x2,t,rfl,⟨x,_,l⟩,m⟩:=r;cases h;cases l;rw[show t=[] from m,show u=_ from hm];refine UN.mono ?_;rintro e U w' ⟨h1,rfl,rfl⟩;exact⟨h1,rfl,A,O,b5.none hO⟩
 ·rename_i e;split at a
  rotate_left
  ·cases a
  rename_i F y h1 n;cases o:(!(ρ i j)&&(ρ (dO F) 17&&ρ (dO y) 1))<;>rw[o] at a
  ·cases a
  simp only[ξg] at o;obtain⟨d,M,N⟩:=o;have d:=LM d;refine⟨_,_,a,cG aY ξq rfl,λA O w xs u r b hO J hm=>?_⟩;obtain⟨g,ab,s,P,S,Z⟩:=qj b h1;obtain⟨x,ad,p2,Q,T,aa⟩:=qj b n;obtain⟨x1,ys,rfl,⟨W,C,h⟩,x2,t,rfl,⟨X,D,l⟩,m⟩:=r;rw[s] at C;rw[p2] at D;cases C;cases D;cases h;cases l;rw[show t=[] from m,show u=_ from hm];have L:g≠x:=λe=>b.dj i j _ _ _ _ g d h1 n s p2 rfl (by rw[e];rfl);refine(UP e P Q ((gF S).trans (ξ M)) ((gF T).trans (ξ N)) L).mono ?_;rintro Y U w' ⟨H,I,w1,f1,m1,f2,m2⟩;have f:b5 A O w c [(i,some (.box 50 (wQ.map .v)))] A O w1:=sZ b hO h1 s f1 m1 (M8 (by decide));have K:=b.b6 hO f;have G:bV c [(i,some (.box 50 (wQ.map LV.v)))] j=some (.box 27 y):=by
   rw[ec (λV B=>d (by simp at B;exact B.1.symm))];exact n
  have E:b5 A O w1 (bV c [(i,some (.box 50 (wQ.map .v)))]) [(j,some (.box 27 [.v (.int .i64 e)]))] A O w':=sZ K f.ob G p2 f2 m2 ⟨[.int .i64 e],[],rfl,⟨rfl,rfl⟩,rfl⟩;exact⟨H,I,A,O,b5.two b d f E hO⟩
 ·cases a
set_option maxHeartbeats 4000000 in
theorem UK {w:World} {f p2 g:Value}:
  CallsDIn (fw none) 0 γ 70 #[f,p2,g] .returning w (λi n w'=>(∃v,i= .returned v)/\n= .returning/\w'=w):=by
 refine callsDIn_of_wpSIn ξA rfl (by simp[fw]) λo cs hu=>?_;apply wpSIn_seq;apply wpSIn_region;simp[wpOpsSIn,go_sem,recoverD,hu,ζ1,ξH];refine wpSIn_of_wpIn rfl ?_;obtain⟨b,e⟩: ∃b:Env,b=[(0,f),(1,p2),(2,g),(3,.nilIface)]:=⟨_,rfl⟩;refine(show WC γ none 20 _ _ b [] w from ?_) _ ⟨by simp,rfl,bQ (by subst e;refine⟨?_,?_,?_,?_,trivial⟩<;>simp)⟩;subst e;refine aF (aT (l:=[0,1]) rfl (ax ah [0] [(7,.nilIface)] rfl ⟨rfl,trivial⟩ (ee (d:=8) rfl rfl rfl rfl (by intro c h;cases h) (λa j=>?_) (v:=.bool false) (w':=w) ?_)))
 ·have h:=j.get 7 _ rfl;show(do let v<-(do eqGuard .neq 20 (.tmp 7) (.const .nilIface) (a.tmps.getD 7 undef) .nilIface;binOp .neq 20 (a.tmps.getD 7 undef) .nilIface:Sem Value);pure (ξn v):Sem Next).run _ w=_;rw[κ,h,LP];rfl
 refine aQ (aG (kI rfl (eo λa k=>?_)));have m:(results Tryz.f70 a.tmps).run γ w= .ok (.tuple #[]) w:=by simp[results,ξU]
 simp only[bodyPostS];refine⟨k.defers,.returning,?_,.tuple #[],m,?_⟩
 ·rw[<-hu]
 ·simp
set_option maxHeartbeats 4000000 in
theorem UM {w:World} {i b f:Nat} {g o p:Γb} (e:Int) (x:bz w i 60 g) (h1:bz w b 60 o) (m:bz w f 40 p) (j:g.length=22) (r:o.length=22) (s:p.length=2) (A: ∀u∈g,u.oneCell'=true) (z:b≠f):
  CallsDIn (fw none) 0 γ 70 #[.pointer (some ⟨i,0,none⟩),.pointer (some ⟨b,0,none⟩),.pointer (some ⟨f,0,none⟩)] (.panicking [{v:=.iface 27 (.int .i64 e),recovered:=false}]) w
   (λt E w'=>(∃v,t= .returned v)/\settle E= .returning/\ ∃w1,Fr [b] w w1/\bz w1 b 60 g/\Fr [f] w1 w'/\bz w' f 40 [.int .i64 e,.int .u64 0]):=by
 refine callsDIn_of_wpSIn ξA rfl (by simp[fw]) λF cs hu=>?_;apply wpSIn_seq;apply wpSIn_region;simp[wpOpsSIn,go_sem,recoverD,hu,ζ1,ξH];refine wpSIn_of_wpIn rfl ?_;obtain⟨k,q⟩: ∃k:Env,k=[(0,.pointer (some ⟨i,0,none⟩)),(1,.pointer (some ⟨b,0,none⟩)),(2,.pointer (some ⟨f,0,none⟩)),(3,.iface 27 (.int .i64 e))]:=⟨_,rfl⟩;refine(show WC γ none 20 _ _ k [] w from ?_) _ ⟨by simp,rfl,bQ (by subst q;refine⟨?_,?_,?_,?_,trivial⟩<;>simp)⟩;subst q;refine aF (aT (l:=[0,1]) rfl (ax ah [0] [(0,.pointer (some ⟨i,0,none⟩)),(1,.pointer (some ⟨b,0,none⟩)),(2,.pointer (some ⟨f,0,none⟩)),(3,.iface 27 (.int .i64 e)),(7,.iface 27 (.int .i64 e))] rfl ⟨rfl,rfl,rfl,rfl,rfl,trivial⟩ (ee (d:=8) rfl rfl rfl rfl (by intro c h;cases h) (λa n=>?_) (v:=.bool true) (w':=w) ?_)))
 ·have h:=n.get 7 _ rfl;show(do let v<-(do eqGuard .neq 20 (.tmp 7) (.const .nilIface) (a.tmps.getD 7 undef) .nilIface;binOp .neq 20 (a.tmps.getD 7 undef) .nilIface:Sem Value);pure (ξn v):Sem Next).run _ w=_;rw[κ,h,LN];rfl
 refine aQ (aG (og rfl (aF (aT (l:=[0,1,2,3,4,5,6]) rfl (ax ah [0] [(0,.pointer (some ⟨i,0,none⟩)),(1,.pointer (some ⟨b,0,none⟩)),(2,.pointer (some ⟨f,0,none⟩)),(10,.iface 27 (.int .i64 e))] rfl ⟨rfl,rfl,rfl,rfl,trivial⟩ (ee (d:=11) rfl rfl rfl rfl (by intro c h;cases h) (λa n=>?_) (v:=.tuple #[.int .i64 e,.bool true]) (w':=w) ?_))))))
 ·have h:=n.get 10 _ rfl;show(do let v<-ξh (a.tmps.getD 10 undef) 20 27 true;pure (ξn v):Sem Next).run _ w=_;rw[κ,h,OM];rfl
 refine ax ah [2,3,4,5,6] [(0,.pointer (some ⟨i,0,none⟩)),(1,.pointer (some ⟨b,0,none⟩)),(2,.pointer (some ⟨f,0,none⟩)),(4,.int .i64 e),(5,.bool true)] rfl ⟨rfl,rfl,rfl,rfl,rfl,trivial⟩ (aQ (aG (aF (aF (aT (l:=[0,1]) rfl (ax ah [0,1] [(0,.pointer (some ⟨i,0,none⟩)),(1,.pointer (some ⟨b,0,none⟩)),(2,.pointer (some ⟨f,0,none⟩)),(4,.int .i64 e),(15,.bool false)] rfl ⟨rfl,rfl,rfl,rfl,rfl,trivial⟩ (aQ (aG (kI rfl (eo (aG (aT (l:=[0,1,2,3,4]) rfl (dP ah rfl rfl rfl rfl rfl rfl rfl x g (by rw[ξV];exact List.take_of_length_le (by rw[j];decide)) j (.inl rfl) (.agg g.toArray) rfl ?_)))))))))))));refine ax ah [1,2] [(1,.pointer (some ⟨b,0,none⟩)),(2,.pointer (some ⟨f,0,none⟩)),(17,.agg g.toArray),(19,.agg #[.int .i64 e,.int .u64 0])] rfl ⟨rfl,rfl,rfl,rfl,trivial⟩ (eT ah rfl rfl rfl rfl rfl rfl rfl h1 g rfl j A (by rw[r];rfl) g (by unfold putAt;rw[ξ4 (by simp[r,j]),ξo];rfl) (λw1 C f1=>?_));have m:=m.fr f1 (by simpa using z.symm);refine eT ah rfl rfl rfl rfl rfl rfl rfl m [.int .i64 e,.int .u64 0] rfl rfl (by simp[ξy]) (by rw[s];rfl) [.int .i64 e,.int .u64 0] (by unfold putAt;rw[ξ4 (by simp[s])];rfl) (λw2 D f2=>?_);refine aQ λa y=>?_;have B:(results Tryz.f70 a.tmps).run γ w2= .ok (.tuple #[]) w2:=by simp[results,ξU]
 simp only[bodyPostS];refine⟨y.defers,.panicking [{v:=.iface 27 (.int .i64 e),recovered:=true}],rfl,.tuple #[],B,⟨.tuple #[],rfl⟩,rfl,w1,f1,C,f2,D⟩
def sV:l8 SS:=⟨70,λcs p a k=>match cs with
 |[.one (.aK h 0),.one (.aK i 0),.one (.aK j 0)]=>(match p with
  |none=>k none []
  |some (.iface 27 (.int .i64 e))=>(match a h,a i,a j with
   |some (.box 60 b),some (.box 60 c),some (.box 40 d)=>bif !(ρ i j)&&(ρ (dO b) 22&&(ρ (dO c) 22&&ρ (dO d) 2)) then k none [(i,some (.box 60 b)),(j,some (.box 40 [.v (.int .i64 e),.v (.int .u64 0)]))] else none
   |_,_,_=>none)
  |_=>none)
 |_=>none⟩
theorem UL {R:Type} (cs:List (an SS)) (p:Option Value) (c:Nat->Option (Ob SS)) (k:Option Value->Up SS->Option R) (z:R) (a:sV.out cs p c k=some z): ∃q up,k q up=some z/\l9 KK γ 70 cs p c q up:=by
 simp only[sV] at a;split at a
 rotate_left
 ·cases a
 rename_i h i j;split at a
 ·refine⟨_,_,a,cG aY ξA rfl,λA O w xs u x b hO S hm=>?_⟩;obtain⟨x0,ah,rfl,⟨K,_,m⟩,x1,ys,rfl,⟨l,_,n⟩,x2,C,rfl,⟨D,_,o⟩,r⟩:=x;cases m;cases n;cases o;rw[show C=[] from r,show u=_ from hm];refine UK.mono ?_;rintro e ag w' ⟨h1,rfl,rfl⟩;exact⟨h1,rfl,A,O,b5.none hO⟩
 ·rename_i e;split at a
  rotate_left
  ·cases a
  rename_i f L E M h1 s;cases t:(!(ρ i j)&&(ρ (dO f) 22&&(ρ (dO L) 22&&ρ (dO E) 2)))<;>rw[t] at a
  ·cases a
  simp only[ξg] at t;obtain⟨d,W,X,Y⟩:=t;have d:=LM d;refine⟨_,_,a,cG aY ξA rfl,λA O w xs u x b hO S hm=>?_⟩;obtain⟨K,aq,p0,Z,B,o0⟩:=qj b M;obtain⟨l,ar,y,aa,ae,ad⟩:=qj b h1;obtain⟨D,au,p2,ab,af,ao⟩:=qj b s;obtain⟨x0,ah,rfl,⟨ai,G,m⟩,x1,ys,rfl,⟨aj,H,n⟩,x2,C,rfl,⟨ak,I,o⟩,r⟩:=x;rw[p0] at G;rw[y] at H;rw[p2] at I;cases G;cases H;cases I;cases m;cases n;cases o;rw[show C=[] from r,show u=_ from hm];have U:l≠D:=λe=>b.dj i j _ _ _ _ l d h1 s y p2 rfl (by rw[e];rfl);refine(UM e Z aa ab ((gF B).trans (ξ W)) ((gF ae).trans (ξ X)) ((gF af).trans (ξ Y)) (M6 B) U).mono ?_;rintro al ag w' ⟨P,Q,w1,f1,m1,f2,m2⟩;have g:b5 A O w c [(i,some (.box 60 f))] A O w1:=sZ b hO h1 y f1 m1 (jE (f1.tr (gC ad)) (Pl.le.refl A) B);have T:=b.b6 hO g;have N:bV c [(i,some (.box 60 f))] j=some (.box 40 E):=by
   rw[ec (λV F=>d (by simp at F;exact F.1.symm))];exact s
  have J:b5 A O w1 (bV c [(i,some (.box 60 f))]) [(j,some (.box 40 [.v (.int .i64 e),.v (.int .u64 0)]))] A O w':=sZ T g.ob N p2 f2 m2 ⟨[.int .i64 e],[.int .u64 0],rfl,⟨rfl,rfl⟩,[.int .u64 0],[],rfl,⟨rfl,rfl⟩,rfl⟩;exact⟨P,Q,A,O,b5.two b d g J hO⟩
 ·cases a
noncomputable def xh:bE SS:= {G2 with D:=sW::G2.D}
theorem Rt:aj xh γ:=aj.Iy (c:=sW) Rq UO
noncomputable def G3:bE SS:= {xh with D:=sV::xh.D}
theorem Rr:aj G3 γ:=aj.Iy (c:=sV) Rt UL
end Go.Proofs.YtoggponeookhbaaGreatDoor
end
section
namespace Go.Proofs
open Go.Shelf
def Tryz.J':Go.Shelf.Ren:=⟨λ|156=>252|165=>284|166=>285|169=>286|240=>303|241=>304|276=>314|277=>315|n=>n,λ|31=>192|9=>9|3=>3|4=>4|0=>0|20=>20|72=>321|76=>325|70=>319|37=>247|75=>324|127=>336|164=>345|5=>5|80=>327|n=>n,λ|n=>n⟩
theorem Tryz.J_:ζl γ Tryz.J':= {
 mixed:=by kernel_rfl
 f156:=ζ2.trans (congrArg some (by kernel_rfl))
 f165:=Tryz.func284.trans (congrArg some (by kernel_rfl))
 f166:=Tryz.func285.trans (congrArg some (by kernel_rfl))
 f169:=Tryz.func286.trans (congrArg some (by kernel_rfl))
 f240:=Tryz.func303.trans (congrArg some (by kernel_rfl))
 f241:=Tryz.func304.trans (congrArg some (by kernel_rfl))
 f276:=Tryz.func314.trans (congrArg some (by kernel_rfl))
 f277:=Tryz.func315.trans (congrArg some (by kernel_rfl))
 t0:=Tryz.underlying0
 a0:=Tryz.isAgg0
 z0:=Tryz.sizeOf0
 v0:=Tryz.zeroValue0
 t3:=ξN
 a3:=Tryz.isAgg3
 z3:=Tryz.sizeOf3
 v3:=Tryz.zeroValue3
 t4:=Tryz.underlying4
 a4:=Tryz.isAgg4
 z4:=Tryz.sizeOf4
 v4:=Tryz.zeroValue4
 t9:=Tryz.underlying9
 a9:=Tryz.isAgg9
 z9:=Tryz.sizeOf9
 v9:=Tryz.zeroValue9
 t20:=Tryz.underlying20
 a20:=Tryz.isAgg20
 z20:=Tryz.sizeOf20
 v20:=Tryz.zeroValue20
 t31:=Tryz.underlying192
 a31:=Tryz.isAgg192
 z31:=Tryz.sizeOf192
 v31:=Tryz.zeroValue192
 t37:=Tryz.underlying247
 a37:=Tryz.isAgg247
 z37:=Tryz.sizeOf247
 v37:=Tryz.zeroValue247
 t70:=Tryz.underlying319
 a70:=Tryz.isAgg319
 z70:=Tryz.sizeOf319
 v70:=Tryz.zeroValue319
 t72:=Tryz.underlying321
 a72:=Tryz.isAgg321
 z72:=Tryz.sizeOf321
 v72:=Tryz.zeroValue321
 t75:=Tryz.underlying324
 a75:=Tryz.isAgg324
 z75:=Tryz.sizeOf324
 v75:=Tryz.zeroValue324
 t76:=Tryz.underlying325
 a76:=Tryz.isAgg325
 z76:=Tryz.sizeOf325
 v76:=Tryz.zeroValue325
 t127:=Tryz.underlying336
 a127:=Tryz.isAgg336
 z127:=Tryz.sizeOf336
 v127:=Tryz.zeroValue336
 t164:=Tryz.underlying345
 a164:=Tryz.isAgg345
 z164:=Tryz.sizeOf345
 v164:=Tryz.zeroValue345}
theorem Tryz.FN:Builder.Extra γ Tryz.J':= {
 sizeBuilder:=by kernel_rfl
 liesBuilder:=by kernel_rfl
 t5:=Tryz.underlying5
 a5:=Tryz.isAgg5
 z5:=Tryz.sizeOf5
 v5:=Tryz.zeroValue5
 infoByte:=by kernel_rfl
 cellsByte:=by kernel_rfl
 sizeByte:=by kernel_rfl
 neB5:=by decide}
open Go.RowKit in
theorem Tryz.strings_Join_none (a:Option Addr) (c:Nat) (sep:ByteArray) (w:World):
 Calls γ 252 #[.slice a 0 c,.string sep] w λe w'=>e= .returned (.string ⟨#[]⟩)/\w'=w:=Any.strings_Join_none Tryz.J_ Tryz.FN a c sep w
open Go.RowKit in
theorem Tryz.strings_Join (bk o c:Nat) (xs:List ByteArray) (sep:ByteArray) (w:World) (f: ∀(j:Nat) x,xs[j]? =some x->w.cell? ⟨bk,o+j,none⟩=some (.string x)) (b:bk<w.heap.size) (a:xs.length<=140737488355328) (d:xs.length<=c) (hlen:(ζm (xs.map (·.data.toList)) sep.data.toList).length<=140737488355328):
 Calls γ 252 #[.slice (some ⟨bk,o,none⟩) xs.length c,.string sep] w λe w'=>e= .returned (.string ⟨(ζm (xs.map (·.data.toList)) sep.data.toList).toArray⟩)/\Below w.heap.size w w':=Any.strings_Join Tryz.J_ Tryz.FN bk o c xs sep w f b a d hlen
end Go.Proofs
end
section
namespace Go.Proofs.YtoggponeookhbaaGreatDoor
open Go.RowKit Go.Dc Go.Vx
def gT (es:List ByteArray) (sep:ByteArray):ByteArray:=⟨(ζm (es.map (·.data.toList)) sep.data.toList).toArray⟩
theorem ac2 {w:World} {ad:Addr} {v:Value} (h:w.cell? ad=some v):ad.spot=none:=by
 unfold World.cell? at h;split at h
 ·split at h
  ·cases h
  ·rename_i a;simpa using a
 ·cases h
theorem Y0 {O:Γ} {w:World} {v:Value} {es:List ByteArray} (sep:ByteArray) (z:(Ty.slice Ty.str).is O w v es) (r:es.length<=140737488355328) (hlen:(gT es sep).size<=140737488355328):
  Calls γ 252 #[v,.string sep] w (λe w'=>e= .returned (.string (gT es sep))/\Fr [] w w'):=by
 obtain⟨cs,⟨A,c,t,hl,m⟩,i⟩:=z;subst t;have i:v= .slice A es.length c:=i;subst i;cases es with
 |nil=>
  refine(Tryz.strings_Join_none A c sep w).mono ?_;rintro e w' ⟨rfl,rfl⟩;exact⟨rfl,Fr.refl _ _⟩
 |cons f es=>
  obtain⟨ad,u,g,s,C,a,he⟩:=m 0 f rfl;subst g;have a:u=[.string f]:=a;subst a;have q:(ad.add (0*Ty.str.n)).add 0=ad:=by simp[Addr.add]
  have h1:=he.1 0 (.string f) rfl;rw[q] at h1;have h:=ac2 h1;obtain⟨b,o,sp⟩:=ad;have h:sp=none:=h;subst h;refine(Tryz.strings_Join b o c (f::es) sep w (λj x y=>?_) s r hl.1 (by simpa[gT,ByteArray.size] using hlen)).mono ?_
  ·obtain⟨B,u,g,_,_,a,he⟩:=m j x y;cases g;have a:u=[.string x]:=a;subst a;have l:=he.1 0 (.string x) rfl;have p:((⟨b,o,none⟩:Addr).add (j*Ty.str.n)).add 0=⟨b,o+j,none⟩:=by
    rw[add_add,show j*Ty.str.n+0=j by show j*1+0=j;omega];unfold Addr.add;split<;>simp_all
   rw[p] at l;exact l
  ·rintro e w' ⟨rfl,d⟩;exact⟨rfl,d.os,d.tape,d.output,d.size,λk hk _=>d.block k hk⟩
def uM:fg SS:=⟨252,λxs k=>match xs with
 |[.one l,.one (.v (.string sep))]=>(match dX KK (λ_=>none) 9 l with
  |some es=>bif decide (List.length (α:=ByteArray) es<=140737488355328)&&decide ((gT es sep).size<=140737488355328) then k (.ret (.s (.one (.v (.string (gT es sep)))))) else none
  |none=>none)
 |_=>none⟩
theorem Y1 {R:Type} (xs:List (an SS)) (k:Rs SS->Option R) (z:R) (s:xs.all an.pure=true) (a:uM.out xs k=some z): ∃r,k r=some z/\eA KK γ 252 xs r:=by
 clear s;simp only[uM] at a;split at a
 rotate_left
 ·cases a
 rename_i l sep;split at a
 rotate_left
 ·cases a
 rename_i es n;rcases ic a with⟨c,a⟩|⟨_,a⟩
 rotate_left
 ·cases a
 simp only[ξg,decide_eq_true_eq] at c;refine⟨_,a,cG aY ζ2 rfl,λA O w vs t hO v=>?_⟩;obtain⟨y,ys,rfl,h1,x,u,rfl,⟨d,_⟩,f⟩:=t;cases d;rw[show u=[] from f];have o:bI A O w (λ_=>(none:Option (Ob SS))):=⟨(λi X h=>nomatch h),(λi j X Y p q b _ h=>nomatch h)⟩;have m:=jk c8 o n h1;refine(Y0 sep m c.1 c.2).mono ?_;rintro e w' ⟨rfl,g⟩;exact⟨⟨_,rfl,rfl,rfl⟩,g⟩
noncomputable def G4:bE SS:= {G3 with C:=uM::G3.C}
theorem Ru:aj G4 γ:=aj.ho (c:=uM) Rr Y1
end Go.Proofs.YtoggponeookhbaaGreatDoor
end
section
namespace Go.Dc
open Go.RowKit
def ky (k:IntKind):Ty (Int×Value) where
 agg:=true
 n:=2
 rep _ _ cs x:=cs=[.int k x.1,x.2]/\ ∃A n c,x.2= .slice A n c
 tr _ h:=h
 len:=λ⟨h,_⟩=>by rw[h];rfl
 one:=λ⟨h,A,n,c,a⟩ u hu=>by
  rw[h,a] at hu;simp only[ξX,ξM,or_false] at hu;rcases hu with rfl|rfl<;>rfl
 fv h:=by cases h
theorem Eu (k:IntKind):(ky k).Flat:=λh=>h
structure cR {α:Type} (T:Ty α) (e B:Nat) (w:World) (v:Value) (xs:List α):Prop where
 ex: ∃cs,w.ownsRow B e T.n v xs.length cs/\bH T [] w cs xs
section
variable {α:Type} {T:Ty α} {e B:Nat} {O O':Γ} {w w':World} {v:Value} {xs:List α}
theorem Own.hQ (h:Own T e B O w v xs):cR T e B w v xs:=by
 obtain⟨cs,h1,a⟩:=h.ex;exact⟨cs,h1,a.tr (Tr.less (adb _))⟩
theorem cR.own (b:T.Flat) (h:cR T e B w v xs) (hO: ∀g,v.ownBlock=some g->g∈O):Own T e B O w v xs:=by
 obtain⟨cs,h1,a⟩:=h.ex;exact⟨⟨cs,h1,vT b a⟩,hO⟩
theorem cR.lt (h:cR T e B w v xs): ∀g,v.ownBlock=some g->B<=g/\g<w.heap.size:=by
 obtain⟨cs,h1,_⟩:=h.ex;exact h1.lt
theorem cR.keep (d:T.Flat) (h:cR T e B w v xs) (hk: ∀g,v.ownBlock=some g->w'.heap[g]? =w.heap[g]?):cR T e B w' v xs:=by
 obtain⟨cs,⟨b,h1⟩,c⟩:=h.ex;refine⟨cs,⟨b,?_⟩,vT d c⟩;rcases h1 with h1|⟨g,cap,cur,a,f,i,r⟩
 ·exact .inl h1
 ·refine .inr ⟨g,cap,cur,a,f,?_,r⟩;rw[hk g (by rw[a];rfl)];exact i
theorem cR.b7 (a:T.Flat) (h:cR T e B w v xs) (b:Fr [] w w'):cR T e B w' v xs:=h.keep a λg c=>b.block g (h.lt g c).2 (by simp)
theorem cR.less {a:Nat} (h:cR T e B w v xs) (d:a<=B):cR T e a w v xs:=by
 obtain⟨cs,⟨b,h1⟩,c⟩:=h.ex;refine⟨cs,⟨b,?_⟩,c⟩;rcases h1 with h1|⟨g,cap,cur,i,f,r⟩
 ·exact .inl h1
 ·exact .inr ⟨g,cap,cur,i,Nat.le_trans d f,r⟩
theorem cR.form (h:cR T e B w v xs): ∃A c,v= .slice A xs.length c/\xs.length<=c/\c<=maxLen:=by
 obtain⟨cs,⟨_,h1⟩,_⟩:=h.ex;rcases h1 with⟨rfl,a⟩|⟨g,cap,cur,rfl,_,_,b,d,_⟩
 ·exact⟨none,0,by rw[a],by omega,by unfold maxLen;omega⟩
 ·exact⟨_,cap,rfl,b,d⟩
theorem cR.data (i:T.Flat) (h:cR T e B w v xs) (hn: ∀g,v.ownBlock=some g->g∉O):T.slice.is O w v xs:=by
 obtain⟨cs,⟨k,h1⟩,b⟩:=h.ex;rcases h1 with⟨rfl,hl⟩|⟨g,cap,cur,rfl,m,j,c,d,l,f⟩
 ·have:xs=[]:=ξi hl;subst this;exact gH _ _ _
 ·have a:bH T O w cs xs:=vT i b;exact Fe j (hn g rfl) a (by rw[a.len];exact f) c d
theorem cR.iE:cR T e B w (.slice none 0 0) []:=⟨[],World.ownsRow_nil w B e T.n,rfl⟩
end
def SP.hQ {α:Type} (T:Ty α) (a:T.Flat) (e B:Nat) (xs:List α):SP:=⟨λw v=>cR T e B w v xs,λb h=>h.b7 a b⟩
theorem Jn {α:Type} {T:Ty α} {e B:Nat} {O:Γ} {w w':World} {zs:List α} {a:Ending} (b:w.heap.size=B) (h:eB T e B O w (.slice none 0 0) zs a w'):gj (λ_ w v zs=>cR T e B w v zs) O w zs a w':=by
 subst b;obtain⟨c,O',he,ap⟩:=h;exact⟨c,he,ap.own.hQ,ap.b7 Own.iE (Fr.refl [] w)⟩
def cV {β:Type} (T:Ty β) (e B:Nat) (w:World):Γ->Γd->List (Int×List β)->Prop
 |S,[],[]=>S=[]
 |S,x::r,y::b=> ∃a,x.1=y.1/\S=x.2.ownBlock.toList++a/\cR T e B w x.2 y.2/\cV T e B w a r b
 |_,_,_=>False
section
variable {β:Type} {T:Ty β} {e B:Nat} {w w':World}
theorem cV.keep (b:T.Flat): ∀ {S:Γ} {rs:Γd} {xs:List (Int×List β)},cV T e B w S rs xs->(∀g∈S,w'.heap[g]? =w.heap[g]?)->cV T e B w' S rs xs
 |_,[],[],h,_=>h
 |_,_::_,_::_,⟨c,h1,d,f,i⟩,hk=>by
  subst d;exact⟨c,h1,rfl,f.keep b λg a=>hk g (ξk _ (by rw[a];simp)),cV.keep b i λg a=>hk g (φ _ a)⟩
 |_,[],_::_,h,_=>h.elim
 |_,_::_,[],h,_=>h.elim
theorem cV.lt: ∀ {S:Γ} {rs:Γd} {xs:List (Int×List β)},cV T e B w S rs xs-> ∀g∈S,B<=g/\g<w.heap.size
 |_,[],[],h,g,a=>by rw[show _=[] from h] at a;cases a
 |_,_::_,_::_,⟨f,h1,b,c,d⟩,g,a=>by
  subst b;rcases ξp.1 a with a|a
  ·exact c.lt g (by simpa using a)
  ·exact cV.lt d g a
 |_,[],_::_,h,_,_=>h.elim
 |_,_::_,[],h,_,_=>h.elim
theorem cV.b7 (a:T.Flat) {S:Γ} {rs:Γd} {xs:List (Int×List β)} (h:cV T e B w S rs xs) (b:Fr [] w w'):cV T e B w' S rs xs:=h.keep a λg c=>b.block g (h.lt g c).2 (by simp)
theorem cV.len: ∀ {S:Γ} {rs:Γd} {xs:List (Int×List β)},cV T e B w S rs xs->rs.length=xs.length
 |_,[],[],_=>rfl
 |_,_::_,_::_,⟨_,_,_,_,a⟩=>by simp[cV.len a]
 |_,[],_::_,h=>h.elim
 |_,_::_,[],h=>h.elim
theorem cV.app: ∀ {S S':Γ} {rs a:Γd} {xs b:List (Int×List β)},cV T e B w S rs xs->cV T e B w S' a b->cV T e B w (S++S') (rs++a) (xs++b)
 |_,_,[],_,[],_,h,k=>by rw[show _=[] from h];exact k
 |_,_,_::_,_,_::_,_,⟨c,h1,d,f,g⟩,k=>by subst d;exact⟨c++_,h1,by simp,f,cV.app g k⟩
 |_,_,[],_,_::_,_,h,_=>h.elim
 |_,_,_::_,_,[],_,h,_=>h.elim
theorem cV.at_: ∀ {S:Γ} {rs:Γd} {xs:List (Int×List β)} {j:Nat} {x:Int×List β},cV T e B w S rs xs->xs[j]? =some x->
  ∃v i b,rs[j]? =some (x.1,v)/\S=i++v.ownBlock.toList++b/\cR T e B w v x.2/\
   ∀ {w':World} {d:Value} {ys:List β},(∀g∈i++b,w'.heap[g]? =w.heap[g]?)->T.Flat->cR T e B w' d ys->cV T e B w' (i++d.ownBlock.toList++b) (rs.set j (x.1,d)) (xs.set j (x.1,ys))
 |_,[],[],_,_,_,a=>by simp at a
 |_,r::rs,y::xs,0,x,⟨b,h1,k,l,m⟩,a=>by
  simp at a;subst a;refine⟨r.2,[],b,by simp[<-h1],by simpa using k,l,λ{w' d ys} hk f n=>?_⟩;exact⟨b,rfl,by simp,n,m.keep f λg c=>hk g (by simpa using c)⟩
 |_,r::rs,y::xs,j+1,x,⟨b,h1,k,l,m⟩,a=>by
  obtain⟨v,o,p,q,s,t,u⟩:=cV.at_ m (by simpa using a);refine⟨v,r.2.ownBlock.toList++o,p,by simpa using q,by rw[k,s];simp,t,λ{w' d ys} hk f n=>?_⟩;exact⟨o++d.ownBlock.toList++p,h1,by simp,l.keep f λg c=>hk g (by simp[c]),u (λg c=>hk g (by simp at c ⊢;exact .inr c)) f n⟩
 |_,[],_::_,_,_,h,_=>h.elim
 |_,_::_,[],_,_,_,a=>by simp at a
theorem cV.ins: ∀ {S:Γ} {rs:Γd} {xs:List (Int×List β)} (j:Nat) (p:Int),j<=rs.length->cV T e B w S rs xs->cV T e B w S (rs.take j++[(p,.slice none 0 0)]++rs.drop j) (xs.take j++[(p,[])]++xs.drop j)
 |S,rs,xs,0,p,_,h=>by
  simp only[List.take_zero,List.nil_append,ξV,List.singleton_append];exact⟨S,rfl,rfl,cR.iE,h⟩
 |_,r::rs,y::xs,j+1,p,a,⟨b,h1,c,d,f⟩=>by
  simp only[List.take_succ_cons,List.drop_succ_cons,List.cons_append];exact⟨b,h1,c,d,cV.ins j p (by simpa using a) f⟩
 |_,[],_,j+1,p,a,_=>by simp at a
 |_,_::_,[],j+1,p,_,h=>h.elim
end
end Go.Dc
end
section
namespace Go.Proofs.YtoggponeookhbaaGreatDoor
open Go.RowKit Go.Dc Go.Vx
def mZ (xs:List ak) (j:Int) (ys:List ak):Option (List ak):=hv 24 xs j ys
def m_ (xs:List aD) (j:Int) (ys:List aD):Option (List aD):=hv 16 xs j ys
def lz (xs:List ai) (j:Int) (ys:List ai):Option (List ai):=hv 32 xs j ys
def we (xs:Γd) (j:Int) (ys:Γd):Option (Γd):=hv 32 xs j ys
set_option maxRecDepth 100000 in
set_option maxHeartbeats 12000000 in
theorem uK:(∀ {O:Γ} {w:World},OB O w-> ∀ {B:Nat},B<=w.heap.size-> ∀ {v:Value} {xs:List ak},Go.Dc.Own hZ 105 B O w v xs-> ∀ {v1:Value} {j:Int},(Ty.int .i64).is O w v1 j-> ∀ {u:Value} {ys:List ak},(Ty.slice hZ).is O w u ys->Plain w u-> ∀ {zs:List ak},mZ xs j ys=some zs->let T:Ty ak:=hZ;let e:Nat:=105;let S:Nat:=3;Calls γ 212 #[v,v1,u] w (eB T e B O w v zs))/\(∀ {O:Γ} {w:World},OB O w-> ∀ {B:Nat},B<=w.heap.size-> ∀ {v:Value} {xs:List aD},Go.Dc.Own dT 127 B O w v xs-> ∀ {v1:Value} {j:Int},(Ty.int .i64).is O w v1 j-> ∀ {u:Value} {ys:List aD},(Ty.slice dT).is O w u ys->Plain w u-> ∀ {zs:List aD},m_ xs j ys=some zs->let T:Ty aD:=dT;let e:Nat:=127;let S:Nat:=2;Calls γ 222 #[v,v1,u] w (eB T e B O w v zs))/\(∀ {O:Γ} {w:World},OB O w-> ∀ {B:Nat},B<=w.heap.size-> ∀ {v:Value} {xs:List ai},Go.Dc.Own gI 115 B O w v xs-> ∀ {v1:Value} {j:Int},(Ty.int .i64).is O w v1 j-> ∀ {u:Value} {ys:List ai},(Ty.slice gI).is O w u ys->Plain w u-> ∀ {zs:List ai},lz xs j ys=some zs->let T:Ty ai:=gI;let e:Nat:=115;let S:Nat:=4;Calls γ 259 #[v,v1,u] w (eB T e B O w v zs))/\(∀ {O:Γ} {w:World},OB O w-> ∀ {B:Nat},B<=w.heap.size-> ∀ {v:Value} {xs:Γd},Go.Dc.Own (ky .u64) 132 B O w v xs-> ∀ {v1:Value} {j:Int},(Ty.int .i64).is O w v1 j-> ∀ {u:Value} {ys:Γd},(Ty.slice (ky .u64)).is O w u ys->Plain w u-> ∀ {zs:Γd},we xs j ys=some zs->let T:Ty (Int×Value):=(ky .u64);let e:Nat:=132;let S:Nat:=2;Calls γ 293 #[v,v1,u] w (eB T e B O w v zs)):=by
 refine⟨?_,?_,?_,?_⟩
 all_goals
  intro O w hO B aN v xs ab v1 j h1 u ys hu hp zs bJ T e S;obtain rfl:=dr.1 h1;obtain⟨bT,bU,bd,rfl⟩:=JP bJ;obtain⟨k,rfl⟩: ∃k:Nat,j=k:=⟨j.toNat,by omega⟩;simp only[Int.toNat_natCast] at*
  have aH:k<=xs.length:=by omega
  obtain⟨A,c,rfl,bA,bR⟩:=ab.form;obtain⟨G,o,rfl,bX,bY⟩:=eS hu;refine fV (args:=[.slice A xs.length c,.int .i64 k,.slice G ys.length o]) (N:=95) (by first|exact ζ3|exact ζ4|exact ζ5|exact Tryz.func293) rfl rfl rfl ?_;refine aF (aT (l:=[0]) rfl (ax ah [0] [(0,.slice A xs.length c),(1,.int .i64 k),(2,.slice G ys.length o)] rfl ⟨rfl,rfl,rfl,trivial⟩ (aQ (aG (aF (aT (l:=[0,1,2]) rfl (ax ah [0,1] [(0,.slice A xs.length c),(1,.int .i64 k),(2,.slice G ys.length o),(10,.slice A xs.length c),(11,.int .i64 k)] rfl ⟨rfl,rfl,rfl,rfl,rfl,trivial⟩ (qW ah rfl rfl rfl rfl rfl rfl rfl rfl rfl rfl bA aH (aQ (aG (aF (aT (l:=[0,1,2]) rfl (ax ah [0,1,2] [(0,.slice A xs.length c),(1,.int .i64 k),(2,.slice G ys.length o),(7,.int .i64 (ys.length:Int))] rfl ⟨rfl,rfl,rfl,rfl,trivial⟩ (aQ (aG (aF (aF (aT (l:=[0,1]) rfl (ax ah [0,1] [(0,.slice A xs.length c),(1,.int .i64 k),(2,.slice G ys.length o),(7,.int .i64 (ys.length:Int)),(16,.bool ((ys.length:Int)==0))] rfl ⟨rfl,rfl,rfl,rfl,rfl,trivial⟩ (aQ (aG ?_)))))))))))))))))))))
  by_cases aI:ys.length=0
  ·have bI:ys=[]:=ξi aI;refine fe rfl (by simp[aI]) ?_;refine aF (aT (l:=[0,1]) rfl (ax ah [0,1] [(6,.slice A xs.length c)] rfl ⟨rfl,trivial⟩ (aQ (aG (dk (ff (ez rfl ⟨_,O,rfl,?_⟩)))))));have e:xs.take k++ys++xs.drop k=xs:=by rw[bI];simp
   rw[e];exact⟨ab,Tr.refl _ _,hO,Sub.refl _,λ_ _ _=>rfl,λ_ _ h=>h⟩
  refine fz rfl (beq_eq_false_iff_ne.2 (by omega)) ?_;refine eo (aG (aF (aT (l:=[0,1,2]) rfl (ax ah [0,1,2] [(0,.slice A xs.length c),(1,.int .i64 k),(2,.slice G ys.length o),(7,.int .i64 (ys.length:Int)),(8,.int .i64 (xs.length:Int))] rfl ⟨rfl,rfl,rfl,rfl,rfl,trivial⟩ (aQ (aG (aF (aF (aT (l:=[0,1,2]) rfl (ax ah [0,1,2] [(0,.slice A xs.length c),(1,.int .i64 k),(2,.slice G ys.length o),(7,.int .i64 (ys.length:Int)),(8,.int .i64 (xs.length:Int)),(22,.bool ((k:Int)==(xs.length:Int)))] rfl ⟨rfl,rfl,rfl,rfl,rfl,rfl,trivial⟩ (aQ (aG ?_))))))))))))
  by_cases a_:k=xs.length
  ·refine fe rfl (by simp[a_]) ?_;refine aF (aT (l:=[0,1,2,3]) rfl (ax ah [0,1] [(23,.slice A xs.length c),(24,.slice G ys.length o)] rfl ⟨rfl,rfl,trivial⟩ (Pv ah rfl rfl rfl rfl rfl rfl rfl rfl rfl (by decide) rfl (by decide) rfl rfl aN hO ab hu (by simp only[ξZ] at bd ⊢;omega) (λbK w' O' bq=>?_))));refine ax ah [3] [(6,bK)] rfl ⟨rfl,trivial⟩ (aQ (aG (dk (ff (ez rfl ⟨_,O',rfl,?_⟩)))));have e:xs.take k++ys++xs.drop k=xs++ys:=by subst a_;simp
   rw[e];exact bq
  refine fz rfl (by simp;omega) ?_;refine eo (aG ?_);obtain⟨cs,⟨av,aL⟩,X⟩:=ab.ex;rcases aL with⟨_,bW⟩|⟨g,c2,cur,aL,bm,M,al,bt,aw,az⟩
  ·omega
  injection aL with bl bZ H;subst bl;subst H;have aB:=ab.mem g rfl;cases G with
  |none=>exact absurd (wg hu) (λh=>aI (by rw[h];rfl))
  |some ad=>
  obtain⟨b4,bM,b7,aE⟩:=hp ad _ _ rfl;obtain⟨_,us,aa,a1⟩:=qL hu;have D:us.length=ys.length*S:=aa.len;have av:cs.length=xs.length*S:=av;have R:T.n=S:=rfl;rw[R] at aw az;have aZ:ad.block≠g:=by
   intro e;obtain⟨y,bH⟩: ∃y,ys[0]? =some y:=⟨_,List.getElem?_eq_getElem (by omega)⟩;obtain⟨bL,bg,bE⟩:=Fc hu bH;cases bg;obtain⟨_,⟨_,_,br,_,a',_⟩,H⟩:=bE;subst br;have H:Value.pointer (some (ad.add (0*T.n)))= .pointer (some _):=H;injection H with H;injection H with H;rw[<-H,hg,e] at a';exact a' aB
  have bs: ∀j,w.cell? ⟨g,j,none⟩=cur[j]? :=λj=>cell_of_row w g j cur e (0,0) M;have bu: ∀j x,cs[j]? =some x->cur.toList[j]? =some x:=λj x t=>by
   rw[<-az,ξD] at t;split at t
   ·exact t
   ·cases t
  have ay: ∀q,dB w ⟨g,q,none⟩ (cs.drop q):=λq j x t=>by
   rw[eC,bs,<-Array.getElem?_toList];rw[List.getElem?_drop] at t;exact bu _ x t
  have bV:k*S<=xs.length*S:=ξ7 _ aH;have bP:xs.length*S<=c*S:=ξ7 _ al;have ba: ∀x∈cs,x.oneCell'=true:=X.one;refine aF (aF (aT (l:=[0,1,2,3,4,5]) rfl ?_));have aM:δ.wrap ((xs.length:Int)+(ys.length:Int))=((xs.length+ys.length:Nat):Int):=by
   rw[ξj];unfold maxLen at*;omega
  refine ax ah [0,1,2,3,4,5] [(0,.slice (some ⟨g,0,none⟩) xs.length c),(1,.int .i64 k),(2,.slice (some ad) ys.length o),(7,.int .i64 (ys.length:Int)),(8,.int .i64 (xs.length:Int)),(31,.bool (decide (δ.wrap ((xs.length:Int)+(ys.length:Int))>(c:Int))))] rfl ⟨rfl,rfl,rfl,rfl,rfl,rfl,trivial⟩ (aQ (aG ?_));rw[aM]
  by_cases bS:c<xs.length+ys.length
  ·refine fe rfl (by simp;omega) ?_;refine aF (aT (l:=[0,1,2,3,4,5,6,7,8,9]) rfl (ax ah [0,1] [(0,.slice (some ⟨g,0,none⟩) xs.length c),(1,.int .i64 k),(2,.slice (some ad) ys.length o),(7,.int .i64 (ys.length:Int)),(8,.int .i64 (xs.length:Int)),(32,.slice (some ⟨g,0,none⟩) xs.length c),(33,.int .i64 k)] rfl ⟨rfl,rfl,rfl,rfl,rfl,rfl,rfl,trivial⟩ (FF ah rfl rfl rfl rfl rfl rfl rfl rfl rfl rfl al (by omega) ?_)));refine ax ah [3,4,5,6,7] [(0,.slice (some ⟨g,0,none⟩) xs.length c),(1,.int .i64 k),(2,.slice (some ad) ys.length o),(7,.int .i64 (ys.length:Int)),(34,.slice (some ⟨g,0,none⟩) k c),(39,.int .i64 (δ.wrap (δ.wrap ((xs.length:Int)+(ys.length:Int))-(k:Int))))] rfl ⟨rfl,rfl,rfl,rfl,rfl,rfl,trivial⟩ ?_;have bG:δ.wrap (δ.wrap ((xs.length:Int)+(ys.length:Int))-(k:Int))=((xs.length+ys.length-k:Nat):Int):=by
    rw[aM,ξj];unfold maxLen at*;omega
   rw[bG];have r:(cs.take (k*S)).length=k*S:=by rw[ξ9];omega
   refine ad8 ah rfl rfl rfl rfl rfl rfl rfl rfl rfl rfl rfl rfl rfl (us:=cs.take (k*S)) (λj x t=>by
    rw[ξD] at t;split at t
    ·have:=ay 0 j x (by simpa using t);exact this
    ·cases t) r (by omega) (by omega) (by simp only[ξZ] at bd ⊢;omega) rfl ?_
   have bC:k+(xs.length+ys.length-k)=xs.length+ys.length:=by omega
   rw[bC];generalize aO:grownCap w (xs.length+ys.length) c e=C;have ao:xs.length+ys.length<=C:=by rw[<-aO];exact grownCap_ge _ _ _ _
   have bn:C<=maxLen:=by rw[<-aO];exact grownCap_le_maxLen _ _ _ _ (by unfold maxLen at*;omega)
   have bN:(xs.length+ys.length)*S<=C*S:=ξ7 _ ao;refine ax ah [9] [(0,.slice (some ⟨g,0,none⟩) xs.length c),(1,.int .i64 k),(2,.slice (some ad) ys.length o),(7,.int .i64 (ys.length:Int)),(9,.slice (some ⟨w.heap.size,0,none⟩) (xs.length+ys.length) C)] rfl ⟨rfl,rfl,rfl,rfl,rfl,trivial⟩ (aQ (aG ?_));obtain⟨Z,aV,ar⟩:=acf (cs:=cs.take (k*S)) (xs.length+ys.length-k) (C-(xs.length+ys.length)) (by first|exact(show(ξB (.agg #[(.int .u64 0),(.int .i64 0),(.int .u64 0)])).size=S from(λ(_:e=105)=>rfl) rfl)|exact(show(ξB (.agg #[(.int .u64 0),(.int .u64 0)])).size=S from(λ(_:e=127)=>rfl) rfl)|exact(show(ξB (.agg #[(.int .u64 0),(.int .u64 0),(.bool false),(.int .u64 0)])).size=S from(λ(_:e=115)=>rfl) rfl)|exact(show(ξB (.agg #[.int .u64 0,.slice none 0 0])).size=S from(λ(_:e=132)=>rfl) rfl));rw[show xs.length+ys.length-k+(C-(xs.length+ys.length))=C-k by omega] at ar;generalize (cs.take (k*S)).toArray++ξI _ (xs.length+ys.length-k)++ξI _ (C-(xs.length+ys.length))=row at*
   have bO:(C-k)*S+k*S=C*S:=by rw[<-ξ6];congr 1;omega
   have b3:row.size=C*S:=by rw[<-υ,aV,η,ar,r];omega
   have aJ:=jw (O:=O) (w:=w.drew) hO e row.toList;simp only[Array.toArray_toList] at aJ;generalize b5:w.drew.alloc (.cells row e)=w1 at*
   have aq:w1.heap[w.heap.size]? =some (.cells row e (0,0)):=by have:=aJ.bB;unfold bz at this;simpa using this
   have a7:Fr [] w w1:=(Fr.drew [] w).trans aJ.fr;have bF:(xs.length+ys.length)*S=k*S+ys.length*S+(xs.length-k)*S:=by rw[<-ξ6,<-ξ6];congr 1;omega
   have a8:(k+ys.length)*S=k*S+ys.length*S:=ξ6 _ _ _;have bD:(xs.length-k)*S+k*S=xs.length*S:=by rw[<-ξ6];congr 1;omega
   refine aF (aT (l:=[0,1,2,3,4]) rfl (ax ah [0,1] [(0,.slice (some ⟨g,0,none⟩) xs.length c),(1,.int .i64 k),(2,.slice (some ad) ys.length o),(7,.int .i64 (ys.length:Int)),(9,.slice (some ⟨w.heap.size,0,none⟩) (xs.length+ys.length) C),(41,.slice (some ⟨w.heap.size,0,none⟩) (xs.length+ys.length) C),(42,.int .i64 k)] rfl ⟨rfl,rfl,rfl,rfl,rfl,rfl,rfl,trivial⟩ (qW ah rfl rfl rfl rfl rfl rfl rfl rfl rfl rfl ao (by omega) ?_)));rw[if_neg (by omega),ξ0,eC,ξa];refine ax ah [3] [(0,.slice (some ⟨g,0,none⟩) xs.length c),(1,.int .i64 k),(7,.int .i64 (ys.length:Int)),(9,.slice (some ⟨w.heap.size,0,none⟩) (xs.length+ys.length) C),(43,.slice (some ⟨w.heap.size,k*S,none⟩) (xs.length+ys.length-k) (C-k)),(44,.slice (some ad) ys.length o)] rfl ⟨rfl,rfl,rfl,rfl,rfl,rfl,trivial⟩ ?_;have au:ad.block<w.heap.size:=(ν.1 aE).1;refine FE ah rfl rfl rfl rfl rfl rfl rfl rfl rfl rfl aq (a1.keep (a7.block _ au (by simp))) D aa.one (by omega) (by omega) (λz=>?_);rw[aV,ξb r];generalize bb:(cs.take (k*S)++us++ξQ (k*S+us.length) (cs.take (k*S)++Z)).toArray=L;obtain⟨ag,aW,aX⟩: ∃ag:Γb,L.toList=cs.take (k*S)++us++ag/\ag.length=C*S-(k*S+ys.length*S):=by
    refine⟨_,by rw[<-bb],?_⟩;simp only[τ,η,r,ar,D];omega
   clear bb;have bw:=jJ (new:=L) aq;have aS:(w1.setRow w.heap.size L).heap[w.heap.size]? =some (.cells L e (0,0)):=setRow_heap w1 _ _ _ _ _ aq;generalize b6:w1.setRow w.heap.size L=w2 at*
   have bo:Fr [] w w2:=a7.own bw (ξ5 _);refine aQ (aG (aF ?_));have an:δ.wrap ((k:Int)+(ys.length:Int))=((k+ys.length:Nat):Int):=by rw[ξj];unfold maxLen at*;omega
   refine qU mixed [⟨46,[],[9]⟩,⟨47,[],[1]⟩,⟨48,[],[7]⟩,⟨49,[1,2],[]⟩,⟨50,[0,3],[]⟩,⟨51,[],[0]⟩,⟨52,[],[1]⟩,⟨53,[5,6],[]⟩] [SP.eq (.slice (some ⟨w.heap.size,0,none⟩) (xs.length+ys.length) C),SP.eq (.int .i64 k),SP.eq (.int .i64 (ys.length:Int)),SP.eq (.int .i64 (δ.wrap ((k:Int)+(ys.length:Int)))),SP.eq (.slice (some ⟨w.heap.size,(k+ys.length)*S,none⟩) (xs.length-k) (C-(k+ys.length))),SP.eq (.slice (some ⟨g,0,none⟩) xs.length c),SP.eq (.int .i64 k),SP.eq (.slice (some ⟨g,k*S,none⟩) (xs.length-k) (c-k))] rfl rfl rfl rfl ⟨?_,?_,?_,?_,?_,?_,?_,?_,trivial⟩ ?_
   ·intro a m p b d f i;exact cB ah ⟨b,d,bQ (E:=[(9,.slice (some ⟨w.heap.size,0,none⟩) (xs.length+ys.length) C)]) ⟨f 9 rfl _ rfl,trivial⟩⟩ rfl rfl rfl rfl rfl
   ·intro a m p b d f i;exact cB ah ⟨b,d,bQ (E:=[(1,.int .i64 k)]) ⟨f 1 rfl _ rfl,trivial⟩⟩ rfl rfl rfl rfl rfl
   ·intro a m p b d f i;exact cB ah ⟨b,d,bQ (E:=[(7,.int .i64 (ys.length:Int))]) ⟨f 7 rfl _ rfl,trivial⟩⟩ rfl rfl rfl rfl rfl
   ·intro a m p b d f i;exact cB ah ⟨b,d,bQ (E:=[(47,.int .i64 k),(48,.int .i64 (ys.length:Int))]) ⟨(i 1 rfl _ _ rfl rfl),(i 2 rfl _ _ rfl rfl),trivial⟩⟩ rfl rfl rfl rfl rfl
   ·intro a m p b d f i;have bj:a.tmps.getD 49 undef= .int .i64 ((k+ys.length:Nat):Int):=by rw[<-an];exact i 3 rfl _ _ rfl rfl
    refine(nI ah ⟨b,d,bQ (E:=[(46,.slice (some ⟨w.heap.size,0,none⟩) (xs.length+ys.length) C),(49,.int .i64 ((k+ys.length:Nat):Int))]) ⟨(i 0 rfl _ _ rfl rfl),bj,trivial⟩⟩ rfl rfl rfl rfl rfl rfl rfl rfl rfl ao (by omega)).weaken (λu w4 ⟨hu,K⟩=>⟨?_,K⟩);rw[hu,if_neg (by omega),ξ0,eC,ξa,show xs.length+ys.length-(k+ys.length)=xs.length-k by omega];rfl
   ·intro a m p b d f i;exact cB ah ⟨b,d,bQ (E:=[(0,.slice (some ⟨g,0,none⟩) xs.length c)]) ⟨f 0 rfl _ rfl,trivial⟩⟩ rfl rfl rfl rfl rfl
   ·intro a m p b d f i;exact cB ah ⟨b,d,bQ (E:=[(1,.int .i64 k)]) ⟨f 1 rfl _ rfl,trivial⟩⟩ rfl rfl rfl rfl rfl
   ·intro a m p b d f i;refine(nI ah ⟨b,d,bQ (E:=[(51,.slice (some ⟨g,0,none⟩) xs.length c),(52,.int .i64 k)]) ⟨(i 5 rfl _ _ rfl rfl),(i 6 rfl _ _ rfl rfl),trivial⟩⟩ rfl rfl rfl rfl rfl rfl rfl rfl rfl al aH).weaken (λu w4 ⟨hu,K⟩=>⟨?_,K⟩);rw[hu,if_neg (by omega),ξ0,eC,ξa];rfl
   intro a m f3 b d f V;have J:m.heap[w.heap.size]? =some (.cells L e (0,0)):=(f3.block _ (ν.1 aS).1 (by simp)).trans aS;have aP:Fr [] w m:=bo.trans f3;refine oh (E:=[(9,.slice (some ⟨w.heap.size,0,none⟩) (xs.length+ys.length) C),(50,.slice (some ⟨w.heap.size,(k+ys.length)*S,none⟩) (xs.length-k) (C-(k+ys.length))),(53,.slice (some ⟨g,k*S,none⟩) (xs.length-k) (c-k))]) (l:=[8]) b d ⟨f 9 _ rfl rfl,(V 4 _ _ rfl rfl),(V 7 _ _ rfl rfl),trivial⟩ rfl ?_;have aC:g<w.heap.size:=(ν.1 M).1;have b0:L.size=C*S:=by rw[<-υ,aW,η,η,r,D,aX];omega
   have I:(cs.drop (k*S)).length=(xs.length-k)*S:=by rw[τ];omega
   refine FE ah rfl rfl rfl rfl rfl rfl rfl rfl rfl rfl J ((ay (k*S)).keep (aP.block _ aC (by simp))) I (λu hu=>ba u (ξx hu)) (ξ5 _) (by omega) (λz=>?_);rw[aW,ξb (by rw[η,r,D,a8])];generalize W:(cs.take (k*S)++us++cs.drop (k*S)++ξQ ((k+ys.length)*S+(cs.drop (k*S)).length) (cs.take (k*S)++us++ag)).toArray=s;obtain⟨F,U,aj⟩: ∃F:Γb,s.toList=cs.take (k*S)++us++cs.drop (k*S)++F/\F.length=C*S-(xs.length+ys.length)*S:=by
    refine⟨_,by rw[<-W],?_⟩;simp only[τ,η,r,aX,D,av];omega
   clear W;have aA:=jJ (new:=s) J;have Q:(m.setRow w.heap.size s).heap[w.heap.size]? =some (.cells s e (0,0)):=setRow_heap m _ _ _ _ _ J;generalize m.setRow w.heap.size s=w4 at*
   have P:Fr [] w w4:=aP.own aA (ξ5 _);refine aQ (aG (aF (aT (l:=[0,1]) rfl (ax ah [0,1] [(6,.slice (some ⟨w.heap.size,0,none⟩) (xs.length+ys.length) C)] rfl ⟨rfl,trivial⟩ (aQ (aG (dk (ff (ez rfl ⟨_,w.heap.size::O,rfl,?_⟩)))))))));have ae:(xs.take k++ys++xs.drop k).length=xs.length+ys.length:=by simp only[η,ξ9,τ];omega
   have aK:Tr O w (w.heap.size::O) w4:=Fm P (ξ5 _);have:=Jw (T:=T) (e:=e) (B:=B) (v:=.slice (some ⟨g,0,none⟩) xs.length c) (zs:=xs.take k++ys++xs.drop k) (cap:=C) (cs:=cs.take (k*S)++us++cs.drop (k*S)) hO (ξ5 _) aN P Q (by rw[R,<-υ,U];simp only[η,r,D,I,aj];omega) bn (by omega)
    ((((X.take k).app aa).app (X.drop k)).tr aK) (by rw[ae,R,U];exact ξb (by simp only[η,r,D,I];omega))
   rw[ae] at this;exact this
  ·
   refine fz rfl (by simp;omega) ?_;refine eo (aG ?_);have b2:(xs.length+ys.length)*S<=c*S:=ξ7 _ (by omega);have bF:(xs.length+ys.length)*S=k*S+ys.length*S+(xs.length-k)*S:=by rw[<-ξ6,<-ξ6];congr 1;omega
   have a8:(k+ys.length)*S=k*S+ys.length*S:=ξ6 _ _ _;have bD:(xs.length-k)*S+k*S=xs.length*S:=by rw[<-ξ6];congr 1;omega
   have I:(cs.drop (k*S)).length=(xs.length-k)*S:=by rw[τ];omega
   have r:(cs.take (k*S)).length=k*S:=by rw[ξ9];omega
   refine aF (aT (l:=[0,1,2,3,4,5]) rfl (ax ah [0,1,2,3] [(1,.int .i64 k),(2,.slice (some ad) ys.length o),(7,.int .i64 (ys.length:Int)),(8,.int .i64 (xs.length:Int)),(56,.slice (some ⟨g,0,none⟩) xs.length c),(59,.int .i64 (δ.wrap ((xs.length:Int)+(ys.length:Int))))] rfl ⟨rfl,rfl,rfl,rfl,rfl,rfl,trivial⟩ ?_));rw[aM];refine FF ah rfl rfl rfl rfl rfl rfl rfl rfl rfl rfl al (by omega) ?_;refine ax ah [5] [(0,.slice (some ⟨g,0,none⟩) (xs.length+ys.length) c),(1,.int .i64 k),(2,.slice (some ad) ys.length o),(7,.int .i64 (ys.length:Int)),(8,.int .i64 (xs.length:Int))] rfl ⟨rfl,rfl,rfl,rfl,rfl,trivial⟩ (aQ (aG (aF (aF (aT (l:=[0,1,2,3,4,5,6,7]) rfl ?_)))));have an:δ.wrap ((k:Int)+(ys.length:Int))=((k+ys.length:Nat):Int):=by rw[ξj];unfold maxLen at*;omega
   refine ax ah [0,1,2,3,4] [(0,.slice (some ⟨g,0,none⟩) (xs.length+ys.length) c),(1,.int .i64 k),(2,.slice (some ad) ys.length o),(7,.int .i64 (ys.length:Int)),(8,.int .i64 (xs.length:Int)),(61,.slice (some ad) ys.length o),(62,.slice (some ⟨g,0,none⟩) (xs.length+ys.length) c),(65,.int .i64 (δ.wrap ((k:Int)+(ys.length:Int))))] rfl ⟨rfl,rfl,rfl,rfl,rfl,rfl,rfl,rfl,trivial⟩ ?_;rw[an];refine qW ah rfl rfl rfl rfl rfl rfl rfl rfl rfl rfl (by omega) (by omega) ?_;rw[if_neg (by omega),ξ0,eC,ξa];refine aeb ah rfl rfl rfl rfl rfl (by first|exact Tryz.func265|exact Tryz.func271|exact Tryz.func289|exact Tryz.func309) rfl rfl rfl rfl rfl rfl rfl rfl rfl aZ aE M (by rw[aw];omega) ?_;refine ax ah [7] [(0,.slice (some ⟨g,0,none⟩) (xs.length+ys.length) c),(1,.int .i64 k),(2,.slice (some ad) ys.length o),(7,.int .i64 (ys.length:Int)),(68,.bool (!false))] rfl ⟨rfl,rfl,rfl,rfl,rfl,trivial⟩ (aQ (aG (fe rfl rfl (aF (qU mixed [⟨69,[],[0]⟩,⟨70,[],[1]⟩,⟨71,[],[7]⟩,⟨72,[1,2],[]⟩,⟨73,[0,3],[]⟩,⟨74,[],[0]⟩,⟨75,[],[1]⟩,⟨76,[5,6],[]⟩] [SP.eq (.slice (some ⟨g,0,none⟩) (xs.length+ys.length) c),SP.eq (.int .i64 k),SP.eq (.int .i64 (ys.length:Int)),SP.eq (.int .i64 (δ.wrap ((k:Int)+(ys.length:Int)))),SP.eq (.slice (some ⟨g,(k+ys.length)*S,none⟩) (xs.length-k) (c-(k+ys.length))),SP.eq (.slice (some ⟨g,0,none⟩) (xs.length+ys.length) c),SP.eq (.int .i64 k),SP.eq (.slice (some ⟨g,k*S,none⟩) (xs.length+ys.length-k) (c-k))] rfl rfl rfl rfl ⟨?_,?_,?_,?_,?_,?_,?_,?_,trivial⟩ ?_)))))
   ·intro a m p b d f i;exact cB ah ⟨b,d,bQ (E:=[(0,.slice (some ⟨g,0,none⟩) (xs.length+ys.length) c)]) ⟨f 0 rfl _ rfl,trivial⟩⟩ rfl rfl rfl rfl rfl
   ·intro a m p b d f i;exact cB ah ⟨b,d,bQ (E:=[(1,.int .i64 k)]) ⟨f 1 rfl _ rfl,trivial⟩⟩ rfl rfl rfl rfl rfl
   ·intro a m p b d f i;exact cB ah ⟨b,d,bQ (E:=[(7,.int .i64 (ys.length:Int))]) ⟨f 7 rfl _ rfl,trivial⟩⟩ rfl rfl rfl rfl rfl
   ·intro a m p b d f i;exact cB ah ⟨b,d,bQ (E:=[(70,.int .i64 k),(71,.int .i64 (ys.length:Int))]) ⟨(i 1 rfl _ _ rfl rfl),(i 2 rfl _ _ rfl rfl),trivial⟩⟩ rfl rfl rfl rfl rfl
   ·intro a m p b d f i;have bk:a.tmps.getD 72 undef= .int .i64 ((k+ys.length:Nat):Int):=by rw[<-an];exact i 3 rfl _ _ rfl rfl
    refine(nI ah ⟨b,d,bQ (E:=[(69,.slice (some ⟨g,0,none⟩) (xs.length+ys.length) c),(72,.int .i64 ((k+ys.length:Nat):Int))]) ⟨(i 0 rfl _ _ rfl rfl),bk,trivial⟩⟩ rfl rfl rfl rfl rfl rfl rfl rfl rfl (by omega) (by omega)).weaken (λu w4 ⟨hu,K⟩=>⟨?_,K⟩);rw[hu,if_neg (by omega),ξ0,eC,ξa,show xs.length+ys.length-(k+ys.length)=xs.length-k by omega];rfl
   ·intro a m p b d f i;exact cB ah ⟨b,d,bQ (E:=[(0,.slice (some ⟨g,0,none⟩) (xs.length+ys.length) c)]) ⟨f 0 rfl _ rfl,trivial⟩⟩ rfl rfl rfl rfl rfl
   ·intro a m p b d f i;exact cB ah ⟨b,d,bQ (E:=[(1,.int .i64 k)]) ⟨f 1 rfl _ rfl,trivial⟩⟩ rfl rfl rfl rfl rfl
   ·intro a m p b d f i;refine(nI ah ⟨b,d,bQ (E:=[(74,.slice (some ⟨g,0,none⟩) (xs.length+ys.length) c),(75,.int .i64 k)]) ⟨(i 5 rfl _ _ rfl rfl),(i 6 rfl _ _ rfl rfl),trivial⟩⟩ rfl rfl rfl rfl rfl rfl rfl rfl rfl (by omega) (by omega)).weaken (λu w4 ⟨hu,K⟩=>⟨?_,K⟩);rw[hu,if_neg (by omega),ξ0,eC,ξa];rfl
   intro a m f3 b d f V;have J:m.heap[g]? =some (.cells cur e (0,0)):=(f3.block _ (ν.1 M).1 (by simp)).trans M;refine oh (E:=[(0,.slice (some ⟨g,0,none⟩) (xs.length+ys.length) c),(1,.int .i64 k),(2,.slice (some ad) ys.length o),(73,.slice (some ⟨g,(k+ys.length)*S,none⟩) (xs.length-k) (c-(k+ys.length))),(76,.slice (some ⟨g,k*S,none⟩) (xs.length+ys.length-k) (c-k))]) (l:=[8]) b d ⟨f 0 _ rfl rfl,f 1 _ rfl rfl,f 2 _ rfl rfl,(V 4 _ _ rfl rfl),(V 7 _ _ rfl rfl),trivial⟩ rfl ?_;have aC:g<w.heap.size:=(ν.1 M).1;have au:ad.block<w.heap.size:=(ν.1 aE).1;refine ad_ ah rfl rfl rfl rfl rfl rfl rfl rfl rfl rfl J ((ay (k*S)).keep (f3.block _ aC (by simp))) I (λu hu=>ba u (ξx hu)) (by omega) (by omega) (λz=>?_);generalize W:(cur.toList.take ((k+ys.length)*S)++cs.drop (k*S)++ξQ ((k+ys.length)*S+(cs.drop (k*S)).length) cur.toList).toArray=s;have a6:cur.toList.length=c*S:=by rw[υ,aw]
   obtain⟨Y,F,U,aU,aj⟩: ∃Y F:Γb,s.toList=cs.take (k*S)++Y++cs.drop (k*S)++F/\Y.length=ys.length*S/\F.length=c*S-(xs.length+ys.length)*S:=by
    refine⟨(cur.toList.take ((k+ys.length)*S)).drop (k*S),ξQ ((k+ys.length)*S+(cs.drop (k*S)).length) cur.toList,?_,?_,?_⟩
    ·rw[<-W];have e:cs.take (k*S)=(cur.toList.take ((k+ys.length)*S)).take (k*S):=by
      rw[<-az,ξW,ξW];congr 1;omega
     rw[e,List.take_append_drop]
    ·rw[τ,ξ9,a6];omega
    ·rw[τ,a6,I];omega
   clear W;have aA:=jJ (new:=s) J;have Q:(m.setRow g s).heap[g]? =some (.cells s e (0,0)):=setRow_heap m _ _ _ _ _ J;generalize m.setRow g s=w4 at*
   have P:Fr [g] w w4:=(f3.more (by simp)).trans aA;refine aQ (aG (aF (aT (l:=[0,1,2,3,4]) rfl (ax ah [0,1] [(0,.slice (some ⟨g,0,none⟩) (xs.length+ys.length) c),(2,.slice (some ad) ys.length o),(78,.slice (some ⟨g,0,none⟩) (xs.length+ys.length) c),(79,.int .i64 k)] rfl ⟨rfl,rfl,rfl,rfl,trivial⟩ (qW ah rfl rfl rfl rfl rfl rfl rfl rfl rfl rfl (by omega) (by omega) ?_)))));rw[if_neg (by omega),ξ0,eC,ξa];refine ax ah [3] [(0,.slice (some ⟨g,0,none⟩) (xs.length+ys.length) c),(80,.slice (some ⟨g,k*S,none⟩) (xs.length+ys.length-k) (c-k)),(81,.slice (some ad) ys.length o)] rfl ⟨rfl,rfl,rfl,trivial⟩ ?_;have b1:s.size=c*S:=by rw[<-υ,U];simp only[η,r,aU,I,aj];omega
   refine FE ah rfl rfl rfl rfl rfl rfl rfl rfl rfl rfl Q (a1.keep (P.block _ au (by simp[aZ]))) D aa.one (by omega) (by omega) (λz=>?_);have bh:(s.toList.take (k*S)++us++s.toList.drop (k*S+us.length))=cs.take (k*S)++us++(cs.drop (k*S)++F):=by
    rw[U,ξd (cs.take (k*S)++Y),ξd (cs.take (k*S)),ξb r,<-ξd (cs.take (k*S)),List.drop_left' (by rw[η,r,aU,D])]
   rw[bh];generalize bc:(cs.take (k*S)++us++(cs.drop (k*S)++F)).toArray=af;have aY:af.toList=cs.take (k*S)++us++cs.drop (k*S)++F:=by rw[<-bc,<-ξd]
   clear bc;have bx:=jJ (new:=af) Q;have bp:(w4.setRow g af).heap[g]? =some (.cells af e (0,0)):=setRow_heap w4 _ _ _ _ _ Q;generalize w4.setRow g af=bf at*
   have aR:Fr [g] w bf:=P.trans bx;refine aQ (aG (aF (aT (l:=[0,1]) rfl (ax ah [0,1] [(6,.slice (some ⟨g,0,none⟩) (xs.length+ys.length) c)] rfl ⟨rfl,trivial⟩ (aQ (aG (dk (ff (ez rfl ⟨_,O,rfl,?_⟩)))))))));have ae:(xs.take k++ys++xs.drop k).length=xs.length+ys.length:=by simp only[η,ξ9,τ];omega
   have aK:Tr O w O bf:=aR.tr (gC aB);have:=qZ (T:=T) (e:=e) (B:=B) (n0:=xs.length) (zs:=xs.take k++ys++xs.drop k) (cap:=c) (cs:=cs.take (k*S)++us++cs.drop (k*S)) hO aB bm aR bp (by rw[R,<-υ,aY];simp only[η,r,D,I,aj];omega) bt (by omega)
    ((((X.take k).app aa).app (X.drop k)).tr aK) (by rw[ae,R,aY];exact ξb (by simp only[η,r,D,I];omega))
   rw[ae] at this;exact this
def C_:dI SS:=p4 KK 212 105 mZ
theorem YL {R:Type} (xs:List (an SS)) (h:AH SS) (k:Rs SS->AH SS->Γ->Option R) (z:R) (a:(C_).out xs h k=some z): ∃r h' dt,k r h' dt=some z/\dv KK γ 212 xs h r h' dt:=
 Dd (e:=105) (ins:=mZ) c8 (cG aY ζ3 rfl) (λO w v u xs ys zs j hO b hu hp a=>uK.1 hO (ξz _) b (dr.2 rfl) hu hp a) xs h k z a
def C':dI SS:=p4 KK 222 127 m_
theorem YM {R:Type} (xs:List (an SS)) (h:AH SS) (k:Rs SS->AH SS->Γ->Option R) (z:R) (a:(C').out xs h k=some z): ∃r h' dt,k r h' dt=some z/\dv KK γ 222 xs h r h' dt:=
 Dd (e:=127) (ins:=m_) c8 (cG aY ζ4 rfl) (λO w v u xs ys zs j hO b hu hp a=>uK.2.1 hO (ξz _) b (dr.2 rfl) hu hp a) xs h k z a
def Da:dI SS:=p4 KK 259 115 lz
theorem YN {R:Type} (xs:List (an SS)) (h:AH SS) (k:Rs SS->AH SS->Γ->Option R) (z:R) (a:(Da).out xs h k=some z): ∃r h' dt,k r h' dt=some z/\dv KK γ 259 xs h r h' dt:=
 Dd (e:=115) (ins:=lz) c8 (cG aY ζ5 rfl) (λO w v u xs ys zs j hO b hu hp a=>uK.2.2.1 hO (ξz _) b (dr.2 rfl) hu hp a) xs h k z a
theorem acM {O:Γ} {w:World} (hO:OB O w) {B:Nat} (a:B<=w.heap.size) {v:Value} {xs:Γd} (b:Go.Dc.Own (ky .u64) 132 B O w v xs) {v1:Value} {j:Int} (h1:(Ty.int .i64).is O w v1 j) {u:Value} {ys:Γd} (hu:(Ty.slice (ky .u64)).is O w u ys) (hp:Plain w u) {zs:Γd} (c:we xs j ys=some zs):
 Calls γ 293 #[v,v1,u] w (eB (ky .u64) 132 B O w v zs):=uK.2.2.2 hO a b h1 hu hp c
set_option maxRecDepth 100000
noncomputable def xi:bE SS:= {G4 with H:=C_::G4.H}
theorem Rv:aj xi γ:=aj.dw (c:=C_) Ru YL
noncomputable def xj:bE SS:= {xi with H:=C'::xi.H}
theorem Rw:aj xj γ:=aj.dw (c:=C') Rv YM
noncomputable def G5:bE SS:= {xj with H:=Da::xj.H}
theorem Gu:aj G5 γ:=aj.dw (c:=Da) Rw YN
end Go.Proofs.YtoggponeookhbaaGreatDoor
end
section

/- Words for b entries of a. -/
namespace Go.Vx
noncomputable def vs {S:bh} (x:LV S):AV S:=.s (.one x)
noncomputable def li {S:bh} (x:Int):LV S:=.v (.int .i64 x)
noncomputable def lu {S:bh} (x:Int):LV S:=.v (.int .u64 x)
noncomputable def vi {S:bh} (x:Int):AV S:=.s (.one (.v (.int .i64 x)))
noncomputable def vu {S:bh} (x:Int):AV S:=.s (.one (.v (.int .u64 x)))
noncomputable def vb {S:bh} (x:Bool):AV S:=.s (.one (.v (.bool x)))
noncomputable def va {S:bh} (x y:Nat):AV S:=.s (.one (.aK x y))
noncomputable def vd {S:bh} (t:Nat) (x:S.El t):AV S:=.s (.one (.aH t x))
noncomputable def vo {S:bh} (x:Nat):AV S:=.s (.one (.own x))
noncomputable def vc {S:bh} (x:Nat):AV S:=.s (.one (.aM x))
noncomputable def bX {S:bh} (t:Nat) (x:List (LV S)):Option (Ob S):=some (.box t x)
noncomputable def rX {S:bh} (t:Nat) (x:List (S.El t)):Option (Ob S):=some (.row t x)
noncomputable def vl {S:bh} {α:Type} (x:List α):AV S:=.s (.one (.v (.int .i64 (x.length:Int))))
noncomputable def bN {S:bh} (c:fg S) (G:bE S):bE S:= {G with C:=c::G.C}
def bL {S:bh} (G:bE S) (L:Nat->Nat->Γ) (fn:Func) (f:Nat) (cs:List (bc S)):bE S:= {G with T:=h2 G.T f ⟨⟨fn,L f⟩,cs⟩}
abbrev KX (S:bh) (R:Type):=AX->AS S->Option R
abbrev LS {S:bh} (K:Kit S) (P:Program) (L:Nat->Nat->Γ) (fn:Func) (f id:Nat) (c:bc S):Prop:=aZ K P ⟨fn,L f⟩ (p' (cr fn) id) c
noncomputable def xe {S:bh} (l:aP S) (st:AS S):AS S:= {st with env:=l++st.env}
universe u
section
variable {S:bh} {P:Program} {G E:bE S} {K:Kit S}
def cx (K:Kit S) (t:Nat) {R:Type} (k:Rs S->Option R) (r:S.El t):Option R:=k (.ret (.s (K.a_ t r)))
def eN (K:Kit S) (t u:Nat) {R:Type} (k:Rs S->Option R) (r:S.El t×S.El u):Option R:=k (.ret (.bn [K.a_ t r.1,K.a_ u r.2]))
def ni (K:Kit S) (t u v:Nat) {R:Type} (k:Rs S->Option R) (r:S.El t×S.El u×S.El v):Option R:=k (.ret (.bn [K.a_ t r.1,K.a_ u r.2.1,K.a_ v r.2.2]))
def u2 {A0 A1:Type} {D:Type u} (f:A0->A1->D) (p:A0×A1):D:=f p.1 p.2
def u3 {A0 A1 A2:Type} {D:Type u} (f:A0->A1->A2->D) (p:A0×A1×A2):D:=f p.1 p.2.1 p.2.2
def u4 {A0 A1 A2 a:Type} {D:Type u} (f:A0->A1->A2->a->D) (p:A0×A1×A2×a):D:=f p.1 p.2.1 p.2.2.1 p.2.2.2
def u5 {A0 A1 A2 a b:Type} {D:Type u} (f:A0->A1->A2->a->b->D) (p:A0×A1×A2×a×b):D:=f p.1 p.2.1 p.2.2.1 p.2.2.2.1 p.2.2.2.2
def u6 {A0 A1 A2 a b c:Type} {D:Type u} (f:A0->A1->A2->a->b->c->D) (p:A0×A1×A2×a×b×c):D:=f p.1 p.2.1 p.2.2.1 p.2.2.2.1 p.2.2.2.2.1 p.2.2.2.2.2
def u7 {A0 A1 A2 a b c d:Type} {D:Type u} (f:A0->A1->A2->a->b->c->d->D) (p:A0×A1×A2×a×b×c×d):D:=f p.1 p.2.1 p.2.2.1 p.2.2.2.1 p.2.2.2.2.1 p.2.2.2.2.2.1 p.2.2.2.2.2.2
def u8 {A0 A1 A2 a b c d e:Type} {D:Type u} (f:A0->A1->A2->a->b->c->d->e->D) (p:A0×A1×A2×a×b×c×d×e):D:=f p.1 p.2.1 p.2.2.1 p.2.2.2.1 p.2.2.2.2.1 p.2.2.2.2.2.1 p.2.2.2.2.2.2.1 p.2.2.2.2.2.2.2
def u9 {A0 A1 A2 a b c d e g:Type} {D:Type u} (f:A0->A1->A2->a->b->c->d->e->g->D) (p:A0×A1×A2×a×b×c×d×e×g):D:=f p.1 p.2.1 p.2.2.1 p.2.2.2.1 p.2.2.2.2.1 p.2.2.2.2.2.1 p.2.2.2.2.2.2.1 p.2.2.2.2.2.2.2.1 p.2.2.2.2.2.2.2.2
theorem bO {L:Nat->Nat->Γ} {fn:Func} {f:Nat} {lc:bc S} {c:Code} (h:a7 G P) (g:P.funcs[f]? =some fn) (a:fn.body=some c) (e:oG P) (h1:vp c lc.id=true) (d:aZ G.K P ⟨fn,L f⟩ (p' c lc.id) lc):a7 (bL G L fn f [lc]) P:=a7.hG h g (by rw[a];rfl) e λi b=>by rw[a] at b;cases b;exact aO.cons aO.nil h1 d
abbrev KF (S:bh) (X:Type):= {R:Type}->(Rs S->Option R)->X->Option R
noncomputable def pq (K:Kit S) (f:Nat) {X:Type} (F:Option X) (kf:KF S X):fg S:=gq K f [] (λ{R} xs k=>match xs with| .nil=>(F).bind (kf k))
def R0 (K:Kit S) (E:bE S) (f:Nat) {X:Type} (rs:Γ) (T:T X) (kf:KF S X):Prop:= ∀ {R:Type} (k:Rs S->Option R),fh E 100 f [] [] (hW K rs k)=(T).run (kf k)
theorem BB {f:Nat} {X:Type} {rs:Γ} {T:T X} {kf:KF S X} (h:aj G P) (e:a7 E P) (h1:G.K=K) (b:E.K=K) (g:R0 K E f rs T kf):aj {G with C:=pq K f (shut.s _ (T).val) kf::G.C} P:=by
 subst h1;refine aj.ho (c:=pq G.K f (shut.s _ (T).val) kf) h λxs k z _ d=>?_;rw[<-b] at d ⊢;refine k6 e (rs:=rs) (λ{R} xs k z a=>?_) d
 match xs,a with
 | .nil,a=>exact⟨100,by rw[b];exact(g k).trans (mV a)⟩
noncomputable def dR (K:Kit S) (f t0:Nat) {X:Type} (F:S.El t0->Option X) (kf:KF S X):fg S:=gq K f [t0] (λ{R} xs k=>match xs with| .cons a .nil=>(F a).bind (kf k))
def R1 (K:Kit S) (E:bE S) (f t0:Nat) {X:Type} (rs:Γ) (T:S.El t0->T X) (kf:KF S X):Prop:= ∀ {R:Type} (a:S.El t0) (k:Rs S->Option R),fh E 100 f [K.a_ t0 a] [] (hW K rs k)=(T a).run (kf k)
theorem eh {f t0:Nat} {X:Type} {rs:Γ} {T:S.El t0->T X} {kf:KF S X} (h:aj G P) (g:a7 E P) (h1:G.K=K) (d:E.K=K) (i:R1 K E f t0 rs T kf):aj {G with C:=dR K f t0 (λa=>shut.s _ (T a).val) kf::G.C} P:=by
 subst h1;refine aj.ho (c:=dR G.K f t0 (λa=>shut.s _ (T a).val) kf) h λxs k z _ e=>?_;rw[<-d] at e ⊢;refine k6 g (rs:=rs) (λ{R} xs k z b=>?_) e
 match xs,b with
 | .cons a .nil,b=>exact⟨100,by rw[d];exact(i a k).trans (mV b)⟩
noncomputable def c6 (K:Kit S) (f t0 t1:Nat) {X:Type} (F:S.El t0->S.El t1->Option X) (kf:KF S X):fg S:=gq K f [t0,t1] (λ{R} xs k=>match xs with| .cons a (.cons b .nil)=>(F a b).bind (kf k))
def R2 (K:Kit S) (E:bE S) (f t0 t1:Nat) {X:Type} (rs:Γ) (T:S.El t0->S.El t1->T X) (kf:KF S X):Prop:= ∀ {R:Type} (a:S.El t0) (b:S.El t1) (k:Rs S->Option R),fh E 100 f [K.a_ t0 a,K.a_ t1 b] [] (hW K rs k)=(T a b).run (kf k)
theorem de {f t0 t1:Nat} {X:Type} {rs:Γ} {T:S.El t0->S.El t1->T X} {kf:KF S X} (h:aj G P) (i:a7 E P) (h1:G.K=K) (e:E.K=K) (j:R2 K E f t0 t1 rs T kf):aj {G with C:=c6 K f t0 t1 (λa b=>shut.s _ (T a b).val) kf::G.C} P:=by
 subst h1;refine aj.ho (c:=c6 G.K f t0 t1 (λa b=>shut.s _ (T a b).val) kf) h λxs k z _ g=>?_;rw[<-e] at g ⊢;refine k6 i (rs:=rs) (λ{R} xs k z d=>?_) g
 match xs,d with
 | .cons a (.cons b .nil),d=>exact⟨100,by rw[e];exact(j a b k).trans (mV d)⟩
noncomputable def jf (K:Kit S) (f t0 t1 t2:Nat) {X:Type} (F:S.El t0->S.El t1->S.El t2->Option X) (kf:KF S X):fg S:=gq K f [t0,t1,t2] (λ{R} xs k=>match xs with| .cons a (.cons b (.cons c .nil))=>(F a b c).bind (kf k))
def R3 (K:Kit S) (E:bE S) (f t0 t1 t2:Nat) {X:Type} (rs:Γ) (T:S.El t0->S.El t1->S.El t2->T X) (kf:KF S X):Prop:= ∀ {R:Type} (a:S.El t0) (b:S.El t1) (c:S.El t2) (k:Rs S->Option R),fh E 100 f [K.a_ t0 a,K.a_ t1 b,K.a_ t2 c] [] (hW K rs k)=(T a b c).run (kf k)
theorem k5 {f t0 t1 t2:Nat} {X:Type} {rs:Γ} {T:S.El t0->S.El t1->S.El t2->T X} {kf:KF S X} (h:aj G P) (i:a7 E P) (h1:G.K=K) (e:E.K=K) (j:R3 K E f t0 t1 t2 rs T kf):aj {G with C:=jf K f t0 t1 t2 (λa b c=>shut.s _ (T a b c).val) kf::G.C} P:=by
 subst h1;refine aj.ho (c:=jf G.K f t0 t1 t2 (λa b c=>shut.s _ (T a b c).val) kf) h λxs k z _ g=>?_;rw[<-e] at g ⊢;refine k6 i (rs:=rs) (λ{R} xs k z d=>?_) g
 match xs,d with
 | .cons a (.cons b (.cons c .nil)),d=>exact⟨100,by rw[e];exact(j a b c k).trans (mV d)⟩
noncomputable def BA (K:Kit S) (f t0 t1 t2 t3:Nat) {X:Type} (F:S.El t0->S.El t1->S.El t2->S.El t3->Option X) (kf:KF S X):fg S:=gq K f [t0,t1,t2,t3] (λ{R} xs k=>match xs with| .cons a (.cons b (.cons c (.cons d .nil)))=>(F a b c d).bind (kf k))
def R4 (K:Kit S) (E:bE S) (f t0 t1 t2 t3:Nat) {X:Type} (rs:Γ) (T:S.El t0->S.El t1->S.El t2->S.El t3->T X) (kf:KF S X):Prop:= ∀ {R:Type} (a:S.El t0) (b:S.El t1) (c:S.El t2) (d:S.El t3) (k:Rs S->Option R),fh E 100 f [K.a_ t0 a,K.a_ t1 b,K.a_ t2 c,K.a_ t3 d] [] (hW K rs k)=(T a b c d).run (kf k)
theorem Uw {f t0 t1 t2 t3:Nat} {X:Type} {rs:Γ} {T:S.El t0->S.El t1->S.El t2->S.El t3->T X} {kf:KF S X} (h:aj G P) (j:a7 E P) (h1:G.K=K) (g:E.K=K) (l:R4 K E f t0 t1 t2 t3 rs T kf):aj {G with C:=BA K f t0 t1 t2 t3 (λa b c d=>shut.s _ (T a b c d).val) kf::G.C} P:=by
 subst h1;refine aj.ho (c:=BA G.K f t0 t1 t2 t3 (λa b c d=>shut.s _ (T a b c d).val) kf) h λxs k z _ i=>?_;rw[<-g] at i ⊢;refine k6 j (rs:=rs) (λ{R} xs k z e=>?_) i
 match xs,e with
 | .cons a (.cons b (.cons c (.cons d .nil))),e=>exact⟨100,by rw[g];exact(l a b c d k).trans (mV e)⟩
noncomputable def Ip (K:Kit S) (f t0 t1 t2 t3 t4:Nat) {X:Type} (F:S.El t0->S.El t1->S.El t2->S.El t3->S.El t4->Option X) (kf:KF S X):fg S:=gq K f [t0,t1,t2,t3,t4] (λ{R} xs k=>match xs with| .cons a (.cons b (.cons c (.cons d (.cons e .nil))))=>(F a b c d e).bind (kf k))
def R5 (K:Kit S) (E:bE S) (f t0 t1 t2 t3 t4:Nat) {X:Type} (rs:Γ) (T:S.El t0->S.El t1->S.El t2->S.El t3->S.El t4->T X) (kf:KF S X):Prop:= ∀ {R:Type} (a:S.El t0) (b:S.El t1) (c:S.El t2) (d:S.El t3) (e:S.El t4) (k:Rs S->Option R),fh E 100 f [K.a_ t0 a,K.a_ t1 b,K.a_ t2 c,K.a_ t3 d,K.a_ t4 e] [] (hW K rs k)=(T a b c d e).run (kf k)
theorem aek {f t0 t1 t2 t3 t4:Nat} {X:Type} {rs:Γ} {T:S.El t0->S.El t1->S.El t2->S.El t3->S.El t4->T X} {kf:KF S X} (h:aj G P) (l:a7 E P) (h1:G.K=K) (i:E.K=K) (m:R5 K E f t0 t1 t2 t3 t4 rs T kf):aj {G with C:=Ip K f t0 t1 t2 t3 t4 (λa b c d e=>shut.s _ (T a b c d e).val) kf::G.C} P:=by
 subst h1;refine aj.ho (c:=Ip G.K f t0 t1 t2 t3 t4 (λa b c d e=>shut.s _ (T a b c d e).val) kf) h λxs k z _ j=>?_;rw[<-i] at j ⊢;refine k6 l (rs:=rs) (λ{R} xs k z g=>?_) j
 match xs,g with
 | .cons a (.cons b (.cons c (.cons d (.cons e .nil)))),g=>exact⟨100,by rw[i];exact(m a b c d e k).trans (mV g)⟩
end
end Go.Vx
end
section
namespace Go.Proofs.YtoggponeookhbaaGreatDoor
open Go.RowKit Go.Dc Go.Vx
variable (sh:Sh)
def R8 (sh:Sh) (pid:Int):T Int:=.ok (δ.wrap (pid.tmod 64))
def k' (pid:Int):=sh.s _ (R8 sh pid).val
def xm:=bN (dR KK 101 35 (k' sh) (cx KK 3)) G5
theorem rL:aj (xm shut) γ:=eh (rs:=[3]) Gu (aj.all Gu rfl) rfl rfl λpid k=>by kernel_rfl
def pT (p0:Γa) (a:List ai) (p2:Int):AS SS:=⟨[(0,(vs (.fB 0 0 16))),(1,(vs (.v (.func (.func 98) (.mk []) (.mk []))))),(7,(vi 16)),(8,(vi p2))],[(bX 50 [(.bG .i64 16 p0),(.aH 48 a)])],1,none,false,[],[]⟩
def Vk (p0:Γa) (a:List ai) (a0:Int):AS SS:= {pT p0 a a0 with env:=[(4,(vi a0))]}
def Vl (p0:Γa) (b:List ai) (a0:Bool) (a:Int):AS SS:=xe [(9,(vb a0))] (pT p0 b a)
def zO (sh:Sh) (p0:Γa) (b:List ai) (a:Int):T (Int⊕Int⊕(Bool×Int)):=.bf (decide (a<16)) (.bd (ew a 16) λz0=>.bf (decide (ay p0 z0<0)) (.ok (.inr (.inl a)))<|.bf (decide (ay p0 z0>65536)) (.ok (.inr (.inl a)))<|.ok (.inl (δ.wrap (a+1))))<|.ok (.inr (.inr ((decide (a<16)),a)))
def yV (p0:Γa) (a:List ai) (p2:Int):=bJ sh (zO sh p0 a) 1000000 p2
def Sq {R} (k:KX SS R) (p0:Γa) (a:List ai) (x:Int⊕(Bool×Int)):Option R:=(λx=>θ (λv=>k .ret (Vk p0 a v)) (λv=>k (.exit 0) (Vl p0 a v.1 v.2)) x) x
def Kl:bc SS:=br 3 (λst=>(fX (bj st 0 0)).bind λp0=>(bo 48 (bj st 0 1)).bind λa=>(aU (aJ st 8 0)).bind λp2=>some (p0,a,p2)) (u3 pT) (u3 (yV shut)) (λk p=>Sq k p.1 p.2.1)
theorem MD:LS KK γ aq Tryz.f141 141 3 Kl:=
 aZ.bJ (π:=Γa×List ai×Int) (σ:=Int) (aj.all rL rfl) (aO.nil) rfl 60 (λp a=>pT p.1 p.2.1 a) (λp=>p.2.2) (St:=λp=>zO shut p.1 p.2.1) (λp=>1000000) (λp=>rfl)
  (λm p a k=>by kernel_rfl)
def CE (p0:Γa) (a:List ai) (p2 b:Int):AS SS:=⟨[(0,(vs .c4)),(1,(va 4 0)),(9,(vl a)),(10,(vi b))],[(bX 160 [(.bG .i64 16 p0),(.aH 48 a)]),(bX 35 [(lu p2)]),(bX 161 [(.v (.pointer none))]),(some (.aM 142 [] [(.one (.aK 4 0))])),(bX 158 [(.aK 0 0)])],5,(some ⟨⟨μ,aq 97⟩,[9,10],(eP (cr μ) 4),(eQ (cr μ) 4),[(3,(va 1 0)),(4,(va 2 0)),(8,(vc 3))],none⟩),false,[],[]⟩
def jI (p0:Γa) (a:List ai) (p2:Int):AS SS:=CE p0 a p2 0
def Vy (p0:Γa) (a:List ai) (p2:Int) (a0:ai):AS SS:=⟨[],[(bX 160 [(.bG .i64 16 p0),(.aH 48 a)]),(bX 35 [(lu p2)]),(bX 161 [(.ptr 115 a0 0)]),(some (.aM 142 [] [(.one (.aK 4 0))])),(bX 158 [(.aK 0 0)])],5,(some ⟨⟨μ,aq 97⟩,[9,10],(eP (cr μ) 4),(eQ (cr μ) 4),[(3,(va 1 0)),(4,(va 2 0)),(8,(vc 3))],(some .ret)⟩),false,[],[2]⟩
def Vz (p0:Γa) (a:List ai) (p2:Int) (a0:Bool) (b:Int):AS SS:= {CE p0 a p2 p2 with env:=[(11,(vb a0)),(0,(vs .c4)),(1,(va 4 0)),(9,(vl a)),(10,(vi b))]}
def sb (sh:Sh) (p0:Γa) (b:List ai) (p2 c:Int) (z0:ai) (a:Unit):T (Unit⊕ai⊕(Bool×Int)):=.bf (z0.aa==p2) (.ok (.inr (.inl z0)))<|.ok (.inl ())
def q7 (sh:Sh) (p0:Γa) (c:List ai) (p2 b:Int) (a:Unit):T (ai⊕(Bool×Int)):=.ok (.inr ((decide (b<(↑c.length:Int))),b))
def h4 (p0:Γa) (a:List ai) (p2:Int):=b8 sh (sb sh p0 a p2) (q7 sh p0 a p2) a ()
def Sy {R} (k:KX SS R) (p0:Γa) (a:List ai) (p2:Int) (x:ai⊕(Bool×Int)):Option R:=(λx=>θ (λv=>k .ret (Vy p0 a p2 v)) (λv=>k (.exit 0) (Vz p0 a p2 v.1 v.2)) x) x
def Dv:bc SS:=br 2 (λst=>((cg st 3 142).bind λ_=>gA st 18 4).bind λ_=>(fX (bj st 0 0)).bind λp0=>(bo 48 (bj st 0 1)).bind λa=>(aU (bj st 1 0)).bind λp2=>some (p0,a,p2)) (u3 jI) (u3 (h4 shut)) (λk=>u3 (Sy k))
def wU:=bL (xm shut) aq Tryz.f141 141 [Kl]
theorem Gn:a7 wU γ:=bO (aj.all rL rfl) ζ6 rfl aY (by kernel_rfl) MD
theorem MF:LS KK γ aq χ 142 2 Dv:=
 aZ.cd Gn (aO.nil) rfl 60 (λp i a=>u3 CE p i) (λp=>p.2.1) (λp=>()) (St:=u3 (sb shut)) (F:=u3 (q7 shut)) (λp=>rfl)
  (λm p i a k=>by kernel_rfl) (by rintro p (x|x)<;>exact⟨_,_,λ_=>rfl⟩) (λp N C A O w a b=>DD b (j:=0) (n:=1) (t:=48) rfl rfl λv h=>h)
def CD (p0:Γa) (a:List ai) (p2:Int):AS SS:=⟨[(0,(vs .c4)),(1,(va 7 0)),(9,(vl a)),(10,(vi p2))],[(bX 50 [(.bG .i64 16 p0),(.aH 48 a)]),(bX 27 [(li 0)]),(bX 163 [(.aM 3)]),(some (.aM 96 [] [(.one (.aK 4 0))])),(bX 158 [(.aK 5 0)]),(bX 160 [(.bG .i64 16 p0),(.aH 48 a)]),(some (.aM 142 [] [(.one (.aK 7 0))])),(bX 158 [(.aK 5 0)])],8,(some ⟨⟨ξE,aq 60⟩,[34,35],(eP (cr ξE) 10),(eQ (cr ξE) 10),[(1,(va 0 0)),(2,(va 1 0)),(4,(va 2 0)),(33,(vc 6))],none⟩),false,[],[]⟩
def E4 (p0:Γa) (a:List ai):AS SS:=CD p0 a 0
def Vv (p0:Γa) (a:List ai):AS SS:=⟨[],[(bX 50 [(.bG .i64 16 p0),(.aH 48 a)]),(bX 27 [(li 320)]),(bX 163 [(.aM 3)]),(some (.aM 96 [] [(.one (.aK 4 0))])),(bX 158 [(.aK 5 0)]),(bX 160 [(.bG .i64 16 p0),(.aH 48 a)]),(some (.aM 142 [] [(.one (.aK 7 0))])),(bX 158 [(.aK 5 0)])],8,(some ⟨⟨ξE,aq 60⟩,[34,35],(eP (cr ξE) 10),(eQ (cr ξE) 10),[(1,(va 0 0)),(2,(va 1 0)),(4,(va 2 0)),(33,(vc 6))],(some .ret)⟩),false,[],[1]⟩
def Vw (p0:Γa) (b:List ai) (a0:Bool) (a:Int):AS SS:=xe [(11,(vb a0))] (CD p0 b a)
def sa (p0:Γa) (b:List ai) (p2:Int) (z0:ai) (a:Unit):T (Unit⊕Unit⊕(Bool×Int)):=.bd (k' sh z0.aa) λg=>.bf (decide (g>=1)) (.bf (decide (g<=16)) (.bf (p2==0) (.bd (ew (δ.wrap (g-1)) 16) λz2=>.bf (ζ.wrap (ζ.wrap (z0.aa.tdiv 64)+1) !=ζ.wrap (ay p0 z2)) (.ok (.inr (.inl ())))<|.bf (z0.bl) (.bf (z0.aW==0) (.ok (.inr (.inl ())))<|.bf (!z0.bl) (.bf (z0.b_ !=0) (.ok (.inr (.inl ())))<|.bf (z0.aW !=0) (.bf (z0.aW==z0.aa) (.ok (.inr (.inl ())))<|.gd (jI p0 b z0.aW)<|.bd (h4 sh p0 b z0.aW) λf=>.cs f (λc=>.bf (!!c.bl) (.ok (.inr (.inl ())))<|.ok (.inl ())) λc=>.ok (.inr (.inl ())))<|.ok (.inl ()))<|.bf (z0.aW !=0) (.bf (z0.aW==z0.aa) (.ok (.inr (.inl ())))<|.gd (jI p0 b z0.aW)<|.bd (h4 sh p0 b z0.aW) λe=>.cs e (λc=>.bf (!!c.bl) (.ok (.inr (.inl ())))<|.ok (.inl ())) λc=>.ok (.inr (.inl ())))<|.ok (.inl ()))<|.bf (!z0.bl) (.bf (z0.b_ !=0) (.ok (.inr (.inl ())))<|.bf (z0.aW !=0) (.bf (z0.aW==z0.aa) (.ok (.inr (.inl ())))<|.gd (jI p0 b z0.aW)<|.bd (h4 sh p0 b z0.aW) λe=>.cs e (λc=>.bf (!!c.bl) (.ok (.inr (.inl ())))<|.ok (.inl ())) λc=>.ok (.inr (.inl ())))<|.ok (.inl ()))<|.bf (z0.aW !=0) (.bf (z0.aW==z0.aa) (.ok (.inr (.inl ())))<|.gd (jI p0 b z0.aW)<|.bd (h4 sh p0 b z0.aW) λi=>.cs i (λc=>.bf (!!c.bl) (.ok (.inr (.inl ())))<|.ok (.inl ())) λc=>.ok (.inr (.inl ())))<|.ok (.inl ()))<|.bd (idx b (δ.wrap (p2-1))) λz2=>.bd (k' sh z2.aa) λc=>.bf (!decide (c<g)) (.ok (.inr (.inl ())))<|.bd (ew (δ.wrap (g-1)) 16) λz4=>.bf (ζ.wrap (ζ.wrap (z0.aa.tdiv 64)+1) !=ζ.wrap (ay p0 z4)) (.ok (.inr (.inl ())))<|.bf (z0.bl) (.bf (z0.aW==0) (.ok (.inr (.inl ())))<|.bf (!z0.bl) (.bf (z0.b_ !=0) (.ok (.inr (.inl ())))<|.bf (z0.aW !=0) (.bf (z0.aW==z0.aa) (.ok (.inr (.inl ())))<|.gd (jI p0 b z0.aW)<|.bd (h4 sh p0 b z0.aW) λh=>.cs h (λd=>.bf (!!d.bl) (.ok (.inr (.inl ())))<|.ok (.inl ())) λd=>.ok (.inr (.inl ())))<|.ok (.inl ()))<|.bf (z0.aW !=0) (.bf (z0.aW==z0.aa) (.ok (.inr (.inl ())))<|.gd (jI p0 b z0.aW)<|.bd (h4 sh p0 b z0.aW) λf=>.cs f (λd=>.bf (!!d.bl) (.ok (.inr (.inl ())))<|.ok (.inl ())) λd=>.ok (.inr (.inl ())))<|.ok (.inl ()))<|.bf (!z0.bl) (.bf (z0.b_ !=0) (.ok (.inr (.inl ())))<|.bf (z0.aW !=0) (.bf (z0.aW==z0.aa) (.ok (.inr (.inl ())))<|.gd (jI p0 b z0.aW)<|.bd (h4 sh p0 b z0.aW) λf=>.cs f (λd=>.bf (!!d.bl) (.ok (.inr (.inl ())))<|.ok (.inl ())) λd=>.ok (.inr (.inl ())))<|.ok (.inl ()))<|.bf (z0.aW !=0) (.bf (z0.aW==z0.aa) (.ok (.inr (.inl ())))<|.gd (jI p0 b z0.aW)<|.bd (h4 sh p0 b z0.aW) λe=>.cs e (λd=>.bf (!!d.bl) (.ok (.inr (.inl ())))<|.ok (.inl ())) λd=>.ok (.inr (.inl ())))<|.ok (.inl ()))<|.ok (.inr (.inl ())))<|.ok (.inr (.inl ()))
def q6 (sh:Sh) (p0:Γa) (b:List ai) (p2:Int) (a:Unit):T (Unit⊕(Bool×Int)):=.ok (.inr ((decide (p2<(↑b.length:Int))),p2))
def r1 (p0:Γa) (a:List ai):=b8 sh (sa sh p0 a) (q6 sh p0 a) a ()
def Sx {R} (k:KX SS R) (p0:Γa) (a:List ai) (x:Unit⊕(Bool×Int)):Option R:=(λx=>θ (λv=>k .ret (Vv p0 a)) (λv=>k (.exit 0) (Vw p0 a v.1 v.2)) x) x
def Kp:bc SS:=br 2 (λst=>((cg st 3 96).bind λ_=>(cg st 6 142).bind λ_=>gA st 132 10).bind λ_=>(fX (bj st 0 0)).bind λp0=>(bo 48 (bj st 0 1)).bind λa=>some (p0,a)) (u2 E4) (u2 (r1 shut)) (λk=>u2 (Sx k))
def Q3:=bL wU aq χ 142 [Dv]
theorem Q4:a7 Q3 γ:=bO Gn ξ1 rfl aY (by kernel_rfl) MF
theorem aaW:LS KK γ aq χ 142 2 Kp:=
 aZ.cd Q4 (aO.nil) rfl 60 (λp i a=>u2 CD p i) (λp=>p.2) (λp=>()) (St:=u2 (sa shut)) (F:=u2 (q6 shut)) (λp=>rfl)
  (λm p i a k=>by kernel_rfl) (by rintro p (x|x)<;>exact⟨_,_,λ_=>rfl⟩) (λp N C A O w a b=>DD b (j:=0) (n:=1) (t:=48) rfl rfl λv h=>h)
def Q5:=bL wU aq χ 142 [mA (λst=>(cg st 3 142).bind λ_=>gA st 18 4) Dv (Kp)]
theorem Q6:a7 Q5 γ:=bO (a7.hG (aj.all rL rfl) ζ6 rfl aY λc a=>by cases a;exact aO.cons (aO.nil) (by kernel_rfl) MD) ξ1 rfl aY (by kernel_rfl) (aZ.alt MF aaW)
def AL (p:bF):T Int:=.bf ((↑p.ae.length:Int)==0) (.ok 320)<|.bd (idx p.ae 0) λz0=>.bf (!fJ z0 (ai.mk 1 0 false 0)) (.ok 320)<|.gd (pT p.aS p.ae 0)<|.bd (yV sh p.aS p.ae 0) λx4=>.cs x4 (λb=>.bf (decide (b>=0)) (.ok 320)<|.gd (E4 p.aS p.ae)<|.bd (r1 sh p.aS p.ae) λa=>.cs a (λ_=>.ok 320) λc=>.ok 0) λb=>.gd (E4 p.aS p.ae)<|.bd (r1 sh p.aS p.ae) λa=>.cs a (λ_=>.ok 320) λc=>.ok 0
def j_ (p:bF):=sh.s _ (AL sh p).val
def Hi:=bN (dR KK 60 50 (j_ sh) (cx KK 27)) (xm sh)
theorem Hj:aj (Hi shut) γ:=eh (rs:=[27]) rL Q6 rfl rfl λp k=>by kernel_rfl
def zV (sh:Sh) (d:ak):T Bool:=.bf (decide (d.aa<4294967296)) (.bf (decide (d.bA>=0)) (.ok (decide (d.bA<8)))<|.ok false)<|.ok false
def BZ (d:ak):=sh.s _ (zV sh d).val
def Gz:=bN (dR KK 102 105 (BZ sh) (cx KK 4)) (Hi sh)
theorem GA:aj (Gz shut) γ:=eh (rs:=[4]) Hj (aj.all Hj rfl) rfl rfl λd k=>by kernel_rfl
def z1 (sh:Sh) (x y:Int):T Int:=.bf (x !=x) (.bf (y !=y) (.ok 0)<|.ok (-1))<|.bf (y !=y) (.ok 1)<|.bf (decide (x<y)) (.ok (-1))<|.bf (decide (x>y)) (.ok 1)<|.ok 0
def hP (x y:Int):=sh.s _ (z1 sh x y).val
def GF:=bN (c6 KK 144 35 35 (hP sh) (cx KK 3)) (Gz sh)
theorem GG:aj (GF shut) γ:=de (rs:=[3]) GA (aj.all GA rfl) rfl rfl λx y k=>by kernel_rfl
def R' (sh:Sh) (x y:Int):T Int:=.bf (x !=x) (.bf (y !=y) (.ok 0)<|.ok (-1))<|.bf (y !=y) (.ok 1)<|.bf (decide (x<y)) (.ok (-1))<|.bf (decide (x>y)) (.ok 1)<|.ok 0
def mS (x y:Int):=sh.s _ (R' sh x y).val
def yr:=bN (c6 KK 37 3 3 (mS sh) (cx KK 3)) (GF sh)
theorem yt:aj (yr shut) γ:=de (rs:=[3]) GG (aj.all GG rfl) rfl rfl λx y k=>by kernel_rfl
def pU (p0:Γa) (a:Int):AS SS:=⟨[(3,(vi 0)),(6,(vo 0)),(7,(vi 2)),(8,(vi a))],[(rX 3 p0)],1,none,false,[],[]⟩
def VA (p0:Γa) (a0:Int):AS SS:= {pU p0 a0 with env:=[(2,(vi a0))]}
def VB (p0:Γa) (a0:Bool) (a:Int):AS SS:=xe [(9,(vb a0))] (pU p0 a)
def jX (sh:Sh) (p0:Γa) (a:Int):T (Int⊕Int⊕(Bool×Int)):=.bf (decide (a<2)) (.bd (idx p0 a) λz0=>.bd (p0[a.toNat]?) λb=>.bf (b !=0) (.ok (.inr (.inl b)))<|.ok (.inl (δ.wrap (a+1))))<|.ok (.inr (.inr ((decide (a<2)),a)))
def y0 (p0:Γa) (a:Int):=bJ sh (jX sh p0) 1000000 a
def Sz {R} (k:KX SS R) (p0:Γa) (x:Int⊕(Bool×Int)):Option R:=(λx=>θ (λv=>k .ret (VA p0 v)) (λv=>k (.exit 0) (VB p0 v.1 v.2)) x) x
def Kq:bc SS:=br 4 (λst=>(b3 st 0 3).bind λp0=>(aU (aJ st 8 0)).bind λa=>some (p0,a)) (u2 pU) (u2 (y0 shut)) (λk p=>Sz k p.1)
theorem aaX:LS KK γ aq Tryz.f143 143 4 Kq:=
 aZ.bJ (π:=Γa×Int) (σ:=Int) (aj.all yt rfl) (aO.nil) rfl 60 (λp a=>pU p.1 a) (λp=>p.2) (St:=λp=>jX shut p.1) (λp=>1000000) (λp=>rfl)
  (λm p a k=>by kernel_rfl)
def PJ:=bL (yr shut) aq Tryz.f143 143 [Kq]
theorem PK:a7 PJ γ:=bO (aj.all yt rfl) Tryz.func143 rfl aY (by kernel_rfl) aaX
def zW (a b:ak):T Int:=.bd (hP sh a.aa b.aa) λc=>.bd (mS sh a.bA b.bA) λd=>.gd (pU [c,d] 0)<|.bd (y0 sh [c,d] 0) λx5=>.cs x5 (λe=>.ok e) λe=>.ok 0
def pA (a b:ak):=sh.s _ (zW sh a b).val
def xn:=bN (c6 KK 103 105 105 (pA sh) (cx KK 3)) (yr sh)
theorem xo:aj (xn shut) γ:=de (rs:=[3]) yt PK rfl rfl λa b k=>by kernel_rfl
def uq (p0:List ak) (a:Int):AS SS:=⟨[(0,(vd 51 p0)),(8,(vd 51 p0)),(9,(vl p0)),(10,(vi a))],[],0,none,false,[],[]⟩
def Oa (p0:List ak):AS SS:=uq p0 0
def WA (p0:List ak):AS SS:= {uq p0 0 with env:=[(2,(vi 330))]}
def WB (p0:List ak) (a0:Bool) (a:Int):AS SS:=xe [(11,(vb a0))] (uq p0 a)
def oZ (p0:List ak) (b:Int) (z0:ak) (a:Unit):T (Unit⊕Unit⊕(Bool×Int)):=.bd (BZ sh z0) λc=>.bf (!c) (.ok (.inr (.inl ())))<|.bf (decide (b>0)) (.bd (idx p0 (δ.wrap (b-1))) λz2=>.bd (pA sh z2 z0) λd=>.bf (decide (d>=0)) (.ok (.inr (.inl ())))<|.ok (.inl ()))<|.ok (.inl ())
def rB (sh:Sh) (p0:List ak) (b:Int) (a:Unit):T (Unit⊕(Bool×Int)):=.ok (.inr ((decide (b<(↑p0.length:Int))),b))
def zA (p0:List ak):=b8 sh (oZ sh p0) (rB sh p0) p0 ()
def Tl {R} (k:KX SS R) (p0:List ak) (x:Unit⊕(Bool×Int)):Option R:=(λx=>θ (λv=>k .ret (WA p0)) (λv=>k (.exit 0) (WB p0 v.1 v.2)) x) x
def K8:bc SS:=br 5 (λst=>(bo 51 (aJ st 0 0)).bind λp0=>some p0) (λp=>Oa p) (λp=>zA shut p) (λk p=>Tl k p)
theorem abA:LS KK γ aq Tryz.f61 61 5 K8:=
 aZ.cd (π:=List ak) (aj.all xo rfl) (aO.nil) rfl 60 (λp i a=>uq p i) (λp=>p) (λp=>()) (St:=λp=>oZ shut p) (F:=λp=>rB shut p) (λp=>rfl)
  (λm p i a k=>by kernel_rfl) (by rintro p (x|x)<;>exact⟨_,_,λ_=>rfl⟩) (λp N C A O w a b=>cL b (t:=51) (sl:=0) rfl λv h=>h)
def Q7:=bL (xn shut) aq Tryz.f61 61 [K8]
theorem Q8:a7 Q7 γ:=bO (aj.all xo rfl) Tryz.func61 rfl aY (by kernel_rfl) abA
def AM (l:List ak):T Int:=.bf (decide ((↑l.length:Int)>64)) (.ok 330)<|.gd (Oa l)<|.bd (zA sh l) λx3=>.cs x3 (λ_=>.ok 330) λa=>.ok 0
def il (l:List ak):=sh.s _ (AM sh l).val
def rR:=bN (dR KK 61 51 (il sh) (cx KK 27)) (xn sh)
theorem yB:aj (rR shut) γ:=eh (rs:=[27]) xo Q8 rfl rfl λl k=>by kernel_rfl
def mq (sh:Sh) (p:Int):T Bool:=.bf (decide (p>=1)) (.ok (decide (p<4294967296)))<|.ok false
def mN (p:Int):=sh.s _ (mq sh p).val
theorem OK:R1 KK (rR shut) 107 35 [4] (mq shut) (cx KK 4):=by intro R p k;kernel_rfl
def xt:=bN (dR KK 107 35 (mN sh) (cx KK 4)) (rR sh)
theorem xu:aj (xt shut) γ:=eh yB (aj.all yB rfl) rfl rfl OK
def pV (p0:ByteArray) (a:Γa) (p2 b:Int):AS SS:=⟨[(0,(vs (.v (.string p0)))),(5,(vu p2)),(14,(.s (.agg [(.bG .u8 8 a)]))),(15,(vi b))],[],0,none,false,[],[]⟩
def VM (p0:ByteArray) (a:Γa):AS SS:= {pV p0 a 0 0 with env:=[(2,(vu 0)),(3,(vi 2))]}
def VN (p0:ByteArray) (b:Γa) (a0:Bool) (a a2:Int):AS SS:= {pV p0 b a a with env:=[(16,(vb a0)),(0,(vs (.v (.string p0)))),(5,(vu a)),(14,(.s (.agg [(.bG .u8 8 b)]))),(15,(vi a2))]}
def oO (sh:Sh) (p0:ByteArray) (b:Γa) (a:Int×Int):T ((Int×Int)⊕Unit⊕(Bool×Int×Int)):=.bf (decide (a.2<8)) (.bd (ew a.2 8) λz0=>.bf (ay b z0==0) (.bf (decide (a.2<(↑p0.size:Int))) (.ok (.inr (.inl ())))<|.bd (lU ζ (ζ.wrap (ay b z0)) (δ.wrap (8*a.2))) λc=>.ok (.inl ((bits BinOp.or ζ a.1 c),(δ.wrap (a.2+1)))))<|.bd (lU ζ (ζ.wrap (ay b z0)) (δ.wrap (8*a.2))) λc=>.ok (.inl ((bits BinOp.or ζ a.1 c),(δ.wrap (a.2+1)))))<|.ok (.inr (.inr ((decide (a.2<8)),a.1,a.2)))
def y6 (p0:ByteArray) (a:Γa) (p2 b:Int):=bJ sh (oO sh p0 a) 1000000 (p2,b)
def SG {R} (k:KX SS R) (p0:ByteArray) (a:Γa) (x:Unit⊕(Bool×Int×Int)):Option R:=(λx=>θ (λv=>k .ret (VM p0 a)) (λv=>k (.exit 0) (VN p0 a v.1 v.2.1 v.2.2)) x) x
def Kx:bc SS:=br 8 (λst=>(s7 (aJ st 0 0)).bind λp0=>(fX (aJ st 14 0)).bind λa=>(aU (aJ st 5 0)).bind λp2=>(aU (aJ st 15 0)).bind λb=>some (p0,a,p2,b)) (u4 pV) (u4 (y6 shut)) (λk p=>SG k p.1 p.2.1)
theorem aa3:LS KK γ aq Tryz.f189 189 8 Kx:=
 aZ.bJ (π:=ByteArray×Γa×Int×Int) (σ:=Int×Int) (aj.all xu rfl) (aO.nil) rfl 60 (λp a=>pV p.1 p.2.1 a.1 a.2) (λp=>(p.2.2.1,p.2.2.2)) (St:=λp=>oO shut p.1 p.2.1) (λp=>1000000) (λp=>rfl)
  (λm p a k=>by kernel_rfl)
def QC:=bL (xt shut) aq Tryz.f189 189 [Kx]
theorem QD:a7 QC γ:=bO (aj.all xu rfl) Tryz.func189 rfl aY (by kernel_rfl) aa3
def Ap (s:ByteArray):T (Int×Int):=.bf (decide ((↑s.size:Int)>8)) (.ok (0,111))<|.bd (wj KK (av (en (en (en (en (en (en (en (en [] []++[]) []++[]) []++[]) []++[]) []++[]) []++[some (Ob.box 303 (List.map LV.v [ξe ξ3 0,ξe ξ3 0,ξe ξ3 0,ξe ξ3 0,ξe ξ3 0,ξe ξ3 0,ξe ξ3 0,ξe ξ3 0]))]) []++[]) []++[])) 5 ξ3 8 (LV.v (Value.string s))) λz0=>.gd (pV s (cT [0,0,0,0,0,0,0,0] z0) 0 0)<|.bd (y6 sh s (cT [0,0,0,0,0,0,0,0] z0) 0 0) λx4=>.cs x4 (λ_=>.ok (0,2)) λa=>.ok (a.2.1,0)
def ts (s:ByteArray):=sh.s _ (Ap sh s).val
def x7:=bN (dR KK 189 9 (ts sh) (eN KK 35 27)) (xt sh)
theorem x8:aj (x7 shut) γ:=eh (rs:=[35,27]) xu QD rfl rfl λs k=>by kernel_rfl
def tN (p0 a:Int) (p2:Γa):AS SS:=⟨[(0,(vu p0)),(4,(vo 0)),(5,(vu a))],[(rX 5 p2)],0,none,false,[],[]⟩
def VC (p0:Int) (a0:Bool) (a a2:Int) (a3:Γa):AS SS:= {tN p0 p0 a3 with env:=[(12,(vb a0)),(11,(vu a)),(10,(vu a2)),(0,(vu p0)),(4,(vo 0)),(5,(vu a2))]}
def oL (sh:Sh) (p0:Int) (a:Int×Γa):T ((Int×Γa)⊕(Bool×Int×Int×Γa)):=.bf (bits ζ7 ζ a.1 255 !=0) (.bd (app 1 a.2 [ξ3.wrap a.1]) λz0=>.ok (.inl ((a.1.fdiv 256),z0)))<|.ok (.inr ((bits ζ7 ζ a.1 255 !=0),(bits ζ7 ζ a.1 255),a.1,a.2))
def y1 (p0 a:Int) (p2:Γa):=bJ sh (oL sh p0) 1000000 (a,p2)
def SA {R} (k:KX SS R) (p0:Int) (x:(Bool×Int×Int×Γa)):Option R:=(λv=>k (.exit 0) (VC p0 v.1 v.2.1 v.2.2.1 v.2.2.2)) x
def Kr:bc SS:=br 4 (λst=>(aU (aJ st 0 0)).bind λp0=>(aU (aJ st 5 0)).bind λa=>(b3 st 0 5).bind λp2=>some (p0,a,p2)) (u3 tN) (u3 (y1 shut)) (λk p=>SA k p.1)
theorem aaY:LS KK γ aq Tryz.f146 146 4 Kr:=
 aZ.bJ (π:=Int×Int×Γa) (σ:=Int×Γa) (aj.all x8 rfl) (aO.nil) rfl 60 (λp a=>tN p.1 a.1 a.2) (λp=>(p.2.1,p.2.2)) (St:=λp=>oL shut p.1) (λp=>1000000) (λp=>rfl)
  (λm p a k=>by kernel_rfl)
def PW:=bL (x7 shut) aq Tryz.f146 146 [Kr]
theorem PX:a7 PW γ:=bO (aj.all x8 rfl) Tryz.func146 rfl aY (by kernel_rfl) aaY
def z7 (w:Int):T (ByteArray×Int):=.gd (tN w w [])<|.bd (y1 sh w w []) λc=>.bd (iA KK 5 ξ3 c.2.2.2) λb=>.bd (ts sh (strOf b)) λa=>.bf (a.2 !=0) (.ok ((ο #[]),2))<|.bf (a.1 !=w) (.ok ((ο #[]),2))<|.ok ((strOf b),0)
def s_ (w:Int):=sh.s _ (z7 sh w).val
def xv:=bN (dR KK 146 35 (s_ sh) (eN KK 9 27)) (x7 sh)
theorem xw:aj (xv shut) γ:=eh (rs:=[9,27]) x8 PX rfl rfl λw k=>by kernel_rfl
def iy (p0:Bool) (a:ByteArray) (p2:Nat):AS SS:=⟨[(5,(vb p0)),(20,(vs (.cP 0)))],[(some (.cP a p2))],0,none,false,[],[]⟩
def U8 (e:ByteArray) (a0 a:Bool) (a2:Int) (a3 a4 a5 b:Bool) (c:Int) (d:Nat):AS SS:= {iy a0 e d with env:=[(42,(vb a0)),(41,(vb a)),(5,(vb a)),(40,(vb a)),(39,(vb a)),(25,(vb true)),(38,(vb a)),(32,(vb false)),(37,(vb a)),(35,(vb true)),(36,(vs (.v (.int .i32 a2)))),(35,(vb true)),(35,(vb a3)),(32,(vb false)),(34,(vb a3)),(32,(vb false)),(33,(vs (.v (.int .i32 a2)))),(32,(vb false)),(32,(vb a4)),(25,(vb true)),(31,(vb a4)),(25,(vb true)),(30,(vb a4)),(28,(vb true)),(29,(vs (.v (.int .i32 a2)))),(28,(vb true)),(28,(vb a5)),(25,(vb true)),(27,(vb a5)),(25,(vb true)),(26,(vs (.v (.int .i32 a2)))),(25,(vb true)),(25,(vb b)),(24,(vb b)),(7,(vs (.v (.int .i32 a2)))),(23,(vs (.v (.int .i32 a2)))),(22,(vb true)),(21,(.bn [(.one (.v (.bool true))),(.one (li c)),(.one (.v (.int .i32 a2)))])),(5,(vb b)),(20,(vs (.cP 0)))]}
def U9 (c:ByteArray) (a0:Bool) (a:Int) (a2 a3 a4:Bool) (a5:Int) (b:Nat):AS SS:= {iy a0 c b with env:=[(42,(vb true)),(41,(vb false)),(5,(vb false)),(40,(vb false)),(39,(vb false)),(25,(vb true)),(38,(vb false)),(32,(vb false)),(37,(.bn [])),(35,(vb false)),(36,(.bn [])),(35,(vb false)),(35,(vb a0)),(32,(vb false)),(34,(vb a0)),(32,(vb false)),(33,(vs (.v (.int .i32 a)))),(32,(vb false)),(32,(vb a2)),(25,(vb true)),(31,(vb a2)),(25,(vb true)),(30,(vb a2)),(28,(vb true)),(29,(vs (.v (.int .i32 a)))),(28,(vb true)),(28,(vb a3)),(25,(vb true)),(27,(vb a3)),(25,(vb true)),(26,(vs (.v (.int .i32 a)))),(25,(vb true)),(25,(vb a4)),(24,(vb a4)),(7,(vs (.v (.int .i32 a)))),(23,(vs (.v (.int .i32 a)))),(22,(vb true)),(21,(.bn [(.one (.v (.bool true))),(.one (li a5)),(.one (.v (.int .i32 a)))])),(5,(vb a4)),(20,(vs (.cP 0)))]}
def U_ (d:ByteArray) (a0 a:Bool) (a2:Int) (a3 a4 a5:Bool) (b:Int) (c:Nat):AS SS:= {iy a0 d c with env:=[(42,(vb a0)),(41,(vb a)),(5,(vb a)),(40,(vb a)),(39,(vb a)),(25,(vb true)),(38,(vb a)),(32,(vb false)),(37,(vb a)),(35,(vb true)),(36,(vs (.v (.int .i32 a2)))),(35,(vb true)),(35,(vb a3)),(32,(vb false)),(34,(vb a3)),(32,(vb false)),(33,(vs (.v (.int .i32 a2)))),(32,(vb false)),(32,(vb false)),(25,(vb true)),(31,(vb false)),(25,(vb true)),(30,(.bn [])),(28,(vb false)),(29,(.bn [])),(28,(vb false)),(28,(vb a4)),(25,(vb true)),(27,(vb a4)),(25,(vb true)),(26,(vs (.v (.int .i32 a2)))),(25,(vb true)),(25,(vb a5)),(24,(vb a5)),(7,(vs (.v (.int .i32 a2)))),(23,(vs (.v (.int .i32 a2)))),(22,(vb true)),(21,(.bn [(.one (.v (.bool true))),(.one (li b)),(.one (.v (.int .i32 a2)))])),(5,(vb a5)),(20,(vs (.cP 0)))]}
def U' (b:ByteArray) (a0:Bool) (a:Int) (a2 a3:Bool) (a4:Int) (a5:Nat):AS SS:= {iy a0 b a5 with env:=[(42,(vb true)),(41,(vb false)),(5,(vb false)),(40,(vb false)),(39,(vb false)),(25,(vb true)),(38,(vb false)),(32,(vb false)),(37,(.bn [])),(35,(vb false)),(36,(.bn [])),(35,(vb false)),(35,(vb a0)),(32,(vb false)),(34,(vb a0)),(32,(vb false)),(33,(vs (.v (.int .i32 a)))),(32,(vb false)),(32,(vb false)),(25,(vb true)),(31,(vb false)),(25,(vb true)),(30,(.bn [])),(28,(vb false)),(29,(.bn [])),(28,(vb false)),(28,(vb a2)),(25,(vb true)),(27,(vb a2)),(25,(vb true)),(26,(vs (.v (.int .i32 a)))),(25,(vb true)),(25,(vb a3)),(24,(vb a3)),(7,(vs (.v (.int .i32 a)))),(23,(vs (.v (.int .i32 a)))),(22,(vb true)),(21,(.bn [(.one (.v (.bool true))),(.one (li a4)),(.one (.v (.int .i32 a)))])),(5,(vb a3)),(20,(vs (.cP 0)))]}
def Va (b:ByteArray) (a0:Bool) (a a2:Int) (a3:Nat):AS SS:=xe [(42,(vb true)),(41,(vb false)),(5,(vb false)),(40,(vb false)),(39,(.bn [])),(25,(vb false)),(38,(.bn [])),(37,(.bn [])),(36,(.bn [])),(35,(.bn [])),(34,(.bn [])),(33,(.bn [])),(32,(.bn [])),(25,(vb false)),(31,(.bn [])),(25,(vb false)),(30,(.bn [])),(29,(.bn [])),(28,(.bn [])),(25,(vb false)),(27,(.bn [])),(25,(vb false)),(26,(.bn [])),(25,(vb false)),(25,(vb a0)),(24,(vb a0)),(7,(vs (.v (.int .i32 a)))),(23,(vs (.v (.int .i32 a)))),(22,(vb true)),(21,(.bn [(.one (.v (.bool true))),(.one (li a2)),(.one (.v (.int .i32 a)))]))] (iy a0 b a3)
def Vb (b:ByteArray) (a0:Bool) (a:Nat):AS SS:=xe [(22,(vb false)),(21,(.bn [(.one (.v (.bool false)))]))] (iy a0 b a)
def jW (sh:Sh) (b:ByteArray) (a:Bool×Nat):T ((Bool×Nat)⊕(Bool×Bool×Int×Bool×Bool×Bool×Bool×Int×Nat)⊕(Bool×Int×Bool×Bool×Bool×Int×Nat)⊕(Bool×Bool×Int×Bool×Bool×Bool×Int×Nat)⊕(Bool×Int×Bool×Bool×Int×Nat)⊕(Bool×Int×Int×Nat)⊕(Bool×Nat)):=.bf (decide (a.2<b.size)) (.bf (a.1) (.bf (decide ((↑(ε b a.2).fst:Int)>=97)) (.bf (decide ((↑(ε b a.2).fst:Int)<=122)) (.ok (.inl (true,(a.2+(ε b a.2).snd))))<|.bf (decide ((↑(ε b a.2).fst:Int)>=48)) (.bf (!decide ((↑(ε b a.2).fst:Int)<=57)) (.ok (.inr (.inl ((!decide ((↑(ε b a.2).fst:Int)<=57)),(decide ((↑(ε b a.2).fst:Int)<=57)),((↑(ε b a.2).fst:Int)),(decide ((↑(ε b a.2).fst:Int)>=48)),(decide ((↑(ε b a.2).fst:Int)<=122)),(decide ((↑(ε b a.2).fst:Int)>=97)),a.1,(↑a.2:Int),(a.2+(ε b a.2).snd)))))<|.ok (.inl ((decide ((↑(ε b a.2).fst:Int)<=57)),(a.2+(ε b a.2).snd))))<|.ok (.inr (.inr (.inl ((decide ((↑(ε b a.2).fst:Int)>=48)),((↑(ε b a.2).fst:Int)),(decide ((↑(ε b a.2).fst:Int)<=122)),(decide ((↑(ε b a.2).fst:Int)>=97)),a.1,(↑a.2:Int),(a.2+(ε b a.2).snd))))))<|.bf (decide ((↑(ε b a.2).fst:Int)>=48)) (.bf (!decide ((↑(ε b a.2).fst:Int)<=57)) (.ok (.inr (.inr (.inr (.inl ((!decide ((↑(ε b a.2).fst:Int)<=57)),(decide ((↑(ε b a.2).fst:Int)<=57)),((↑(ε b a.2).fst:Int)),(decide ((↑(ε b a.2).fst:Int)>=48)),(decide ((↑(ε b a.2).fst:Int)>=97)),a.1,(↑a.2:Int),(a.2+(ε b a.2).snd)))))))<|.ok (.inl ((decide ((↑(ε b a.2).fst:Int)<=57)),(a.2+(ε b a.2).snd))))<|.ok (.inr (.inr (.inr (.inr (.inl ((decide ((↑(ε b a.2).fst:Int)>=48)),((↑(ε b a.2).fst:Int)),(decide ((↑(ε b a.2).fst:Int)>=97)),a.1,(↑a.2:Int),(a.2+(ε b a.2).snd))))))))<|.ok (.inr (.inr (.inr (.inr (.inr (.inl (a.1,((↑(ε b a.2).fst:Int)),(↑a.2:Int),(a.2+(ε b a.2).snd)))))))))<|.ok (.inr (.inr (.inr (.inr (.inr (.inr (a.1,a.2)))))))
def oB (p0:Bool) (a:ByteArray) (p2:Nat):=bJ sh (jW sh a) 1000000 (p0,p2)
def Sj {R} (k:KX SS R) (a:ByteArray) (x:(Bool×Bool×Int×Bool×Bool×Bool×Bool×Int×Nat)⊕(Bool×Int×Bool×Bool×Bool×Int×Nat)⊕(Bool×Bool×Int×Bool×Bool×Bool×Int×Nat)⊕(Bool×Int×Bool×Bool×Int×Nat)⊕(Bool×Int×Int×Nat)⊕(Bool×Nat)):Option R:=(λx=>θ (λv=>k (.exit 0) (U8 a v.1 v.2.1 v.2.2.1 v.2.2.2.1 v.2.2.2.2.1 v.2.2.2.2.2.1 v.2.2.2.2.2.2.1 v.2.2.2.2.2.2.2.1 v.2.2.2.2.2.2.2.2)) (λx=>θ (λv=>k (.exit 0) (U9 a v.1 v.2.1 v.2.2.1 v.2.2.2.1 v.2.2.2.2.1 v.2.2.2.2.2.1 v.2.2.2.2.2.2)) (λx=>θ (λv=>k (.exit 0) (U_ a v.1 v.2.1 v.2.2.1 v.2.2.2.1 v.2.2.2.2.1 v.2.2.2.2.2.1 v.2.2.2.2.2.2.1 v.2.2.2.2.2.2.2)) (λx=>θ (λv=>k (.exit 0) (U' a v.1 v.2.1 v.2.2.1 v.2.2.2.1 v.2.2.2.2.1 v.2.2.2.2.2)) (λx=>θ (λv=>k (.exit 0) (Va a v.1 v.2.1 v.2.2.1 v.2.2.2)) (λv=>k (.exit 0) (Vb a v.1 v.2)) x) x) x) x) x) x
def Kf:bc SS:=br 5 (λst=>(k_ (aJ st 5 0)).bind λp0=>(Ys st 0).bind λa=>(JG st 0).bind λp2=>some (p0,a,p2)) (u3 iy) (u3 (oB shut)) (λk p=>Sj k p.2.1)
theorem aaN:LS KK γ aq Tryz.f106 106 5 Kf:=
 aZ.bJ (π:=Bool×ByteArray×Nat) (σ:=Bool×Nat) (aj.all xw rfl) (aO.nil) rfl 60 (λp a=>iy a.1 p.2.1 a.2) (λp=>(p.1,p.2.2)) (St:=λp=>jW shut p.2.1) (λp=>1000000) (λp=>rfl)
  (λm p a k=>by kernel_rfl)
def PL:=bL (xv shut) aq Tryz.f106 106 [Kf]
theorem PM:a7 PL γ:=bO (aj.all xw rfl) Tryz.func106 rfl aY (by kernel_rfl) aaN
def zY (w:Int):T Bool:=.bd (s_ sh w) λb=>.bf (b.2==0) (.gd (iy (!b.1.toList==(ο #[]).toList) b.1 0)<|.bd (oB sh (!b.1.toList==(ο #[]).toList) b.1 0) λx5=>.cs x5 (λa=>.ok a.2.1) λg=>.cs g (λa=>.ok false) λh=>.cs h (λa=>.ok a.2.1) λi=>.cs i (λa=>.ok false) λj=>.cs j (λa=>.ok false) λa=>.ok a.1)<|.gd (iy false b.1 0)<|.bd (oB sh false b.1 0) λx4=>.cs x4 (λa=>.ok a.2.1) λc=>.cs c (λa=>.ok false) λd=>.cs d (λa=>.ok a.2.1) λe=>.cs e (λa=>.ok false) λf=>.cs f (λa=>.ok false) λa=>.ok a.1
def jo (w:Int):=sh.s _ (zY sh w).val
def xr:=bN (dR KK 106 35 (jo sh) (cx KK 4)) (xv sh)
theorem rM:aj (xr shut) γ:=eh (rs:=[4]) xw PM rfl rfl λw k=>by kernel_rfl
def CV (p0:List aD) (a:List aw) (p2:Int):AS SS:=⟨[(1,(va 0 0)),(12,(vd 55 p0)),(13,(vl p0)),(14,(vi p2))],[(bX 58 [(.aH 55 p0),(.aH 56 a)])],0,none,false,[],[]⟩
def Oe (p0:List aD) (a:List aw):AS SS:=CV p0 a 0
def WI (p0:List aD) (a:List aw):AS SS:=⟨[(2,(vi 350))],[],0,none,false,[],[]⟩
def WJ (p0:List aD) (b:List aw) (a0:Bool) (a:Int):AS SS:=xe [(15,(vb a0))] (CV p0 b a)
def sC (p0:List aD) (d:List aw) (p2:Int) (z0:aD) (a:Unit):T (Unit⊕Unit⊕(Bool×Int)):=.bd (jo sh z0.a1) λb=>.bf (!b) (.ok (.inr (.inl ())))<|.bd (mN sh z0.aa) λc=>.bf (!c) (.ok (.inr (.inl ())))<|.bf (decide (p2>0)) (.bd (idx p0 (δ.wrap (p2-1))) λz3=>.bf (decide (z3.a1>=z0.a1)) (.ok (.inr (.inl ())))<|.ok (.inl ()))<|.ok (.inl ())
def rE (sh:Sh) (p0:List aD) (b:List aw) (p2:Int) (a:Unit):T (Unit⊕(Bool×Int)):=.ok (.inr ((decide (p2<(↑p0.length:Int))),p2))
def zC (p0:List aD) (a:List aw):=b8 sh (sC sh p0 a) (rE sh p0 a) p0 ()
def To {R} (k:KX SS R) (p0:List aD) (a:List aw) (x:Unit⊕(Bool×Int)):Option R:=(λx=>θ (λv=>k .ret (WI p0 a)) (λv=>k (.exit 0) (WJ p0 a v.1 v.2)) x) x
def K':bc SS:=br 5 (λst=>(bo 55 (aJ st 12 0)).bind λp0=>(bo 56 (bj st 0 1)).bind λa=>some (p0,a)) (u2 Oe) (u2 (zC shut)) (λk=>u2 (To k))
theorem abD:LS KK γ aq ζn 63 5 K':=
 aZ.cd (aj.all rM rfl) (aO.nil) rfl 60 (λp i a=>u2 CV p i) (λp=>p.1) (λp=>()) (St:=u2 (sC shut)) (F:=u2 (rE shut)) (λp=>rfl)
  (λm p i a k=>by kernel_rfl) (by rintro p (x|x)<;>exact⟨_,_,λ_=>rfl⟩) (λp N C A O w a b=>cL b (t:=55) (sl:=12) rfl λv h=>h)
def CU (p0:List aw) (a:List aD) (p2:Int):AS SS:=⟨[(1,(va 0 0)),(47,(vd 56 p0)),(48,(vl p0)),(49,(vi p2))],[(bX 58 [(.aH 55 a),(.aH 56 p0)])],0,none,false,[],[]⟩
def Od (p0:List aw) (a:List aD):AS SS:=CU p0 a 0
def WG (p0:List aw) (a:List aD):AS SS:=⟨[(2,(vi 350))],[],0,none,false,[],[]⟩
def WH (p0:List aw) (b:List aD) (a0:Bool) (a:Int):AS SS:=xe [(50,(vb a0))] (CU p0 b a)
def sB (p0:List aw) (c:List aD) (p2:Int) (z0:aw) (a:Unit):T (Unit⊕Unit⊕(Bool×Int)):=.bd (mN sh z0.aa) λb=>.bf (!b) (.ok (.inr (.inl ())))<|.bf (decide ((↑z0.a6.length:Int)<1)) (.ok (.inr (.inl ())))<|.bf (decide ((↑z0.a6.length:Int)>4)) (.ok (.inr (.inl ())))<|.bf (decide (p2>0)) (.bd (idx p0 (δ.wrap (p2-1))) λz2=>.bf (decide (z2.aa>=z0.aa)) (.ok (.inr (.inl ())))<|.ok (.inl ()))<|.ok (.inl ())
def rD (sh:Sh) (p0:List aw) (b:List aD) (p2:Int) (a:Unit):T (Unit⊕(Bool×Int)):=.ok (.inr ((decide (p2<(↑p0.length:Int))),p2))
def zB (p0:List aw) (a:List aD):=b8 sh (sB sh p0 a) (rD sh p0 a) p0 ()
def Tn {R} (k:KX SS R) (p0:List aw) (a:List aD) (x:Unit⊕(Bool×Int)):Option R:=(λx=>θ (λv=>k .ret (WG p0 a)) (λv=>k (.exit 2) (WH p0 a v.1 v.2)) x) x
def K_:bc SS:=br 11 (λst=>(bo 56 (aJ st 47 0)).bind λp0=>(bo 55 (bj st 0 0)).bind λa=>some (p0,a)) (u2 Od) (u2 (zB shut)) (λk=>u2 (Tn k))
theorem abC:LS KK γ aq ζn 63 11 K_:=
 aZ.cd (aj.all rM rfl) (aO.nil) rfl 60 (λp i a=>u2 CU p i) (λp=>p.1) (λp=>()) (St:=u2 (sB shut)) (F:=u2 (rD shut)) (λp=>rfl)
  (λm p i a k=>by kernel_rfl) (by rintro p (x|x)<;>exact⟨_,_,λ_=>rfl⟩) (λp N C A O w a b=>cL b (t:=56) (sl:=47) rfl λv h=>h)
def wV:=bL (xr shut) aq ζn 63 [K',K_]
theorem Gr:a7 wV γ:=(a7.hG (aj.all rM rfl) Tryz.func63 rfl aY λc a=>by cases a;exact aO.cons (aO.cons (aO.nil) (by kernel_rfl) abC) (by kernel_rfl) abD)
def sK (s:aL):T Int:=.bf (decide ((↑s.au.length:Int)>16)) (.ok 350)<|.gd (Oe s.au s.ao)<|.bd (zC sh s.au s.ao) λx3=>.cs x3 (λ_=>.ok 350) λa=>.gd (Od s.ao s.au)<|.bd (zB sh s.ao s.au) λx5=>.cs x5 (λ_=>.ok 350) λb=>.ok 0
def jr (s:aL):=sh.s _ (sK sh s).val
theorem OL:R1 KK wV 63 58 [27] (sK shut) (cx KK 27):=by intro R s k;kernel_rfl
def yE:=bN (dR KK 63 58 (jr sh) (cx KK 27)) (xr sh)
theorem yF:aj (yE shut) γ:=eh rM Gr rfl rfl OL
def tR (p0:ByteArray) (a:Nat):AS SS:=⟨[(0,(vs (.v (.string p0)))),(6,(vs (.cP 0)))],[(some (.cP p0 a))],0,none,false,[],[]⟩
def VK (p0:ByteArray):AS SS:=⟨[(2,(vb false))],[],0,none,false,[],[]⟩
def VL (p0:ByteArray) (a0:Nat):AS SS:=xe [(8,(vb false)),(7,(.bn [(.one (.v (.bool false)))]))] (tR p0 a0)
def mi (sh:Sh) (p0:ByteArray) (a:Nat):T (Nat⊕Unit⊕Nat):=.bf (decide (a<p0.size)) (.bf (decide ((↑(ε p0 a).fst:Int)>=97)) (.bf (decide ((↑(ε p0 a).fst:Int)<=122)) (.ok (.inl (a+(ε p0 a).snd)))<|.bf (decide ((↑(ε p0 a).fst:Int)>=48)) (.bf (!decide ((↑(ε p0 a).fst:Int)<=57)) (.ok (.inr (.inl ())))<|.ok (.inl (a+(ε p0 a).snd)))<|.ok (.inr (.inl ())))<|.bf (decide ((↑(ε p0 a).fst:Int)>=48)) (.bf (!decide ((↑(ε p0 a).fst:Int)<=57)) (.ok (.inr (.inl ())))<|.ok (.inl (a+(ε p0 a).snd)))<|.ok (.inr (.inl ())))<|.ok (.inr (.inr a))
def y5 (p0:ByteArray) (a:Nat):=bJ sh (mi sh p0) 1000000 a
def SF {R} (k:KX SS R) (p0:ByteArray) (x:Unit⊕Nat):Option R:=(λx=>θ (λv=>k .ret (VK p0)) (λv=>k (.exit 0) (VL p0 v)) x) x
def Kw:bc SS:=br 3 (λst=>(s7 (aJ st 0 0)).bind λp0=>(JG st 0).bind λa=>some (p0,a)) (u2 tR) (u2 (y5 shut)) (λk p=>SF k p.1)
theorem aa2:LS KK γ aq Tryz.f187 187 3 Kw:=
 aZ.bJ (π:=ByteArray×Nat) (σ:=Nat) (aj.all yF rfl) (aO.nil) rfl 60 (λp a=>tR p.1 a) (λp=>p.2) (St:=λp=>mi shut p.1) (λp=>1000000) (λp=>rfl)
  (λm p a k=>by kernel_rfl)
def Qy:=bL (yE shut) aq Tryz.f187 187 [Kw]
theorem Qz:a7 Qy γ:=bO (aj.all yF rfl) Tryz.func187 rfl aY (by kernel_rfl) aa2
def An (s:ByteArray):T Bool:=.gd (tR s 0)<|.bd (y5 sh s 0) λx3=>.cs x3 (λ_=>.ok false) λa=>.ok (!s.toList==(ο #[]).toList)
def pE (s:ByteArray):=sh.s _ (An sh s).val
def xX:=bN (dR KK 187 9 (pE sh) (cx KK 4)) (yE sh)
theorem xY:aj (xX shut) γ:=eh (rs:=[4]) yF Qz rfl rfl λs k=>by kernel_rfl
def ue (p0:List ByteArray) (a:Int):AS SS:=⟨[(0,(vd 192 p0)),(1,(vc 0)),(7,(vl p0)),(8,(vi a))],[(some (.aM 288 [] [(.one (.aK 1 0))])),(bX 244 [(.v (.func (.func 187) (.mk []) (.mk [])))])],2,none,false,[],[]⟩
def N4 (p0:List ByteArray):AS SS:=ue p0 0
def Wh (p0:List ByteArray) (a0:Int):AS SS:= {ue p0 a0 with env:=[(4,(vi a0))]}
def Wi (p0:List ByteArray) (a0:Bool) (a:Int):AS SS:=xe [(9,(vb a0))] (ue p0 a)
def sw (p0:List ByteArray) (b:Int) (z0:ByteArray) (a:Unit):T (Unit⊕Int⊕(Bool×Int)):=.bd (pE sh z0) λc=>.bf (!c) (.ok (.inr (.inl b)))<|.ok (.inl ())
def rm (sh:Sh) (p0:List ByteArray) (b:Int) (a:Unit):T (Int⊕(Bool×Int)):=.ok (.inr ((decide (b<(↑p0.length:Int))),b))
def zq (p0:List ByteArray):=b8 sh (sw sh p0) (rm sh p0) p0 ()
def S8 {R} (k:KX SS R) (p0:List ByteArray) (x:Int⊕(Bool×Int)):Option R:=(λx=>θ (λv=>k .ret (Wh p0 v)) (λv=>k (.exit 0) (Wi p0 v.1 v.2)) x) x
def KU:bc SS:=br 3 (λst=>(cg st 0 288).bind λ_=>(bo 192 (aJ st 0 0)).bind λp0=>some p0) (λp=>N4 p) (λp=>zq shut p) (λk p=>S8 k p)
theorem abm:LS KK γ aq Tryz.f305 305 3 KU:=
 aZ.cd (π:=List ByteArray) (aj.all xY rfl) (aO.nil) rfl 60 (λp i a=>ue p i) (λp=>p) (λp=>()) (St:=λp=>sw shut p) (F:=λp=>rm shut p) (λp=>rfl)
  (λm p i a k=>by kernel_rfl) (by rintro p (x|x)<;>exact⟨_,_,λ_=>rfl⟩) (λp N C A O w a b=>cL b (t:=192) (sl:=0) rfl λv h=>h)
def QA:=bL (xX shut) aq Tryz.f305 305 [KU]
theorem QB:a7 QA γ:=bO (aj.all xY rfl) Tryz.func305 rfl aY (by kernel_rfl) abm
def Ao (p:List ByteArray):T (Int×Bool):=.bf (decide (p.length<=140737488355328)&&decide ((gT p (ο #[47])).size<=140737488355328)) (.bd (lR (ο #[47]) (gT p (ο #[47]))) λz0=>.bd (ts sh z0) λa=>.bf (a.2==0) (.bf (decide ((↑p.length:Int)<=4)) (.gd (N4 p)<|.bd (zq sh p) λc=>.cs c (λb=>.ok (a.1,(!decide (b>=0)))) λb=>.ok (a.1,true))<|.ok (a.1,false))<|.ok (a.1,false))<|.no
def jq (p:List ByteArray):=sh.s _ (Ao sh p).val
def xZ:=bN (dR KK 188 193 (jq sh) (eN KK 35 4)) (xX sh)
theorem x6:aj (xZ shut) γ:=eh (rs:=[35,4]) xY QB rfl rfl λp k=>by kernel_rfl
def tY (p0:ByteArray) (a:Int) (p2:Bool) (b:ByteArray) (c:List ByteArray):AS SS:=⟨[(0,(vs .c4)),(1,(va 5 0))],[(bX 195 [(.v (.slice none 0 0)),(lu 0)]),(bX 9 [(.v (.string p0))]),(bX 195 [(.own 6),(lu a)]),(bX 4 [(.v (.bool p2))]),(some (.aM 248 [] [(.one (.aK 5 0))])),(bX 9 [(.v (.string b))]),(rX 9 c)],6,(some ⟨⟨ξr,aq 145⟩,[27],(eP (cr ξr) 9),(eQ (cr ξr) 9),[(0,(vu a)),(2,(va 0 0)),(4,(va 1 0)),(6,(va 2 0)),(7,(va 3 0)),(26,(vc 4))],none⟩),false,[],[3,2,5]⟩
def V4 (p0:ByteArray) (a:Int) (a0:Bool) (b:ByteArray) (a2:List ByteArray):AS SS:=⟨[],[(bX 195 [(.v (.slice none 0 0)),(lu 0)]),(bX 9 [(.v (.string p0))]),(bX 195 [(.own 6),(lu a)]),(bX 4 [(.v (.bool a0))]),(some (.aM 248 [] [(.one (.aK 5 0))])),(bX 9 [(.v (.string b))]),(rX 9 a2)],6,(some ⟨⟨ξr,aq 145⟩,[27],(eP (cr ξr) 9),(eQ (cr ξr) 9),[(0,(vu a)),(2,(va 0 0)),(4,(va 1 0)),(6,(va 2 0)),(7,(va 3 0)),(26,(vc 4))],(some (.exit 0))⟩),false,[],[3,2,5]⟩
def V5 (p0:ByteArray) (b:Int) (a0:Bool) (a:ByteArray) (a2:Bool) (a3:List ByteArray):AS SS:=xe [(5,(vb a0)),(4,(vs (.v (.string a))))] (tY p0 b a2 a a3)
def gm (p0:ByteArray) (d:Int) (a:Bool×ByteArray×List ByteArray):T ((Bool×ByteArray×List ByteArray)⊕(Bool×ByteArray×List ByteArray)⊕(Bool×ByteArray×Bool×List ByteArray)):=.bf (decide ((↑a.2.1.size:Int)>=1)) (.bd (eY a.2.1 none (some 1)) λz0=>.bf (z0.toList==(ο #[47]).toList) (.bd (eY a.2.1 (some 1) none) λc=>.bf (δ.wrap (ξ2 c.data.toList (ξR 47)+1)==0) (.bd (eY a.2.1 (some 1) (some (↑a.2.1.size:Int))) λz2=>.bf (p0.toList==(ο #[47]).toList) (.ok (.inr (.inl (a.1,a.2.1,a.2.2))))<|.bd (pE sh z2) λb=>.bf (!b) (.ok (.inr (.inl (b,a.2.1,a.2.2))))<|.bd (app 16 a.2.2 [z2]) λz4=>.bd (eY a.2.1 (some (↑a.2.1.size:Int)) none) λz5=>.ok (.inl (b,z5,z4)))<|.bd (eY a.2.1 (some 1) (some (δ.wrap (ξ2 c.data.toList (ξR 47)+1)))) λz2=>.bf (p0.toList==(ο #[47]).toList) (.ok (.inr (.inl (a.1,a.2.1,a.2.2))))<|.bd (pE sh z2) λb=>.bf (!b) (.ok (.inr (.inl (b,a.2.1,a.2.2))))<|.bd (app 16 a.2.2 [z2]) λz4=>.bd (eY a.2.1 (some (δ.wrap (ξ2 c.data.toList (ξR 47)+1))) none) λz5=>.ok (.inl (b,z5,z4)))<|.ok (.inr (.inr ((z0.toList==(ο #[47]).toList),a.2.1,a.1,a.2.2))))<|.ok (.inr (.inr (false,a.2.1,a.1,a.2.2)))
def mc (p0:ByteArray) (a:Int) (p2:Bool) (b:ByteArray) (c:List ByteArray):=bJ sh (gm sh p0 a) 1000000 (p2,b,c)
def SY {R} (k:KX SS R) (p0:ByteArray) (a:Int) (x:(Bool×ByteArray×List ByteArray)⊕(Bool×ByteArray×Bool×List ByteArray)):Option R:=(λx=>θ (λv=>k .ret (V4 p0 a v.1 v.2.1 v.2.2)) (λv=>k (.exit 0) (V5 p0 a v.1 v.2.1 v.2.2.1 v.2.2.2)) x) x
def KL:bc SS:=gU (λst=>gc (aq 248 1) (eu [3,2,5] (fK 2 0 9 (st))))<|br 1 (λst=>((cg st 4 248).bind λ_=>gA st 59 9).bind λ_=>(s7 (bj st 1 0)).bind λp0=>(aU (bj st 2 1)).bind λa=>(k_ (bj st 3 0)).bind λp2=>(s7 (bj st 5 0)).bind λb=>(b3 st 6 9).bind λc=>some (p0,a,p2,b,c)) (u5 tY) (u5 (mc shut)) (λk p=>SY k p.1 p.2.1)
theorem abd:LS KK γ aq Tryz.f248 248 1 KL:=aZ.pre (bY.comp (bY.gc (aq 248 1)) (bY.comp (bY.eu [3,2,5]) (bY.fK 2 0 9)))<|
 aZ.bJ (π:=ByteArray×Int×Bool×ByteArray×List ByteArray) (σ:=Bool×ByteArray×List ByteArray) (aj.all x6 rfl) (aO.nil) rfl 60 (λp a=>tY p.1 p.2.1 a.1 a.2.1 a.2.2) (λp=>(p.2.2.1,p.2.2.2.1,p.2.2.2.2)) (St:=λp=>gm shut p.1 p.2.1) (λp=>1000000) (λp=>rfl)
  (λm p a k=>by kernel_rfl)
def PU:=bL (xZ shut) aq Tryz.f248 248 [KL]
theorem PV:a7 PU γ:=bO (aj.all x6 rfl) Tryz.func248 rfl aY (by kernel_rfl) abd
def z6 (w:Int):T (iV×Bool):=.bd (s_ sh w) λb=>.bf (b.2 !=0) (.ok (⟨[],0⟩,false))<|.bf (b.1.toList==(ο #[]).toList) (.ok (⟨[],0⟩,false))<|.gd (tY b.1 w true b.1 [])<|.bd (mc sh b.1 w true b.1 []) λx4=>.cs x4 (λa=>.bd (jq sh a.2.2) λc=>.bf (!a.1) (.ok (⟨[],0⟩,false))<|.bf (!c.2) (.ok (⟨[],0⟩,false))<|.bf (c.1 !=w) (.ok (⟨[],0⟩,false))<|.ok (⟨a.2.2,w⟩,true)) λa=>.bd (jq sh a.2.2.2) λc=>.bf (!a.2.2.1) (.ok (⟨[],0⟩,false))<|.bf (!c.2) (.ok (⟨[],0⟩,false))<|.bf (c.1 !=w) (.ok (⟨[],0⟩,false))<|.ok (⟨a.2.2.2,w⟩,true)
def la (w:Int):=sh.s _ (z6 sh w).val
def GH:=bN (dR KK 145 35 (la sh) (eN KK 195 4)) (xZ sh)
theorem GI:aj (GH shut) γ:=eh (rs:=[195,4]) x6 PV rfl rfl λw k=>by kernel_rfl
def zX (w:Int):T Int:=.bd (la sh w) λa=>.bf (!a.2) (.ok 310)<|.ok 0
def pB (w:Int):=sh.s _ (zX sh w).val
def xp:=bN (dR KK 104 35 (pB sh) (cx KK 27)) (GH sh)
theorem xq:aj (xp shut) γ:=eh (rs:=[27]) GI (aj.all GI rfl) rfl rfl λw k=>by kernel_rfl
def CT (p0:List aA) (a p2 b:Int):AS SS:=⟨[(1,(va 0 0)),(3,(vu p2)),(7,(vd 52 p0)),(8,(vl p0)),(9,(vi b))],[(bX 54 [(.aH 52 p0),(lu a)])],0,none,false,[],[]⟩
def Oc (p0:List aA) (a p2:Int):AS SS:=CT p0 a p2 0
def WD (p0:List aA) (a:Int):AS SS:=⟨[(2,(vi 340))],[],0,none,false,[],[]⟩
def WE (p0:List aA) (a:Int) (a0:Bool) (b a2:Int):AS SS:= {CT p0 a a a with env:=[(10,(vb a0)),(1,(va 0 0)),(3,(vu b)),(7,(vd 52 p0)),(8,(vl p0)),(9,(vi a2))]}
def jY (p0:List aA) (b d:Int) (z0:aA) (a:Int):T (Int⊕Unit⊕(Bool×Int×Int)):=.bd (pB sh z0.ba) λc=>.bf (c !=0) (.ok (.inr (.inl ())))<|.bf (decide (z0.aX<=a)) (.ok (.inr (.inl ())))<|.bf (decide (z0.aX>=b)) (.ok (.inr (.inl ())))<|.ok (.inl z0.aX)
def rC (sh:Sh) (p0:List aA) (c b a:Int):T (Unit⊕(Bool×Int×Int)):=.ok (.inr ((decide (b<(↑p0.length:Int))),a,b))
def r4 (p0:List aA) (a p2:Int):=b8 sh (jY sh p0 a) (rC sh p0 a) p0 p2
def Tm {R} (k:KX SS R) (p0:List aA) (a:Int) (x:Unit⊕(Bool×Int×Int)):Option R:=(λx=>θ (λv=>k .ret (WD p0 a)) (λv=>k (.exit 0) (WE p0 a v.1 v.2.1 v.2.2)) x) x
def K9:bc SS:=br 4 (λst=>(bo 52 (aJ st 7 0)).bind λp0=>(aU (bj st 0 1)).bind λa=>(aU (aJ st 3 0)).bind λp2=>some (p0,a,p2)) (u3 Oc) (u3 (r4 shut)) (λk p=>Tm k p.1 p.2.1)
theorem abB:LS KK γ aq Tryz.f62 62 4 K9:=
 aZ.cd (π:=List aA×Int×Int) (σ:=Int) (aj.all xq rfl) (aO.nil) rfl 60 (λp i a=>CT p.1 p.2.1 a i) (λp=>p.1) (λp=>p.2.2) (St:=λp=>jY shut p.1 p.2.1) (F:=λp=>rC shut p.1 p.2.1) (λp=>rfl)
  (λm p i a k=>by kernel_rfl) (by rintro p (x|x)<;>exact⟨_,_,λ_=>rfl⟩) (λp N C A O w a b=>cL b (t:=52) (sl:=7) rfl λv h=>h)
def Cx (p0:List aA) (a:Int) (p2:Γc):AS SS:=⟨[(3,(vs (.mp 0))),(8,(vd 52 p0)),(9,(vl p0)),(10,(vi a))],[(some (.map .u64 .u64 p2))],0,none,false,[],[]⟩
def NJ (p0:List aA) (p2:Γc):AS SS:=Cx p0 0 p2
def U7 (p0:List aA) (a0:Bool) (a:Int) (a2:Γc):AS SS:=xe [(11,(vb a0))] (Cx p0 a a2)
def zN (sh:Sh) (p0:List aA) (b:Int) (z0:aA) (a:(Γc)):T (((Γc))⊕(Bool×Int×(Γc))):=.ok (.inl (cb a z0.ba z0.aX))
def q1 (sh:Sh) (p0:List aA) (b:Int) (a:(Γc)):T ((Bool×Int×(Γc))):=.ok ((decide (b<(↑p0.length:Int))),b,a)
def rV (p0:List aA) (p2:Γc):Option ((Bool×Int×(Γc))):=b8 sh (zN sh p0) (q1 sh p0) p0 p2
def Si {R} (k:KX SS R) (p0:List aA) (x:(Bool×Int×(Γc))):Option R:=(λv=>k (.exit 0) (U7 p0 v.1 v.2.1 v.2.2)) x
def Ke:bc SS:=br 4 (λst=>(bo 52 (aJ st 8 0)).bind λp0=>(gw st 0).bind λp2=>some (p0,p2)) (u2 NJ) (u2 (rV shut)) (λk p=>Si k p.1)
def Gp:=bL (xp shut) aq Tryz.f62 62 [K9]
theorem Gq:a7 Gp γ:=bO (aj.all xq rfl) Tryz.func62 rfl aY (by kernel_rfl) abB
theorem aaM:LS KK γ aq ξc 105 4 Ke:=
 aZ.cd (π:=List aA×(Γc)) (σ:=(Γc)) Gq (aO.nil) rfl 60 (λp i a=>Cx p.1 i a) (λp=>p.1) (λp=>p.2) (St:=λp=>zN shut p.1) (F:=λp=>q1 shut p.1) (λp=>rfl)
  (λm p i a k=>by kernel_rfl) (λp x=>⟨_,_,λ_=>rfl⟩) (λp N C A O w a b=>cL b (t:=52) (sl:=8) rfl λv h=>h)
def Q9:=bL Gp aq ξc 105 [Ke]
theorem Q_:a7 Q9 γ:=bO Gq ξl rfl aY (by kernel_rfl) aaM
def AN (m:bT):T Int:=.gd (Oc m.ae m.bp 0)<|.bd (r4 sh m.ae m.bp 0) λx3=>.cs x3 (λ_=>.ok 340) λb=>.bf (decide ((↑m.ae.length:Int)>16)) (.ok 340)<|.gd (NJ m.ae [])<|.bd (rV sh m.ae []) λa=>.bf (decide ((↑a.2.2.length:Int)<(↑m.ae.length:Int))) (.ok 340)<|.bf (decide (m.bp<1)) (.ok 340)<|.bf (decide (m.bp>1073741825)) (.ok 340)<|.ok 0
def pH (m:bT):=sh.s _ (AN sh m).val
def yC:=bN (dR KK 62 54 (pH sh) (cx KK 27)) (xp sh)
theorem yD:aj (yC shut) γ:=eh (rs:=[27]) xq Q_ rfl rfl λm k=>by kernel_rfl
def uj (p0 a:List ak) (p2:Int):AS SS:=⟨[(0,(vd 51 p0)),(1,(vd 51 a)),(12,(vl p0)),(13,(vi p2))],[],0,none,false,[],[]⟩
def N_ (p0 a:List ak):AS SS:=uj p0 a 0
def Wu (p0 a:List ak):AS SS:= {uj p0 a 0 with env:=[(4,(vb false))]}
def Wv (p0 b:List ak) (a0:Bool) (a:Int):AS SS:=xe [(14,(vb a0))] (uj p0 b a)
def zQ (sh:Sh) (p0 b:List ak) (p2:Int) (z0:ak) (a:Unit):T (Unit⊕Unit⊕(Bool×Int)):=.bd (idx b p2) λc=>.bf (!hs z0 c) (.ok (.inr (.inl ())))<|.ok (.inl ())
def rz (sh:Sh) (p0 b:List ak) (p2:Int) (a:Unit):T (Unit⊕(Bool×Int)):=.ok (.inr ((decide (p2<(↑p0.length:Int))),p2))
def Hs (p0 a:List ak):=b8 sh (zQ sh p0 a) (rz sh p0 a) p0 ()
def Tg {R} (k:KX SS R) (p0 a:List ak) (x:Unit⊕(Bool×Int)):Option R:=(λx=>θ (λv=>k .ret (Wu p0 a)) (λv=>k (.exit 0) (Wv p0 a v.1 v.2)) x) x
def K4:bc SS:=br 5 (λst=>(bo 51 (aJ st 0 0)).bind λp0=>(bo 51 (aJ st 1 0)).bind λa=>some (p0,a)) (u2 N_) (u2 (Hs shut)) (λk=>u2 (Tg k))
theorem abw:LS KK γ aq Tryz.f45 45 5 K4:=
 aZ.cd (aj.all yD rfl) (aO.nil) rfl 60 (λp i a=>u2 uj p i) (λp=>p.1) (λp=>()) (St:=u2 (zQ shut)) (F:=u2 (rz shut)) (λp=>rfl)
  (λm p i a k=>by kernel_rfl) (by rintro p (x|x)<;>exact⟨_,_,λ_=>rfl⟩) (λp N C A O w a b=>cL b (t:=51) (sl:=0) rfl λv h=>h)
def QY:=bL (yC shut) aq Tryz.f45 45 [K4]
theorem QZ:a7 QY γ:=bO (aj.all yD rfl) Tryz.func45 rfl aY (by kernel_rfl) abw
def AF (a b:List ak):T Bool:=.bf ((↑a.length:Int) !=(↑b.length:Int)) (.ok false)<|.gd (N_ a b)<|.bd (Hs sh a b) λx3=>.cs x3 (λ_=>.ok false) λc=>.ok true
def B_ (a b:List ak):=sh.s _ (AF sh a b).val
def yx:=bN (c6 KK 45 51 51 (B_ sh) (cx KK 4)) (yC sh)
theorem yy:aj (yx shut) γ:=de (rs:=[4]) yD QZ rfl rfl λa b k=>by kernel_rfl
def ur (p0 a:List ai) (p2:Int):AS SS:=⟨[(0,(vd 48 p0)),(1,(vd 48 a)),(12,(vl p0)),(13,(vi p2))],[],0,none,false,[],[]⟩
def Og (p0 a:List ai):AS SS:=ur p0 a 0
def WT (p0 a:List ai):AS SS:= {ur p0 a 0 with env:=[(4,(vb false))]}
def WU (p0 b:List ai) (a0:Bool) (a:Int):AS SS:=xe [(14,(vb a0))] (ur p0 b a)
def zR (sh:Sh) (p0 b:List ai) (p2:Int) (z0:ai) (a:Unit):T (Unit⊕Unit⊕(Bool×Int)):=.bd (idx b p2) λc=>.bf (!fJ z0 c) (.ok (.inr (.inl ())))<|.ok (.inl ())
def rF (sh:Sh) (p0 b:List ai) (p2:Int) (a:Unit):T (Unit⊕(Bool×Int)):=.ok (.inr ((decide (p2<(↑p0.length:Int))),p2))
def Ht (p0 a:List ai):=b8 sh (zR sh p0 a) (rF sh p0 a) p0 ()
def Tt {R} (k:KX SS R) (p0 a:List ai) (x:Unit⊕(Bool×Int)):Option R:=(λx=>θ (λv=>k .ret (WT p0 a)) (λv=>k (.exit 0) (WU p0 a v.1 v.2)) x) x
def Ld:bc SS:=br 5 (λst=>(bo 48 (aJ st 0 0)).bind λp0=>(bo 48 (aJ st 1 0)).bind λa=>some (p0,a)) (u2 Og) (u2 (Ht shut)) (λk=>u2 (Tt k))
theorem abH:LS KK γ aq Tryz.f81 81 5 Ld:=
 aZ.cd (aj.all yy rfl) (aO.nil) rfl 60 (λp i a=>u2 ur p i) (λp=>p.1) (λp=>()) (St:=u2 (zR shut)) (F:=u2 (rF shut)) (λp=>rfl)
  (λm p i a k=>by kernel_rfl) (by rintro p (x|x)<;>exact⟨_,_,λ_=>rfl⟩) (λp N C A O w a b=>cL b (t:=48) (sl:=0) rfl λv h=>h)
def Q':=bL (yx shut) aq Tryz.f81 81 [Ld]
theorem Ra:a7 Q' γ:=bO (aj.all yy rfl) Tryz.func81 rfl aY (by kernel_rfl) abH
def AQ (a b:List ai):T Bool:=.bf ((↑a.length:Int) !=(↑b.length:Int)) (.ok false)<|.gd (Og a b)<|.bd (Ht sh a b) λx3=>.cs x3 (λ_=>.ok false) λc=>.ok true
def Cd (a b:List ai):=sh.s _ (AQ sh a b).val
def yI:=bN (c6 KK 81 48 48 (Cd sh) (cx KK 4)) (yx sh)
theorem yJ:aj (yI shut) γ:=de (rs:=[4]) yy Ra rfl rfl λa b k=>by kernel_rfl
def uu (p0 a:List aA) (p2:Int):AS SS:=⟨[(0,(vd 52 p0)),(1,(vd 52 a)),(12,(vl p0)),(13,(vi p2))],[],0,none,false,[],[]⟩
def Oh (p0 a:List aA):AS SS:=uu p0 a 0
def WV (p0 a:List aA):AS SS:= {uu p0 a 0 with env:=[(4,(vb false))]}
def WW (p0 b:List aA) (a0:Bool) (a:Int):AS SS:=xe [(14,(vb a0))] (uu p0 b a)
def zS (sh:Sh) (p0 b:List aA) (p2:Int) (z0:aA) (a:Unit):T (Unit⊕Unit⊕(Bool×Int)):=.bd (idx b p2) λc=>.bf (!jl z0 c) (.ok (.inr (.inl ())))<|.ok (.inl ())
def rG (sh:Sh) (p0 b:List aA) (p2:Int) (a:Unit):T (Unit⊕(Bool×Int)):=.ok (.inr ((decide (p2<(↑p0.length:Int))),p2))
def Hu (p0 a:List aA):=b8 sh (zS sh p0 a) (rG sh p0 a) p0 ()
def Tu {R} (k:KX SS R) (p0 a:List aA) (x:Unit⊕(Bool×Int)):Option R:=(λx=>θ (λv=>k .ret (WV p0 a)) (λv=>k (.exit 0) (WW p0 a v.1 v.2)) x) x
def Le:bc SS:=br 5 (λst=>(bo 52 (aJ st 0 0)).bind λp0=>(bo 52 (aJ st 1 0)).bind λa=>some (p0,a)) (u2 Oh) (u2 (Hu shut)) (λk=>u2 (Tu k))
theorem abI:LS KK γ aq Tryz.f82 82 5 Le:=
 aZ.cd (aj.all yJ rfl) (aO.nil) rfl 60 (λp i a=>u2 uu p i) (λp=>p.1) (λp=>()) (St:=u2 (zS shut)) (F:=u2 (rG shut)) (λp=>rfl)
  (λm p i a k=>by kernel_rfl) (by rintro p (x|x)<;>exact⟨_,_,λ_=>rfl⟩) (λp N C A O w a b=>cL b (t:=52) (sl:=0) rfl λv h=>h)
def Rb:=bL (yI shut) aq Tryz.f82 82 [Le]
theorem Rc:a7 Rb γ:=bO (aj.all yJ rfl) Tryz.func82 rfl aY (by kernel_rfl) abI
def AR (a b:List aA):T Bool:=.bf ((↑a.length:Int) !=(↑b.length:Int)) (.ok false)<|.gd (Oh a b)<|.bd (Hu sh a b) λx3=>.cs x3 (λ_=>.ok false) λc=>.ok true
def Ce (a b:List aA):=sh.s _ (AR sh a b).val
def yK:=bN (c6 KK 82 52 52 (Ce sh) (cx KK 4)) (yI sh)
theorem yL:aj (yK shut) γ:=de (rs:=[4]) yJ Rc rfl rfl λa b k=>by kernel_rfl
def uv (p0 a:List aD) (p2:Int):AS SS:=⟨[(0,(vd 55 p0)),(1,(vd 55 a)),(12,(vl p0)),(13,(vi p2))],[],0,none,false,[],[]⟩
def Oi (p0 a:List aD):AS SS:=uv p0 a 0
def WX (p0 a:List aD):AS SS:= {uv p0 a 0 with env:=[(4,(vb false))]}
def WY (p0 b:List aD) (a0:Bool) (a:Int):AS SS:=xe [(14,(vb a0))] (uv p0 b a)
def zT (sh:Sh) (p0 b:List aD) (p2:Int) (z0:aD) (a:Unit):T (Unit⊕Unit⊕(Bool×Int)):=.bd (idx b p2) λc=>.bf (!jm z0 c) (.ok (.inr (.inl ())))<|.ok (.inl ())
def rH (sh:Sh) (p0 b:List aD) (p2:Int) (a:Unit):T (Unit⊕(Bool×Int)):=.ok (.inr ((decide (p2<(↑p0.length:Int))),p2))
def Hv (p0 a:List aD):=b8 sh (zT sh p0 a) (rH sh p0 a) p0 ()
def Tv {R} (k:KX SS R) (p0 a:List aD) (x:Unit⊕(Bool×Int)):Option R:=(λx=>θ (λv=>k .ret (WX p0 a)) (λv=>k (.exit 0) (WY p0 a v.1 v.2)) x) x
def Lf:bc SS:=br 5 (λst=>(bo 55 (aJ st 0 0)).bind λp0=>(bo 55 (aJ st 1 0)).bind λa=>some (p0,a)) (u2 Oi) (u2 (Hv shut)) (λk=>u2 (Tv k))
theorem abJ:LS KK γ aq Tryz.f83 83 5 Lf:=
 aZ.cd (aj.all yL rfl) (aO.nil) rfl 60 (λp i a=>u2 uv p i) (λp=>p.1) (λp=>()) (St:=u2 (zT shut)) (F:=u2 (rH shut)) (λp=>rfl)
  (λm p i a k=>by kernel_rfl) (by rintro p (x|x)<;>exact⟨_,_,λ_=>rfl⟩) (λp N C A O w a b=>cL b (t:=55) (sl:=0) rfl λv h=>h)
def Re:=bL (yK shut) aq Tryz.f83 83 [Lf]
theorem Rf:a7 Re γ:=bO (aj.all yL rfl) Tryz.func83 rfl aY (by kernel_rfl) abJ
def AT (a b:List aD):T Bool:=.bf ((↑a.length:Int) !=(↑b.length:Int)) (.ok false)<|.gd (Oi a b)<|.bd (Hv sh a b) λx3=>.cs x3 (λ_=>.ok false) λc=>.ok true
def Cf (a b:List aD):=sh.s _ (AT sh a b).val
def yM:=bN (c6 KK 83 55 55 (Cf sh) (cx KK 4)) (yK sh)
theorem yN:aj (yM shut) γ:=de (rs:=[4]) yL Rf rfl rfl λa b k=>by kernel_rfl
def ux (p0 a:Γa) (p2:Int):AS SS:=⟨[(0,(vd 130 p0)),(1,(vd 130 a)),(12,(vl p0)),(13,(vi p2))],[],0,none,false,[],[]⟩
def Ol (p0 a:Γa):AS SS:=ux p0 a 0
def W1 (p0 a:Γa):AS SS:= {ux p0 a 0 with env:=[(4,(vb false))]}
def W2 (p0 b:Γa) (a0:Bool) (a:Int):AS SS:=xe [(14,(vb a0))] (ux p0 b a)
def zU (sh:Sh) (p0 b:Γa) (p2 z0:Int) (a:Unit):T (Unit⊕Unit⊕(Bool×Int)):=.bd (idx b p2) λc=>.bf (z0 !=c) (.ok (.inr (.inl ())))<|.ok (.inl ())
def rJ (sh:Sh) (p0 b:Γa) (p2:Int) (a:Unit):T (Unit⊕(Bool×Int)):=.ok (.inr ((decide (p2<(↑p0.length:Int))),p2))
def Hw (p0 a:Γa):=b8 sh (zU sh p0 a) (rJ sh p0 a) p0 ()
def Tx {R} (k:KX SS R) (p0 a:Γa) (x:Unit⊕(Bool×Int)):Option R:=(λx=>θ (λv=>k .ret (W1 p0 a)) (λv=>k (.exit 0) (W2 p0 a v.1 v.2)) x) x
def Lh:bc SS:=br 5 (λst=>(bo 130 (aJ st 0 0)).bind λp0=>(bo 130 (aJ st 1 0)).bind λa=>some (p0,a)) (u2 Ol) (u2 (Hw shut)) (λk=>u2 (Tx k))
theorem abL:LS KK γ aq Tryz.f86 86 5 Lh:=
 aZ.cd (aj.all yN rfl) (aO.nil) rfl 60 (λp i a=>u2 ux p i) (λp=>p.1) (λp=>()) (St:=u2 (zU shut)) (F:=u2 (rJ shut)) (λp=>rfl)
  (λm p i a k=>by kernel_rfl) (by rintro p (x|x)<;>exact⟨_,_,λ_=>rfl⟩) (λp N C A O w a b=>cL b (t:=130) (sl:=0) rfl λv h=>h)
def Rg:=bL (yM shut) aq Tryz.f86 86 [Lh]
theorem Rh:a7 Rg γ:=bO (aj.all yN rfl) Tryz.func86 rfl aY (by kernel_rfl) abL
def AU (a b:Γa):T Bool:=.bf ((↑a.length:Int) !=(↑b.length:Int)) (.ok false)<|.gd (Ol a b)<|.bd (Hw sh a b) λx3=>.cs x3 (λ_=>.ok false) λc=>.ok true
def Cg (a b:Γa):=sh.s _ (AU sh a b).val
def Hm:=bN (c6 KK 86 130 130 (Cg sh) (cx KK 4)) (yM sh)
theorem Hn:aj (Hm shut) γ:=de (rs:=[4]) yN Rh rfl rfl λa b k=>by kernel_rfl
def AE (a b:bF):T Bool:=.bf (a.aS==b.aS) (.bd (Cd sh a.ae b.ae) λc=>.ok c)<|.ok false
def B9 (a b:bF):=sh.s _ (AE sh a b).val
def Ha:=bN (c6 KK 44 50 50 (B9 sh) (cx KK 4)) (Hm sh)
theorem Hb:aj (Ha shut) γ:=de (rs:=[4]) Hn (aj.all Hn rfl) rfl rfl λa b k=>by kernel_rfl
def AG (a b:bT):T Bool:=.bf (a.bp==b.bp) (.bd (Ce sh a.ae b.ae) λc=>.ok c)<|.ok false
def B' (a b:bT):=sh.s _ (AG sh a b).val
def yz:=bN (c6 KK 46 54 54 (B' sh) (cx KK 4)) (Ha sh)
theorem yA:aj (yz shut) γ:=de (rs:=[4]) Hb (aj.all Hb rfl) rfl rfl λa b k=>by kernel_rfl
def uw (p0 a:List aw) (p2:Int):AS SS:=⟨[(1,(vd 56 p0)),(2,(vs (.v (.func (.func 85) (.mk []) (.mk []))))),(15,(vd 56 a)),(16,(vl a)),(17,(vi p2))],[],0,none,false,[],[]⟩
def Oj (p0 a:List aw):AS SS:=uw p0 a 0
def WZ (p0 a:List aw):AS SS:= {uw p0 a 0 with env:=[(6,(vb false))]}
def W0 (p0 b:List aw) (a0:Bool) (a:Int):AS SS:=xe [(18,(vb a0))] (uw p0 b a)
def sD (p0 d:List aw) (p2:Int) (z0:aw) (a:Unit):T (Unit⊕Unit⊕(Bool×Int)):=.bd (idx p0 p2) λb=>.bf (z0.aa==b.aa) (.bd (Cg sh z0.a6 b.a6) λc=>.bf (!c) (.ok (.inr (.inl ())))<|.ok (.inl ()))<|.ok (.inr (.inl ()))
def rI (sh:Sh) (p0 b:List aw) (p2:Int) (a:Unit):T (Unit⊕(Bool×Int)):=.ok (.inr ((decide (p2<(↑b.length:Int))),p2))
def zF (p0 a:List aw):=b8 sh (sD sh p0 a) (rI sh p0 a) a ()
def Tw {R} (k:KX SS R) (p0 a:List aw) (x:Unit⊕(Bool×Int)):Option R:=(λx=>θ (λv=>k .ret (WZ p0 a)) (λv=>k (.exit 0) (W0 p0 a v.1 v.2)) x) x
def Lg:bc SS:=br 5 (λst=>(bo 56 (aJ st 1 0)).bind λp0=>(bo 56 (aJ st 15 0)).bind λa=>some (p0,a)) (u2 Oj) (u2 (zF shut)) (λk=>u2 (Tw k))
theorem abK:LS KK γ aq Tryz.f84 84 5 Lg:=
 aZ.cd (aj.all yA rfl) (aO.nil) rfl 60 (λp i a=>u2 uw p i) (λp=>p.2) (λp=>()) (St:=u2 (sD shut)) (F:=u2 (rI shut)) (λp=>rfl)
  (λm p i a k=>by kernel_rfl) (by rintro p (x|x)<;>exact⟨_,_,λ_=>rfl⟩) (λp N C A O w a b=>cL b (t:=56) (sl:=15) rfl λv h=>h)
def Q0:=bL (yz shut) aq Tryz.f84 84 [Lg]
theorem Q1:a7 Q0 γ:=bO (aj.all yA rfl) Tryz.func84 rfl aY (by kernel_rfl) abK
def AI (a b:aL):T Bool:=.bd (Cf sh a.au b.au) λc=>.bf (c) (.bf ((↑a.ao.length:Int) !=(↑b.ao.length:Int)) (.ok false)<|.gd (Oj b.ao a.ao)<|.bd (zF sh b.ao a.ao) λx5=>.cs x5 (λ_=>.ok false) λd=>.ok true)<|.ok false
def Ca (a b:aL):=sh.s _ (AI sh a b).val
def Hc:=bN (c6 KK 47 58 58 (Ca sh) (cx KK 4)) (yz sh)
theorem Hd:aj (Hc shut) γ:=de (rs:=[4]) yA Q1 rfl rfl λa b k=>by kernel_rfl
def Ar (a b:bb):T Bool:=.bd (B9 sh a.az b.az) λc=>.bf (c) (.bd (B_ sh a.aV b.aV) λd=>.bf (d) (.bd (B' sh a.aI b.aI) λe=>.bf (e) (.bd (Ca sh a.aB b.aB) λf=>.ok f)<|.ok false)<|.ok false)<|.ok false
def j7 (a b:bb):=sh.s _ (Ar sh a b).val
def GW:=bN (c6 KK 20 60 60 (j7 sh) (cx KK 4)) (Hc sh)
theorem GX:aj (GW shut) γ:=de (rs:=[4]) Hd (aj.all Hd rfl) rfl rfl λa b k=>by kernel_rfl
def Sa (sh:Sh):T bF:=.ok (⟨[1,0,0,0,0,0,0,0,0,0,0,0,0,0,0,0],[ai.mk 1 0 false 0]⟩)
def IU:=sh.s _ (Sa sh).val
def G6:=bN (pq KK 39 (IU sh) (cx KK 50)) (GW sh)
theorem G7:aj (G6 shut) γ:=BB (rs:=[50]) GX (aj.all GX rfl) rfl rfl λk=>by kernel_rfl
def Sb (sh:Sh):T bT:=.ok (⟨[],1⟩)
def IV:=sh.s _ (Sb sh).val
def G8:=bN (pq KK 40 (IV sh) (cx KK 54)) (G6 sh)
theorem G9:aj (G8 shut) γ:=BB (rs:=[54]) G7 (aj.all G7 rfl) rfl rfl λk=>by kernel_rfl
def R9:T bb:=.bd (IU sh) λa=>.bd (IV sh) λb=>.ok (⟨a,[],b,⟨[],[]⟩⟩)
def B1:=sh.s _ (R9 sh).val
def GR:=bN (pq KK 18 (B1 sh) (cx KK 60)) (G8 sh)
theorem GS:aj (GR shut) γ:=BB (rs:=[60]) G9 (aj.all G9 rfl) rfl rfl λk=>by kernel_rfl
def AP (sh:Sh) (c:cN):T Bool:=.bf (c.bm==9) (.ok true)<|.ok (c.bm==12)
def Cc (c:cN):=sh.s _ (AP sh c).val
def yG:=bN (dR KK 74 38 (Cc sh) (cx KK 4)) (GR sh)
theorem yH:aj (yG shut) γ:=eh (rs:=[4]) GS (aj.all GS rfl) rfl rfl λc k=>by kernel_rfl
def ui (p0:List aw) (a:Γa) (p2:Int) (b:List ai) (c:List ak) (d:List aA) (e:List aD) (f g:Int) (h:List aw):AS SS:=⟨[(1,(va 0 0)),(2,(va 6 0)),(31,(vd 56 p0)),(32,(vi f)),(33,(vi g))],[(bX 60 [(.bG .i64 16 a),(.own 1),(.own 2),(.own 3),(lu p2),(.own 4),(.own 5)]),(rX 115 b),(rX 105 c),(rX 122 d),(rX 127 e),(rX 132 h),(bX 60 [(li 0),(li 0),(li 0),(li 0),(li 0),(li 0),(li 0),(li 0),(li 0),(li 0),(li 0),(li 0),(li 0),(li 0),(li 0),(li 0),(.v (.slice none 0 0)),(.v (.slice none 0 0)),(.v (.slice none 0 0)),(lu 0),(.v (.slice none 0 0)),(.v (.slice none 0 0))])],0,none,false,[],[]⟩
def Wt (p0:List aw) (c:Γa) (p2:Int) (d:List ai) (e:List ak) (f:List aA) (g:List aD) (a:Int) (a0:Bool) (b:Int) (a2:List aw):AS SS:= {ui p0 c p2 d e f g a p2 a2 with env:=[(34,(vb a0)),(1,(va 0 0)),(2,(va 6 0)),(31,(vd 56 p0)),(32,(vi a)),(33,(vi b))]}
def HI (sh:Sh) (p0:List aw) (d:Γa) (p2:Int) (e:List ai) (f:List ak) (g:List aA) (h:List aD) (b:Int) (a:Int×List aw):T ((Int×List aw)⊕(Bool×Int×List aw)):=.bf (decide (a.1<b)) (.bd (idx p0 a.1) λz0=>.bd (app 8 [] z0.a6) λc=>.bd (app 32 a.2 [aw.mk z0.aa c]) λz2=>.ok (.inl ((δ.wrap (a.1+1)),z2)))<|.ok (.inr ((decide (a.1<b)),a.1,a.2))
def zv (p0:List aw) (a:Γa) (p2:Int) (b:List ai) (c:List ak) (d:List aA) (e:List aD) (f g:Int) (h:List aw):=bJ sh (HI sh p0 a p2 b c d e f) 1000000 (g,h)
def Tf {R} (k:KX SS R) (p0:List aw) (a:Γa) (p2:Int) (b:List ai) (c:List ak) (d:List aA) (e:List aD) (f:Int) (x:(Bool×Int×List aw)):Option R:=(λv=>k (.exit 0) (Wt p0 a p2 b c d e f v.1 v.2.1 v.2.2)) x
def K3:bc SS:=gU (λst=>gc (aq 43 6) (fK 0 6 132 (st)))<|br 6 (λst=>(bo 56 (aJ st 31 0)).bind λp0=>(fX (bj st 0 0)).bind λa=>(aU (bj st 0 4)).bind λp2=>(b3 st 1 115).bind λb=>(b3 st 2 105).bind λc=>(b3 st 3 122).bind λd=>(b3 st 4 127).bind λe=>(aU (aJ st 32 0)).bind λf=>(aU (aJ st 33 0)).bind λg=>(b3 st 5 132).bind λh=>some (p0,a,p2,b,c,d,e,f,g,h)) (λp=>ui p.1 p.2.1 p.2.2.1 p.2.2.2.1 p.2.2.2.2.1 p.2.2.2.2.2.1 p.2.2.2.2.2.2.1 p.2.2.2.2.2.2.2.1 p.2.2.2.2.2.2.2.2.1 p.2.2.2.2.2.2.2.2.2) (λp=>zv shut p.1 p.2.1 p.2.2.1 p.2.2.2.1 p.2.2.2.2.1 p.2.2.2.2.2.1 p.2.2.2.2.2.2.1 p.2.2.2.2.2.2.2.1 p.2.2.2.2.2.2.2.2.1 p.2.2.2.2.2.2.2.2.2) (λk p=>Tf k p.1 p.2.1 p.2.2.1 p.2.2.2.1 p.2.2.2.2.1 p.2.2.2.2.2.1 p.2.2.2.2.2.2.1 p.2.2.2.2.2.2.2.1)
theorem abv:LS KK γ aq Tryz.f43 43 6 K3:=aZ.pre (bY.comp (bY.gc (aq 43 6)) (bY.fK 0 6 132))<|
 aZ.bJ (π:=List aw×Γa×Int×List ai×List ak×List aA×List aD×Int×Int×List aw) (σ:=Int×List aw) (aj.all yH rfl) (aO.nil) rfl 60 (λp a=>ui p.1 p.2.1 p.2.2.1 p.2.2.2.1 p.2.2.2.2.1 p.2.2.2.2.2.1 p.2.2.2.2.2.2.1 p.2.2.2.2.2.2.2.1 a.1 a.2) (λp=>(p.2.2.2.2.2.2.2.2.1,p.2.2.2.2.2.2.2.2.2)) (St:=λp=>HI shut p.1 p.2.1 p.2.2.1 p.2.2.2.1 p.2.2.2.2.1 p.2.2.2.2.2.1 p.2.2.2.2.2.2.1 p.2.2.2.2.2.2.2.1) (λp=>1000000) (λp=>rfl)
  (λm p a k=>by kernel_rfl)
def QW:=bL (yG shut) aq Tryz.f43 43 [K3]
theorem QX:a7 QW γ:=bO (aj.all yH rfl) Tryz.func43 rfl aY (by kernel_rfl) abv
def AD (s:bb):T bb:=.bd (app 32 [] s.az.ae) λz0=>.bd (app 24 [] s.aV) λa=>.bd (app 16 [] s.aI.ae) λz2=>.bd (app 16 [] s.aB.au) λz3=>.gd (ui s.aB.ao s.az.aS s.aI.bp z0 a z2 z3 ((↑s.aB.ao.length:Int)) 0 [])<|.bd (zv sh s.aB.ao s.az.aS s.aI.bp z0 a z2 z3 ((↑s.aB.ao.length:Int)) 0 []) λb=>.ok (⟨⟨s.az.aS,z0⟩,a,⟨z2,s.aI.bp⟩,⟨z3,b.2.2⟩⟩)
def B8 (s:bb):=sh.s _ (AD sh s).val
def yw:=bN (dR KK 43 60 (B8 sh) (cx KK 60)) (yG sh)
theorem rQ:aj (yw shut) γ:=eh (rs:=[60]) yH QX rfl rfl λs k=>by kernel_rfl
def CR (p0:List ai) (a:Γa) (p2:List ak) (b:List aA) (c:Int) (d:List aD) (e:List aw) (f:Int) (g:Γc):AS SS:=⟨[(1,(va 0 0)),(3,(va 1 0)),(4,(va 3 0)),(37,(vd 48 p0)),(38,(vl p0)),(39,(vi f))],[(bX 60 [(.bG .i64 16 a),(.aH 48 p0),(.aH 51 p2),(.aH 52 b),(lu c),(.aH 55 d),(.aH 56 e)]),(bX 120 [(.mp 2)]),(some (.map .u64 .i64 g)),(bX 120 [(.mp 4)]),(some (.map .u64 .i64 []))],0,none,false,[],[]⟩
def N9 (p0:List ai) (a:Γa) (p2:List ak) (b:List aA) (c:Int) (d:List aD) (e:List aw) (f:Γc):AS SS:=CR p0 a p2 b c d e 0 f
def Ws (p0:List ai) (c:Γa) (p2:List ak) (d:List aA) (a:Int) (e:List aD) (f:List aw) (a0:Bool) (b:Int) (a2:Γc):AS SS:= {CR p0 c p2 d a e f a a2 with env:=[(40,(vb a0)),(1,(va 0 0)),(3,(va 1 0)),(4,(va 3 0)),(37,(vd 48 p0)),(38,(vl p0)),(39,(vi b))]}
def oY (sh:Sh) (p0:List ai) (b:Γa) (p2:List ak) (c:List aA) (d:Int) (e:List aD) (f:List aw) (g:Int) (z0:ai) (a:(Γc)):T (((Γc))⊕(Bool×Int×(Γc))):=.bf (!z0.bl) (.ok (.inl (cb a z0.aa 1)))<|.ok (.inl a)
def ry (sh:Sh) (p0:List ai) (c:Γa) (p2:List ak) (d:List aA) (e:Int) (f:List aD) (g:List aw) (b:Int) (a:(Γc)):T ((Bool×Int×(Γc))):=.ok ((decide (b<(↑p0.length:Int))),b,a)
def r3 (p0:List ai) (a:Γa) (p2:List ak) (b:List aA) (c:Int) (d:List aD) (e:List aw) (f:Γc):Option ((Bool×Int×(Γc))):=b8 sh (oY sh p0 a p2 b c d e) (ry sh p0 a p2 b c d e) p0 f
def Te {R} (k:KX SS R) (p0:List ai) (a:Γa) (p2:List ak) (b:List aA) (c:Int) (d:List aD) (e:List aw) (x:(Bool×Int×(Γc))):Option R:=(λv=>k (.exit 0) (Ws p0 a p2 b c d e v.1 v.2.1 v.2.2)) x
def K2:bc SS:=br 6 (λst=>(bo 48 (aJ st 37 0)).bind λp0=>(fX (bj st 0 0)).bind λa=>(bo 51 (bj st 0 2)).bind λp2=>(bo 52 (bj st 0 3)).bind λb=>(aU (bj st 0 4)).bind λc=>(bo 55 (bj st 0 5)).bind λd=>(bo 56 (bj st 0 6)).bind λe=>(gw st 2).bind λf=>some (p0,a,p2,b,c,d,e,f)) (u8 N9) (u8 (r3 shut)) (λk p=>Te k p.1 p.2.1 p.2.2.1 p.2.2.2.1 p.2.2.2.2.1 p.2.2.2.2.2.1 p.2.2.2.2.2.2.1)
theorem abu:LS KK γ aq ζo 41 6 K2:=
 aZ.cd (π:=List ai×Γa×List ak×List aA×Int×List aD×List aw×(Γc)) (σ:=(Γc)) (aj.all rQ rfl) (aO.nil) rfl 60 (λp i a=>CR p.1 p.2.1 p.2.2.1 p.2.2.2.1 p.2.2.2.2.1 p.2.2.2.2.2.1 p.2.2.2.2.2.2.1 i a) (λp=>p.1) (λp=>p.2.2.2.2.2.2.2) (St:=λp=>oY shut p.1 p.2.1 p.2.2.1 p.2.2.2.1 p.2.2.2.2.1 p.2.2.2.2.2.1 p.2.2.2.2.2.2.1) (F:=λp=>ry shut p.1 p.2.1 p.2.2.1 p.2.2.2.1 p.2.2.2.2.1 p.2.2.2.2.2.1 p.2.2.2.2.2.2.1) (λp=>rfl)
  (λm p i a k=>by kernel_rfl) (λp x=>⟨_,_,λ_=>rfl⟩) (λp N C A O w a b=>cL b (t:=48) (sl:=37) rfl λv h=>h)
def CQ (p0:List aA) (a:Γa) (p2:List ai) (b:List ak) (c:Int) (d:List aD) (e:List aw) (f:Γc) (g:Int) (h:Γc):AS SS:=⟨[(1,(va 0 0)),(3,(va 1 0)),(4,(va 3 0)),(52,(vd 52 p0)),(53,(vl p0)),(54,(vi g))],[(bX 60 [(.bG .i64 16 a),(.aH 48 p2),(.aH 51 b),(.aH 52 p0),(lu c),(.aH 55 d),(.aH 56 e)]),(bX 120 [(.mp 2)]),(some (.map .u64 .i64 f)),(bX 120 [(.mp 4)]),(some (.map .u64 .i64 h))],0,none,false,[],[]⟩
def N8 (p0:List aA) (a:Γa) (p2:List ai) (b:List ak) (c:Int) (d:List aD) (e:List aw) (f g:Γc):AS SS:=CQ p0 a p2 b c d e f 0 g
def Wr (p0:List aA) (c:Γa) (p2:List ai) (d:List ak) (a:Int) (e:List aD) (f:List aw) (g:Γc) (a0:Bool) (b:Int) (a2:Γc):AS SS:= {CQ p0 c p2 d a e f g a a2 with env:=[(55,(vb a0)),(1,(va 0 0)),(3,(va 1 0)),(4,(va 3 0)),(52,(vd 52 p0)),(53,(vl p0)),(54,(vi b))]}
def zP (sh:Sh) (p0:List aA) (b:Γa) (p2:List ai) (c:List ak) (d:Int) (e:List aD) (f:List aw) (g:Γc) (h:Int) (z0:aA) (a:(Γc)):T (((Γc))⊕(Bool×Int×(Γc))):=.ok (.inl (cb a z0.aX 1))
def ru (sh:Sh) (p0:List aA) (c:Γa) (p2:List ai) (d:List ak) (e:Int) (f:List aD) (g:List aw) (h:Γc) (b:Int) (a:(Γc)):T ((Bool×Int×(Γc))):=.ok ((decide (b<(↑p0.length:Int))),b,a)
def r2 (p0:List aA) (a:Γa) (p2:List ai) (b:List ak) (c:Int) (d:List aD) (e:List aw) (f g:Γc):Option ((Bool×Int×(Γc))):=b8 sh (zP sh p0 a p2 b c d e f) (ru sh p0 a p2 b c d e f) p0 g
def Td {R} (k:KX SS R) (p0:List aA) (a:Γa) (p2:List ai) (b:List ak) (c:Int) (d:List aD) (e:List aw) (f:Γc) (x:(Bool×Int×(Γc))):Option R:=(λv=>k (.exit 2) (Wr p0 a p2 b c d e f v.1 v.2.1 v.2.2)) x
def K1:bc SS:=br 12 (λst=>(bo 52 (aJ st 52 0)).bind λp0=>(fX (bj st 0 0)).bind λa=>(bo 48 (bj st 0 1)).bind λp2=>(bo 51 (bj st 0 2)).bind λb=>(aU (bj st 0 4)).bind λc=>(bo 55 (bj st 0 5)).bind λd=>(bo 56 (bj st 0 6)).bind λe=>(gw st 2).bind λf=>(gw st 4).bind λg=>some (p0,a,p2,b,c,d,e,f,g)) (u9 N8) (u9 (r2 shut)) (λk p=>Td k p.1 p.2.1 p.2.2.1 p.2.2.2.1 p.2.2.2.2.1 p.2.2.2.2.2.1 p.2.2.2.2.2.2.1 p.2.2.2.2.2.2.2.1)
theorem abt:LS KK γ aq ζo 41 12 K1:=
 aZ.cd (π:=List aA×Γa×List ai×List ak×Int×List aD×List aw×(Γc)×(Γc)) (σ:=(Γc)) (aj.all rQ rfl) (aO.nil) rfl 60 (λp i a=>CQ p.1 p.2.1 p.2.2.1 p.2.2.2.1 p.2.2.2.2.1 p.2.2.2.2.2.1 p.2.2.2.2.2.2.1 p.2.2.2.2.2.2.2.1 i a) (λp=>p.1) (λp=>p.2.2.2.2.2.2.2.2) (St:=λp=>zP shut p.1 p.2.1 p.2.2.1 p.2.2.2.1 p.2.2.2.2.1 p.2.2.2.2.2.1 p.2.2.2.2.2.2.1 p.2.2.2.2.2.2.2.1) (F:=λp=>ru shut p.1 p.2.1 p.2.2.1 p.2.2.2.1 p.2.2.2.2.1 p.2.2.2.2.2.1 p.2.2.2.2.2.2.1 p.2.2.2.2.2.2.2.1) (λp=>rfl)
  (λm p i a k=>by kernel_rfl) (λp x=>⟨_,_,λ_=>rfl⟩) (λp N C A O w a b=>cL b (t:=52) (sl:=52) rfl λv h=>h)
def CW (p0:List ak) (a p2:Γc) (b:Bool) (c:Int):AS SS:=⟨[(1,(vc 0)),(5,(vb b)),(8,(vd 51 p0)),(9,(vl p0)),(10,(vi c))],[(some (.aM 65 [] [(.one (.aK 1 0)),(.one (.aK 3 0))])),(bX 120 [(.mp 2)]),(some (.map .u64 .i64 a)),(bX 120 [(.mp 4)]),(some (.map .u64 .i64 p2))],5,none,false,[],[]⟩
def Of (p0:List ak) (a p2:Γc) (b:Bool):AS SS:=CW p0 a p2 b 0
def WK (p0:List ak) (e p2:Γc) (a0 a:Bool) (a2 a3 a4:Int) (a5:ak) (b c:Bool) (d:Int):AS SS:=⟨[(18,(vb a0)),(17,(vb a)),(5,(vb a)),(16,(vb a)),(15,(.s (.agg [(lu a2),(li a3),(lu a4)]))),(14,(vc 0)),(7,(va 5 0)),(13,(.s (.agg [(lu a2),(li a3),(lu a4)]))),(12,(vs (.ptr 105 a5 0))),(11,(vb b)),(1,(vc 0)),(5,(vb c)),(8,(vd 51 p0)),(9,(vl p0)),(10,(vi d))],[(some (.aM 65 [] [(.one (.aK 1 0)),(.one (.aK 3 0))])),(bX 120 [(.mp 2)]),(some (.map .u64 .i64 e)),(bX 120 [(.mp 4)]),(some (.map .u64 .i64 p2)),(bX 105 [(lu a2),(li a3),(lu a4)])],5,none,false,[],[]⟩
def WL (p0:List ak) (b p2:Γc) (a0 a:Bool) (a2:Int):AS SS:= {CW p0 b p2 a0 a2 with env:=[(11,(vb a0)),(1,(vc 0)),(5,(vb a)),(8,(vd 51 p0)),(9,(vl p0)),(10,(vi a2))]}
def mm (sh:Sh) (p0:List ak) (c p2:Γc) (b:Int) (z0:ak) (a:Bool):T (Bool⊕(Bool×Bool×Int×Int×Int×ak×Bool×Bool×Int)⊕(Bool×Bool×Int)):=
 .bf ((match bw c z0.aa with
 |some x=>x
 |none=>0)==
 1) (
  .bf (!(match bw p2 z0.cf with
   |some x=>x
   |none=>0)==
   1) (
   .ok (.inr (.inl ((!(match bw p2 z0.cf with
   |some x=>x
   |none=>0)==
   1),((match bw p2 z0.cf with
 |some x=>x
 |none=>0)==
 1),z0.aa,z0.bA,z0.cf,z0,(decide (b<(↑p0.length:Int))),a,b))))<|
  .ok (.inl ((match bw p2 z0.cf with
 |some x=>x
 |none=>0)==
 1)))<|
 .ok (.inr (.inl (true,false,z0.aa,z0.bA,z0.cf,z0,(decide (b<(↑p0.length:Int))),a,b)))
def w9 (sh:Sh) (p0:List ak) (c p2:Γc) (b:Int) (a:Bool):T ((Bool×Bool×Int×Int×Int×ak×Bool×Bool×Int)⊕(Bool×Bool×Int)):=.ok (.inr ((decide (b<(↑p0.length:Int))),a,b))
def zE (p0:List ak) (a p2:Γc) (b:Bool):=b8 sh (mm sh p0 a p2) (w9 sh p0 a p2) p0 b
def Tp {R} (k:KX SS R) (p0:List ak) (a p2:Γc) (x:(Bool×Bool×Int×Int×Int×ak×Bool×Bool×Int)⊕(Bool×Bool×Int)):Option R:=(λx=>θ (λv=>k (.exit 0) (WK p0 a p2 v.1 v.2.1 v.2.2.1 v.2.2.2.1 v.2.2.2.2.1 v.2.2.2.2.2.1 v.2.2.2.2.2.2.1 v.2.2.2.2.2.2.2.1 v.2.2.2.2.2.2.2.2)) (λv=>k (.exit 0) (WL p0 a p2 v.1 v.2.1 v.2.2)) x) x
def La:bc SS:=br 4 (λst=>(cg st 0 65).bind λ_=>(bo 51 (aJ st 8 0)).bind λp0=>(gw st 2).bind λa=>(gw st 4).bind λp2=>(k_ (aJ st 5 0)).bind λb=>some (p0,a,p2,b)) (u4 Of) (u4 (zE shut)) (λk p=>Tp k p.1 p.2.1 p.2.2.1)
def Ge:=bL (yw shut) aq ζo 41 [K2,K1]
theorem Gf:a7 Ge γ:=(a7.hG (aj.all rQ rfl) Tryz.func41 rfl aY λc a=>by cases a;exact aO.cons (aO.cons (aO.nil) (by kernel_rfl) abt) (by kernel_rfl) abu)
theorem abE:LS KK γ aq Tryz.f64 64 4 La:=
 aZ.cd (π:=List ak×(Γc)×(Γc)×Bool) (σ:=Bool) Gf (aO.nil) rfl 60 (λp i a=>CW p.1 p.2.1 p.2.2.1 a i) (λp=>p.1) (λp=>p.2.2.2) (St:=λp=>mm shut p.1 p.2.1 p.2.2.1) (F:=λp=>w9 shut p.1 p.2.1 p.2.2.1) (λp=>rfl)
  (λm p i a k=>by kernel_rfl) (by rintro p (x|x)<;>exact⟨_,_,λ_=>rfl⟩) (λp N C A O w a b=>cL b (t:=51) (sl:=8) rfl λv h=>h)
def CX (p0:List aD) (a:Γc) (p2:Bool) (b:Int):AS SS:=⟨[(1,(vc 0)),(5,(vb p2)),(8,(vd 55 p0)),(9,(vl p0)),(10,(vi b))],[(some (.aM 67 [] [(.one (.aK 1 0))])),(bX 120 [(.mp 2)]),(some (.map .u64 .i64 a))],3,none,false,[],[]⟩
def E6 (p0:List aD) (a:Γc) (p2:Bool):AS SS:=CX p0 a p2 0
def WM (p0:List aD) (d:Γc) (a0 a:Bool) (a2 a3:Int) (a4:aD) (a5 b:Bool) (c:Int):AS SS:=⟨[(18,(vb a0)),(17,(vb a)),(5,(vb a)),(16,(vb a)),(15,(.s (.agg [(lu a2),(lu a3)]))),(14,(vc 0)),(7,(va 3 0)),(13,(.s (.agg [(lu a2),(lu a3)]))),(12,(vs (.ptr 127 a4 0))),(11,(vb a5)),(1,(vc 0)),(5,(vb b)),(8,(vd 55 p0)),(9,(vl p0)),(10,(vi c))],[(some (.aM 67 [] [(.one (.aK 1 0))])),(bX 120 [(.mp 2)]),(some (.map .u64 .i64 d)),(bX 127 [(lu a2),(lu a3)])],3,none,false,[],[]⟩
def WN (p0:List aD) (b:Γc) (a0 a:Bool) (a2:Int):AS SS:= {CX p0 b a0 a2 with env:=[(11,(vb a0)),(1,(vc 0)),(5,(vb a)),(8,(vd 55 p0)),(9,(vl p0)),(10,(vi a2))]}
def mn (sh:Sh) (p0:List aD) (b:Γc) (c:Int) (z0:aD) (a:Bool):T (Bool⊕(Bool×Bool×Int×Int×aD×Bool×Bool×Int)⊕(Bool×Bool×Int)):=
 .bf (!(match bw b z0.aa with
   |some x=>x
   |none=>0)==
   1) (
  .ok (.inr (.inl ((!(match bw b z0.aa with
   |some x=>x
   |none=>0)==
   1),((match bw b z0.aa with
 |some x=>x
 |none=>0)==
 1),z0.a1,z0.aa,z0,(decide (c<(↑p0.length:Int))),a,c))))<|
 .ok (.inl ((match bw b z0.aa with
 |some x=>x
 |none=>0)==
 1))
def w_ (sh:Sh) (p0:List aD) (c:Γc) (b:Int) (a:Bool):T ((Bool×Bool×Int×Int×aD×Bool×Bool×Int)⊕(Bool×Bool×Int)):=.ok (.inr ((decide (b<(↑p0.length:Int))),a,b))
def r5 (p0:List aD) (a:Γc) (p2:Bool):=b8 sh (mn sh p0 a) (w_ sh p0 a) p0 p2
def Tq {R} (k:KX SS R) (p0:List aD) (a:Γc) (x:(Bool×Bool×Int×Int×aD×Bool×Bool×Int)⊕(Bool×Bool×Int)):Option R:=(λx=>θ (λv=>k (.exit 0) (WM p0 a v.1 v.2.1 v.2.2.1 v.2.2.2.1 v.2.2.2.2.1 v.2.2.2.2.2.1 v.2.2.2.2.2.2.1 v.2.2.2.2.2.2.2)) (λv=>k (.exit 0) (WN p0 a v.1 v.2.1 v.2.2)) x) x
def Lb:bc SS:=br 4 (λst=>(cg st 0 67).bind λ_=>(bo 55 (aJ st 8 0)).bind λp0=>(gw st 2).bind λa=>(k_ (aJ st 5 0)).bind λp2=>some (p0,a,p2)) (u3 E6) (u3 (r5 shut)) (λk p=>Tq k p.1 p.2.1)
def Gg:=bL Ge aq Tryz.f64 64 [La]
theorem Gi:a7 Gg γ:=bO Gf Tryz.func64 rfl aY (by kernel_rfl) abE
theorem abF:LS KK γ aq Tryz.f66 66 4 Lb:=
 aZ.cd (π:=List aD×(Γc)×Bool) (σ:=Bool) Gi (aO.nil) rfl 60 (λp i a=>CX p.1 p.2.1 a i) (λp=>p.1) (λp=>p.2.2) (St:=λp=>mn shut p.1 p.2.1) (F:=λp=>w_ shut p.1 p.2.1) (λp=>rfl)
  (λm p i a k=>by kernel_rfl) (by rintro p (x|x)<;>exact⟨_,_,λ_=>rfl⟩) (λp N C A O w a b=>cL b (t:=55) (sl:=8) rfl λv h=>h)
def CY (p0:List aw) (a:Γc) (p2:Bool) (b:Int):AS SS:=⟨[(1,(vc 0)),(5,(vb p2)),(8,(vd 56 p0)),(9,(vl p0)),(10,(vi b))],[(some (.aM 69 [] [(.one (.aK 1 0))])),(bX 120 [(.mp 2)]),(some (.map .u64 .i64 a))],3,none,false,[],[]⟩
def qJ (p0:List aw) (a:Γc) (p2:Bool):AS SS:=CY p0 a p2 0
def WR (p0:List aw) (d:Γc) (a0 a:Bool) (a2:Int) (a3:Γa) (a4:aw) (a5 b:Bool) (c:Int):AS SS:=⟨[(18,(vb a0)),(17,(vb a)),(5,(vb a)),(16,(vb a)),(15,(.s (.agg [(lu a2),(.aH 130 a3)]))),(14,(vc 0)),(7,(va 3 0)),(13,(.s (.agg [(lu a2),(.aH 130 a3)]))),(12,(vs (.ptr 132 a4 0))),(11,(vb a5)),(1,(vc 0)),(5,(vb b)),(8,(vd 56 p0)),(9,(vl p0)),(10,(vi c))],[(some (.aM 69 [] [(.one (.aK 1 0))])),(bX 120 [(.mp 2)]),(some (.map .u64 .i64 d)),(bX 132 [(lu a2),(.aH 130 a3)])],3,none,false,[],[]⟩
def WS (p0:List aw) (b:Γc) (a0 a:Bool) (a2:Int):AS SS:= {CY p0 b a0 a2 with env:=[(11,(vb a0)),(1,(vc 0)),(5,(vb a)),(8,(vd 56 p0)),(9,(vl p0)),(10,(vi a2))]}
def mo (sh:Sh) (p0:List aw) (b:Γc) (c:Int) (z0:aw) (a:Bool):T (Bool⊕(Bool×Bool×Int×Γa×aw×Bool×Bool×Int)⊕(Bool×Bool×Int)):=
 .bf (!(match bw b z0.aa with
   |some x=>x
   |none=>0)==
   1) (
  .ok (.inr (.inl ((!(match bw b z0.aa with
   |some x=>x
   |none=>0)==
   1),((match bw b z0.aa with
 |some x=>x
 |none=>0)==
 1),z0.aa,z0.a6,z0,(decide (c<(↑p0.length:Int))),a,c))))<|
 .ok (.inl ((match bw b z0.aa with
 |some x=>x
 |none=>0)==
 1))
def xa (sh:Sh) (p0:List aw) (c:Γc) (b:Int) (a:Bool):T ((Bool×Bool×Int×Γa×aw×Bool×Bool×Int)⊕(Bool×Bool×Int)):=.ok (.inr ((decide (b<(↑p0.length:Int))),a,b))
def me (p0:List aw) (a:Γc) (p2:Bool):=b8 sh (mo sh p0 a) (xa sh p0 a) p0 p2
def Ts {R} (k:KX SS R) (p0:List aw) (a:Γc) (x:(Bool×Bool×Int×Γa×aw×Bool×Bool×Int)⊕(Bool×Bool×Int)):Option R:=(λx=>θ (λv=>k (.exit 0) (WR p0 a v.1 v.2.1 v.2.2.1 v.2.2.2.1 v.2.2.2.2.1 v.2.2.2.2.2.1 v.2.2.2.2.2.2.1 v.2.2.2.2.2.2.2)) (λv=>k (.exit 0) (WS p0 a v.1 v.2.1 v.2.2)) x) x
def Lc:bc SS:=br 4 (λst=>(cg st 0 69).bind λ_=>(bo 56 (aJ st 8 0)).bind λp0=>(gw st 2).bind λa=>(k_ (aJ st 5 0)).bind λp2=>some (p0,a,p2)) (u3 qJ) (u3 (me shut)) (λk p=>Ts k p.1 p.2.1)
def Gj:=bL Gg aq Tryz.f66 66 [Lb]
theorem Gk:a7 Gj γ:=bO Gi Tryz.func66 rfl aY (by kernel_rfl) abF
theorem abG:LS KK γ aq Tryz.f68 68 4 Lc:=
 aZ.cd (π:=List aw×(Γc)×Bool) (σ:=Bool) Gk (aO.nil) rfl 60 (λp i a=>CY p.1 p.2.1 a i) (λp=>p.1) (λp=>p.2.2) (St:=λp=>mo shut p.1 p.2.1) (F:=λp=>xa shut p.1 p.2.1) (λp=>rfl)
  (λm p i a k=>by kernel_rfl) (by rintro p (x|x)<;>exact⟨_,_,λ_=>rfl⟩) (λp N C A O w a b=>cL b (t:=56) (sl:=8) rfl λv h=>h)
def QU:=bL Gj aq Tryz.f68 68 [Lc]
theorem QV:a7 QU γ:=bO Gk Tryz.func68 rfl aY (by kernel_rfl) abG
def AA (s:bb):T Int:=.bd (j_ sh s.az) λi=>.bf (i !=0) (.ok 360)<|.bd (il sh s.aV) λj=>.bf (j !=0) (.ok 360)<|.bd (pH sh s.aI) λk=>.bf (k !=0) (.ok 360)<|.bd (jr sh s.aB) λl=>.bf (l !=0) (.ok 360)<|.gd (N9 s.az.ae s.az.aS s.aV s.aI.ae s.aI.bp s.aB.au s.aB.ao [])<|.bd (r3 sh s.az.ae s.az.aS s.aV s.aI.ae s.aI.bp s.aB.au s.aB.ao []) λa=>.gd (N8 s.aI.ae s.az.aS s.az.ae s.aV s.aI.bp s.aB.au s.aB.ao a.2.2 [])<|.bd (r2 sh s.aI.ae s.az.aS s.az.ae s.aV s.aI.bp s.aB.au s.aB.ao a.2.2 []) λg=>.gd (Of s.aV a.2.2 g.2.2 true)<|.bd (zE sh s.aV a.2.2 g.2.2 true) λh=>.cs h (λe=>.gd (E6 s.aB.au a.2.2 true)<|.bd (r5 sh s.aB.au a.2.2 true) λf=>.cs f (λd=>.bf (!e.2.1) (.ok 360)<|.bf (!d.2.1) (.ok 360)<|.gd (qJ s.aB.ao a.2.2 true)<|.bd (me sh s.aB.ao a.2.2 true) λc=>.cs c (λb=>.bf (!b.2.1) (.ok 360)<|.ok 0) λb=>.bf (!b.2.1) (.ok 360)<|.ok 0) λd=>.bf (!e.2.1) (.ok 360)<|.bf (!d.2.1) (.ok 360)<|.gd (qJ s.aB.ao a.2.2 true)<|.bd (me sh s.aB.ao a.2.2 true) λc=>.cs c (λb=>.bf (!b.2.1) (.ok 360)<|.ok 0) λb=>.bf (!b.2.1) (.ok 360)<|.ok 0) λe=>.gd (E6 s.aB.au a.2.2 true)<|.bd (r5 sh s.aB.au a.2.2 true) λf=>.cs f (λd=>.bf (!e.2.1) (.ok 360)<|.bf (!d.2.1) (.ok 360)<|.gd (qJ s.aB.ao a.2.2 true)<|.bd (me sh s.aB.ao a.2.2 true) λc=>.cs c (λb=>.bf (!b.2.1) (.ok 360)<|.ok 0) λb=>.bf (!b.2.1) (.ok 360)<|.ok 0) λd=>.bf (!e.2.1) (.ok 360)<|.bf (!d.2.1) (.ok 360)<|.gd (qJ s.aB.ao a.2.2 true)<|.bd (me sh s.aB.ao a.2.2 true) λc=>.cs c (λb=>.bf (!b.2.1) (.ok 360)<|.ok 0) λb=>.bf (!b.2.1) (.ok 360)<|.ok 0
def tv (s:bb):=sh.s _ (AA sh s).val
def yu:=bN (dR KK 41 60 (tv sh) (cx KK 27)) (yw sh)
theorem yv:aj (yu shut) γ:=eh (rs:=[27]) rQ QV rfl rfl λs k=>by kernel_rfl
def Cz (p0:Γa) (a:List ai) (p2 b:Int):AS SS:=⟨[(0,(vs .c4)),(1,(va 4 0)),(9,(vl a)),(10,(vi b))],[(bX 160 [(.bG .i64 16 p0),(.aH 48 a)]),(bX 35 [(lu p2)]),(bX 161 [(.v (.pointer none))]),(some (.aM 142 [] [(.one (.aK 4 0))])),(bX 158 [(.aK 0 0)])],5,(some ⟨⟨μ,aq 97⟩,[9,10],(eP (cr μ) 4),(eQ (cr μ) 4),[(3,(va 1 0)),(4,(va 2 0)),(8,(vc 3))],none⟩),false,[],[]⟩
def NN (p0:Γa) (a:List ai) (p2:Int):AS SS:=Cz p0 a p2 0
def Vm (p0:Γa) (a:List ai) (p2:Int) (a0:ai):AS SS:=⟨[],[(bX 160 [(.bG .i64 16 p0),(.aH 48 a)]),(bX 35 [(lu p2)]),(bX 161 [(.ptr 115 a0 0)]),(some (.aM 142 [] [(.one (.aK 4 0))])),(bX 158 [(.aK 0 0)])],5,(some ⟨⟨μ,aq 97⟩,[9,10],(eP (cr μ) 4),(eQ (cr μ) 4),[(3,(va 1 0)),(4,(va 2 0)),(8,(vc 3))],(some .ret)⟩),false,[],[2]⟩
def Vn (p0:Γa) (a:List ai) (p2:Int) (a0:Bool) (b:Int):AS SS:= {Cz p0 a p2 p2 with env:=[(11,(vb a0)),(0,(vs .c4)),(1,(va 4 0)),(9,(vl a)),(10,(vi b))]}
def r' (sh:Sh) (p0:Γa) (b:List ai) (p2 c:Int) (z0:ai) (a:Unit):T (Unit⊕ai⊕(Bool×Int)):=.bf (z0.aa==p2) (.ok (.inr (.inl z0)))<|.ok (.inl ())
def q5 (sh:Sh) (p0:Γa) (c:List ai) (p2 b:Int) (a:Unit):T (ai⊕(Bool×Int)):=.ok (.inr ((decide (b<(↑c.length:Int))),b))
def yW (p0:Γa) (a:List ai) (p2:Int):=b8 sh (r' sh p0 a p2) (q5 sh p0 a p2) a ()
def Sr {R} (k:KX SS R) (p0:Γa) (a:List ai) (p2:Int) (x:ai⊕(Bool×Int)):Option R:=(λx=>θ (λv=>k .ret (Vm p0 a p2 v)) (λv=>k (.exit 0) (Vn p0 a p2 v.1 v.2)) x) x
def Km:bc SS:=br 2 (λst=>((cg st 3 142).bind λ_=>gA st 18 4).bind λ_=>(fX (bj st 0 0)).bind λp0=>(bo 48 (bj st 0 1)).bind λa=>(aU (bj st 1 0)).bind λp2=>some (p0,a,p2)) (u3 NN) (u3 (yW shut)) (λk=>u3 (Sr k))
theorem aaT:LS KK γ aq χ 142 2 Km:=
 aZ.cd (aj.all yv rfl) (aO.nil) rfl 60 (λp i a=>u3 Cz p i) (λp=>p.2.1) (λp=>()) (St:=u3 (r' shut)) (F:=u3 (q5 shut)) (λp=>rfl)
  (λm p i a k=>by kernel_rfl) (by rintro p (x|x)<;>exact⟨_,_,λ_=>rfl⟩) (λp N C A O w a b=>DD b (j:=0) (n:=1) (t:=48) rfl rfl λv h=>h)
def PN:=bL (yu shut) aq χ 142 [Km]
theorem PO:a7 PN γ:=bO (aj.all yv rfl) ξ1 rfl aY (by kernel_rfl) aaT
def zZ (p:bF) (pid:Int):T (ai×Bool):=.bd (j_ sh p) λb=>.bf (b !=0) (.ok (⟨0,0,false,0⟩,false))<|.gd (NN p.aS p.ae pid)<|.bd (yW sh p.aS p.ae pid) λx4=>.cs x4 (λa=>.ok (a,true)) λa=>.ok (⟨0,0,false,0⟩,false)
def B0 (p:bF) (pid:Int):=sh.s _ (zZ sh p pid).val
def GB:=bN (c6 KK 108 50 35 (B0 sh) (eN KK 115 4)) (yu sh)
theorem GC:aj (GB shut) γ:=de (rs:=[115,4]) yv PO rfl rfl λp pid k=>by kernel_rfl
def AO (p:bF) (pid:Int):T Bool:=.bd (B0 sh p pid) λa=>.bf (a.2) (.ok (!a.1.bl))<|.ok false
def pI (p:bF) (pid:Int):=sh.s _ (AO sh p pid).val
def ov:=bN (c6 KK 73 50 35 (pI sh) (cx KK 4)) (GB sh)
theorem ow:aj (ov shut) γ:=de (rs:=[4]) GC (aj.all GC rfl) rfl rfl λp pid k=>by kernel_rfl
def CA (p0:Γa) (a:List ai) (p2 b:Int):AS SS:=⟨[(0,(vs .c4)),(1,(va 5 0)),(9,(vl a)),(10,(vi b))],[(bX 160 [(.bG .i64 16 p0),(.own 1)]),(rX 115 a),(bX 35 [(lu p2)]),(bX 161 [(.v (.pointer none))]),(some (.aM 142 [] [(.one (.aK 5 0))])),(bX 158 [(.aK 0 0)])],6,(some ⟨⟨μ,aq 97⟩,[9,10],(eP (cr μ) 4),(eQ (cr μ) 4),[(3,(va 2 0)),(4,(va 3 0)),(8,(vc 4))],none⟩),false,[],[]⟩
def NO (p0:Γa) (a:List ai) (p2:Int):AS SS:=CA p0 a p2 0
def Vo (p0:Γa) (a:List ai) (p2:Int) (a0:Nat):AS SS:=⟨[],[(bX 160 [(.bG .i64 16 p0),(.own 1)]),(rX 115 a),(bX 35 [(lu p2)]),(bX 161 [(.dY 115 1 a0 0)]),(some (.aM 142 [] [(.one (.aK 5 0))])),(bX 158 [(.aK 0 0)])],6,(some ⟨⟨μ,aq 97⟩,[9,10],(eP (cr μ) 4),(eQ (cr μ) 4),[(3,(va 2 0)),(4,(va 3 0)),(8,(vc 4))],(some .ret)⟩),false,[],[3]⟩
def Vp (p0:Γa) (a:List ai) (p2:Int) (a0:Bool) (b:Int):AS SS:= {CA p0 a p2 p2 with env:=[(11,(vb a0)),(0,(vs .c4)),(1,(va 5 0)),(9,(vl a)),(10,(vi b))]}
def HD (sh:Sh) (p0:Γa) (c:List ai) (p2 b:Int) (z0:ai) (a:Unit):T (Unit⊕Nat⊕(Bool×Int)):=.bd (c[b.toNat]?) λd=>.bf (d.aa==p2) (.ok (.inr (.inl b.toNat)))<|.ok (.inl ())
def w3 (sh:Sh) (p0:Γa) (c:List ai) (p2 b:Int) (a:Unit):T (Nat⊕(Bool×Int)):=.ok (.inr ((decide (b<(↑c.length:Int))),b))
def yX (p0:Γa) (a:List ai) (p2:Int):=b8 sh (HD sh p0 a p2) (w3 sh p0 a p2) a ()
def Ss {R} (k:KX SS R) (p0:Γa) (a:List ai) (p2:Int) (x:Nat⊕(Bool×Int)):Option R:=(λx=>θ (λv=>k .ret (Vo p0 a p2 v)) (λv=>k (.exit 0) (Vp p0 a p2 v.1 v.2)) x) x
def Dt:bc SS:=br 2 (λst=>((cg st 4 142).bind λ_=>gA st 18 4).bind λ_=>(fX (bj st 0 0)).bind λp0=>(b3 st 1 115).bind λa=>(aU (bj st 2 0)).bind λp2=>some (p0,a,p2)) (u3 NO) (u3 (yX shut)) (λk=>u3 (Ss k))
theorem Es:LS KK γ aq χ 142 2 Dt:=
 aZ.cd (aj.all ow rfl) (aO.nil) rfl 60 (λp i a=>u3 CA p i) (λp=>p.2.1) (λp=>()) (St:=u3 (HD shut)) (F:=u3 (w3 shut)) (λp=>rfl)
  (λm p i a k=>by kernel_rfl) (by rintro p (x|x)<;>exact⟨_,_,λ_=>rfl⟩) (λp N C A O w a b=>lB (j:=1) b rfl)
def tZ (p0:List ai) (a p2:Int):AS SS:=⟨[(0,(vo 0)),(1,(vc 1)),(7,(vl p0)),(8,(vi p2))],[(rX 115 p0),(some (.aM 256 [] [(.one (.aK 2 0))])),(bX 3 [(li a)])],3,none,false,[],[]⟩
def NZ (p0:List ai) (a:Int):AS SS:=tZ p0 a 0
def V6 (p0:List ai) (a a0:Int):AS SS:= {tZ p0 a a with env:=[(4,(vi a0))]}
def V7 (p0:List ai) (a:Int) (a0:Bool) (b:Int):AS SS:= {tZ p0 a a with env:=[(9,(vb a0)),(0,(vo 0)),(1,(vc 1)),(7,(vl p0)),(8,(vi b))]}
def sm (p0:List ai) (b p2:Int) (z0:ai) (a:Unit):T (Unit⊕Int⊕(Bool×Int)):=.bd (p0[p2.toNat]?) λd=>.bd (k' sh d.aa) λc=>.bf (c==δ.wrap (b+1)) (.ok (.inr (.inl p2)))<|.ok (.inl ())
def ri (sh:Sh) (p0:List ai) (b p2:Int) (a:Unit):T (Int⊕(Bool×Int)):=.ok (.inr ((decide (p2<(↑p0.length:Int))),p2))
def zh (p0:List ai) (a:Int):=b8 sh (sm sh p0 a) (ri sh p0 a) p0 ()
def SZ {R} (k:KX SS R) (p0:List ai) (a:Int) (x:Int⊕(Bool×Int)):Option R:=(λx=>θ (λv=>k .ret (V6 p0 a v)) (λv=>k (.exit 0) (V7 p0 a v.1 v.2)) x) x
def Dy:bc SS:=br 3 (λst=>(cg st 1 256).bind λ_=>(b3 st 0 115).bind λp0=>(aU (bj st 2 0)).bind λa=>some (p0,a)) (u2 NZ) (u2 (zh shut)) (λk=>u2 (SZ k))
def wR:=bL (ov shut) aq χ 142 [Dt]
theorem FR:a7 wR γ:=bO (aj.all ow rfl) ξ1 rfl aY (by kernel_rfl) Es
theorem MJ:LS KK γ aq ξS 257 3 Dy:=
 aZ.cd FR (aO.nil) rfl 60 (λp i a=>u2 tZ p i) (λp=>p.1) (λp=>()) (St:=u2 (sm shut)) (F:=u2 (ri shut)) (λp=>rfl)
  (λm p i a k=>by kernel_rfl) (by rintro p (x|x)<;>exact⟨_,_,λ_=>rfl⟩) (λp N C A O w a b=>lB (j:=0) b rfl)
def tS (p0:Γa) (a:List ai) (p2:Int):AS SS:=⟨[(0,(va 0 0)),(3,(va 2 0))],[(bX 160 [(.bG .i64 16 p0),(.own 1)]),(rX 115 a),(bX 3 [(li p2)])],2,none,false,[],[]⟩
def VO (p0:Γa) (b:List ai) (a0:Bool) (a:Int):AS SS:=xe [(6,(vb a0)),(5,(vi a))] (tS p0 b a)
def VP (p0:Γa) (c:List ai) (a0:Bool) (a:Int) (a2:Nat) (a3:Int) (a4 a5 b:Bool):AS SS:=⟨[(26,(vb a0)),(25,(vb a0)),(17,(vb true)),(24,(vi a)),(17,(vb true)),(23,(vs (.e8 0 0 16 a2))),(17,(vb true)),(22,(va 0 0)),(17,(vb true)),(21,(va 0 0)),(17,(vb true)),(20,(va 0 0)),(17,(vb true)),(19,(vi a3)),(17,(vb true)),(18,(va 0 0)),(17,(vb true)),(17,(vb a4)),(16,(vb a4)),(15,(vb a5)),(4,(vb a5)),(14,(vb a5)),(13,(vc 3)),(12,(vo 1)),(11,(va 0 16)),(10,(va 0 0)),(9,(va 0 0)),(8,(va 0 0)),(7,(.bn [])),(6,(vb b)),(5,(vi a3)),(0,(va 0 0)),(3,(va 2 0))],[(bX 160 [(.bG .i64 16 p0),(.own 1)]),(rX 115 c),(bX 3 [(li a3)]),(some (.aM 256 [] [(.one (.aK 2 0))]))],2,none,false,[],[]⟩
def mj (p0:Γa) (d:List ai) (a:Int):T (Int⊕(Bool×Int)⊕(Bool×Int×Nat×Int×Bool×Bool×Bool)):=.bf (!decide (a<16)) (.ok (.inr (.inl ((decide (a<16)),a))))<|.gd (NZ d a)<|.bd (zh sh d a) λx3=>.cs x3 (λc=>.bf (!decide (c>=0)) (.bd (ew a 16) λb=>.bf (decide (ay p0 b<=65535)) (.ok (.inr (.inr ((decide (ay p0 b<=65535)),(ay p0 b),b,a,(!decide (c>=0)),(decide (c>=0)),(decide (a<16))))))<|.ok (.inl (δ.wrap (a+1))))<|.ok (.inl (δ.wrap (a+1)))) λc=>.bd (ew a 16) λb=>.bf (decide (ay p0 b<=65535)) (.ok (.inr (.inr ((decide (ay p0 b<=65535)),(ay p0 b),b,a,true,false,(decide (a<16))))))<|.ok (.inl (δ.wrap (a+1)))
def y7 (p0:Γa) (a:List ai) (p2:Int):=bJ sh (mj sh p0 a) 1000000 p2
def SH {R} (k:KX SS R) (p0:Γa) (a:List ai) (x:(Bool×Int)⊕(Bool×Int×Nat×Int×Bool×Bool×Bool)):Option R:=(λx=>θ (λv=>k (.bq (.iface 27 (.int .i64 322))) (VO p0 a v.1 v.2)) (λv=>k (.exit 0) (VP p0 a v.1 v.2.1 v.2.2.1 v.2.2.2.1 v.2.2.2.2.1 v.2.2.2.2.2.1 v.2.2.2.2.2.2)) x) x
def Dw:bc SS:=br 3 (λst=>(fX (bj st 0 0)).bind λp0=>(b3 st 1 115).bind λa=>(aU (bj st 2 0)).bind λp2=>some (p0,a,p2)) (u3 tS) (u3 (y7 shut)) (λk p=>SH k p.1 p.2.1)
def PY:=bL wR aq ξS 257 [Dy]
theorem PZ:a7 PY γ:=bO FR ζ8 rfl aY (by kernel_rfl) MJ
theorem MH:LS KK γ aq ζ9 193 3 Dw:=
 aZ.bJ (π:=Γa×List ai×Int) (σ:=Int) PZ (aO.nil) rfl 60 (λp a=>tS p.1 p.2.1 a) (λp=>p.2.2) (St:=λp=>mj shut p.1 p.2.1) (λp=>1000000) (λp=>rfl)
  (λm p a k=>by kernel_rfl)
def t_ (p0:List ai) (a p2 b:Int):AS SS:=⟨[(0,(vo 0)),(1,(vc 1)),(7,(vl p0)),(8,(vi b))],[(rX 115 p0),(some (.aM 258 [] [(.one (.aK 2 0))])),(bX 115 [(lu a),(lu p2),(.v (.bool false)),(lu 0)])],3,none,false,[],[]⟩
def N0 (p0:List ai) (a p2:Int):AS SS:=t_ p0 a p2 0
def V8 (p0:List ai) (a p2 a0:Int):AS SS:= {t_ p0 a p2 a with env:=[(4,(vi a0))]}
def V9 (p0:List ai) (a p2:Int) (a0:Bool) (b:Int):AS SS:= {t_ p0 a p2 a with env:=[(9,(vb a0)),(0,(vo 0)),(1,(vc 1)),(7,(vl p0)),(8,(vi b))]}
def sn (p0:List ai) (c p2 b:Int) (z0:ai) (a:Unit):T (Unit⊕Int⊕(Bool×Int)):=.bd (p0[b.toNat]?) λf=>.bd (k' sh f.aa) λd=>.bd (k' sh c) λe=>.bf (decide (d>e)) (.ok (.inr (.inl b)))<|.ok (.inl ())
def rj (sh:Sh) (p0:List ai) (c p2 b:Int) (a:Unit):T (Int⊕(Bool×Int)):=.ok (.inr ((decide (b<(↑p0.length:Int))),b))
def zi (p0:List ai) (a p2:Int):=b8 sh (sn sh p0 a p2) (rj sh p0 a p2) p0 ()
def S0 {R} (k:KX SS R) (p0:List ai) (a p2:Int) (x:Int⊕(Bool×Int)):Option R:=(λx=>θ (λv=>k .ret (V8 p0 a p2 v)) (λv=>k (.exit 0) (V9 p0 a p2 v.1 v.2)) x) x
def KM:bc SS:=br 3 (λst=>(cg st 1 258).bind λ_=>(b3 st 0 115).bind λp0=>(aU (bj st 2 0)).bind λa=>(aU (bj st 2 1)).bind λp2=>some (p0,a,p2)) (u3 N0) (u3 (zi shut)) (λk=>u3 (S0 k))
def P0:=bL wR aq ζ9 193 [Dw]
theorem P1:a7 P0 γ:=bO (a7.hG (aj.all ow rfl) ξ1 rfl aY λc a=>by cases a;exact aO.cons (aO.nil) (by kernel_rfl) Es) ζa rfl aY (by kernel_rfl) MH
theorem abe:LS KK γ aq ξS 257 3 KM:=
 aZ.cd P1 (aO.nil) rfl 60 (λp i a=>u3 t_ p i) (λp=>p.1) (λp=>()) (St:=u3 (sn shut)) (F:=u3 (rj shut)) (λp=>rfl)
  (λm p i a k=>by kernel_rfl) (by rintro p (x|x)<;>exact⟨_,_,λ_=>rfl⟩) (λp N C A O w a b=>lB (j:=0) b rfl)
def P2:bE SS:= {(ov shut) with T:=h2 (h2 (h2 ((ov shut).T) 142 ⟨⟨χ,aq 142⟩,[Dt]⟩) 257 ⟨⟨ξS,aq 257⟩,[mA (λst=>cg st 1 256) Dy (KM)]⟩) 193 ⟨⟨ζ9,aq 193⟩,[Dw]⟩}
theorem P3:a7 P2 γ:=bO (a7.hG (a7.hG (aj.all ow rfl) ξ1 rfl aY λc a=>by cases a;exact aO.cons (aO.nil) (by kernel_rfl) Es) ζ8 rfl aY λc a=>by cases a;exact aO.cons (aO.nil) (by kernel_rfl) (aZ.alt MJ abe)) ζa rfl aY (by kernel_rfl) MH
def z8 (p:bF) (parent:Int):T (bF×Int×Int):=.bd (j_ sh p) λi=>.bf (!i==0) (.ok (⟨[0,0,0,0,0,0,0,0,0,0,0,0,0,0,0,0],[]⟩,0,320))<|.bd (app 32 [] p.ae) λb=>.gd (NO p.aS b parent)<|.bd (yX sh p.aS b parent) λx5=>.cs x5 (λf=>.bd (b[f]?) λz3=>.bf (!!z3.bl) (.ok (⟨[0,0,0,0,0,0,0,0,0,0,0,0,0,0,0,0],[]⟩,0,321))<|.gd (tS p.aS b 0)<|.bd (y7 sh p.aS b 0) λh=>.cs h (λa=>.ok (⟨[0,0,0,0,0,0,0,0,0,0,0,0,0,0,0,0],[]⟩,0,322)) λa=>.bd (ew a.2.2.2.1 16) λz5=>.bd (ew a.2.2.2.1 16) λd=>.bd (ew a.2.2.2.1 16) λe=>.bf (true&&p.aS.length.beq 16) (.gd (N0 b (ζ.wrap (δ.wrap (δ.wrap (δ.wrap (ay p.aS z5*64)+a.2.2.2.1)+1))) parent)<|.bd (zi sh b (ζ.wrap (δ.wrap (δ.wrap (δ.wrap (ay p.aS z5*64)+a.2.2.2.1)+1))) parent) λg=>.cs g (λc=>.bf (decide (c<0)) (.bd (lz b (↑b.length:Int) [ai.mk (ζ.wrap (δ.wrap (δ.wrap (δ.wrap (ay p.aS z5*64)+a.2.2.2.1)+1))) parent false 0]) λz9=>.ok (⟨(p.aS.set e (δ.wrap (ay p.aS d+1))),z9⟩,(ζ.wrap (δ.wrap (δ.wrap (δ.wrap (ay p.aS z5*64)+a.2.2.2.1)+1))),0))<|.bd (lz b c [ai.mk (ζ.wrap (δ.wrap (δ.wrap (δ.wrap (ay p.aS z5*64)+a.2.2.2.1)+1))) parent false 0]) λz9=>.ok (⟨(p.aS.set e (δ.wrap (ay p.aS d+1))),z9⟩,(ζ.wrap (δ.wrap (δ.wrap (δ.wrap (ay p.aS z5*64)+a.2.2.2.1)+1))),0)) λc=>.bd (lz b (↑b.length:Int) [ai.mk (ζ.wrap (δ.wrap (δ.wrap (δ.wrap (ay p.aS z5*64)+a.2.2.2.1)+1))) parent false 0]) λz9=>.ok (⟨(p.aS.set e (δ.wrap (ay p.aS d+1))),z9⟩,(ζ.wrap (δ.wrap (δ.wrap (δ.wrap (ay p.aS z5*64)+a.2.2.2.1)+1))),0))<|.no) λf=>.ok (⟨[0,0,0,0,0,0,0,0,0,0,0,0,0,0,0,0],[]⟩,0,321)
def s' (p:bF) (parent:Int):=sh.s _ (z8 sh p parent).val
def ma:=bN (c6 KK 147 50 35 (s' sh) (ni KK 50 35 27)) (ov sh)
theorem ou:aj (ma shut) γ:=de (rs:=[50,35,27]) ow P3 rfl rfl λp parent k=>by kernel_rfl
def CB (p0:Γa) (a:List ai) (p2 b:Int):AS SS:=⟨[(0,(vs .c4)),(1,(va 5 0)),(9,(vl a)),(10,(vi b))],[(bX 160 [(.bG .i64 16 p0),(.own 1)]),(rX 115 a),(bX 35 [(lu p2)]),(bX 161 [(.v (.pointer none))]),(some (.aM 142 [] [(.one (.aK 5 0))])),(bX 158 [(.aK 0 0)])],6,(some ⟨⟨μ,aq 97⟩,[9,10],(eP (cr μ) 4),(eQ (cr μ) 4),[(3,(va 2 0)),(4,(va 3 0)),(8,(vc 4))],none⟩),false,[],[]⟩
def NQ (p0:Γa) (a:List ai) (p2:Int):AS SS:=CB p0 a p2 0
def Vq (p0:Γa) (a:List ai) (p2:Int) (a0:Nat):AS SS:=⟨[],[(bX 160 [(.bG .i64 16 p0),(.own 1)]),(rX 115 a),(bX 35 [(lu p2)]),(bX 161 [(.dY 115 1 a0 0)]),(some (.aM 142 [] [(.one (.aK 5 0))])),(bX 158 [(.aK 0 0)])],6,(some ⟨⟨μ,aq 97⟩,[9,10],(eP (cr μ) 4),(eQ (cr μ) 4),[(3,(va 2 0)),(4,(va 3 0)),(8,(vc 4))],(some .ret)⟩),false,[],[3]⟩
def Vr (p0:Γa) (a:List ai) (p2:Int) (a0:Bool) (b:Int):AS SS:= {CB p0 a p2 p2 with env:=[(11,(vb a0)),(0,(vs .c4)),(1,(va 5 0)),(9,(vl a)),(10,(vi b))]}
def HE (sh:Sh) (p0:Γa) (c:List ai) (p2 b:Int) (z0:ai) (a:Unit):T (Unit⊕Nat⊕(Bool×Int)):=.bd (c[b.toNat]?) λd=>.bf (d.aa==p2) (.ok (.inr (.inl b.toNat)))<|.ok (.inl ())
def w5 (sh:Sh) (p0:Γa) (c:List ai) (p2 b:Int) (a:Unit):T (Nat⊕(Bool×Int)):=.ok (.inr ((decide (b<(↑c.length:Int))),b))
def yY (p0:Γa) (a:List ai) (p2:Int):=b8 sh (HE sh p0 a p2) (w5 sh p0 a p2) a ()
def Su {R} (k:KX SS R) (p0:Γa) (a:List ai) (p2:Int) (x:Nat⊕(Bool×Int)):Option R:=(λx=>θ (λv=>k .ret (Vq p0 a p2 v)) (λv=>k (.exit 0) (Vr p0 a p2 v.1 v.2)) x) x
def Du:bc SS:=br 2 (λst=>((cg st 4 142).bind λ_=>gA st 18 4).bind λ_=>(fX (bj st 0 0)).bind λp0=>(b3 st 1 115).bind λa=>(aU (bj st 2 0)).bind λp2=>some (p0,a,p2)) (u3 NQ) (u3 (yY shut)) (λk=>u3 (Su k))
theorem ME:LS KK γ aq χ 142 2 Du:=
 aZ.cd (aj.all ou rfl) (aO.nil) rfl 60 (λp i a=>u3 CB p i) (λp=>p.2.1) (λp=>()) (St:=u3 (HE shut)) (F:=u3 (w5 shut)) (λp=>rfl)
  (λm p i a k=>by kernel_rfl) (by rintro p (x|x)<;>exact⟨_,_,λ_=>rfl⟩) (λp N C A O w a b=>lB (j:=1) b rfl)
def tT (p0:List ai) (a:Int) (p2:Bool) (b c:Int) (d:List ai):AS SS:=⟨[(1,(vc 1)),(5,(vo 4)),(8,(vo 0)),(9,(vi b)),(10,(vi c))],[(rX 115 p0),(some (.aM 198 [] [(.one (.aK 2 0)),(.one (.aK 3 0))])),(bX 35 [(lu a)]),(bX 4 [(.v (.bool p2))]),(rX 115 d)],4,none,false,[],[]⟩
def VQ (p0:List ai) (a:Int) (p2:Bool) (b:Int) (a0:Bool) (c:Int) (a2:List ai):AS SS:= {tT p0 a p2 b a a2 with env:=[(11,(vb a0)),(1,(vc 1)),(5,(vo 4)),(8,(vo 0)),(9,(vi b)),(10,(vi c))]}
def oP (sh:Sh) (p0:List ai) (c:Int) (p2:Bool) (d:Int) (a:Int×List ai):T ((Int×List ai)⊕(Bool×Int×List ai)):=.bf (decide (a.1<d)) (.bd (idx p0 a.1) λz0=>.bd (p0[a.1.toNat]?) λb=>.bf (b.aa !=c) (.bf (b.aW !=c) (.bd (app 32 a.2 [b]) λz2=>.ok (.inl ((δ.wrap (a.1+1)),z2)))<|.bf (!b.bl) (.bd (app 32 a.2 [b]) λz2=>.ok (.inl ((δ.wrap (a.1+1)),z2)))<|.ok (.inl ((δ.wrap (a.1+1)),a.2)))<|.bf (!p2) (.bf (b.aW !=c) (.bd (app 32 a.2 [b]) λz2=>.ok (.inl ((δ.wrap (a.1+1)),z2)))<|.bf (!b.bl) (.bd (app 32 a.2 [b]) λz2=>.ok (.inl ((δ.wrap (a.1+1)),z2)))<|.ok (.inl ((δ.wrap (a.1+1)),a.2)))<|.ok (.inl ((δ.wrap (a.1+1)),a.2)))<|.ok (.inr ((decide (a.1<d)),a.1,a.2))
def y8 (p0:List ai) (a:Int) (p2:Bool) (b c:Int) (d:List ai):=bJ sh (oP sh p0 a p2 b) 1000000 (c,d)
def SI {R} (k:KX SS R) (p0:List ai) (a:Int) (p2:Bool) (b:Int) (x:(Bool×Int×List ai)):Option R:=(λv=>k (.exit 0) (VQ p0 a p2 b v.1 v.2.1 v.2.2)) x
def Dx:bc SS:=br 4 (λst=>(cg st 1 198).bind λ_=>(b3 st 0 115).bind λp0=>(aU (bj st 2 0)).bind λa=>(k_ (bj st 3 0)).bind λp2=>(aU (aJ st 9 0)).bind λb=>(aU (aJ st 10 0)).bind λc=>(b3 st 4 115).bind λd=>some (p0,a,p2,b,c,d)) (u6 tT) (u6 (y8 shut)) (λk p=>SI k p.1 p.2.1 p.2.2.1 p.2.2.2.1)
def P4:=bL (ma shut) aq χ 142 [Du]
theorem P5:a7 P4 γ:=bO (aj.all ou rfl) ξ1 rfl aY (by kernel_rfl) ME
theorem MI:LS KK γ aq ξF 197 4 Dx:=
 aZ.bJ (π:=List ai×Int×Bool×Int×Int×List ai) (σ:=Int×List ai) P5 (aO.nil) rfl 60 (λp a=>tT p.1 p.2.1 p.2.2.1 p.2.2.2.1 a.1 a.2) (λp=>(p.2.2.2.2.1,p.2.2.2.2.2)) (St:=λp=>oP shut p.1 p.2.1 p.2.2.1 p.2.2.2.1) (λp=>1000000) (λp=>rfl)
  (λm p a k=>by kernel_rfl)
def tM (p0:Γa) (a:List ai) (p2 b:Int) (c:List ai) (d:Int) (e:List ai):AS SS:=⟨[(0,(vs .c4)),(1,(va 6 0)),(9,(vl c)),(10,(vi d))],[(bX 160 [(.bG .i64 16 p0),(.own 4)]),(rX 115 a),(bX 35 [(lu p2)]),(bX 35 [(lu b)]),(rX 115 e),(some (.aM 142 [] [(.one (.aK 6 0))])),(bX 158 [(.aK 0 0)])],7,(some ⟨⟨ζb,aq 195⟩,[41,42],(eP (cr ζb) 8),(eQ (cr ζb) 8),[(1,(va 2 0)),(40,(vc 5))],none⟩),false,[],[4]⟩
def Vs (p0:Γa) (c:List ai) (p2 d:Int) (a:List ai) (a0:Bool) (b:Int) (a2:List ai):AS SS:= {tM p0 c p2 d a p2 a2 with env:=[(11,(vb a0)),(0,(vs .c4)),(1,(va 6 0)),(9,(vl a)),(10,(vi b))]}
def oK (sh:Sh) (p0:Γa) (d:List ai) (p2 e:Int) (b:List ai) (a:Int×List ai):T ((Int×List ai)⊕(Bool×Int×List ai)):=.bf (decide (a.1<(↑b.length:Int))) (.bd (idx a.2 a.1) λz0=>.bd (a.2[a.1.toNat]?) λc=>.bf (c.aW==p2) (.bd (a.2[a.1.toNat]?) λz2=>.ok (.inl ((δ.wrap (a.1+1)),(a.2.set a.1.toNat (ai.mk z2.aa 0 z2.bl z2.b_)))))<|.ok (.inl ((δ.wrap (a.1+1)),a.2)))<|.ok (.inr ((decide (a.1<(↑b.length:Int))),a.1,a.2))
def yZ (p0:Γa) (a:List ai) (p2 b:Int) (c:List ai) (d:Int) (e:List ai):=bJ sh (oK sh p0 a p2 b c) 1000000 (d,e)
def Sv {R} (k:KX SS R) (p0:Γa) (a:List ai) (p2 b:Int) (c:List ai) (x:(Bool×Int×List ai)):Option R:=(λv=>k (.exit 0) (Vs p0 a p2 b c v.1 v.2.1 v.2.2)) x
def Kn:bc SS:=gU (λst=>gc (aq 142 2) (eu [4] (st)))<|br 2 (λst=>((cg st 5 142).bind λ_=>gA st 52 8).bind λ_=>(fX (bj st 0 0)).bind λp0=>(b3 st 1 115).bind λa=>(aU (bj st 2 0)).bind λp2=>(aU (bj st 3 0)).bind λb=>(b3 st 4 115).bind λc=>(aU (aJ st 10 0)).bind λd=>(b3 st 4 115).bind λe=>some (p0,a,p2,b,c,d,e)) (u7 tM) (u7 (yZ shut)) (λk p=>Sv k p.1 p.2.1 p.2.2.1 p.2.2.2.1 p.2.2.2.2.1)
def P6:=bL (ma shut) aq ξF 197 [Dx]
theorem P7:a7 P6 γ:=bO (aj.all ou rfl) ξJ rfl aY (by kernel_rfl) MI
theorem aaU:LS KK γ aq χ 142 2 Kn:=aZ.pre (bY.comp (bY.gc (aq 142 2)) (bY.eu [4]))<|
 aZ.bJ (π:=Γa×List ai×Int×Int×List ai×Int×List ai) (σ:=Int×List ai) P7 (aO.nil) rfl 60 (λp a=>tM p.1 p.2.1 p.2.2.1 p.2.2.2.1 p.2.2.2.2.1 a.1 a.2) (λp=>(p.2.2.2.2.2.1,p.2.2.2.2.2.2)) (St:=λp=>oK shut p.1 p.2.1 p.2.2.1 p.2.2.2.1 p.2.2.2.2.1) (λp=>1000000) (λp=>rfl)
  (λm p a k=>by kernel_rfl)
def P8:bE SS:= {(ma shut) with T:=h2 (h2 ((ma shut).T) 142 ⟨⟨χ,aq 142⟩,[mA (λst=>(cg st 4 142).bind λ_=>gA st 18 4) Du (Kn)]⟩) 197 ⟨⟨ξF,aq 197⟩,[Dx]⟩}
theorem P9:a7 P8 γ:=bO (a7.hG (aj.all ou rfl) ξ1 rfl aY λc a=>by cases a;exact aO.cons (aO.nil) (by kernel_rfl) (aZ.alt ME aaU)) ξJ rfl aY (by kernel_rfl) MI
def z_ (p:bF) (pid code:Int):T (bF×Int):=.bd (j_ sh p) λe=>.bf (!e==0) (.ok (⟨[0,0,0,0,0,0,0,0,0,0,0,0,0,0,0,0],[]⟩,320))<|.bd (app 32 [] p.ae) λb=>.gd (NQ p.aS b pid)<|.bd (yY sh p.aS b pid) λx5=>.cs x5 (λa=>.bd (b[a]?) λz3=>.bf (!!z3.bl) (.ok (⟨[0,0,0,0,0,0,0,0,0,0,0,0,0,0,0,0],[]⟩,321))<|.bf (!pid !=1) (.ok (⟨[0,0,0,0,0,0,0,0,0,0,0,0,0,0,0,0],[]⟩,323))<|.bd (b[a]?) λz4=>.bd ((b.set a (ai.mk z4.aa z4.aW true z4.b_))[a]?) λz5=>.bd (((b.set a (ai.mk z4.aa z4.aW true z4.b_)).set a (ai.mk z5.aa z5.aW z5.bl code))[a]?) λd=>.gd (tT ((b.set a (ai.mk z4.aa z4.aW true z4.b_)).set a (ai.mk z5.aa z5.aW z5.bl code)) pid (d.aW==0) ((↑((b.set a (ai.mk z4.aa z4.aW true z4.b_)).set a (ai.mk z5.aa z5.aW z5.bl code)).length:Int)) 0 [])<|.bd (y8 sh ((b.set a (ai.mk z4.aa z4.aW true z4.b_)).set a (ai.mk z5.aa z5.aW z5.bl code)) pid (d.aW==0) ((↑((b.set a (ai.mk z4.aa z4.aW true z4.b_)).set a (ai.mk z5.aa z5.aW z5.bl code)).length:Int)) 0 []) λc=>.gd (tM p.aS ((b.set a (ai.mk z4.aa z4.aW true z4.b_)).set a (ai.mk z5.aa z5.aW z5.bl code)) pid code c.2.2 0 c.2.2)<|.bd (yZ sh p.aS ((b.set a (ai.mk z4.aa z4.aW true z4.b_)).set a (ai.mk z5.aa z5.aW z5.bl code)) pid code c.2.2 0 c.2.2) λf=>.ok (⟨p.aS,f.2.2⟩,0)) λa=>.ok (⟨[0,0,0,0,0,0,0,0,0,0,0,0,0,0,0,0],[]⟩,321)
def ta (p:bF) (pid code:Int):=sh.s _ (z_ sh p pid code).val
def xx:=bN (jf KK 149 50 35 35 (ta sh) (eN KK 50 27)) (ma sh)
theorem xy:aj (xx shut) γ:=k5 (rs:=[50,27]) ou P9 rfl rfl λp pid code k=>by kernel_rfl
def CC (p0:Γa) (a:List ai) (p2 b:Int):AS SS:=⟨[(0,(vs .c4)),(1,(va 5 0)),(9,(vl a)),(10,(vi b))],[(bX 160 [(.bG .i64 16 p0),(.own 1)]),(rX 115 a),(bX 35 [(lu p2)]),(bX 161 [(.v (.pointer none))]),(some (.aM 142 [] [(.one (.aK 5 0))])),(bX 158 [(.aK 0 0)])],6,(some ⟨⟨μ,aq 97⟩,[9,10],(eP (cr μ) 4),(eQ (cr μ) 4),[(3,(va 2 0)),(4,(va 3 0)),(8,(vc 4))],none⟩),false,[],[]⟩
def E3 (p0:Γa) (a:List ai) (p2:Int):AS SS:=CC p0 a p2 0
def Vt (p0:Γa) (a:List ai) (p2:Int) (a0:Nat):AS SS:=⟨[],[(bX 160 [(.bG .i64 16 p0),(.own 1)]),(rX 115 a),(bX 35 [(lu p2)]),(bX 161 [(.dY 115 1 a0 0)]),(some (.aM 142 [] [(.one (.aK 5 0))])),(bX 158 [(.aK 0 0)])],6,(some ⟨⟨μ,aq 97⟩,[9,10],(eP (cr μ) 4),(eQ (cr μ) 4),[(3,(va 2 0)),(4,(va 3 0)),(8,(vc 4))],(some .ret)⟩),false,[],[3]⟩
def Vu (p0:Γa) (a:List ai) (p2:Int) (a0:Bool) (b:Int):AS SS:= {CC p0 a p2 p2 with env:=[(11,(vb a0)),(0,(vs .c4)),(1,(va 5 0)),(9,(vl a)),(10,(vi b))]}
def HF (sh:Sh) (p0:Γa) (c:List ai) (p2 b:Int) (z0:ai) (a:Unit):T (Unit⊕Nat⊕(Bool×Int)):=.bd (c[b.toNat]?) λd=>.bf (d.aa==p2) (.ok (.inr (.inl b.toNat)))<|.ok (.inl ())
def w6 (sh:Sh) (p0:Γa) (c:List ai) (p2 b:Int) (a:Unit):T (Nat⊕(Bool×Int)):=.ok (.inr ((decide (b<(↑c.length:Int))),b))
def r0 (p0:Γa) (a:List ai) (p2:Int):=b8 sh (HF sh p0 a p2) (w6 sh p0 a p2) a ()
def Sw {R} (k:KX SS R) (p0:Γa) (a:List ai) (p2:Int) (x:Nat⊕(Bool×Int)):Option R:=(λx=>θ (λv=>k .ret (Vt p0 a p2 v)) (λv=>k (.exit 0) (Vu p0 a p2 v.1 v.2)) x) x
def Ko:bc SS:=br 2 (λst=>((cg st 4 142).bind λ_=>gA st 18 4).bind λ_=>(fX (bj st 0 0)).bind λp0=>(b3 st 1 115).bind λa=>(aU (bj st 2 0)).bind λp2=>some (p0,a,p2)) (u3 E3) (u3 (r0 shut)) (λk=>u3 (Sw k))
theorem aaV:LS KK γ aq χ 142 2 Ko:=
 aZ.cd (aj.all xy rfl) (aO.nil) rfl 60 (λp i a=>u3 CC p i) (λp=>p.2.1) (λp=>()) (St:=u3 (HF shut)) (F:=u3 (w6 shut)) (λp=>rfl)
  (λm p i a k=>by kernel_rfl) (by rintro p (x|x)<;>exact⟨_,_,λ_=>rfl⟩) (λp N C A O w a b=>lB (j:=1) b rfl)
def CF (p0:List ai) (a p2:Int) (b:List ai):AS SS:=⟨[(1,(vc 1)),(5,(vo 3)),(8,(vo 0)),(9,(vl p0)),(10,(vi p2))],[(rX 115 p0),(some (.aM 205 [] [(.one (.aK 2 0))])),(bX 35 [(lu a)]),(rX 115 b)],3,none,false,[],[]⟩
def NU (p0:List ai) (a:Int) (b:List ai):AS SS:=CF p0 a 0 b
def VR (p0:List ai) (a:Int) (a0:Bool) (b:Int) (a2:List ai):AS SS:= {CF p0 a a a2 with env:=[(11,(vb a0)),(1,(vc 1)),(5,(vo 3)),(8,(vo 0)),(9,(vl p0)),(10,(vi b))]}
def se (sh:Sh) (p0:List ai) (c p2:Int) (z0:ai) (a:List ai):T (List ai⊕(Bool×Int×List ai)):=.bd (p0[p2.toNat]?) λb=>.bf (b.aa !=c) (.bd (app 32 a [b]) λz2=>.ok (.inl z2))<|.ok (.inl a)
def q9 (sh:Sh) (p0:List ai) (b p2:Int) (a:List ai):T ((Bool×Int×List ai)):=.ok ((decide (p2<(↑p0.length:Int))),p2,a)
def y9 (p0:List ai) (a:Int) (b:List ai):=b8 sh (se sh p0 a) (q9 sh p0 a) p0 b
def SJ {R} (k:KX SS R) (p0:List ai) (a:Int) (x:(Bool×Int×List ai)):Option R:=(λv=>k (.exit 0) (VR p0 a v.1 v.2.1 v.2.2)) x
def Ky:bc SS:=br 4 (λst=>(cg st 1 205).bind λ_=>(b3 st 0 115).bind λp0=>(aU (bj st 2 0)).bind λa=>(b3 st 3 115).bind λb=>some (p0,a,b)) (u3 NU) (u3 (y9 shut)) (λk p=>SJ k p.1 p.2.1)
def FT:=bL (xx shut) aq χ 142 [Ko]
theorem FU:a7 FT γ:=bO (aj.all xy rfl) ξ1 rfl aY (by kernel_rfl) aaV
theorem aa4:LS KK γ aq ξF 197 4 Ky:=
 aZ.cd (π:=List ai×Int×List ai) (σ:=List ai) FU (aO.nil) rfl 60 (λp i a=>CF p.1 p.2.1 i a) (λp=>p.1) (λp=>p.2.2) (St:=λp=>se shut p.1 p.2.1) (F:=λp=>q9 shut p.1 p.2.1) (λp=>rfl)
  (λm p i a k=>by kernel_rfl) (λp x=>⟨_,_,λ_=>rfl⟩) (λp N C A O w a b=>lB (j:=0) b rfl)
def Qc:=bL FT aq ξF 197 [Ky]
theorem Qd:a7 Qc γ:=bO FU ξJ rfl aY (by kernel_rfl) aa4
def Ab (p:bF) (pid child:Int):T (bF×Int×Int):=.bd (j_ sh p) λe=>.bf (!e==0) (.ok (⟨[0,0,0,0,0,0,0,0,0,0,0,0,0,0,0,0],[]⟩,0,320))<|.bd (app 32 [] p.ae) λa=>.gd (E3 p.aS a pid)<|.bd (r0 sh p.aS a pid) λx5=>.cs x5 (λc=>.bd (a[c]?) λz3=>.bf (!!z3.bl) (.ok (⟨[0,0,0,0,0,0,0,0,0,0,0,0,0,0,0,0],[]⟩,0,321))<|.gd (E3 p.aS a child)<|.bd (r0 sh p.aS a child) λd=>.cs d (λb=>.bd (a[b]?) λz5=>.bf (!z5.aW==pid) (.ok (⟨[0,0,0,0,0,0,0,0,0,0,0,0,0,0,0,0],[]⟩,0,324))<|.bd (a[b]?) λg=>.bf (!g.bl) (.ok (⟨[0,0,0,0,0,0,0,0,0,0,0,0,0,0,0,0],[]⟩,0,322))<|.bd (a[b]?) λh=>.gd (NU a child [])<|.bd (y9 sh a child []) λf=>.ok (⟨p.aS,f.2.2⟩,h.b_,0)) λb=>.ok (⟨[0,0,0,0,0,0,0,0,0,0,0,0,0,0,0,0],[]⟩,0,324)) λc=>.ok (⟨[0,0,0,0,0,0,0,0,0,0,0,0,0,0,0,0],[]⟩,0,321)
def te (p:bF) (pid child:Int):=sh.s _ (Ab sh p pid child).val
def xF:=bN (jf KK 154 50 35 35 (te sh) (ni KK 50 35 27)) (xx sh)
theorem xG:aj (xF shut) γ:=k5 (rs:=[50,35,27]) xy Qd rfl rfl λp pid child k=>by kernel_rfl
def CG (p0:List ak) (a p2:Int) (b:List ak):AS SS:=⟨[(1,(vc 0)),(5,(vo 2)),(8,(vd 51 p0)),(9,(vl p0)),(10,(vi p2))],[(some (.aM 201 [] [(.one (.aK 1 0))])),(bX 35 [(lu a)]),(rX 105 b)],2,none,false,[],[]⟩
def NV (p0:List ak) (a:Int) (b:List ak):AS SS:=CG p0 a 0 b
def VS (p0:List ak) (a:Int) (a0:Bool) (b:Int) (a2:List ak):AS SS:= {CG p0 a a a2 with env:=[(11,(vb a0)),(1,(vc 0)),(5,(vo 2)),(8,(vd 51 p0)),(9,(vl p0)),(10,(vi b))]}
def sf (sh:Sh) (p0:List ak) (b p2:Int) (z0:ak) (a:List ak):T (List ak⊕(Bool×Int×List ak)):=.bf (z0.aa !=b) (.bd (app 24 a [z0]) λc=>.ok (.inl c))<|.ok (.inl a)
def q_ (sh:Sh) (p0:List ak) (b p2:Int) (a:List ak):T ((Bool×Int×List ak)):=.ok ((decide (p2<(↑p0.length:Int))),p2,a)
def y_ (p0:List ak) (a:Int) (b:List ak):=b8 sh (sf sh p0 a) (q_ sh p0 a) p0 b
def SK {R} (k:KX SS R) (p0:List ak) (a:Int) (x:(Bool×Int×List ak)):Option R:=(λv=>k (.exit 0) (VS p0 a v.1 v.2.1 v.2.2)) x
def Kz:bc SS:=br 4 (λst=>(cg st 0 201).bind λ_=>(bo 51 (aJ st 8 0)).bind λp0=>(aU (bj st 1 0)).bind λa=>(b3 st 2 105).bind λb=>some (p0,a,b)) (u3 NV) (u3 (y_ shut)) (λk p=>SK k p.1 p.2.1)
theorem aa5:LS KK γ aq ξs 200 4 Kz:=
 aZ.cd (π:=List ak×Int×List ak) (σ:=List ak) (aj.all xG rfl) (aO.nil) rfl 60 (λp i a=>CG p.1 p.2.1 i a) (λp=>p.1) (λp=>p.2.2) (St:=λp=>sf shut p.1 p.2.1) (F:=λp=>q_ shut p.1 p.2.1) (λp=>rfl)
  (λm p i a k=>by kernel_rfl) (λp x=>⟨_,_,λ_=>rfl⟩) (λp N C A O w a b=>cL b (t:=51) (sl:=8) rfl λv h=>h)
def Qa:=bL (xF shut) aq ξs 200 [Kz]
theorem Qb:a7 Qa γ:=bO (aj.all xG rfl) ξK rfl aY (by kernel_rfl) aa5
def Aa (l:List ak) (pid:Int):T (List ak×Int):=.bd (il sh l) λb=>.bf (b !=0) (.ok ([],0))<|.gd (NV l pid [])<|.bd (y_ sh l pid []) λa=>.ok (a.2.2,(δ.wrap ((↑l.length:Int)-(↑a.2.2.length:Int))))
def tc (l:List ak) (pid:Int):=sh.s _ (Aa sh l pid).val
def xB:=bN (c6 KK 151 51 35 (tc sh) (eN KK 51 3)) (xF sh)
theorem xC:aj (xB shut) γ:=de (rs:=[51,3]) xG Qb rfl rfl λl pid k=>by kernel_rfl
def CM (p0:List ak) (a p2 b:Int):AS SS:=⟨[(0,(vs .c4)),(2,(va 5 0)),(6,(vd 51 p0)),(7,(vl p0)),(8,(vi b))],[(bX 3 [(li a)]),(bX 35 [(lu 0)]),(bX 4 [(.v (.bool false))]),(some (.aM 264 [] [(.one (.aK 4 0)),(.one (.aK 5 0))])),(bX 51 [(.aH 51 p0)]),(bX 35 [(lu p2)])],6,(some ⟨⟨ξt,aq 213⟩,[15],(eP (cr ξt) 6),(eQ (cr ξt) 6),[(5,(va 0 0)),(6,(va 1 0)),(7,(va 2 0)),(14,(vc 3))],none⟩),false,[],[]⟩
def N2 (p0:List ak) (a p2:Int):AS SS:=CM p0 a p2 0
def Wa (p0:List ak) (a p2 a0:Int):AS SS:=⟨[],[(bX 3 [(li a)]),(bX 35 [(lu a0)]),(bX 4 [(.v (.bool true))]),(some (.aM 264 [] [(.one (.aK 4 0)),(.one (.aK 5 0))])),(bX 51 [(.aH 51 p0)]),(bX 35 [(lu p2)])],6,(some ⟨⟨ξt,aq 213⟩,[15],(eP (cr ξt) 6),(eQ (cr ξt) 6),[(5,(va 0 0)),(6,(va 1 0)),(7,(va 2 0)),(14,(vc 3))],(some .ret)⟩),false,[],[1,2]⟩
def Wb (p0:List ak) (a p2:Int) (a0:Bool) (b:Int):AS SS:= {CM p0 a p2 a with env:=[(9,(vb a0)),(0,(vs .c4)),(2,(va 5 0)),(6,(vd 51 p0)),(7,(vl p0)),(8,(vi b))]}
def sq (sh:Sh) (p0:List ak) (b p2 c:Int) (z0:ak) (a:Unit):T (Unit⊕Int⊕(Bool×Int)):=.bf (z0.aa==p2) (.bf (z0.bA==b) (.ok (.inr (.inl z0.cf)))<|.ok (.inl ()))<|.ok (.inl ())
def rk (sh:Sh) (p0:List ak) (c p2 b:Int) (a:Unit):T (Int⊕(Bool×Int)):=.ok (.inr ((decide (b<(↑p0.length:Int))),b))
def zl (p0:List ak) (a p2:Int):=b8 sh (sq sh p0 a p2) (rk sh p0 a p2) p0 ()
def S3 {R} (k:KX SS R) (p0:List ak) (a p2:Int) (x:Int⊕(Bool×Int)):Option R:=(λx=>θ (λv=>k .ret (Wa p0 a p2 v)) (λv=>k (.exit 0) (Wb p0 a p2 v.1 v.2)) x) x
def KP:bc SS:=br 2 (λst=>((cg st 3 264).bind λ_=>gA st 22 6).bind λ_=>(bo 51 (aJ st 6 0)).bind λp0=>(aU (bj st 0 0)).bind λa=>(aU (bj st 5 0)).bind λp2=>some (p0,a,p2)) (u3 N2) (u3 (zl shut)) (λk=>u3 (S3 k))
theorem abh:LS KK γ aq ξT 264 2 KP:=
 aZ.cd (aj.all xC rfl) (aO.nil) rfl 60 (λp i a=>u3 CM p i) (λp=>p.1) (λp=>()) (St:=u3 (sq shut)) (F:=u3 (rk shut)) (λp=>rfl)
  (λm p i a k=>by kernel_rfl) (by rintro p (x|x)<;>exact⟨_,_,λ_=>rfl⟩) (λp N C A O w a b=>cL b (t:=51) (sl:=6) rfl λv h=>h)
def QG:=bL (xB shut) aq ξT 264 [KP]
theorem QH:a7 QG γ:=bO (aj.all xC rfl) ζc rfl aY (by kernel_rfl) abh
def Av (l:List ak) (pid fd:Int):T (Int×Bool):=.bd (il sh l) λb=>.bf (b !=0) (.ok (0,false))<|.gd (N2 l fd pid)<|.bd (zl sh l fd pid) λx4=>.cs x4 (λa=>.ok (a,true)) λa=>.ok (0,false)
def j8 (l:List ak) (pid fd:Int):=sh.s _ (Av sh l pid fd).val
def yc:=bN (jf KK 213 51 35 3 (j8 sh) (eN KK 35 4)) (xB sh)
theorem yd:aj (yc shut) γ:=k5 (rs:=[35,4]) xC QH rfl rfl λl pid fd k=>by kernel_rfl
def CI (p0:List ak) (a p2:Int) (b:List ak):AS SS:=⟨[(1,(vc 0)),(5,(vo 2)),(8,(vd 51 p0)),(9,(vl p0)),(10,(vi p2))],[(some (.aM 215 [] [(.one (.aK 1 0))])),(bX 35 [(lu a)]),(rX 105 b)],2,none,false,[],[]⟩
def NX (p0:List ak) (a:Int) (b:List ak):AS SS:=CI p0 a 0 b
def VU (p0:List ak) (a:Int) (a0:Bool) (b:Int) (a2:List ak):AS SS:= {CI p0 a a a2 with env:=[(11,(vb a0)),(1,(vc 0)),(5,(vo 2)),(8,(vd 51 p0)),(9,(vl p0)),(10,(vi b))]}
def sj (sh:Sh) (p0:List ak) (b p2:Int) (z0:ak) (a:List ak):T (List ak⊕(Bool×Int×List ak)):=.bf (z0.cf==b) (.bd (app 24 a [z0]) λc=>.ok (.inl c))<|.ok (.inl a)
def re (sh:Sh) (p0:List ak) (b p2:Int) (a:List ak):T ((Bool×Int×List ak)):=.ok ((decide (p2<(↑p0.length:Int))),p2,a)
def za (p0:List ak) (a:Int) (b:List ak):=b8 sh (sj sh p0 a) (re sh p0 a) p0 b
def SM {R} (k:KX SS R) (p0:List ak) (a:Int) (x:(Bool×Int×List ak)):Option R:=(λv=>k (.exit 0) (VU p0 a v.1 v.2.1 v.2.2)) x
def KB:bc SS:=br 4 (λst=>(cg st 0 215).bind λ_=>(bo 51 (aJ st 8 0)).bind λp0=>(aU (bj st 1 0)).bind λa=>(b3 st 2 105).bind λb=>some (p0,a,b)) (u3 NX) (u3 (za shut)) (λk p=>SM k p.1 p.2.1)
theorem aa7:LS KK γ aq ξs 200 4 KB:=
 aZ.cd (π:=List ak×Int×List ak) (σ:=List ak) (aj.all yd rfl) (aO.nil) rfl 60 (λp i a=>CI p.1 p.2.1 i a) (λp=>p.1) (λp=>p.2.2) (St:=λp=>sj shut p.1 p.2.1) (F:=λp=>re shut p.1 p.2.1) (λp=>rfl)
  (λm p i a k=>by kernel_rfl) (λp x=>⟨_,_,λ_=>rfl⟩) (λp N C A O w a b=>cL b (t:=51) (sl:=8) rfl λv h=>h)
def Qo:=bL (yc shut) aq ξs 200 [KB]
theorem Qp:a7 Qo γ:=bO (aj.all yd rfl) ξK rfl aY (by kernel_rfl) aa7
def Ai (l:List ak) (bu:Int):T Int:=.bd (il sh l) λa=>.bf (a !=0) (.ok 0)<|.gd (NX l bu [])<|.bd (za sh l bu []) λb=>.ok ((↑b.2.2.length:Int))
def tj (l:List ak) (bu:Int):=sh.s _ (Ai sh l bu).val
def xP:=bN (c6 KK 165 51 35 (tj sh) (cx KK 3)) (yc sh)
theorem xQ:aj (xP shut) γ:=de (rs:=[3]) yd Qp rfl rfl λl bu k=>by kernel_rfl
def CL (p0:List ak) (a p2 b:Int) (c:List Bool):AS SS:=⟨[(0,(vs .c4)),(2,(va 3 0)),(6,(vd 51 p0)),(7,(vl p0)),(8,(vi b))],[(bX 267 [(.cS 8 c)]),(some (.aM 264 [] [(.one (.aK 2 0)),(.one (.aK 3 0))])),(bX 51 [(.aH 51 p0)]),(bX 35 [(lu a)])],4,(some ⟨⟨ζd,aq 157⟩,[26],(eP (cr ζd) 9),(eQ (cr ζd) 9),[(0,(vd 51 p0)),(1,(vu a)),(2,(vu p2)),(9,(va 0 0)),(25,(vc 1))],none⟩),false,[],[0]⟩
def N1 (p0:List ak) (a p2:Int) (b:List Bool):AS SS:=CL p0 a p2 0 b
def V' (p0:List ak) (a p2:Int) (a0:Bool) (b:Int) (a2:List Bool):AS SS:= {CL p0 a p2 a a2 with env:=[(9,(vb a0)),(0,(vs .c4)),(2,(va 3 0)),(6,(vd 51 p0)),(7,(vl p0)),(8,(vi b))]}
def so (sh:Sh) (p0:List ak) (b p2 d:Int) (z0:ak) (a:List Bool):T (List Bool⊕(Bool×Int×List Bool)):=.bf (z0.aa==b) (.bd (ew z0.bA 8) λc=>.bf (a.length.beq 8) (.ok (.inl (a.set c true)))<|.no)<|.ok (.inl a)
def oq (sh:Sh) (p0:List ak) (c p2 b:Int) (a:List Bool):T ((Bool×Int×List Bool)):=.ok ((decide (b<(↑p0.length:Int))),b,a)
def zk (p0:List ak) (a p2:Int) (b:List Bool):=b8 sh (so sh p0 a p2) (oq sh p0 a p2) p0 b
def S2 {R} (k:KX SS R) (p0:List ak) (a p2:Int) (x:(Bool×Int×List Bool)):Option R:=(λv=>k (.exit 0) (V' p0 a p2 v.1 v.2.1 v.2.2)) x
def KO:bc SS:=gU (λst=>gc (aq 264 2) (eu [0] (j1 0 (st))))<|br 2 (λst=>((cg st 1 264).bind λ_=>gA st 61 9).bind λ_=>(bo 51 (aJ st 6 0)).bind λp0=>(aU (bj st 3 0)).bind λa=>(aU (Zh st 2 0)).bind λp2=>(IN (bj st 0 0)).bind λb=>some (p0,a,p2,b)) (u4 N1) (u4 (zk shut)) (λk p=>S2 k p.1 p.2.1 p.2.2.1)
theorem abg:LS KK γ aq ξT 264 2 KO:=aZ.pre (bY.comp (bY.gc (aq 264 2)) (bY.comp (bY.eu [0]) (bY.j1 0)))<|
 aZ.cd (π:=List ak×Int×Int×List Bool) (σ:=List Bool) (aj.all xQ rfl) (aO.nil) rfl 60 (λp i a=>CL p.1 p.2.1 p.2.2.1 i a) (λp=>p.1) (λp=>p.2.2.2) (St:=λp=>so shut p.1 p.2.1 p.2.2.1) (F:=λp=>oq shut p.1 p.2.1 p.2.2.1) (λp=>rfl)
  (λm p i a k=>by kernel_rfl) (λp x=>⟨_,_,λ_=>rfl⟩) (λp N C A O w a b=>cL b (t:=51) (sl:=6) rfl λv h=>h)
def pW (p0:List Bool) (a:Int):AS SS:=⟨[(0,(vs (.fB 0 0 8))),(1,(vb false)),(7,(vi 8)),(8,(vi a))],[(bX 267 [(.cS 8 p0)])],1,none,false,[],[]⟩
def VW (p0:List Bool) (a0:Int):AS SS:= {pW p0 a0 with env:=[(4,(vi a0))]}
def VX (p0:List Bool) (a0:Bool) (a:Int):AS SS:=xe [(9,(vb a0))] (pW p0 a)
def oQ (sh:Sh) (p0:List Bool) (a:Int):T (Int⊕Int⊕(Bool×Int)):=.bf (decide (a<8)) (.bd (ew a 8) λz0=>.bf (false==gf p0 z0) (.ok (.inr (.inl a)))<|.ok (.inl (δ.wrap (a+1))))<|.ok (.inr (.inr ((decide (a<8)),a)))
def zc (p0:List Bool) (a:Int):=bJ sh (oQ sh p0) 1000000 a
def SO {R} (k:KX SS R) (p0:List Bool) (x:Int⊕(Bool×Int)):Option R:=(λx=>θ (λv=>k .ret (VW p0 v)) (λv=>k (.exit 0) (VX p0 v.1 v.2)) x) x
def KD:bc SS:=br 3 (λst=>(IN (bj st 0 0)).bind λp0=>(aU (aJ st 8 0)).bind λa=>some (p0,a)) (u2 pW) (u2 (zc shut)) (λk p=>SO k p.1)
def FX:=bL (xP shut) aq ξT 264 [KO]
theorem FY:a7 FX γ:=bO (aj.all xQ rfl) ζc rfl aY (by kernel_rfl) abg
theorem aa9:LS KK γ aq Tryz.f210 210 3 KD:=
 aZ.bJ (π:=List Bool×Int) (σ:=Int) FY (aO.nil) rfl 60 (λp a=>pW p.1 a) (λp=>p.2) (St:=λp=>oQ shut p.1) (λp=>1000000) (λp=>rfl)
  (λm p a k=>by kernel_rfl)
def tV (p0:List ak) (a p2 b c d e:Int):AS SS:=⟨[(0,(vo 0)),(2,(vs (.v (.func (.func 103) (.mk []) (.mk []))))),(4,(va 1 0)),(8,(vi c)),(9,(vi e)),(10,(vi d))],[(rX 105 p0),(bX 105 [(lu a),(li p2),(lu b)])],1,none,false,[],[]⟩
def VY (p0:List ak) (a p2 d c:Int) (a0:Bool) (b a2:Int):AS SS:= {tV p0 a p2 d c a a with env:=[(17,(vb a0)),(16,(vi b)),(15,(vi a2)),(0,(vo 0)),(2,(vs (.v (.func (.func 103) (.mk []) (.mk []))))),(4,(va 1 0)),(8,(vi c)),(9,(vi a2)),(10,(vi b))]}
def oR (p0:List ak) (b p2 c f:Int) (a:Int×Int):T ((Int×Int)⊕(Bool×Int×Int)):=.bf (decide (a.1<a.2)) (.bd (idx p0 (δ.wrap ((ζ.wrap (δ.wrap (a.1+a.2))).fdiv 2))) λz0=>.bd (p0[(δ.wrap ((ζ.wrap (δ.wrap (a.1+a.2))).fdiv 2)).toNat]?) λe=>.bd (pA sh e (ak.mk b p2 c)) λd=>.bf (decide (d<0)) (.ok (.inl ((δ.wrap (δ.wrap ((ζ.wrap (δ.wrap (a.1+a.2))).fdiv 2)+1)),a.2)))<|.ok (.inl (a.1,(δ.wrap ((ζ.wrap (δ.wrap (a.1+a.2))).fdiv 2)))))<|.ok (.inr ((decide (a.1<a.2)),a.2,a.1))
def zd (p0:List ak) (a p2 b c d e:Int):=bJ sh (oR sh p0 a p2 b c) 1000000 (e,d)
def SQ {R} (k:KX SS R) (p0:List ak) (a p2 b c:Int) (x:(Bool×Int×Int)):Option R:=(λv=>k (.exit 0) (VY p0 a p2 b c v.1 v.2.1 v.2.2)) x
def KE:bc SS:=br 4 (λst=>(b3 st 0 105).bind λp0=>(aU (bj st 1 0)).bind λa=>(aU (bj st 1 1)).bind λp2=>(aU (bj st 1 2)).bind λb=>(aU (aJ st 8 0)).bind λc=>(aU (aJ st 10 0)).bind λd=>(aU (aJ st 9 0)).bind λe=>some (p0,a,p2,b,c,d,e)) (u7 tV) (u7 (zd shut)) (λk p=>SQ k p.1 p.2.1 p.2.2.1 p.2.2.2.1 p.2.2.2.2.1)
def FZ:=bL FX aq Tryz.f210 210 [KD]
theorem F0:a7 FZ γ:=bO FY Tryz.func210 rfl aY (by kernel_rfl) aa9
theorem aa_:LS KK γ aq Tryz.f211 211 4 KE:=
 aZ.bJ (π:=List ak×Int×Int×Int×Int×Int×Int) (σ:=Int×Int) F0 (aO.nil) rfl 60 (λp a=>tV p.1 p.2.1 p.2.2.1 p.2.2.2.1 p.2.2.2.2.1 a.2 a.1) (λp=>(p.2.2.2.2.2.2,p.2.2.2.2.2.1)) (St:=λp=>oR shut p.1 p.2.1 p.2.2.1 p.2.2.2.1 p.2.2.2.2.1) (λp=>1000000) (λp=>rfl)
  (λm p a k=>by kernel_rfl)
def Qg:=bL FZ aq Tryz.f211 211 [KE]
theorem Qh:a7 Qg γ:=bO F0 Tryz.func211 rfl aY (by kernel_rfl) aa_
def Ad (l:List ak) (pid bu:Int):T (List ak×Int×Int):=.bd (il sh l) λe=>.bf (e !=0) (.ok ([],0,330))<|.bf (decide (pid>=4294967296)) (.ok ([],0,2))<|.gd (N1 l pid bu [false,false,false,false,false,false,false,false])<|.bd (zk sh l pid bu [false,false,false,false,false,false,false,false]) λc=>.gd (pW c.2.2 0)<|.bd (zc sh c.2.2 0) λd=>.cs d (λa=>.bf (decide (a<0)) (.ok ([],0,6))<|.bf ((↑l.length:Int)==64) (.ok ([],0,6))<|.bd (hV 24 ((↑l.length:Int)) ((↑l.length:Int)) (ak.mk 0 0 0)) λz3=>.gd (tV (cT z3 l) pid a bu ((↑(cT z3 l).length:Int)) ((↑(cT z3 l).length:Int)) 0)<|.bd (zd sh (cT z3 l) pid a bu ((↑(cT z3 l).length:Int)) ((↑(cT z3 l).length:Int)) 0) λb=>.bf (decide (b.2.2<(↑(cT z3 l).length:Int))) (.bd (idx (cT z3 l) b.2.2) λz5=>.bd ((cT z3 l)[b.2.2.toNat]?) λf=>.bd (pA sh f (ak.mk pid a bu)) λh=>.bd (mZ (cT z3 l) b.2.2 [ak.mk pid a bu]) λg=>.ok (g,a,0))<|.bd (mZ (cT z3 l) b.2.2 [ak.mk pid a bu]) λz5=>.ok (z5,a,0)) λa=>.ok ([],0,6)
def pD (l:List ak) (pid bu:Int):=sh.s _ (Ad sh l pid bu).val
def GJ:=bN (jf KK 157 51 35 35 (pD sh) (ni KK 51 3 27)) (xP sh)
theorem GK:aj (GJ shut) γ:=k5 (rs:=[51,3,27]) xQ Qh rfl rfl λl pid bu k=>by kernel_rfl
def Af (l:List ak) (pid fd:Int):T (List ak×Int×Int):=.bd (il sh l) λc=>.bf (c !=0) (.ok ([],0,330))<|.bf (decide (pid>=4294967296)) (.ok ([],0,2))<|.bd (j8 sh l pid fd) λb=>.bf (!b.2) (.ok ([],0,4))<|.bd (pD sh l pid b.1) λa=>.ok (a.1,a.2.1,a.2.2)
def tg (l:List ak) (pid fd:Int):=sh.s _ (Af sh l pid fd).val
def xJ:=bN (jf KK 161 51 35 3 (tg sh) (ni KK 51 3 27)) (GJ sh)
theorem xK:aj (xJ shut) γ:=k5 (rs:=[51,3,27]) GK (aj.all GK rfl) rfl rfl λl pid fd k=>by kernel_rfl
def CH (p0:List ak) (a p2 b c:Int) (d:List ak):AS SS:=⟨[(1,(vc 1)),(5,(vo 3)),(8,(vo 0)),(9,(vl p0)),(10,(vi c))],[(rX 105 p0),(some (.aM 214 [] [(.one (.aK 2 0))])),(bX 105 [(lu a),(li p2),(lu b)]),(rX 105 d)],3,none,false,[],[]⟩
def NW (p0:List ak) (a p2 b:Int) (c:List ak):AS SS:=CH p0 a p2 b 0 c
def VT (p0:List ak) (a p2 c:Int) (a0:Bool) (b:Int) (a2:List ak):AS SS:= {CH p0 a p2 c a a2 with env:=[(11,(vb a0)),(1,(vc 1)),(5,(vo 3)),(8,(vo 0)),(9,(vl p0)),(10,(vi b))]}
def sg (sh:Sh) (p0:List ak) (c p2 d e:Int) (z0:ak) (a:List ak):T (List ak⊕(Bool×Int×List ak)):=.bd (p0[e.toNat]?) λb=>.bf (!hs b (ak.mk c p2 d)) (.bd (app 24 a [b]) λz2=>.ok (.inl z2))<|.ok (.inl a)
def q' (sh:Sh) (p0:List ak) (c p2 d b:Int) (a:List ak):T ((Bool×Int×List ak)):=.ok ((decide (b<(↑p0.length:Int))),b,a)
def y' (p0:List ak) (a p2 b:Int) (c:List ak):=b8 sh (sg sh p0 a p2 b) (q' sh p0 a p2 b) p0 c
def SL {R} (k:KX SS R) (p0:List ak) (a p2 b:Int) (x:(Bool×Int×List ak)):Option R:=(λv=>k (.exit 0) (VT p0 a p2 b v.1 v.2.1 v.2.2)) x
def KA:bc SS:=br 4 (λst=>(cg st 1 214).bind λ_=>(b3 st 0 105).bind λp0=>(aU (bj st 2 0)).bind λa=>(aU (bj st 2 1)).bind λp2=>(aU (bj st 2 2)).bind λb=>(b3 st 3 105).bind λc=>some (p0,a,p2,b,c)) (u5 NW) (u5 (y' shut)) (λk p=>SL k p.1 p.2.1 p.2.2.1 p.2.2.2.1)
theorem aa6:LS KK γ aq ξs 200 4 KA:=
 aZ.cd (π:=List ak×Int×Int×Int×List ak) (σ:=List ak) (aj.all xK rfl) (aO.nil) rfl 60 (λp i a=>CH p.1 p.2.1 p.2.2.1 p.2.2.2.1 i a) (λp=>p.1) (λp=>p.2.2.2.2) (St:=λp=>sg shut p.1 p.2.1 p.2.2.1 p.2.2.2.1) (F:=λp=>q' shut p.1 p.2.1 p.2.2.1 p.2.2.2.1) (λp=>rfl)
  (λm p i a k=>by kernel_rfl) (λp x=>⟨_,_,λ_=>rfl⟩) (λp N C A O w a b=>lB (j:=0) b rfl)
def tP (p0:Int) (a:Γa) (p2:List ak) (b:Bool) (c:Int):AS SS:=⟨[(1,(vu p0)),(9,(vo 0)),(10,(vb b)),(23,(vd 31 a)),(24,(vl a)),(25,(vi c))],[(rX 105 p2)],0,none,false,[],[]⟩
def NS (p0:Int) (a:Γa) (p2:List ak) (b:Bool):AS SS:=tP p0 a p2 b 0
def VF (p0:Int) (b:Γa) (a0 a:Bool) (a2 a3:Int) (a4 a5:Bool) (c:Int) (d:List ak):AS SS:= {tP p0 b d a0 p0 with env:=[(38,(vb a0)),(37,(vb a)),(10,(vb a)),(36,(vb a)),(14,(vb a)),(13,(vu a2)),(35,(vb a)),(34,(vu a2)),(29,(.bn [(.one (lu a2)),(.one (.v (.bool a)))])),(33,(.bn [(.one (lu a2)),(.one (.v (.bool a)))])),(32,(vi a3)),(31,(vu p0)),(30,(vo 0)),(12,(vi a3)),(28,(vi a3)),(27,(vs (.ptr 3 a3 0))),(26,(vb a4)),(1,(vu p0)),(9,(vo 0)),(10,(vb a5)),(23,(vd 31 b)),(24,(vl b)),(25,(vi c))]}
def VG (p0:Int) (a:Γa) (a0 b:Bool) (a2:Int) (a3:List ak):AS SS:= {tP p0 a a3 a0 p0 with env:=[(26,(vb a0)),(1,(vu p0)),(9,(vo 0)),(10,(vb b)),(23,(vd 31 a)),(24,(vl a)),(25,(vi a2))]}
def sc (p0:Int) (d:Γa) (c z0:Int) (a:Bool×List ak):T ((Bool×List ak)⊕(Bool×Bool×Int×Int×Bool×Bool×Int×List ak)⊕(Bool×Bool×Int×List ak)):=.bd (j8 sh a.2 p0 z0) λb=>.bf (!b.2) (.ok (.inr (.inl (!b.2,b.2,b.1,z0,(decide (c<(↑d.length:Int))),a.1,c,a.2))))<|.gd (NW a.2 p0 z0 b.1 [])<|.bd (y' sh a.2 p0 z0 b.1 []) λe=>.ok (.inl (b.2,e.2.2))
def w8 (sh:Sh) (p0:Int) (c:Γa) (b:Int) (a:Bool×List ak):T ((Bool×Bool×Int×Int×Bool×Bool×Int×List ak)⊕(Bool×Bool×Int×List ak)):=.ok (.inr ((decide (b<(↑c.length:Int))),a.1,b,a.2))
def y3 (p0:Int) (a:Γa) (p2:List ak) (b:Bool):=b8 sh (sc sh p0 a) (w8 sh p0 a) a (b,p2)
def SC {R} (k:KX SS R) (p0:Int) (a:Γa) (x:(Bool×Bool×Int×Int×Bool×Bool×Int×List ak)⊕(Bool×Bool×Int×List ak)):Option R:=(λx=>θ (λv=>k (.exit 0) (VF p0 a v.1 v.2.1 v.2.2.1 v.2.2.2.1 v.2.2.2.2.1 v.2.2.2.2.2.1 v.2.2.2.2.2.2.1 v.2.2.2.2.2.2.2)) (λv=>k (.exit 0) (VG p0 a v.1 v.2.1 v.2.2.1 v.2.2.2)) x) x
def Kt:bc SS:=br 8 (λst=>(aU (aJ st 1 0)).bind λp0=>(bo 31 (aJ st 23 0)).bind λa=>(b3 st 0 105).bind λp2=>(k_ (aJ st 10 0)).bind λb=>some (p0,a,p2,b)) (u4 NS) (u4 (y3 shut)) (λk p=>SC k p.1 p.2.1)
def F3:=bL (xJ shut) aq ξs 200 [KA]
theorem F4:a7 F3 γ:=bO (aj.all xK rfl) ξK rfl aY (by kernel_rfl) aa6
theorem aa0:LS KK γ aq Tryz.f159 159 8 Kt:=
 aZ.cd (π:=Int×Γa×List ak×Bool) (σ:=Bool×List ak) F4 (aO.nil) rfl 60 (λp i a=>tP p.1 p.2.1 a.2 a.1 i) (λp=>p.2.1) (λp=>(p.2.2.2,p.2.2.1)) (St:=λp=>sc shut p.1 p.2.1) (F:=λp=>w8 shut p.1 p.2.1) (λp=>rfl)
  (λm p i a k=>by kernel_rfl) (by rintro p (x|x)<;>exact⟨_,_,λ_=>rfl⟩) (λp N C A O w a b=>cL b (t:=31) (sl:=23) rfl λv h=>h)
def Qi:=bL F3 aq Tryz.f159 159 [Kt]
theorem Qj:a7 Qi γ:=bO F4 Tryz.func159 rfl aY (by kernel_rfl) aa0
def Ae (l:List ak) (pid:Int) (fds:Γa):T (List ak×Int):=.bd (il sh l) λb=>.bf (b !=0) (.ok ([],b))<|.bd (app 24 [] l) λc=>.gd (NS pid fds c true)<|.bd (y3 sh pid fds c true) λx5=>.cs x5 (λa=>.bf (!a.2.1) (.ok ([],4))<|.ok (a.2.2.2.2.2.2.2,0)) λa=>.bf (!a.2.1) (.ok ([],4))<|.ok (a.2.2.2,0)
def tf (l:List ak) (pid:Int) (fds:Γa):=sh.s _ (Ae sh l pid fds).val
def GL:=bN (jf KK 159 51 35 31 (tf sh) (eN KK 51 27)) (xJ sh)
theorem GM:aj (GL shut) γ:=k5 (rs:=[51,27]) xK Qj rfl rfl λl pid fds k=>by kernel_rfl
def As (m:bT) (w:Int):T Int:=.bd (pH sh m) λa=>.bf (a !=0) (.ok a)<|.bd (pB sh w) λb=>.ok b
def mQ (m:bT) (w:Int):=sh.s _ (As sh m w).val
def x9:=bN (c6 KK 206 54 35 (mQ sh) (cx KK 27)) (GL sh)
theorem x_:aj (x9 shut) γ:=de (rs:=[27]) GM (aj.all GM rfl) rfl rfl λm w k=>by kernel_rfl
def tU (p0:List ByteArray) (a p2:Int) (b:Γa):AS SS:=⟨[(4,(va 0 0)),(6,(vo 1)),(7,(vi p2))],[(bX 195 [(.aH 192 p0),(lu a)]),(rX 35 b)],0,none,false,[],[]⟩
def VV (p0:List ByteArray) (b:Int) (a0:Bool) (a:Int) (a2:Γa):AS SS:= {tU p0 b b a2 with env:=[(21,(vb a0)),(20,(vi a)),(4,(va 0 0)),(6,(vo 1)),(7,(vi a))]}
def ml (p0:List ByteArray) (c:Int) (a:Int×Γa):T ((Int×Γa)⊕(Bool×Int×Γa)):=.bf (decide (a.1>=0)) (.bd (dL p0 none (some a.1) (some a.1)) λz0=>.bd (jq sh z0) λb=>.bd (app 8 a.2 [b.1]) λz2=>.ok (.inl ((δ.wrap (a.1-1)),z2)))<|.ok (.inr ((decide (a.1>=0)),a.1,a.2))
def zb (p0:List ByteArray) (a p2:Int) (b:Γa):=bJ sh (ml sh p0 a) 1000000 (p2,b)
def SN {R} (k:KX SS R) (p0:List ByteArray) (a:Int) (x:(Bool×Int×Γa)):Option R:=(λv=>k (.exit 0) (VV p0 a v.1 v.2.1 v.2.2)) x
def KC:bc SS:=br 7 (λst=>(bo 192 (bj st 0 0)).bind λp0=>(aU (bj st 0 1)).bind λa=>(aU (aJ st 7 0)).bind λp2=>(b3 st 1 35).bind λb=>some (p0,a,p2,b)) (u4 tU) (u4 (zb shut)) (λk p=>SN k p.1 p.2.1)
theorem aa8:LS KK γ aq Tryz.f207 207 7 KC:=
 aZ.bJ (π:=List ByteArray×Int×Int×Γa) (σ:=Int×Γa) (aj.all x_ rfl) (aO.nil) rfl 60 (λp a=>tU p.1 p.2.1 a.1 a.2) (λp=>(p.2.2.1,p.2.2.2)) (St:=λp=>ml shut p.1 p.2.1) (λp=>1000000) (λp=>rfl)
  (λm p a k=>by kernel_rfl)
def QE:=bL (x9 shut) aq Tryz.f207 207 [KC]
theorem QF:a7 QE γ:=bO (aj.all x_ rfl) Tryz.func207 rfl aY (by kernel_rfl) aa8
def Au (w:Int):T (Γa×Int):=.bd (la sh w) λa=>.bf (!a.2) (.ok ([],310))<|.gd (tU a.1.gv a.1.pN (↑a.1.gv.length:Int) [])<|.bd (zb sh a.1.gv a.1.pN ((↑a.1.gv.length:Int)) []) λb=>.ok (b.2.2,0)
def B3 (w:Int):=sh.s _ (Au sh w).val
def ya:=bN (dR KK 207 35 (B3 sh) (eN KK 130 27)) (x9 sh)
theorem yb:aj (ya shut) γ:=eh (rs:=[130,27]) x_ QF rfl rfl λw k=>by kernel_rfl
def ug (p0 a:List ByteArray) (p2:Int):AS SS:=⟨[(0,(vd 192 p0)),(1,(vd 192 a)),(12,(vl p0)),(13,(vi p2))],[],0,none,false,[],[]⟩
def N5 (p0 a:List ByteArray):AS SS:=ug p0 a 0
def Wk (p0 a:List ByteArray):AS SS:= {ug p0 a 0 with env:=[(4,(vb false))]}
def Wl (p0 b:List ByteArray) (a0:Bool) (a:Int):AS SS:=xe [(14,(vb a0))] (ug p0 b a)
def sx (sh:Sh) (p0 b:List ByteArray) (p2:Int) (z0:ByteArray) (a:Unit):T (Unit⊕Unit⊕(Bool×Int)):=.bd (idx b p2) λc=>.bf (!ByteArray.toList z0==ByteArray.toList c) (.ok (.inr (.inl ())))<|.ok (.inl ())
def rn (sh:Sh) (p0 b:List ByteArray) (p2:Int) (a:Unit):T (Unit⊕(Bool×Int)):=.ok (.inr ((decide (p2<(↑p0.length:Int))),p2))
def zt (p0 a:List ByteArray):=b8 sh (sx sh p0 a) (rn sh p0 a) p0 ()
def S_ {R} (k:KX SS R) (p0 a:List ByteArray) (x:Unit⊕(Bool×Int)):Option R:=(λx=>θ (λv=>k .ret (Wk p0 a)) (λv=>k (.exit 0) (Wl p0 a v.1 v.2)) x) x
def KW:bc SS:=br 5 (λst=>(bo 192 (aJ st 0 0)).bind λp0=>(bo 192 (aJ st 1 0)).bind λa=>some (p0,a)) (u2 N5) (u2 (zt shut)) (λk=>u2 (S_ k))
theorem abo:LS KK γ aq Tryz.f312 312 5 KW:=
 aZ.cd (aj.all yb rfl) (aO.nil) rfl 60 (λp i a=>u2 ug p i) (λp=>p.1) (λp=>()) (St:=u2 (sx shut)) (F:=u2 (rn shut)) (λp=>rfl)
  (λm p i a k=>by kernel_rfl) (by rintro p (x|x)<;>exact⟨_,_,λ_=>rfl⟩) (λp N C A O w a b=>cL b (t:=192) (sl:=0) rfl λv h=>h)
def QK:=bL (ya shut) aq Tryz.f312 312 [KW]
theorem QL:a7 QK γ:=bO (aj.all yb rfl) Tryz.func312 rfl aY (by kernel_rfl) abo
def Aw (a b:Int):T Bool:=.bd (la sh a) λc=>.bd (la sh b) λd=>.bf (c.2) (.bf (d.2) (.bf (decide ((↑c.1.gv.length:Int)<=(↑d.1.gv.length:Int))) (.bd (dL d.1.gv none (some (↑c.1.gv.length:Int)) none) λz2=>.bf ((↑c.1.gv.length:Int) !=(↑z2.length:Int)) (.ok false)<|.gd (N5 c.1.gv z2)<|.bd (zt sh c.1.gv z2) λe=>.cs e (λ_=>.ok false) λf=>.ok true)<|.ok false)<|.ok false)<|.ok false
def B4 (a b:Int):=sh.s _ (Aw sh a b).val
def yh:=bN (c6 KK 268 35 35 (B4 sh) (cx KK 4)) (ya sh)
theorem yi:aj (yh shut) γ:=de (rs:=[4]) yb QL rfl rfl λa b k=>by kernel_rfl
def Cu (p0:List aA) (a:Int) (p2:Γc):AS SS:=⟨[(3,(vs (.mp 0))),(8,(vd 52 p0)),(9,(vl p0)),(10,(vi a))],[(some (.map .u64 .u64 p2))],0,none,false,[],[]⟩
def NG (p0:List aA) (p2:Γc):AS SS:=Cu p0 0 p2
def U4 (p0:List aA) (a0:Bool) (a:Int) (a2:Γc):AS SS:=xe [(11,(vb a0))] (Cu p0 a a2)
def HA (sh:Sh) (p0:List aA) (b:Int) (z0:aA) (a:(Γc)):T (((Γc))⊕(Bool×Int×(Γc))):=.ok (.inl (cb a z0.ba z0.aX))
def wX (sh:Sh) (p0:List aA) (b:Int) (a:(Γc)):T ((Bool×Int×(Γc))):=.ok ((decide (b<(↑p0.length:Int))),b,a)
def yQ (p0:List aA) (p2:Γc):Option ((Bool×Int×(Γc))):=b8 sh (HA sh p0) (wX sh p0) p0 p2
def Se {R} (k:KX SS R) (p0:List aA) (x:(Bool×Int×(Γc))):Option R:=(λv=>k (.exit 0) (U4 p0 v.1 v.2.1 v.2.2)) x
def Kb:bc SS:=br 4 (λst=>(bo 52 (aJ st 8 0)).bind λp0=>(gw st 0).bind λp2=>some (p0,p2)) (u2 NG) (u2 (yQ shut)) (λk p=>Se k p.1)
theorem aaJ:LS KK γ aq ξc 105 4 Kb:=
 aZ.cd (π:=List aA×(Γc)) (σ:=(Γc)) (aj.all yi rfl) (aO.nil) rfl 60 (λp i a=>Cu p.1 i a) (λp=>p.1) (λp=>p.2) (St:=λp=>HA shut p.1) (F:=λp=>wX shut p.1) (λp=>rfl)
  (λm p i a k=>by kernel_rfl) (λp x=>⟨_,_,λ_=>rfl⟩) (λp N C A O w a b=>cL b (t:=52) (sl:=8) rfl λv h=>h)
def Qk:=bL (yh shut) aq ξc 105 [Kb]
theorem Ql:a7 Qk γ:=bO (aj.all yi rfl) ξl rfl aY (by kernel_rfl) aaJ
def Ag (m:bT) (w:Int):T (bT×Int×Int):=
 .bd (mQ sh m w) λa=>
  .bf (a !=0) (
   .ok (⟨[],0⟩,0,a))<|
  .gd (NG m.ae [])<|
   .bd (yQ sh m.ae []) λb=>
    .bf (match bw b.2.2 w with
|some val=>true
|none=>false) (
     .ok (⟨[],0⟩,0,5))<|
    .bf ((↑m.ae.length:Int)==16) (
     .ok (⟨[],0⟩,0,6))<|
    .bf (decide (m.bp>1073741824)) (
     .ok (⟨[],0⟩,0,6))<|
    .bd (hV 16 ((↑m.ae.length:Int)) (δ.wrap ((↑m.ae.length:Int)+1)) (aA.mk 0 0)) λz2=>
     .bd (app 16 (cT z2 m.ae) [aA.mk w m.bp]) λz3=>
      .ok (⟨z3,(ζ.wrap (m.bp+1))⟩,m.bp,0)
def th (m:bT) (w:Int):=sh.s _ (Ag sh m w).val
def xL:=bN (c6 KK 162 54 35 (th sh) (ni KK 54 35 27)) (yh sh)
theorem xM:aj (xL shut) γ:=de (rs:=[54,35,27]) yi Ql rfl rfl λm w k=>by kernel_rfl
def Cv (p0:List aA) (a:Int) (p2:Γc):AS SS:=⟨[(3,(vs (.mp 0))),(8,(vd 52 p0)),(9,(vl p0)),(10,(vi a))],[(some (.map .u64 .u64 p2))],0,none,false,[],[]⟩
def NH (p0:List aA) (p2:Γc):AS SS:=Cv p0 0 p2
def U5 (p0:List aA) (a0:Bool) (a:Int) (a2:Γc):AS SS:=xe [(11,(vb a0))] (Cv p0 a a2)
def HB (sh:Sh) (p0:List aA) (b:Int) (z0:aA) (a:(Γc)):T (((Γc))⊕(Bool×Int×(Γc))):=.ok (.inl (cb a z0.ba z0.aX))
def wY (sh:Sh) (p0:List aA) (b:Int) (a:(Γc)):T ((Bool×Int×(Γc))):=.ok ((decide (b<(↑p0.length:Int))),b,a)
def yR (p0:List aA) (p2:Γc):Option ((Bool×Int×(Γc))):=b8 sh (HB sh p0) (wY sh p0) p0 p2
def Sf {R} (k:KX SS R) (p0:List aA) (x:(Bool×Int×(Γc))):Option R:=(λv=>k (.exit 0) (U5 p0 v.1 v.2.1 v.2.2)) x
def Kc:bc SS:=br 4 (λst=>(bo 52 (aJ st 8 0)).bind λp0=>(gw st 0).bind λp2=>some (p0,p2)) (u2 NH) (u2 (yR shut)) (λk p=>Sf k p.1)
theorem aaK:LS KK γ aq ξc 105 4 Kc:=
 aZ.cd (π:=List aA×(Γc)) (σ:=(Γc)) (aj.all xM rfl) (aO.nil) rfl 60 (λp i a=>Cv p.1 i a) (λp=>p.1) (λp=>p.2) (St:=λp=>HB shut p.1) (F:=λp=>wY shut p.1) (λp=>rfl)
  (λm p i a k=>by kernel_rfl) (λp x=>⟨_,_,λ_=>rfl⟩) (λp N C A O w a b=>cL b (t:=52) (sl:=8) rfl λv h=>h)
def Qm:=bL (xL shut) aq ξc 105 [Kc]
theorem Qn:a7 Qm γ:=bO (aj.all xM rfl) ξl rfl aY (by kernel_rfl) aaK
def Ah (m:bT) (w:Int):T (Int×Int):=
 .bd (mQ sh m w) λa=>
  .bf (a !=0) (
   .ok (0,a))<|
  .gd (NH m.ae [])<|
   .bd (yR sh m.ae []) λb=>
    .bf (!match bw b.2.2 w with
 |some val=>true
 |none=>false) (
     .ok (0,4))<|
    .ok ((match bw b.2.2 w with
|some x=>x
|none=>0),0)
def ti (m:bT) (w:Int):=sh.s _ (Ah sh m w).val
def xN:=bN (c6 KK 164 54 35 (ti sh) (eN KK 35 27)) (xL sh)
theorem xO:aj (xN shut) γ:=de (rs:=[35,27]) xM Qn rfl rfl λm w k=>by kernel_rfl
def Cw (p0:List aA) (a:Int) (p2:Γc):AS SS:=⟨[(3,(vs (.mp 0))),(8,(vd 52 p0)),(9,(vl p0)),(10,(vi a))],[(some (.map .u64 .u64 p2))],0,none,false,[],[]⟩
def NI (p0:List aA) (p2:Γc):AS SS:=Cw p0 0 p2
def U6 (p0:List aA) (a0:Bool) (a:Int) (a2:Γc):AS SS:=xe [(11,(vb a0))] (Cw p0 a a2)
def HC (sh:Sh) (p0:List aA) (b:Int) (z0:aA) (a:(Γc)):T (((Γc))⊕(Bool×Int×(Γc))):=.ok (.inl (cb a z0.ba z0.aX))
def wZ (sh:Sh) (p0:List aA) (b:Int) (a:(Γc)):T ((Bool×Int×(Γc))):=.ok ((decide (b<(↑p0.length:Int))),b,a)
def yS (p0:List aA) (p2:Γc):Option ((Bool×Int×(Γc))):=b8 sh (HC sh p0) (wZ sh p0) p0 p2
def Sg {R} (k:KX SS R) (p0:List aA) (x:(Bool×Int×(Γc))):Option R:=(λv=>k (.exit 0) (U6 p0 v.1 v.2.1 v.2.2)) x
def Kd:bc SS:=br 4 (λst=>(bo 52 (aJ st 8 0)).bind λp0=>(gw st 0).bind λp2=>some (p0,p2)) (u2 NI) (u2 (yS shut)) (λk p=>Sg k p.1)
theorem aaL:LS KK γ aq ξc 105 4 Kd:=
 aZ.cd (π:=List aA×(Γc)) (σ:=(Γc)) (aj.all xO rfl) (aO.nil) rfl 60 (λp i a=>Cw p.1 i a) (λp=>p.1) (λp=>p.2) (St:=λp=>HC shut p.1) (F:=λp=>wZ shut p.1) (λp=>rfl)
  (λm p i a k=>by kernel_rfl) (λp x=>⟨_,_,λ_=>rfl⟩) (λp N C A O w a b=>cL b (t:=52) (sl:=8) rfl λv h=>h)
def CN (p0:List aA) (a p2 b:Int):AS SS:=⟨[(0,(vs .c4)),(2,(va 6 0)),(7,(vd 52 p0)),(8,(vl p0)),(9,(vi b))],[(bX 54 [(.aH 52 p0),(lu a)]),(bX 35 [(lu p2)]),(bX 54 [(.v (.slice none 0 0)),(lu 0)]),(bX 27 [(li 0)]),(some (.aM 267 [] [(.one (.aK 5 0)),(.one (.aK 6 0))])),(bX 54 [(.aH 52 p0),(lu a)]),(bX 35 [(lu p2)])],7,(some ⟨⟨ξu,aq 166⟩,[29],(eP (cr ξu) 9),(eQ (cr ξu) 9),[(2,(va 0 0)),(3,(va 1 0)),(4,(va 2 0)),(5,(va 3 0)),(28,(vc 4))],none⟩),false,[],[]⟩
def N3 (p0:List aA) (a p2:Int):AS SS:=CN p0 a p2 0
def Wc (p0:List aA) (a p2:Int):AS SS:=⟨[],[(bX 54 [(.aH 52 p0),(lu a)]),(bX 35 [(lu p2)]),(bX 54 [(.v (.slice none 0 0)),(lu 0)]),(bX 27 [(li 341)]),(some (.aM 267 [] [(.one (.aK 5 0)),(.one (.aK 6 0))])),(bX 54 [(.aH 52 p0),(lu a)]),(bX 35 [(lu p2)])],7,(some ⟨⟨ξu,aq 166⟩,[29],(eP (cr ξu) 9),(eQ (cr ξu) 9),[(2,(va 0 0)),(3,(va 1 0)),(4,(va 2 0)),(5,(va 3 0)),(28,(vc 4))],(some .ret)⟩),false,[],[2,3]⟩
def Wd (p0:List aA) (a p2:Int) (a0:Bool) (b:Int):AS SS:= {CN p0 a p2 a with env:=[(10,(vb a0)),(0,(vs .c4)),(2,(va 6 0)),(7,(vd 52 p0)),(8,(vl p0)),(9,(vi b))]}
def sr (p0:List aA) (c p2 d:Int) (z0:aA) (a:Unit):T (Unit⊕Unit⊕(Bool×Int)):=.bf (z0.ba !=p2) (.bd (B4 sh p2 z0.ba) λb=>.bf (b) (.ok (.inr (.inl ())))<|.ok (.inl ()))<|.ok (.inl ())
def rl (sh:Sh) (p0:List aA) (c p2 b:Int) (a:Unit):T (Unit⊕(Bool×Int)):=.ok (.inr ((decide (b<(↑p0.length:Int))),b))
def zm (p0:List aA) (a p2:Int):=b8 sh (sr sh p0 a p2) (rl sh p0 a p2) p0 ()
def S4 {R} (k:KX SS R) (p0:List aA) (a p2:Int) (x:Unit⊕(Bool×Int)):Option R:=(λx=>θ (λv=>k .ret (Wc p0 a p2)) (λv=>k (.exit 0) (Wd p0 a p2 v.1 v.2)) x) x
def KQ:bc SS:=br 2 (λst=>((cg st 4 267).bind λ_=>gA st 38 9).bind λ_=>(bo 52 (aJ st 7 0)).bind λp0=>(aU (bj st 0 1)).bind λa=>(aU (bj st 1 0)).bind λp2=>some (p0,a,p2)) (u3 N3) (u3 (zm shut)) (λk=>u3 (S4 k))
def F5:=bL (xN shut) aq ξc 105 [Kd]
theorem F6:a7 F5 γ:=bO (aj.all xO rfl) ξl rfl aY (by kernel_rfl) aaL
theorem abi:LS KK γ aq Tryz.f267 267 2 KQ:=
 aZ.cd F6 (aO.nil) rfl 60 (λp i a=>u3 CN p i) (λp=>p.1) (λp=>()) (St:=u3 (sr shut)) (F:=u3 (rl shut)) (λp=>rfl)
  (λm p i a k=>by kernel_rfl) (by rintro p (x|x)<;>exact⟨_,_,λ_=>rfl⟩) (λp N C A O w a b=>cL b (t:=52) (sl:=7) rfl λv h=>h)
def CJ (p0:List aA) (a p2:Int) (b:List aA):AS SS:=⟨[(1,(vc 0)),(5,(vo 2)),(8,(vd 52 p0)),(9,(vl p0)),(10,(vi p2))],[(some (.aM 218 [] [(.one (.aK 1 0))])),(bX 35 [(lu a)]),(rX 122 b)],2,none,false,[],[]⟩
def NY (p0:List aA) (a:Int) (b:List aA):AS SS:=CJ p0 a 0 b
def VZ (p0:List aA) (a:Int) (a0:Bool) (b:Int) (a2:List aA):AS SS:= {CJ p0 a a a2 with env:=[(11,(vb a0)),(1,(vc 0)),(5,(vo 2)),(8,(vd 52 p0)),(9,(vl p0)),(10,(vi b))]}
def sk (sh:Sh) (p0:List aA) (b p2:Int) (z0:aA) (a:List aA):T (List aA⊕(Bool×Int×List aA)):=.bf (z0.ba !=b) (.bd (app 16 a [z0]) λc=>.ok (.inl c))<|.ok (.inl a)
def rf (sh:Sh) (p0:List aA) (b p2:Int) (a:List aA):T ((Bool×Int×List aA)):=.ok ((decide (p2<(↑p0.length:Int))),p2,a)
def ze (p0:List aA) (a:Int) (b:List aA):=b8 sh (sk sh p0 a) (rf sh p0 a) p0 b
def SR {R} (k:KX SS R) (p0:List aA) (a:Int) (x:(Bool×Int×List aA)):Option R:=(λv=>k (.exit 0) (VZ p0 a v.1 v.2.1 v.2.2)) x
def KG:bc SS:=br 4 (λst=>(cg st 0 218).bind λ_=>(bo 52 (aJ st 8 0)).bind λp0=>(aU (bj st 1 0)).bind λa=>(b3 st 2 122).bind λb=>some (p0,a,b)) (u3 NY) (u3 (ze shut)) (λk p=>SR k p.1 p.2.1)
def F7:=bL F5 aq Tryz.f267 267 [KQ]
theorem F8:a7 F7 γ:=bO F6 Tryz.func267 rfl aY (by kernel_rfl) abi
theorem aa':LS KK γ aq Tryz.f217 217 4 KG:=
 aZ.cd (π:=List aA×Int×List aA) (σ:=List aA) F8 (aO.nil) rfl 60 (λp i a=>CJ p.1 p.2.1 i a) (λp=>p.1) (λp=>p.2.2) (St:=λp=>sk shut p.1 p.2.1) (F:=λp=>rf shut p.1 p.2.1) (λp=>rfl)
  (λm p i a k=>by kernel_rfl) (λp x=>⟨_,_,λ_=>rfl⟩) (λp N C A O w a b=>cL b (t:=52) (sl:=8) rfl λv h=>h)
def Qq:=bL F7 aq Tryz.f217 217 [KG]
theorem Qr:a7 Qq γ:=bO F8 Tryz.func217 rfl aY (by kernel_rfl) aa'
def Aj (m:bT) (w:Int):T (bT×Int):=
 .bd (mQ sh m w) λa=>
  .bf (a !=0) (
   .ok (⟨[],0⟩,a))<|
  .gd (NI m.ae [])<|
   .bd (yS sh m.ae []) λc=>
    .bf (!match bw c.2.2 w with
 |some val=>true
 |none=>false) (
     .ok (⟨[],0⟩,4))<|
    .gd (N3 m.ae m.bp w)<|
     .bd (zm sh m.ae m.bp w) λb=>.cs b (λ_=>
      .ok (⟨[],0⟩,341)) λe=>
      .gd (NY m.ae w [])<|
       .bd (ze sh m.ae w []) λd=>
        .ok (⟨d.2.2,m.bp⟩,0)
def tk (m:bT) (w:Int):=sh.s _ (Aj sh m w).val
def xR:=bN (c6 KK 166 54 35 (tk sh) (eN KK 54 27)) (xN sh)
theorem xS:aj (xR shut) γ:=de (rs:=[54,27]) xO Qr rfl rfl λm w k=>by kernel_rfl
def Ct (p0:List aA) (a:Int) (p2:Γc):AS SS:=⟨[(3,(vs (.mp 0))),(8,(vd 52 p0)),(9,(vl p0)),(10,(vi a))],[(some (.map .u64 .u64 p2))],0,none,false,[],[]⟩
def NF (p0:List aA) (p2:Γc):AS SS:=Ct p0 0 p2
def U3 (p0:List aA) (a0:Bool) (a:Int) (a2:Γc):AS SS:=xe [(11,(vb a0))] (Ct p0 a a2)
def Hz (sh:Sh) (p0:List aA) (b:Int) (z0:aA) (a:(Γc)):T (((Γc))⊕(Bool×Int×(Γc))):=.ok (.inl (cb a z0.ba z0.aX))
def wW (sh:Sh) (p0:List aA) (b:Int) (a:(Γc)):T ((Bool×Int×(Γc))):=.ok ((decide (b<(↑p0.length:Int))),b,a)
def yP (p0:List aA) (p2:Γc):Option ((Bool×Int×(Γc))):=b8 sh (Hz sh p0) (wW sh p0) p0 p2
def Sd {R} (k:KX SS R) (p0:List aA) (x:(Bool×Int×(Γc))):Option R:=(λv=>k (.exit 0) (U3 p0 v.1 v.2.1 v.2.2)) x
def Ka:bc SS:=br 4 (λst=>(bo 52 (aJ st 8 0)).bind λp0=>(gw st 0).bind λp2=>some (p0,p2)) (u2 NF) (u2 (yP shut)) (λk p=>Sd k p.1)
theorem aaI:LS KK γ aq ξc 105 4 Ka:=
 aZ.cd (π:=List aA×(Γc)) (σ:=(Γc)) (aj.all xS rfl) (aO.nil) rfl 60 (λp i a=>Ct p.1 i a) (λp=>p.1) (λp=>p.2) (St:=λp=>Hz shut p.1) (F:=λp=>wW shut p.1) (λp=>rfl)
  (λm p i a k=>by kernel_rfl) (λp x=>⟨_,_,λ_=>rfl⟩) (λp N C A O w a b=>cL b (t:=52) (sl:=8) rfl λv h=>h)
def tO (p0:Γa) (a:Γc) (p2 b:Int):AS SS:=⟨[(10,(vc 0)),(11,(vu p2)),(28,(vd 130 p0)),(29,(vl p0)),(30,(vi b))],[(some (.aM 208 [] [(.one (.aK 1 0))])),(bX 171 [(.mp 2)]),(some (.map .u64 .u64 a))],0,none,false,[],[]⟩
def NR (p0:Γa) (a:Γc) (p2:Int):AS SS:=tO p0 a p2 0
def VD (p0:Γa) (b:Γc) (a0:Bool) (a a2:Int) (a3:Bool) (a4 a5:Int):AS SS:= {tO p0 b a a with env:=[(38,(vb a0)),(37,(vu a)),(11,(vu a)),(36,(vu a)),(35,(vu a2)),(34,(vc 0)),(13,(vu a2)),(33,(vu a2)),(32,(vs (.ptr 35 a2 0))),(31,(vb a3)),(10,(vc 0)),(11,(vu a4)),(28,(vd 130 p0)),(29,(vl p0)),(30,(vi a5))]}
def VE (p0:Γa) (b:Γc) (a0:Bool) (a a2:Int):AS SS:= {tO p0 b a a with env:=[(31,(vb a0)),(10,(vc 0)),(11,(vu a)),(28,(vd 130 p0)),(29,(vl p0)),(30,(vi a2))]}
def oM (sh:Sh) (p0:Γa) (b:Γc) (c z0 a:Int):T (Int⊕(Bool×Int×Int×Bool×Int×Int)⊕(Bool×Int×Int)):=.bf (decide ((bw b z0).getD 0>0)) (.ok (.inr (.inl ((decide ((bw b z0).getD 0>0)),((bw b z0).getD 0),z0,(decide (c<(↑p0.length:Int))),a,c))))<|.ok (.inl ((bw b z0).getD 0))
def w7 (sh:Sh) (p0:Γa) (c:Γc) (b a:Int):T ((Bool×Int×Int×Bool×Int×Int)⊕(Bool×Int×Int)):=.ok (.inr ((decide (b<(↑p0.length:Int))),a,b))
def y2 (p0:Γa) (a:Γc) (p2:Int):=b8 sh (oM sh p0 a) (w7 sh p0 a) p0 p2
def SB {R} (k:KX SS R) (p0:Γa) (a:Γc) (x:(Bool×Int×Int×Bool×Int×Int)⊕(Bool×Int×Int)):Option R:=(λx=>θ (λv=>k (.exit 0) (VD p0 a v.1 v.2.1 v.2.2.1 v.2.2.2.1 v.2.2.2.2.1 v.2.2.2.2.2)) (λv=>k (.exit 0) (VE p0 a v.1 v.2.1 v.2.2)) x) x
def Ks:bc SS:=br 10 (λst=>(cg st 0 208).bind λ_=>(bo 130 (aJ st 28 0)).bind λp0=>(gw st 2).bind λa=>(aU (aJ st 11 0)).bind λp2=>some (p0,a,p2)) (u3 NR) (u3 (y2 shut)) (λk p=>SB k p.1 p.2.1)
def FV:=bL (xR shut) aq ξc 105 [Ka]
theorem FW:a7 FV γ:=bO (aj.all xS rfl) ξl rfl aY (by kernel_rfl) aaI
theorem aaZ:LS KK γ aq Tryz.f156 156 10 Ks:=
 aZ.cd (π:=Γa×(Γc)×Int) (σ:=Int) FW (aO.nil) rfl 60 (λp i a=>tO p.1 p.2.1 a i) (λp=>p.1) (λp=>p.2.2) (St:=λp=>oM shut p.1 p.2.1) (F:=λp=>w7 shut p.1 p.2.1) (λp=>rfl)
  (λm p i a k=>by kernel_rfl) (by rintro p (x|x)<;>exact⟨_,_,λ_=>rfl⟩) (λp N C A O w a b=>cL b (t:=130) (sl:=28) rfl λv h=>h)
def Qe:=bL FV aq Tryz.f156 156 [Ks]
theorem Qf:a7 Qe γ:=bO FW Tryz.func156 rfl aY (by kernel_rfl) aaZ
def Ac (m:bT) (w:Int):T (Int×Int):=.bd (mQ sh m w) λb=>.bf (b !=0) (.ok (0,b))<|.bd (B3 sh w) λc=>.gd (NF m.ae [])<|.bd (yP sh m.ae []) λd=>.gd (NR c.1 d.2.2 0)<|.bd (y2 sh c.1 d.2.2 0) λe=>.cs e (λa=>.bf (a.2.1==0) (.ok (0,4))<|.ok (a.2.1,0)) λa=>.bf (a.2.1==0) (.ok (0,4))<|.ok (a.2.1,0)
def mO (m:bT) (w:Int):=sh.s _ (Ac sh m w).val
def xH:=bN (c6 KK 156 54 35 (mO sh) (eN KK 35 27)) (xR sh)
theorem xI:aj (xH shut) γ:=de (rs:=[35,27]) xS Qf rfl rfl λm w k=>by kernel_rfl
end Go.Proofs.YtoggponeookhbaaGreatDoor
end
