/- A part of the proof that OrderIs returns true for every input: the machine of values, its soundness, the program as plain functions, the law. Conditions: those of the given rows. -/
import Derived.Test.YtoggponeookhbaaGreatDoorI5
import Derived.ProofKit
import Derived.OpenShut
import Derived.Lib.LaidTab
import Derived.Test.YtoggponeookhbaaGreatDoorCards
import Derived.Test.YtoggponeookhbaaGreatDoorTie
set_option linter.unusedVariables false
set_option linter.unusedSimpArgs false
noncomputable section
set_option maxRecDepth 1000000
set_option maxHeartbeats 12000000
open Bool renaming not_true→ω,and_false→ξl,not_false→ξm,false_or→ξp,true_or→ξA
open Go.Cell renaming okWide→ξE
open Go.DataW renaming trod→ξw,TrodAll→ξz
open Go.IntKind renaming i64→ο
open Go.MemPlace renaming row→ξD
open Go.Proofs.Tryz renaming prog→η,f25→υ,f17→ξ3,f24→ξb,f51→ξf,func24→ξv
open Go.Proofs.YtoggponeookhbaaGreatDoor.Rows renaming laid_afterglow_proc_first→ξ5
open Go.Value renaming okWide→ξ4,cells→ξo
open Go.World renaming frozen?→ξy
open Int renaming toNat_natCast→μ,lt_irrefl→ξq,le_trans→ξC
open List renaming getElem?_eq_some_iff→γ,getElem?_eq_getElem→ε,mem_of_getElem?→ζ,getElem?_eq_none_iff→θ,replicate→ι,mem_append_left→κ,getElem_mem→ν,mem_append_right→ξ,getElem?_append_left→ρ,getElem?_map→τ,mem_append→φ,mem_singleton→ψ,range→ξ0,getElem?_set→ξ1,mem_range→ξ2,mem_cons_of_mem→ξ6,pairwise_append→ξ7,getElem?_range→ξ8,length_append→ξa,mem_cons_self→ξc,ext_getElem?→ξd,getElem?_replicate→ξe,mem_flatMap→ξg,range_succ→ξi,getElem?_eq_none→ξj,map_congr_left→ξn,mem_cons→ξr,append_nil→ξs,length_map→ξt,length_set→ξu,set_set→ξB
open Nat renaming le_refl→χ,lt_or_ge→ξh,zero_add→ξk
open Option renaming bind_some→δ,map_some→ξ9
open Sum renaming rec→ξx
section
namespace Go.Proofs.YtoggponeookhbaaGreatDoor
open Go.RowKit Go.Dc Go.Vx
section
variable {α σ X:Type}
theorem Of {step:Int->α->σ->Option (σ⊕X)} {fin:Int->σ->Option X} {l:List α} {I:Nat->σ->Prop} {J:X->Prop}
  (h: ∀(j:Nat) z a,l[j]? =some z->I j a-> ∃y,step j z a=some y/\(∀a',y= .inl a'->I (j+1) a')/\ ∀x,y= .inr x->J x) (b: ∀a,I l.length a-> ∃x,fin (l.length:Int) a=some x/\J x):
  ∀(r pre:List α) (a:σ),l=pre++r->I pre.length a-> ∃x,bV step fin pre.length r a=some x/\J x
 |[],pre,a,e,hi=>by
  rw[ξs] at e;subst e;exact b a hi
 |z::r,pre,a,e,hi=>by
  obtain⟨y,h1,c,d⟩:=h pre.length z a (by rw[e];simp) hi;rw[hf,h1,δ];cases y with
  |inl a'=>
   have:=Of h b r (pre++[z]) a' (by rw[e];simp) (by rw[ξa];exact c a' rfl);rw[show(pre++[z]).length=pre.length+1 by simp] at this;exact this
  |inr x=>exact⟨x,rfl,d x rfl⟩
theorem Oe {step:Int->α->σ->Option (σ⊕X)} {fin:Int->σ->Option X} {l:List α} {I:Nat->σ->Prop} {J:X->Prop} {a0:σ}
 (h: ∀(j:Nat) z a,l[j]? =some z->I j a-> ∃y,step j z a=some y/\(∀a',y= .inl a'->I (j+1) a')/\ ∀x,y= .inr x->J x) (c: ∀a,I l.length a-> ∃x,fin (l.length:Int) a=some x/\J x) (b:I 0 a0): ∃x,bV step fin 0 l a0=some x/\J x:=Of h c l [] a0 rfl b
end
theorem Gb {s:aZ} {d:ae} (c:c8 s) (e:hr d.bU): ∃a b,fF ab s d=some (a,b)/\c8 a:=by
 have hi:=Z3 c e;show ∃a b,(Ba ab s d).val=some (a,b)/\c8 a;unfold Ba;simp only[T.aS,T.aI,T.aH,v19 c e,δ,w52,v12];cases (d.bj==0)
 ·cases (fi d.bZ ⟨363,0⟩||fi d.bZ ⟨364,0⟩)
  ·exact⟨_,_,rfl,hi⟩
  ·cases ((hz s d.bU).2.cb==0)
   ·exact⟨_,_,rfl,c⟩
   ·exact⟨_,_,rfl,c⟩
 ·exact⟨_,_,rfl,hi⟩
theorem aal {α:Type} {l:List α} {k:Nat} {z:α} (hl:l.length=k+1) (hk:k<=1000) (a:l[k]? =some z):idx l (ο.wrap ((l.length:Int)-1))=some z/\l[(ο.wrap ((l.length:Int)-1)).toNat]? =some z:=by
 have e:ο.wrap ((l.length:Int)-1)=(k:Int):=by rw[cz]<;>omega
 rw[e];exact⟨cW a,by rw[μ];exact a⟩
section
variable {q:List ae}
def ka (q:List ae):Prop:= ∀d∈q,hr d.bU
theorem ZT {x:Int} {d:ae} (h:idx q x=some d):d∈q:=by
 unfold idx at h;split at h
 ·exact ζ h
 ·cases h
def k2 (q:List ae) (l:Γa) (a:List aZ) (j:Nat):Prop:=a[0]? =some dJ/\ ∀(k:Nat) x,k<j->l[k]? =some x-> ∃d s s1,idx q x=some d/\a[k]? =some s/\a[k+1]? =some s1/\fF ab s d=some (s1,true)
theorem k2.app {l:Γa} {a:List aZ} {j:Nat} {x:Int} {d:ae} {s c:aZ} (h:k2 q l a j) (hl:a.length=j+1) (r:l[j]? =some x) (o:idx q x=some d) (p:a[j]? =some s) (h1:fF ab s d=some (c,true)):k2 q l (a++[c]) (j+1):=by
 refine⟨by rw[ρ (by omega)];exact h.1,λk y hk b=>?_⟩;rcases ξh k j with f|f
 ·obtain⟨d2,s2,t,g,i,m,n⟩:=h.2 k y f b;exact⟨d2,s2,t,g,by rw[ρ (by omega)];exact i,by rw[ρ (by omega)];exact m,n⟩
 ·have e:k=j:=by omega
  subst e;rw[r] at b;cases b;exact⟨d,s,c,o,by rw[ρ (by omega)];exact p,by rw[List.getElem?_append_right (by omega),hl];simp,h1⟩
theorem Qd {l:Γa} (hw:ka q) (hi:dz q l) (hl:l.length<=100): ∃ss b,pP ab ⟨q⟩ l=some (ss,b)/\(b=true->ss.length=l.length+1/\(∀s∈ss,c8 s)/\k2 q l ss l.length):=by
 obtain⟨x,h1,f⟩:=Oe (step:=λi z a=>(sK ab l q i z a).val) (fin:=λi a=>(xw ab l q i a).val) (l:=l) (a0:=[dJ]) (I:=λj a=>a.length=j+1/\(∀s∈a,c8 s)/\k2 q l a j) (J:=λx=> ∀y,x= .inr y->y.2.2.length=l.length+1/\(∀s∈y.2.2,c8 s)/\k2 q l y.2.2 l.length) (λj z a m ⟨h1,f,t⟩=>by
  have C:=(γ.1 m).1;have o:a[j]? =some a[j]:=ε (by omega);obtain⟨v,w⟩:=aal h1 (by omega) o;obtain⟨d,h,_⟩:=jE (hi z (ζ m));have c:c8 a[j]:=f _ (ν _);obtain⟨B,b,p,A⟩:=Gb c (hw d (ZT h));unfold sK;simp only[T.aS,T.aI,T.aH,v,w,h,p,δ,v12];cases b
  ·exact⟨_,rfl,(λa' e=>by cases e),λx e y g=>by cases e;cases g⟩
  ·cases decide (B=a[j])
   ·rw[lq (n:=1000) (by simp;omega) (by decide)];refine⟨_,rfl,λa' e=>?_,λx e=>by cases e⟩;cases e;refine⟨by simp;omega,λs c=>?_,t.app h1 m h o p⟩;rcases φ.1 c with c|c
    ·exact f s c
    ·rw[ψ.1 c];exact A
   ·exact⟨_,rfl,(λa' e=>by cases e),λx e y g=>by cases e;cases g⟩) (λa ⟨h1,f⟩=>⟨_,rfl,λy g=>by cases g;exact⟨h1,f⟩⟩) ⟨rfl,(λs c=>by rw[ψ.1 c];exact KO),rfl,λk x hk=>absurd hk (by omega)⟩
 have r:zY ab l q [dJ]=some x:=h1;show ∃ss b,(Bc ab ⟨q⟩ l).val=some (ss,b)/\_;unfold Bc;simp only[T.aS,T.bL,T.cN,T.aH,F9,δ,r];cases x with
 |inl u=>exact⟨_,_,rfl,λe=>by cases e⟩
 |inr y=>exact⟨_,_,rfl,λ_=>f y rfl⟩
end
section
variable {q:List ae} {l:Γa} {ss:List aZ} {d:ae}
theorem vf {key:ae->Int} {x:Int} {d:ae} (h:idx q x=some d):dk key q x=key d:=by
 unfold idx at h;split at h
 ·unfold dk;rw[h]
 ·cases h
def k' (q:List ae) (l:Γa) (ss:List aZ) (d:ae) (a:Nat):Prop:=(∀x,0<a->l[a-1]? =some x->dk ae.aL q x<=d.bj)/\(∀x,l[a]? =some x->d.bz<=dk ae.aL q x)/\ ∃s,ss[a]? =some s/\fF ab s d=some (s,true)
theorem S8 (hi:dz q l) (hl:l.length<=100) (J:ss.length=l.length+1) (C: ∀s∈ss,c8 s) (E:hr d.bU) {a:Nat} (I:a<=l.length):
  ∃y,(ie ab l ss ((l.length+1:Nat):Int) q d.cx d.bU.bq d.bU.fArgs d.bZ.cb d.bZ.cv d.bz d.aL d.bj (a:Int)).val=some y/\(y= .inl ((a+1:Nat):Int)\/y= .inr (.inl (a:Int))/\k' q l ss d a):=by
 have m:decide ((a:Int)<((l.length+1:Nat):Int))=true:=decide_eq_true (by omega);have g:ss[a]? =some ss[a]:=ε (by omega);obtain⟨i,b,k,_⟩:=Gb (C ss[a] (ν _)) E;have w1:ο.wrap ((a:Int)+1)=((a+1:Nat):Int):=by rw[cz]<;>omega
 have t:(ae.mk d.cx (cJ.mk d.bU.bq d.bU.fArgs) (cV.mk d.bZ.cb d.bZ.cv) d.bz d.aL d.bj)=d:=rfl;have fin:(∀x,0<a->l[a-1]? =some x->dk ae.aL q x<=d.bj)->(∀x,l[a]? =some x->d.bz<=dk ae.aL q x)-> ∀(y:Option (Int⊕Int⊕(Bool×Int))),y=(bif b then(bif decide (i=ss[a]) then some (.inr (.inl (a:Int))) else some (.inl ((a+1:Nat):Int))) else some (.inl ((a+1:Nat):Int)))-> ∃z,y=some z/\(z= .inl ((a+1:Nat):Int)\/z= .inr (.inl (a:Int))/\k' q l ss d a):=λe B y G=>by
  rw[G];cases b
  ·exact⟨_,rfl,.inl rfl⟩
  ·cases F:decide (i=ss[a])
   ·exact⟨_,rfl,.inl rfl⟩
   ·exact⟨_,rfl,.inr ⟨rfl,e,B,ss[a],g,by rw[k,of_decide_eq_true F]⟩⟩
 have tail:(∀x,0<a->l[a-1]? =some x->dk ae.aL q x<=d.bj)-> ∀(f:Bool),(f=true->a<l.length)->(f=false-> ¬a<l.length)-> ∃z,(bif f then((idx l (a:Int)).bind λz0=>(idx q z0).bind λH=>bif decide (H.aL<d.bz) then some (.inl ((a+1:Nat):Int)) else(bif b then(bif decide (i=ss[a]) then some (.inr (.inl (a:Int))) else some (.inl ((a+1:Nat):Int))) else some (.inl ((a+1:Nat):Int)))) else(bif b then(bif decide (i=ss[a]) then some (.inr (.inl (a:Int))) else some (.inl ((a+1:Nat):Int))) else some (.inl ((a+1:Nat):Int))))=(some z:Option (Int⊕Int⊕(Bool×Int)))/\(z= .inl ((a+1:Nat):Int)\/z= .inr (.inl (a:Int))/\k' q l ss d a):=λe f h1 v=>by
  cases f
  ·exact fin e (λx c=>absurd (γ.1 c).1 (v rfl)) _ rfl
  ·have D:=h1 rfl;have o:l[a]? =some l[a]:=ε D;obtain⟨d3,r,_⟩:=jE (hi l[a] (ν _));simp only[cond_true,cW o,r,δ];cases w:decide (d3.aL<d.bz)
   ·refine fin e (λx c=>?_) _ rfl;rw[o] at c;cases c;rw[vf r];have:=of_decide_eq_false w;omega
   ·exact⟨_,rfl,.inl rfl⟩
 have t2:=λe=>tail e (decide ((a:Int)<(l.length:Int))) (λh=>by have:=of_decide_eq_true h;omega) (λh=>by have:=of_decide_eq_false h;omega);unfold ie;simp only[t];rcases Nat.eq_zero_or_pos a with u|u
 ·have j:decide ((a:Int)>0)=false:=decide_eq_false (by omega);simp only[T.aS,T.aI,T.aH,m,j,cond_true,cond_false,cW g,k,δ,v12,w1];exact t2 λx h=>absurd h (by omega)
 ·have j:decide ((a:Int)>0)=true:=decide_eq_true (by omega);have w2:ο.wrap ((a:Int)-1)=((a-1:Nat):Int):=by rw[cz]<;>omega
  have hp:a-1<l.length:=by omega
  have n:l[a-1]? =some l[a-1]:=ε hp;obtain⟨d1,p,_⟩:=jE (hi l[a-1] (ν _));simp only[T.aS,T.aI,T.aH,m,j,cond_true,w2,cW n,p,cW g,k,δ,v12,w1];cases A:decide (d1.aL>d.bj)
  ·refine t2 λx _ c=>?_;rw[n] at c;cases c;rw[vf p];have:=of_decide_eq_false A;omega
  ·exact⟨_,rfl,.inl rfl⟩
theorem H_ (hi:dz q l) (hl:l.length<=100) (g:ss.length=l.length+1) (b: ∀s∈ss,c8 s) (c:hr d.bU): ∀(k a f:Nat),a+k=l.length+1->k<f-> ∃x,cf (λa=>(ie ab l ss ((l.length+1:Nat):Int) q d.cx d.bU.bq d.bU.fArgs d.bZ.cb d.bZ.cv d.bz d.aL d.bj a).val) f (a:Int)=some x/\ ∀y,x= .inl y-> ∃m:Nat,y=m/\m<=l.length/\k' q l ss d m
 |k,a,0,_,h=>by omega
 |0,a,f+1,h,_=>by
  have j:decide ((a:Int)<((l.length+1:Nat):Int))=false:=decide_eq_false (by omega);have n:(ie ab l ss ((l.length+1:Nat):Int) q d.cx d.bU.bq d.bU.fArgs d.bZ.cb d.bZ.cv d.bz d.aL d.bj (a:Int)).val=some (.inr (.inr (false,(a:Int)))):=by
   unfold ie;simp only[T.aI,T.aH,j,cond_false]
  refine⟨.inr (false,(a:Int)),?_,λy e=>by cases e⟩;show((ie ab l ss _ q _ _ _ _ _ _ _ _ _).val.bind _)=_;rw[n];rfl
 |k+1,a,f+1,h,u=>by
  obtain⟨y,i,o⟩:=S8 (a:=a) hi hl g b c (by omega);rcases o with rfl|⟨rfl,t⟩
  ·obtain⟨x,p,r⟩:=H_ hi hl g b c k (a+1) f (by omega) (by omega);refine⟨x,?_,r⟩;show((ie ab l ss _ q _ _ _ _ _ _ _ _ _).val.bind _)=_;rw[i];exact p
  ·refine⟨.inl (a:Int),?_,λy e=>by cases e;exact⟨a,rfl,by omega,t⟩⟩;show((ie ab l ss _ q _ _ _ _ _ _ _ _ _).val.bind _)=_;rw[i];rfl
theorem w34 (hi:dz q l) (hl:l.length<=100) (g:ss.length=l.length+1) (a: ∀s∈ss,c8 s) (f:hr d.bU): ∃n b,nj ab ⟨q⟩ l ss d=some (n,b)/\(b=true-> ∃m:Nat,n=m/\m<=l.length/\k' q l ss d m):=by
 obtain⟨x,h,i⟩:=H_ (d:=d) hi hl g a f (l.length+1) 0 1000000 (by omega) (by omega);have w1:ο.wrap ((l.length:Int)+1)=((l.length+1:Nat):Int):=by rw[cz]<;>omega
 have c:zZ ab l ss ((l.length+1:Nat):Int) q d.cx d.bU.bq d.bU.fArgs d.bZ.cb d.bZ.cv d.bz d.aL d.bj 0=some x:=h;show ∃n b,(Bd ab ⟨q⟩ l ss d).val=some (n,b)/\_;unfold Bd;simp only[T.aS,T.bL,T.cN,T.aH,w1,c,δ];cases x with
 |inl y=>exact⟨_,_,rfl,λ_=>i y rfl⟩
 |inr y=>exact⟨_,_,rfl,λe=>by cases e⟩
end
theorem Px {α:Type} {f g:Nat->α} {n m:Nat} {y:α} (b:g m=y) (a: ∀i,i≠m->g i=f i):((ξ0 n).map f).set m y=(ξ0 n).map g:=by
 apply ξd;intro i;rw[ξ1,τ,τ,ξt,List.length_range]
 by_cases h:m=i
 ·subst h;rw[if_pos rfl]
  by_cases hn:m<n
  ·rw[if_pos hn,ξ8 hn];simp[b]
  ·rw[if_neg hn,θ.2 (by simp;omega)];rfl
 ·rw[if_neg h]
  by_cases hn:i<n
  ·rw[ξ8 hn];simp[a i (λe=>h e.symm)]
  ·rw[θ.2 (by simp;omega)];rfl
theorem CU {α:Type} {f:Nat->α} {n m:Nat} (h:m<n):((ξ0 n).map f)[m]? =some (f m):=by
 rw[τ,ξ8 h];rfl
section
variable {q:List ae} {l:Γa} {ss:List aZ}
noncomputable def cw (q:List ae) (l:Γa) (ss:List aZ) (d:ae):Option Nat:=match nj ab ⟨q⟩ l ss d with
 |some (n,true)=>some n.toNat
 |_=>none
theorem ES (hi:dz q l) (hl:l.length<=100) (f:ss.length=l.length+1) (c: ∀s∈ss,c8 s) {d:ae} (e:hr d.bU):
  (∃n:Nat,nj ab ⟨q⟩ l ss d=some ((n:Int),true)/\cw q l ss d=some n/\n<=l.length/\k' q l ss d n)\/(∃n,nj ab ⟨q⟩ l ss d=some (n,false)/\cw q l ss d=none):=by
 obtain⟨n,b,h1,a⟩:=w34 (d:=d) hi hl f c e;unfold cw;rw[h1];cases b
 ·exact .inr ⟨n,rfl,rfl⟩
 ·obtain⟨m,rfl,hm⟩:=a rfl;exact .inl ⟨m,rfl,by simp,hm⟩
def hZ (q:List ae) (pl:ae->Option Nat) (n j:Nat):Bool:=match q[j]? with
 |some d=>(d.aL==0)&&((d.bj !=0)&&(pl d==some n))
 |none=>false
def da (q:List ae) (pl:ae->Option Nat) (n j:Nat):Γa:=((ξ0 j).filter (hZ q pl n)).map λ(i:Nat)=>(i:Int)
variable {pl:ae->Option Nat}
theorem Fy (n j:Nat):da q pl n (j+1)=da q pl n j++if hZ q pl n j then[(j:Int)] else[]:=by
 unfold da;rw[ξi,List.filter_append,List.map_append]
 congr 1
 cases h:hZ q pl n j<;>simp[h]
theorem wo (n j:Nat):(da q pl n j).length<=j:=by
 unfold da;rw[ξt];exact Nat.le_trans (List.length_filter_le _ _) (by simp)
theorem Fx {n j:Nat} {x:Int}:x∈da q pl n j↔ ∃i:Nat,x=i/\i<j/\hZ q pl n i=true:=by
 unfold da;simp only[List.mem_map,List.mem_filter,ξ2];constructor
 ·rintro ⟨i,⟨h1,a⟩,rfl⟩;exact⟨i,rfl,h1,a⟩
 ·rintro ⟨i,rfl,h1,a⟩;exact⟨i,⟨h1,a⟩,rfl⟩
theorem Z8 {n i:Nat} (h:hZ q pl n i=true):i<q.length:=by
 unfold hZ at h;split at h
 ·rename_i d a;exact(γ.1 a).1
 ·cases h
theorem ads (n j:Nat):(da q pl n j).Pairwise (· < ·):=by
 unfold da;rw[List.pairwise_map];exact((List.pairwise_lt_range (n:=j)).sublist List.filter_sublist).imp λh=>by omega
theorem Ol (n j:Nat):dz q (da q pl n j):=λx b=>by
 obtain⟨i,rfl,h1,a⟩:=Fx.1 b;have:=Z8 a;omega
def eh (q:List ae) (pl:ae->Option Nat) (L j:Nat):List (Option (Γa)):=(ξ0 (L+1)).map λn=>some (da q pl n j)
theorem aeG {L j:Nat}:(eh q pl L j).length=L+1:=by simp[eh]
theorem PQ {L j n:Nat} (h:n<=L):(eh q pl L j)[n]? =some (some (da q pl n j)):=CU (by omega)
def lT (pl:ae->Option Nat) (d:ae):Bool:=(d.aL !=0)||((d.bj==0)||(pl d).isSome)
theorem S4 (u:q.length<=100) (hw:ka q) (hi:dz q l) (hl:l.length<=100) (p:ss.length=l.length+1) (o: ∀s∈ss,c8 s) {j:Nat} {z:ae} (g:q[j]? =some z):
  (oO ab l ss q (j:Int) z (eh q (cw q l ss) l.length j)).val=some (bif lT (cw q l ss) z then .inl (eh q (cw q l ss) l.length (j+1)) else .inr (.inl ())):=by
 have t:=(γ.1 g).1;have same:(∀n,hZ q (cw q l ss) n j=false)->eh q (cw q l ss) l.length (j+1)=eh q (cw q l ss) l.length j:=λh=>by
  unfold eh;refine ξn λn hn=>?_;rw[Fy,h n];simp
 have c: ∀n,hZ q (cw q l ss) n j=((z.aL==0)&&((z.bj !=0)&&(cw q l ss z==some n))):=λn=>by unfold hZ;rw[g]
 unfold oO lT;cases h1:(z.aL !=0) with
 |true=>
  have d:(z.aL==0)=false:=by rw[show(z.aL !=0)=!(z.aL==0) from rfl] at h1;simpa using h1
  simp only[T.aI,T.aH,h1,cond_true,ξA];rw[same λn=>by rw[c,d];rfl]
 |false=>
  have d:(z.aL==0)=true:=by rw[show(z.aL !=0)=!(z.aL==0) from rfl] at h1;simpa using h1
  cases a:(z.bj==0) with
  |true=>
   have f:(z.bj !=0)=false:=by rw[show(z.bj !=0)=!(z.bj==0) from rfl,a];rfl
   simp only[T.aI,T.aH,h1,a,cond_true,cond_false,ξp,ξA];rw[same λn=>by rw[c,f,Bool.false_and,ξl]]
  |false=>
   have f:(z.bj !=0)=true:=by rw[show(z.bj !=0)=!(z.bj==0) from rfl,a];rfl
   rcases ES (q:=q) (l:=l) (ss:=ss) hi hl p o (hw z (ζ g)) with⟨n,i,b,k,_⟩|⟨n,i,b⟩
   ·have i1:idx (eh q (cw q l ss) l.length j) (n:Int)=some _:=cW (PQ k);have i2:jW (eh q (cw q l ss) l.length j) n=some (da q (cw q l ss) n j):=by unfold jW;rw[PQ k]
    have i3:idx ((eh q (cw q l ss) l.length j).set n none) (n:Int)=some none:=cW (by rw[ξ1,if_pos rfl,if_pos (by rw[aeG];omega)]);have v:=wo (q:=q) (pl:=cw q l ss) n j;have r:(cK.mk q)=(⟨q⟩:cK):=rfl;simp only[T.aI,T.aS,T.aH,h1,a,cond_true,cond_false,ξp,i,b,δ,ω,i1,μ,i2,i3,Option.isSome_some];rw[lq (n:=1000) (by simp;omega) (by decide),δ,ξB]
    congr 2
    unfold eh;refine Px ?_ λm hm=>?_
    ·rw[Fy,c,d,f,b];simp
    ·rw[Fy,c,b];have:((some n:Option Nat)==some m)=false:=by simpa using λe=>hm e.symm
     rw[this];simp
   ·simp only[T.aI,T.aS,T.aH,h1,a,cond_true,cond_false,ξp,i,b,δ,ξm,Option.isSome_none]
theorem PR {L:Nat}:eh q pl L 0=ι (L+1) (some []):=by
 unfold eh;apply ξd;intro i
 by_cases h:i<L+1
 ·rw[CU h,ξe,if_pos h];rfl
 ·rw[θ.2 (by simp;omega),θ.2 (by simp;omega)]
theorem H7 (g:q.length<=100) (hw:ka q) (hi:dz q l) (hl:l.length<=100) (k:ss.length=l.length+1) (e: ∀s∈ss,c8 s):
  ((∀d∈q,lT (cw q l ss) d=true)/\ ∃n o,r7 ab l ss q (eh q (cw q l ss) l.length 0)=some (.inr (n,o,eh q (cw q l ss) l.length q.length)))\/(¬(∀d∈q,lT (cw q l ss) d=true)/\r7 ab l ss q (eh q (cw q l ss) l.length 0)=some (.inl ())):=by
 have h:=wm (step:=λi z a=>(oO ab l ss q i z a).val) (fin:=λi a=>(q9 ab l ss q i a).val) (l:=q) (st:=eh q (cw q l ss) l.length) (ok:=λ_ z=>lT (cw q l ss) z) (x0:=λ_=>.inl ()) (x1:=.inr (false,(q.length:Int),eh q (cw q l ss) l.length q.length)) (λj z m _=>S4 g hw hi hl k e m) (λ_=>by
  unfold q9;simp only[T.aH];simp)
 rcases h with⟨h1,b⟩|⟨j,z,h1,b,_,c⟩
 ·refine .inl ⟨λd f=>?_,_,_,b⟩;obtain⟨i,hi,rfl⟩:=List.getElem_of_mem f;exact h1 i _ (ε hi)
 ·refine .inr ⟨λh=>?_,c⟩;rw[h z (ζ h1)] at b;cases b
end
section
variable {q:List ae} {l:Γa} {ss:List aZ} {pl:ae->Option Nat}
noncomputable def gr (q:List ae) (xs:Γa):Γa:=(oj ab xs q).getD []
theorem aeg {xs:Γa} (hn:xs.length<=80) (c:xs.Pairwise (· < ·)) (hi:dz q xs):oj ab xs q=some (gr q xs)/\(gr q xs).Perm xs/\(gr q xs).Pairwise (cS q):=by
 obtain⟨ys,h1,a,b⟩:=w35 hn c hi;have e:gr q xs=ys:=by unfold gr;rw[h1];rfl
 rw[e];exact⟨h1,a,b⟩
noncomputable def fb (q:List ae) (l:Γa) (pl:ae->Option Nat) (n:Nat):Γa:=(ξ0 n).flatMap λm=>gr q (da q pl m q.length)++(l[m]?).toList
def gP (q:List ae) (pl:ae->Option Nat) (L n:Nat):List (Option (Γa)):=(ξ0 (L+1)).map λm=>if m<n then none else some (da q pl m q.length)
theorem aeE {L:Nat}:gP q pl L 0=eh q pl L q.length:=by
 unfold gP eh;exact ξn λn hn=>by rw[if_neg (by omega)]
theorem nW (n:Nat):fb q l pl (n+1)=fb q l pl n++(gr q (da q pl n q.length)++(l[n]?).toList):=by
 unfold fb;rw[ξi,List.flatMap_append];simp
theorem abv (o:Option Int):o.toList.length<=1:=by cases o<;>simp
theorem qN (a:q.length<=66) (n:Nat):oj ab (da q pl n q.length) q=some (gr q (da q pl n q.length))/\(gr q (da q pl n q.length)).Perm (da q pl n q.length)/\(gr q (da q pl n q.length)).Pairwise (cS q):=
 aeg (by have:=wo (q:=q) (pl:=pl) n q.length;omega) (ads _ _) (Ol _ _)
theorem M9 (a:q.length<=66): ∀n,(fb q l pl n).length<=70*n
 |0=>by simp[fb]
 |n+1=>by
  rw[nW,ξa,ξa];have h1:=M9 a n;have b:=abv l[n]?
  have c:=(qN (pl:=pl) a n).2.1.length_eq;have d:=wo (q:=q) (pl:=pl) n q.length;omega
theorem Gr {n:Nat} (h:n<=1000):ο.wrap ((n:Int)+1)=((n+1:Nat):Int):=by rw[cz]<;>omega
theorem SR (d:q.length<=66) (hl:l.length<=100): ∃k o p,zi ab l q (eh q pl l.length q.length) 0 [] (eh q pl l.length q.length)=some (k,o,fb q l pl (l.length+1),p):=by
 refine⟨false,((l.length+1:Nat):Int),gP q pl l.length (l.length+1),?_⟩;show cf (λa=>(oP ab l q (eh q pl l.length q.length) a).val) 1000000 ((0:Int),([]:Γa),eh q pl l.length q.length)=_;rw[<-aeE];refine w7 (st:=λn=>((n:Int),fb q l pl n,gP q pl l.length n)) (n:=l.length+1) (λn hn=>?_) ?_ (by omega)
 ·have b:decide ((n:Int)<((gP q pl l.length 0).length:Int))=true:=decide_eq_true (by simp[gP];omega);have g1:(gP q pl l.length n)[n]? =some (some (da q pl n q.length)):=by unfold gP;rw[CU (by omega),if_neg (by omega)]
  have g2:jW (gP q pl l.length n) n=some (da q pl n q.length):=by unfold jW;rw[g1]
  obtain⟨g,i,_⟩:=qN (pl:=pl) d n;have s:=wo (q:=q) (pl:=pl) n q.length;have r:=M9 (l:=l) (pl:=pl) d n;have t:=i.length_eq;have e:app 8 (fb q l pl n) (gr q (da q pl n q.length))=some (fb q l pl n++gr q (da q pl n q.length)):=lq (n:=100000) (by omega) (by decide);have j:(gP q pl l.length n).set n none=gP q pl l.length (n+1):=by
   unfold gP;refine Px (by rw[if_pos (by omega)]) λm hm=>?_
   by_cases h:m<n
   ·rw[if_pos h,if_pos (by omega)]
   ·rw[if_neg h,if_neg (by omega)]
  unfold oP;simp only[T.aI,T.aS,T.aH,b,cond_true,cW g1,μ,g2,g,δ,e,j];rcases ξh n l.length with h|h
  ·have c:decide ((n:Int)<(l.length:Int))=true:=decide_eq_true (by omega);have hk:l[n]? =some l[n]:=ε h;have f:ep l (some (n:Int)) (some ((n+1:Nat):Int)) (some ((n+1:Nat):Int))=some [l[n]]:=by
    unfold ep;simp only[Option.getD_some];rw[if_pos ⟨by omega,by omega,by omega,by omega,by omega,by simp⟩,μ,μ]
    congr 1
    rw[List.drop_take,show n+1-n=1 by omega,List.take_one,List.head?_drop,hk];rfl
   simp only[c,cond_true,Gr (show n<=1000 by omega),ξ9];rw[f,δ,lq (n:=100000) (by simp;omega) (by decide),δ,nW,hk];simp
  ·have c:decide ((n:Int)<(l.length:Int))=false:=decide_eq_false (by omega);have hn:l[n]? =none:=θ.2 h;simp only[c,cond_false,Gr (show n<=1000 by omega)];rw[nW,hn];simp
 ·have b:decide (((l.length+1:Nat):Int)<((gP q pl l.length 0).length:Int))=false:=decide_eq_false (by simp[gP]);unfold oP;simp only[T.aI,T.aH,b,cond_false]
structure gx (q:List ae) (l:Γa) (ss:List aZ):Prop where
 c:k1 q
 w:ka q
 ki:ni ab ⟨q⟩=some l
 i:dz q l
 ll:l.length<=64
 ls:ss.length=l.length+1
 si: ∀s∈ss,c8 s
 jq:pP ab ⟨q⟩ l=some (ss,true)
 ok: ∀d∈q,lT (cw q l ss) d=true
theorem Mx {n:Nat} (hn:n<=100):h4 24 (ο.wrap ((n:Int)+1)) (ο.wrap ((n:Int)+1)) (some ([]:Γa))=some (ι (n+1) (some [])):=by
 rw[Gr (by omega)];unfold h4;rw[if_pos ⟨by omega,by omega,by omega,by omega⟩,μ]
theorem ae_ (h:gx q l ss):na ab ⟨q⟩=some (fb q l (cw q l ss) (l.length+1),0):=by
 have g:=h.c.1;have hl:=h.ll;have d:jz ab ⟨q⟩=some 0:=by
  rcases w3 (q:=q) (by omega) with⟨e,_⟩|⟨_,e⟩
  ·exact e
  ·exact absurd h.c e
 obtain⟨j,k,m,f⟩:=SR (q:=q) (l:=l) (pl:=cw q l ss) (by omega) (by omega);rcases H7 (by omega) h.w h.i (by omega) h.ls h.si with⟨_,n,z2,a⟩|⟨e,_⟩
 ·rw[PR] at a;show(je ab ⟨q⟩).val=_;unfold je;have b:((0:Int) !=0)=false:=rfl;simp only[T.aS,T.aI,T.bL,T.cN,T.aH,d,δ,b,cond_false,h.ki,h.jq,ω,Mx (show l.length<=100 by omega),a,f]
 ·exact absurd h.ok e
theorem ae9 (i:q.length<=66) (hw:ka q):(∃l ss,gx q l ss)\/ ∃e,na ab ⟨q⟩=some ([],e)/\e≠0:=by
 rcases w3 (q:=q) (by omega) with⟨c,d⟩|⟨c,d⟩
 rotate_left
 ·refine .inr ⟨390,?_,by decide⟩;show(je ab ⟨q⟩).val=_;unfold je;have a:((390:Int) !=0)=true:=rfl;simp only[T.aS,T.aI,T.aH,c,δ,a,cond_true]
 have a:((0:Int) !=0)=false:=rfl;obtain⟨l,ki,p,_⟩:=Qc (q:=q) (by omega);have hi:dz q l:=DF (I2 _) p;have hl:l.length<=64:=by
  have:=p.length_eq;have:=BR (q:=q) q.length;have:=d.1;omega
 obtain⟨ss,b,jq,h⟩:=Qd (q:=q) hw hi (by omega);cases b
 ·refine .inr ⟨391,?_,by decide⟩;show(je ab ⟨q⟩).val=_;unfold je;simp only[T.aS,T.aI,T.aH,c,δ,a,cond_false,ki,jq,ξm,cond_true]
 ·obtain⟨h1,f,_⟩:=h rfl;rcases H7 (by omega) hw hi (by omega) h1 f with⟨ok,_⟩|⟨_,g⟩
  ·exact .inl ⟨l,ss,d,hw,ki,hi,hl,h1,f,jq,ok⟩
  ·refine .inr ⟨391,?_,by decide⟩;rw[PR] at g;show(je ab ⟨q⟩).val=_;unfold je;simp only[T.aS,T.aI,T.bL,T.cN,T.aH,c,δ,a,cond_false,ki,jq,ω,Mx (show l.length<=100 by omega),g]
variable {k:Nat}
end
noncomputable def sT (sh:Sh) (h:cK):T (aZ×Int):=.bd (na sh h) λz0=>.bf (z0.snd !=0) (.ok (⟨⟨[0,0,0,0,0,0,0,0,0,0,0,0,0,0,0,0],[]⟩,[],⟨[],0⟩,⟨[],[]⟩⟩,z0.snd))<|.bd (ni sh h) λa=>.bd (pP sh h a) λz2=>.bd (idx z2.fst (ο.wrap ((↑z2.fst.length:Int)-1))) λz3=>.ok (z3,0)
noncomputable def Cs (sh:Sh) (h:cK):Option (aZ×Int):=sh.s _ (sT sh h).val
theorem aey {R:Type} (h:cK) (k:Rs SS->Option R):dY (mv shut) 100 16 [KK.a1 24 h] [] (gq KK [60,27] k)=(sT shut h).run (λr=>k (.ret (.br [KK.a1 60 r.1,KK.a1 27 r.2]))):=by kernel_rfl
noncomputable def Jc (sh:Sh):eJ SS:=fE KK 16 [24] (λ{R} xs (k:Rs SS->Option R)=>match xs with| .cons h .nil=>(Cs sh h).bind (λr=>k (.ret (.br [KK.a1 60 r.1,KK.a1 27 r.2]))))
noncomputable def j3 (sh:Sh):bw SS:= {(mv sh) with C:=Jc sh::(mv sh).C}
theorem oF:ak (j3 shut) η:=ak.ga (c:=Jc shut) xT λxs k z _ b=>ir (G:=(mv shut)) (ak.all xT rfl) (λ{R} xs k z a=>by
 match xs,a with
 | .cons h .nil,a=>exact⟨100,(aey h k).trans (jB a)⟩) b
noncomputable def Km (c:Int) (b:Γa) (g:Int) (a:List ae) (h:List Bool) (i:Γa) (j:List ah) (k:List aj) (l:List av) (m:Int) (d:List aw) (e:List aq) (f:Int):AS SS:=⟨[(2,(.s (.one (.an 0 0)))),(5,(.s (.one (.an 1 0)))),(6,(.s (.one (.an 2 0)))),(8,(.s (.one (.v (.int .i64 c))))),(19,(.s (.one (.ao 31 b)))),(20,(.s (.one (.v (.int .i64 (↑b.length:Int)))))),(21,(.s (.one (.v (.int .i64 g))))),(40,(.s (.one (.ao 22 a)))),(41,(.s (.one (.v (.int .i64 (↑a.length:Int)))))),(42,(.s (.one (.v (.int .i64 f)))))],[(some (.box 24 [(.ao 22 a)])),(some (.box 75 [(.b2 64 h)])),(some (.box 60 [(.bu .i64 16 i),(.ao 48 j),(.ao 51 k),(.ao 52 l),(.v (.int .u64 m)),(.ao 55 d),(.ao 56 e)]))],0,none,false,[],[]⟩
noncomputable def OR (a:Int) (b:Γa) (e:Int) (f:List ae) (g:List Bool) (h:Γa) (i:List ah) (j:List aj) (k:List av) (l:Int) (c:List aw) (d:List aq):AS SS:=Km a b e f g h i j k l c d 0
noncomputable def WK (a:Int) (b:Γa) (e:Int) (f:List ae) (g:List Bool) (h:Γa) (i:List ah) (j:List aj) (k:List av) (l:Int) (c:List aw) (d:List aq):AS SS:=⟨[(4,(.s (.one (.v (.bool false)))))],[],0,none,false,[],[]⟩
noncomputable def WL (d:Int) (b:Γa) (g:Int) (a:List ae) (h:List Bool) (i:Γa) (j:List ah) (k:List aj) (l:List av) (m:Int) (e:List aw) (f:List aq) (a0:Bool) (c:Int):AS SS:=⟨[(43,(.s (.one (.v (.bool a0))))),(2,(.s (.one (.an 0 0)))),(5,(.s (.one (.an 1 0)))),(6,(.s (.one (.an 2 0)))),(8,(.s (.one (.v (.int .i64 d))))),(19,(.s (.one (.ao 31 b)))),(20,(.s (.one (.v (.int .i64 (↑b.length:Int)))))),(21,(.s (.one (.v (.int .i64 g))))),(40,(.s (.one (.ao 22 a)))),(41,(.s (.one (.v (.int .i64 (↑a.length:Int)))))),(42,(.s (.one (.v (.int .i64 c)))))],[(some (.box 24 [(.ao 22 a)])),(some (.box 75 [(.b2 64 h)])),(some (.box 60 [(.bu .i64 16 i),(.ao 48 j),(.ao 51 k),(.ao 52 l),(.v (.int .u64 m)),(.ao 55 e),(.ao 56 f)]))],0,none,false,[],[]⟩
noncomputable def sq (sh:Sh) (b:Int) (g:Γa) (j:Int) (d:List ae) (e:List Bool) (k:Γa) (l:List ah) (m:List aj) (n:List av) (o:Int) (h:List aw) (i:List aq) (c:Int) (z0:ae) (a:Unit):T (Unit⊕Unit⊕(Bool×Int)):=.bd (c' c 64) λf=>.bf (!cn e f) (.bd (idx d b) λz2=>.bd (nm sh z0 z2) λz3=>.bf (z3) (.ok (.inr (.inl ())))<|.ok (.inl ()))<|.ok (.inl ())
noncomputable def rf (sh:Sh) (d:Int) (e:Γa) (h:Int) (c:List ae) (i:List Bool) (j:Γa) (k:List ah) (l:List aj) (m:List av) (n:Int) (f:List aw) (g:List aq) (b:Int) (a:Unit):T (Unit⊕(Bool×Int)):=.ok (.inr ((decide (b<(↑c.length:Int))),b))
noncomputable def zu (sh:Sh) (b:Int) (c:Γa) (f:Int) (a:List ae) (g:List Bool) (h:Γa) (i:List ah) (j:List aj) (k:List av) (l:Int) (d:List aw) (e:List aq):Option (Unit⊕(Bool×Int)):=b4 sh (sq sh b c f a g h i j k l d e) (rf sh b c f a g h i j k l d e) a ()
noncomputable def TM {R:Type} (k:AX->AS SS->Option R) (a:Int) (b:Γa) (e:Int) (f:List ae) (g:List Bool) (h:Γa) (i:List ah) (j:List aj) (l:List av) (m:Int) (c:List aw) (d:List aq) (x:Unit⊕(Bool×Int)):Option R:=(λx=>ξx (λv=>k .ret (WK a b e f g h i j l m c d)) (λv=>k (.exit 2) (WL a b e f g h i j l m c d v.1 v.2)) x) x
noncomputable def vh:bh SS:=bt 12 (λst=>(aU (aK st 8 0)).bind λa=>(ba 31 (aK st 19 0)).bind λb=>(aU (aK st 21 0)).bind λe=>(ba 22 (aK st 40 0)).bind λf=>(kj (aN st 1 0)).bind λg=>(e1 (aN st 2 0)).bind λh=>(ba 48 (aN st 2 1)).bind λi=>(ba 51 (aN st 2 2)).bind λj=>(ba 52 (aN st 2 3)).bind λl=>(aU (aN st 2 4)).bind λm=>(ba 55 (aN st 2 5)).bind λc=>(ba 56 (aN st 2 6)).bind λd=>some (a,b,e,f,g,h,i,j,l,m,c,d)) (λp:Int×Γa×Int×List ae×List Bool×Γa×List ah×List aj×List av×Int×List aw×List aq=>OR p.1 p.2.1 p.2.2.1 p.2.2.2.1 p.2.2.2.2.1 p.2.2.2.2.2.1 p.2.2.2.2.2.2.1 p.2.2.2.2.2.2.2.1 p.2.2.2.2.2.2.2.2.1 p.2.2.2.2.2.2.2.2.2.1 p.2.2.2.2.2.2.2.2.2.2.1 p.2.2.2.2.2.2.2.2.2.2.2) (λp=>zu shut p.1 p.2.1 p.2.2.1 p.2.2.2.1 p.2.2.2.2.1 p.2.2.2.2.2.1 p.2.2.2.2.2.2.1 p.2.2.2.2.2.2.2.1 p.2.2.2.2.2.2.2.2.1 p.2.2.2.2.2.2.2.2.2.1 p.2.2.2.2.2.2.2.2.2.2.1 p.2.2.2.2.2.2.2.2.2.2.2) (λk p=>TM k p.1 p.2.1 p.2.2.1 p.2.2.2.1 p.2.2.2.2.1 p.2.2.2.2.2.1 p.2.2.2.2.2.2.1 p.2.2.2.2.2.2.2.1 p.2.2.2.2.2.2.2.2.1 p.2.2.2.2.2.2.2.2.2.1 p.2.2.2.2.2.2.2.2.2.2.1 p.2.2.2.2.2.2.2.2.2.2.2)
theorem Nx:aX KK η ⟨ξ3,ar 17⟩ (h2 (bY ξ3) 12) vh:=
 aX.b_ (G:=(j3 shut)) (I:=⟨⟨ξ3,ar 17⟩,[]⟩) (π:=Int×Γa×Int×List ae×List Bool×Γa×List ah×List aj×List av×Int×List aw×List aq) (σ:=Unit) (ak.all oF rfl) (aJ.nil) rfl 60 (λp i a=>Km p.1 p.2.1 p.2.2.1 p.2.2.2.1 p.2.2.2.2.1 p.2.2.2.2.2.1 p.2.2.2.2.2.2.1 p.2.2.2.2.2.2.2.1 p.2.2.2.2.2.2.2.2.1 p.2.2.2.2.2.2.2.2.2.1 p.2.2.2.2.2.2.2.2.2.2.1 p.2.2.2.2.2.2.2.2.2.2.2 i) (λp=>p.2.2.2.1) (λp=>()) (St:=λp=>sq shut p.1 p.2.1 p.2.2.1 p.2.2.2.1 p.2.2.2.2.1 p.2.2.2.2.2.1 p.2.2.2.2.2.2.1 p.2.2.2.2.2.2.2.1 p.2.2.2.2.2.2.2.2.1 p.2.2.2.2.2.2.2.2.2.1 p.2.2.2.2.2.2.2.2.2.2.1 p.2.2.2.2.2.2.2.2.2.2.2) (F:=λp=>rf shut p.1 p.2.1 p.2.2.1 p.2.2.2.1 p.2.2.2.2.1 p.2.2.2.2.2.1 p.2.2.2.2.2.2.1 p.2.2.2.2.2.2.2.1 p.2.2.2.2.2.2.2.2.1 p.2.2.2.2.2.2.2.2.2.1 p.2.2.2.2.2.2.2.2.2.2.1 p.2.2.2.2.2.2.2.2.2.2.2) (λp=>rfl)
  (λm p i a k=>by kernel_rfl) (by rintro p (x|x)<;>exact⟨_,_,λ_=>rfl⟩) (λp N C A O w a b=>cE b (t:=22) (sl:=40) rfl λv h=>h)
noncomputable def Ko (a:Γa) (b:List ae) (d:Γa) (e:List ah) (f:List aj) (g:List av) (h:Int) (i:List aw) (j:List aq) (k:Int) (c:List Bool):AS SS:=⟨[(2,(.s (.one (.an 0 0)))),(5,(.s (.one (.an 1 0)))),(6,(.s (.one (.an 2 0)))),(19,(.s (.one (.ao 31 a)))),(20,(.s (.one (.v (.int .i64 (↑a.length:Int)))))),(21,(.s (.one (.v (.int .i64 k)))))],[(some (.box 24 [(.ao 22 b)])),(some (.box 75 [(.b2 64 c)])),(some (.box 60 [(.bu .i64 16 d),(.ao 48 e),(.ao 51 f),(.ao 52 g),(.v (.int .u64 h)),(.ao 55 i),(.ao 56 j)]))],0,none,false,[],[]⟩
noncomputable def OT (a:Γa) (b:List ae) (d:Γa) (e:List ah) (f:List aj) (g:List av) (h:Int) (i:List aw) (j:List aq) (c:List Bool):AS SS:=Ko a b d e f g h i j 0 c
noncomputable def WR (a:Γa) (b:List ae):AS SS:=⟨[(4,(.s (.one (.v (.bool false)))))],[],0,none,false,[],[]⟩
noncomputable def WS (a:Γa) (f:List ae) (a0:Bool) (b:Int) (a2:List Bool) (a3:Γa) (a4:List ah) (a5:List aj) (c:List av) (d:Int) (e:List aw) (a9:List aq):AS SS:=⟨[(22,(.s (.one (.v (.bool a0))))),(2,(.s (.one (.an 0 0)))),(5,(.s (.one (.an 1 0)))),(6,(.s (.one (.an 2 0)))),(19,(.s (.one (.ao 31 a)))),(20,(.s (.one (.v (.int .i64 (↑a.length:Int)))))),(21,(.s (.one (.v (.int .i64 b)))))],[(some (.box 24 [(.ao 22 f)])),(some (.box 75 [(.b2 64 a2)])),(some (.box 60 [(.bu .i64 16 a3),(.ao 48 a4),(.ao 51 a5),(.ao 52 c),(.v (.int .u64 d)),(.ao 55 e),(.ao 56 a9)]))],0,none,false,[],[]⟩
noncomputable def oT (sh:Sh) (c:Γa) (b:List ae) (d z0:Int) (a:List Bool×Γa×List ah×List aj×List av×Int×List aw×List aq):T ((List Bool×Γa×List ah×List aj×List av×Int×List aw×List aq)⊕Unit⊕(Bool×Int×List Bool×Γa×List ah×List aj×List av×Int×List aw×List aq)):=.bf (decide (z0<0)) (.ok (.inr (.inl ())))<|.bf (decide (z0>=(↑b.length:Int))) (.ok (.inr (.inl ())))<|.bd (c' z0 64) λe=>.bf (cn a.1 e) (.ok (.inr (.inl ())))<|.gd (OR z0 c d b a.1 a.2.1 a.2.2.1 a.2.2.2.1 a.2.2.2.2.1 a.2.2.2.2.2.1 a.2.2.2.2.2.2.1 a.2.2.2.2.2.2.2)<|.bd (zu sh z0 c d b a.1 a.2.1 a.2.2.1 a.2.2.2.1 a.2.2.2.2.1 a.2.2.2.2.2.1 a.2.2.2.2.2.2.1 a.2.2.2.2.2.2.2) λx4=>.cs x4 (λ_=>.ok (.inr (.inl ()))) λf=>.bd (idx b z0) λz3=>.bd (fF sh (aZ.mk (bI.mk a.2.1 a.2.2.1) a.2.2.2.1 (bR.mk a.2.2.2.2.1 a.2.2.2.2.2.1) (aO.mk a.2.2.2.2.2.2.1 a.2.2.2.2.2.2.2)) z3) λz4=>.bf (!z4.snd) (.ok (.inr (.inl ())))<|.bd (c' z0 64) λz5=>.bf (a.1.length.beq 64) (.ok (.inl ((a.1.set z5 true),z4.fst.az.aM,z4.fst.az.ag,z4.fst.aQ,z4.fst.aF.ag,z4.fst.aF.bm,z4.fst.aA.ax,z4.fst.aA.au)))<|.no
noncomputable def xu (sh:Sh) (c:Γa) (d:List ae) (b:Int) (a:List Bool×Γa×List ah×List aj×List av×Int×List aw×List aq):T (Unit⊕(Bool×Int×List Bool×Γa×List ah×List aj×List av×Int×List aw×List aq)):=.ok (.inr ((decide (b<(↑c.length:Int))),b,a.1,a.2.1,a.2.2.1,a.2.2.2.1,a.2.2.2.2.1,a.2.2.2.2.2.1,a.2.2.2.2.2.2.1,a.2.2.2.2.2.2.2))
noncomputable def zw (sh:Sh) (a:Γa) (b:List ae) (d:Γa) (e:List ah) (f:List aj) (g:List av) (h:Int) (i:List aw) (j:List aq) (c:List Bool):Option (Unit⊕(Bool×Int×List Bool×Γa×List ah×List aj×List av×Int×List aw×List aq)):=b4 sh (oT sh a b) (xu sh a b) a (c,d,e,f,g,h,i,j)
noncomputable def TO {R:Type} (k:AX->AS SS->Option R) (a:Γa) (b:List ae) (x:Unit⊕(Bool×Int×List Bool×Γa×List ah×List aj×List av×Int×List aw×List aq)):Option R:=(λx=>ξx (λv=>k .ret (WR a b)) (λv=>k (.exit 0) (WS a b v.1 v.2.1 v.2.2.1 v.2.2.2.1 v.2.2.2.2.1 v.2.2.2.2.2.1 v.2.2.2.2.2.2.1 v.2.2.2.2.2.2.2.1 v.2.2.2.2.2.2.2.2.1 v.2.2.2.2.2.2.2.2.2)) x) x
noncomputable def D2:bh SS:=gm (λst=>gc (ar 17 7) (ik 1 (st)))<|bt 7 (λst=>(ba 31 (aK st 19 0)).bind λa=>(ba 22 (aN st 0 0)).bind λb=>(e1 (aN st 2 0)).bind λd=>(ba 48 (aN st 2 1)).bind λe=>(ba 51 (aN st 2 2)).bind λf=>(ba 52 (aN st 2 3)).bind λg=>(aU (aN st 2 4)).bind λh=>(ba 55 (aN st 2 5)).bind λi=>(ba 56 (aN st 2 6)).bind λj=>(kj (aN st 1 0)).bind λc=>some (a,b,d,e,f,g,h,i,j,c)) (λp:Γa×List ae×Γa×List ah×List aj×List av×Int×List aw×List aq×List Bool=>OT p.1 p.2.1 p.2.2.1 p.2.2.2.1 p.2.2.2.2.1 p.2.2.2.2.2.1 p.2.2.2.2.2.2.1 p.2.2.2.2.2.2.2.1 p.2.2.2.2.2.2.2.2.1 p.2.2.2.2.2.2.2.2.2) (λp=>zw shut p.1 p.2.1 p.2.2.1 p.2.2.2.1 p.2.2.2.2.1 p.2.2.2.2.2.1 p.2.2.2.2.2.2.1 p.2.2.2.2.2.2.2.1 p.2.2.2.2.2.2.2.2.1 p.2.2.2.2.2.2.2.2.2) (λk p=>TO k p.1 p.2.1)
theorem acd:aX KK η ⟨ξ3,ar 17⟩ (h2 (bY ξ3) 7) D2:=aX.pre (bT.comp (bT.gc (ar 17 7)) (bT.ik 1))<|
 aX.b_ (G:=(j3 shut)) (I:=⟨⟨ξ3,ar 17⟩,[vh]⟩) (π:=Γa×List ae×Γa×List ah×List aj×List av×Int×List aw×List aq×List Bool) (σ:=List Bool×Γa×List ah×List aj×List av×Int×List aw×List aq) (ak.all oF rfl) (aJ.cons (aJ.nil) (by kernel_rfl) Nx) rfl 60 (λp i a=>Ko p.1 p.2.1 a.2.1 a.2.2.1 a.2.2.2.1 a.2.2.2.2.1 a.2.2.2.2.2.1 a.2.2.2.2.2.2.1 a.2.2.2.2.2.2.2 i a.1) (λp=>p.1) (λp=>(p.2.2.2.2.2.2.2.2.2,p.2.2.1,p.2.2.2.1,p.2.2.2.2.1,p.2.2.2.2.2.1,p.2.2.2.2.2.2.1,p.2.2.2.2.2.2.2.1,p.2.2.2.2.2.2.2.2.1)) (St:=λp=>oT shut p.1 p.2.1) (F:=λp=>xu shut p.1 p.2.1) (λp=>rfl)
  (λm p i a k=>by kernel_rfl) (by rintro p (x|x)<;>exact⟨_,_,λ_=>rfl⟩) (λp N C A O w a b=>cE b (t:=31) (sl:=19) rfl λv h=>h)
noncomputable def Kn (a:List ae) (b:List Bool) (c:Int):AS SS:=⟨[(5,(.s (.one (.an 0 0)))),(78,(.s (.one (.ao 22 a)))),(79,(.s (.one (.v (.int .i64 (↑a.length:Int)))))),(80,(.s (.one (.v (.int .i64 c)))))],[(some (.box 75 [(.b2 64 b)]))],0,none,false,[],[]⟩
noncomputable def OS (a:List ae) (b:List Bool):AS SS:=Kn a b 0
noncomputable def WM (a:List ae) (b:List Bool):AS SS:=⟨[(4,(.s (.one (.v (.bool false)))))],[],0,none,false,[],[]⟩
noncomputable def WN (a:List ae) (c:List Bool) (a0:Bool) (b:Int):AS SS:=⟨[(81,(.s (.one (.v (.bool a0))))),(5,(.s (.one (.an 0 0)))),(78,(.s (.one (.ao 22 a)))),(79,(.s (.one (.v (.int .i64 (↑a.length:Int)))))),(80,(.s (.one (.v (.int .i64 b)))))],[(some (.box 75 [(.b2 64 c)]))],0,none,false,[],[]⟩
noncomputable def sr (sh:Sh) (e:List ae) (b:List Bool) (c:Int) (z0:ae) (a:Unit):T (Unit⊕Unit⊕(Bool×Int)):=.bf (z0.bj !=0) (.bd (c' c 64) λd=>.bf (!cn b d) (.ok (.inr (.inl ())))<|.ok (.inl ()))<|.ok (.inl ())
noncomputable def rh (sh:Sh) (c:List ae) (d:List Bool) (b:Int) (a:Unit):T (Unit⊕(Bool×Int)):=.ok (.inr ((decide (b<(↑c.length:Int))),b))
noncomputable def zv (sh:Sh) (a:List ae) (b:List Bool):Option (Unit⊕(Bool×Int)):=b4 sh (sr sh a b) (rh sh a b) a ()
noncomputable def TN {R:Type} (k:AX->AS SS->Option R) (a:List ae) (b:List Bool) (x:Unit⊕(Bool×Int)):Option R:=(λx=>ξx (λv=>k .ret (WM a b)) (λv=>k (.exit 4) (WN a b v.1 v.2)) x) x
noncomputable def D1:bh SS:=bt 23 (λst=>(ba 22 (aK st 78 0)).bind λa=>(kj (aN st 0 0)).bind λb=>some (a,b)) (λp:List ae×List Bool=>OS p.1 p.2) (λp=>zv shut p.1 p.2) (λk p=>TN k p.1 p.2)
theorem acb:aX KK η ⟨ξ3,ar 17⟩ (h2 (bY ξ3) 23) D1:=
 aX.b_ (G:=(j3 shut)) (I:=⟨⟨ξ3,ar 17⟩,[]⟩) (π:=List ae×List Bool) (σ:=Unit) (ak.all oF rfl) (aJ.nil) rfl 60 (λp i a=>Kn p.1 p.2 i) (λp=>p.1) (λp=>()) (St:=λp=>sr shut p.1 p.2) (F:=λp=>rh shut p.1 p.2) (λp=>rfl)
  (λm p i a k=>by kernel_rfl) (by rintro p (x|x)<;>exact⟨_,_,λ_=>rfl⟩) (λp N C A O w a b=>cE b (t:=22) (sl:=78) rfl λv h=>h)
noncomputable def xg:bw SS:= {(j3 shut) with T:=fX ((j3 shut).T) 17 ⟨⟨ξ3,ar 17⟩,[vh,D2,D1]⟩}
theorem Rt:a_ xg η:=(a_.fI (f:=17) (J:=⟨⟨ξ3,ar 17⟩,[vh,D2,D1]⟩) (ak.all oF rfl) Tryz.func17 rfl a8 λc a=>by cases a;exact aJ.cons (aJ.cons (aJ.cons (aJ.nil) (by kernel_rfl) acb) (by kernel_rfl) acd) (by kernel_rfl) Nx)
noncomputable def sU (sh:Sh) (h:cK) (order:Γa):T (Bool):=.bd (jz sh h) λz0=>.bf (z0 !=0) (.ok false)<|.bd (pN sh) λa=>.gd (OT order h.cC a.az.aM a.az.ag a.aQ a.aF.ag a.aF.bm a.aA.ax a.aA.au (ι 64 false))<|.bd (zw sh order h.cC a.az.aM a.az.ag a.aQ a.aF.ag a.aF.bm a.aA.ax a.aA.au (ι 64 false)) λx5=>.cs x5 (λ_=>.ok false) λb=>.gd (OS h.cC b.2.2.1)<|.bd (zv sh h.cC b.2.2.1) λc=>.cs c (λ_=>.ok false) λd=>.ok true
noncomputable def Ct (sh:Sh) (h:cK) (order:Γa):Option (Bool):=sh.s _ (sU sh h order).val
theorem aez {R:Type} (h:cK) (order:Γa) (k:Rs SS->Option R):dY xg 100 17 [KK.a1 24 h,KK.a1 31 order] [] (gq KK [4] k)=(sU shut h order).run (λr=>k (.ret (.s (KK.a1 4 r)))):=by kernel_rfl
noncomputable def Jd (sh:Sh):eJ SS:=fE KK 17 [24,31] (λ{R} xs (k:Rs SS->Option R)=>match xs with| .cons h (.cons order .nil)=>(Ct sh h order).bind (λr=>k (.ret (.s (KK.a1 4 r)))))
noncomputable def j4 (sh:Sh):bw SS:= {(j3 sh) with C:=Jd sh::(j3 sh).C}
theorem rU:ak (j4 shut) η:=ak.ga (c:=Jd shut) oF λxs k z _ b=>ir (G:=xg) Rt (λ{R} xs k z a=>by
 match xs,a with
 | .cons h (.cons order .nil),a=>exact⟨100,(aez h order k).trans (jB a)⟩) b
end Go.Proofs.YtoggponeookhbaaGreatDoor
end
section
namespace Go.Vx
open Go.RowKit Go.Dc
section
variable {S:bo} {P:Program} {K:Kit S}
theorem cU.aeL {f j:Nat} {vs:List (ay S)} {h h':AH S} {r:Rs S} (a:cU K P f vs h r h' []) (hl:j<h.length):cU K P f vs h r h' [j]:=
 ⟨a.1,λA O w xs h1 d e g k l=>(a.2 A O w xs h1 d e g k l).mono λ_ _ ⟨A',O',n,c⟩=>⟨A',O',n,{c with
  lt:=λi hi=>by rw[ψ.1 hi];exact hl
  cl:=λb m _=>c.cl b m λi hi=>by cases hi}⟩⟩
theorem ZE {G:bw S} (o:a_ G P) {n f j:Nat} {vs:List (ay S)} {h:AH S} {X:Type} {t:T (X×Bool)} {rs:X->Rs S} {hp:X->AH S}
  (heq: ∀ {R:Type} (k:Rs S->AH S->Γ->Option R),dY G n f vs h k=t.run (λr=>k (rs r.1) (hp r.1) (bif r.2 then[j] else[]))) {F:Option (X×Bool)} (m:F=shut.s _ t.val) (hl:j<h.length)
  {R:Type} {k:Rs S->AH S->Γ->Option R} {z:R} (a:(F.map (·.1)).bind (λr=>k (rs r) (hp r) [j])=some z): ∃r h' dt,k r h' dt=some z/\cU G.K P f vs h r h' dt:=by
 cases d:F with
 |none=>rw[d] at a;cases a
 |some x=>
  rw[d] at a;have q:t.val=some x:=pX (by rw[<-m];exact d);have h1:dY G n f vs h (λr h' dt=>some (ULift.up.{0} (r,h',dt)).down)=some (rs x.1,hp x.1,bif x.2 then[j] else[]):=by
   rw[heq,T.l_,q];rfl
  obtain⟨u,h',dt,c,g⟩:=s4 o h1;injection c with c;injection c with i b;injection b with b e;subst i;subst b;have l:cU G.K P f vs h (rs x.1) (hp x.1) [j]:=by
   cases p:x.2<;>rw[p] at e<;>subst e
   ·exact g.aeL hl
   ·exact g
  exact⟨_,_,_,a,l⟩
theorem cU.seen {f j:Nat} {vs:List (ay S)} {h h':AH S} {r:Rs S} {dt:Γ} {X a:Ob S} (m:aC h j=some X) (B: ∀ {A:Pl} {O:Γ} {w:World} p,c6 A O w X p->c6 A O w a p) (hn:a.nt=true)
  (l:cU K P f vs (h.set j (some a)) r h' dt):cU K P f vs h r h' dt:=by
 refine⟨l.1,λA O w xs h1 e t u v y=>?_⟩;have k: ∀ {i:Nat} {Y:Ob S},aC (h.set j (some a)) i=some Y->(i=j/\Y=a)\/(i≠j/\aC h i=some Y):=by
  intro i Y hi;rw[hJ,ξ1] at hi;split at hi
  ·rename_i he;split at hi
   ·simp only[Option.some.injEq] at hi;exact .inl ⟨he.symm,hi.symm⟩
   ·cases hi
  ·rename_i he;exact .inr ⟨λx=>he x.symm,hJ.2 hi⟩
 have hold: ∀ {i:Nat} {Y:Ob S},aC (h.set j (some a)) i=some Y-> ∃Z,aC h i=some Z/\ ∀w p b,cy w Y p b->cy w Z p b:=by
  intro i Y hi;rcases k hi with⟨rfl,rfl⟩|⟨_,c⟩
  ·exact⟨_,m,λw p b d=>.inl (eN hn d)⟩
  ·exact⟨_,c,λw p b d=>d⟩
 have hl:(h.set j (some a)).length=h.length:=ξu;have:=l.2 A O w xs h1 ⟨?_,?_⟩ t u (by rw[hl];exact v) ?_
 ·rw[hl] at this;exact this
 ·intro i Y hi;rcases k hi with⟨rfl,rfl⟩|⟨_,c⟩
  ·obtain⟨p,hp,g,d⟩:=e.al i _ m;exact⟨p,hp,B p g,d⟩
  ·exact e.al i Y c
 ·intro i H Y Z p q b D hi C hp F E G;obtain⟨n,c,g⟩:=hold hi;obtain⟨o,z,s⟩:=hold C;exact e.gb i H n o p q b D c z hp F (g w p b E) (s w q b G)
 ·intro i Y hi;rcases k hi with⟨rfl,rfl⟩|⟨_,c⟩
  ·exact hn
  ·exact y i Y c
def flagsOf:List (LV S)->Option (LV S×Nat×List Bool)
 |[]=>none
 |a::cs=>match cs with
  |[.b2 n bs]=>some (a,n,bs)
  |cs=>match lx cs with
   |some bs=>some (a,bs.length,bs)
   |none=>none
theorem Y0 {A:Pl} {O:Γ} {w:World} {t n:Nat} {cs:List (LV S)} {a:LV S} {bs:List Bool} (h:flagsOf cs=some (a,n,bs)) (p:Value) (c:c6 A O w (.box t cs) p):c6 A O w (.box t [a,.b2 n bs]) p:=by
 unfold flagsOf at h;split at h
 ·cases h
 split at h
 ·cases h;exact c
 split at h
 rotate_left
 ·cases h
 rename_i j i;cases h;obtain⟨b,vs,h1,d,ys,zs,e,f,g⟩:=c;exact⟨b,vs,h1,d,ys,zs,e,f,zs,[],by simp,⟨rfl,s_ i g⟩,rfl⟩
end
end Go.Vx
end
section


end
section
namespace Go.Proofs.YtoggponeookhbaaGreatDoor
open Go.RowKit Go.Dc Go.Vx
noncomputable def Kp (a:List ae) (b:List Bool) (c:Int):AS SS:=⟨[(0,(.s (.one (.an 0 0)))),(9,(.s (.one (.ao 22 a)))),(10,(.s (.one (.v (.int .i64 (↑a.length:Int)))))),(11,(.s (.one (.v (.int .i64 c)))))],[(some (.box 77 [(.ao 22 a),(.b2 64 b)]))],1,none,false,[],[]⟩
noncomputable def OZ (a:List ae) (b:List Bool):AS SS:=Kp a b 0
noncomputable def Xe (a:List ae) (b:List Bool):AS SS:=⟨[(2,(.s (.one (.v (.bool false)))))],[(some (.box 77 [(.ao 22 a),(.b2 64 b)]))],1,none,false,[],[]⟩
noncomputable def Xf (a:List ae) (c:List Bool) (a0:Bool) (b:Int):AS SS:=⟨[(12,(.s (.one (.v (.bool a0))))),(0,(.s (.one (.an 0 0)))),(9,(.s (.one (.ao 22 a)))),(10,(.s (.one (.v (.int .i64 (↑a.length:Int)))))),(11,(.s (.one (.v (.int .i64 b)))))],[(some (.box 77 [(.ao 22 a),(.b2 64 c)]))],1,none,false,[],[]⟩
noncomputable def o1 (sh:Sh) (e:List ae) (b:List Bool) (c:Int) (z0:ae) (a:Unit):T (Unit⊕Unit⊕(Bool×Int)):=.bf (z0.bj !=0) (.bd (c' c 64) λd=>.bf (!cn b d) (.ok (.inr (.inl ())))<|.ok (.inl ()))<|.ok (.inl ())
noncomputable def xv (sh:Sh) (c:List ae) (d:List Bool) (b:Int) (a:Unit):T (Unit⊕(Bool×Int)):=.ok (.inr ((decide (b<(↑c.length:Int))),b))
noncomputable def r_ (sh:Sh) (a:List ae) (b:List Bool):Option (Unit⊕(Bool×Int)):=b4 sh (o1 sh a b) (xv sh a b) a ()
noncomputable def T8 {R:Type} (k:AX->AS SS->Option R) (a:List ae) (b:List Bool) (x:Unit⊕(Bool×Int)):Option R:=(λx=>ξx (λv=>k .ret (Xe a b)) (λv=>k (.exit 0) (Xf a b v.1 v.2)) x) x
noncomputable def lQ:bh SS:=bt 3 (λst=>(ba 22 (aK st 9 0)).bind λa=>(kj (aN st 0 1)).bind λb=>some (a,b)) (λp:List ae×List Bool=>OZ p.1 p.2) (λp=>r_ shut p.1 p.2) (λk p=>T8 k p.1 p.2)
theorem E3:aX KK η ⟨ξb,ar 24⟩ (h2 (bY ξb) 3) lQ:=
 aX.b_ (G:=(j4 shut)) (I:=⟨⟨ξb,ar 24⟩,[]⟩) (π:=List ae×List Bool) (σ:=Unit) (ak.all rU rfl) (aJ.nil) rfl 60 (λp i a=>Kp p.1 p.2 i) (λp=>p.1) (λp=>()) (St:=λp=>o1 shut p.1 p.2) (F:=λp=>xv shut p.1 p.2) (λp=>rfl)
  (λm p i a k=>by kernel_rfl) (by rintro p (x|x)<;>exact⟨_,_,λ_=>rfl⟩) (λp N C A O w a b=>cE b (t:=22) (sl:=9) rfl λv h=>h)
noncomputable def Kr (b:Int) (a:List ae) (m:List Bool) (p:List ae) (q:Γa) (r:List ah) (t:List aj) (u:List av) (w:Int) (x:List aw) (c:List aq) (d:Bool) (e f:Int) (g:Γa) (h i j k l n:Int) (o:Bool):AS SS:=⟨[(0,(.s (.one .cT))),(1,(.s (.one (.an 10 0)))),(3,(.s (.one (.v (.int .i64 b))))),(4,(.s (.one (.an 11 0)))),(5,(.s (.one (.v (.bool o))))),(12,(.s (.one (.ao 22 a)))),(13,(.s (.one (.v (.int .i64 (↑a.length:Int)))))),(14,(.s (.one (.v (.int .i64 b))))),(29,(.s (.one (.ao 22 a)))),(30,(.s (.one (.v (.int .i64 (↑a.length:Int)))))),(31,(.s (.one (.v (.int .i64 n)))))],[(some (.box 25 [(.aD 1)])),(some (.aD 24 [(.one (.an 2 0))] [])),(some (.box 77 [(.ao 22 a),(.b2 64 m)])),(some (.box 73 [(.an 2 0)])),(some (.box 24 [(.ao 22 p)])),(some (.box 78 [(.aD 6)])),(some (.aD 25 [] [(.one (.an 0 0)),(.one (.an 3 0)),(.one (.an 4 0)),(.one (.an 5 0))])),(some (.box 60 [(.bu .i64 16 q),(.ao 48 r),(.ao 51 t),(.ao 52 u),(.v (.int .u64 w)),(.ao 55 x),(.ao 56 c)])),(some (.box 4 [(.v (.bool d))])),(some (.aD 51 [] [(.one (.an 10 0))])),(some (.box 73 [(.an 2 0)])),(some (.box 42 [(.v (.int .i64 e)),(.v (.int .u64 f)),(.bu .u64 4 g),(.v (.int .i64 h)),(.v (.int .u64 i)),(.v (.int .i64 j)),(.v (.int .i64 k)),(.v (.int .i64 l))]))],11,(some ⟨⟨υ,ar 25⟩,[15],(dT (bY υ) 7),(dU (bY υ) 7),[(2,(.s (.one (.an 3 0)))),(3,(.s (.one (.an 4 0)))),(4,(.s (.one (.an 5 0)))),(5,(.s (.one (.an 7 0)))),(7,(.s (.one (.an 8 0)))),(14,(.s (.one (.aD 9))))],none⟩),false,[],[2,8]⟩
noncomputable def Pe (a:Int) (b:List ae) (m:List Bool) (o:List ae) (p:Γa) (q:List ah) (r:List aj) (s:List av) (t:Int) (u:List aw) (c:List aq) (d:Bool) (e f:Int) (g:Γa) (h i j k l:Int) (n:Bool):AS SS:=Kr a b m o p q r s t u c d e f g h i j k l 0 n
noncomputable def XK (b:Int) (a:List ae) (n:List Bool) (o:List ae) (p:Γa) (q:List ah) (r:List aj) (t:List av) (u:Int) (w:List aw) (d:List aq) (e:Bool) (f g:Int) (h:Γa) (i j k l m:Int) (a0 c:Bool) (a2:Int):AS SS:=⟨[(32,(.s (.one (.v (.bool a0))))),(0,(.s (.one .cT))),(1,(.s (.one (.an 10 0)))),(3,(.s (.one (.v (.int .i64 b))))),(4,(.s (.one (.an 11 0)))),(5,(.s (.one (.v (.bool c))))),(12,(.s (.one (.ao 22 a)))),(13,(.s (.one (.v (.int .i64 (↑a.length:Int)))))),(14,(.s (.one (.v (.int .i64 b))))),(29,(.s (.one (.ao 22 a)))),(30,(.s (.one (.v (.int .i64 (↑a.length:Int)))))),(31,(.s (.one (.v (.int .i64 a2)))))],[(some (.box 25 [(.aD 1)])),(some (.aD 24 [(.one (.an 2 0))] [])),(some (.box 77 [(.ao 22 a),(.b2 64 n)])),(some (.box 73 [(.an 2 0)])),(some (.box 24 [(.ao 22 o)])),(some (.box 78 [(.aD 6)])),(some (.aD 25 [] [(.one (.an 0 0)),(.one (.an 3 0)),(.one (.an 4 0)),(.one (.an 5 0))])),(some (.box 60 [(.bu .i64 16 p),(.ao 48 q),(.ao 51 r),(.ao 52 t),(.v (.int .u64 u)),(.ao 55 w),(.ao 56 d)])),(some (.box 4 [(.v (.bool e))])),(some (.aD 51 [] [(.one (.an 10 0))])),(some (.box 73 [(.an 2 0)])),(some (.box 42 [(.v (.int .i64 f)),(.v (.int .u64 g)),(.bu .u64 4 h),(.v (.int .i64 i)),(.v (.int .u64 j)),(.v (.int .i64 k)),(.v (.int .i64 l)),(.v (.int .i64 m))]))],11,(some ⟨⟨υ,ar 25⟩,[15],(dT (bY υ) 7),(dU (bY υ) 7),[(2,(.s (.one (.an 3 0)))),(3,(.s (.one (.an 4 0)))),(4,(.s (.one (.an 5 0)))),(5,(.s (.one (.an 7 0)))),(7,(.s (.one (.an 8 0)))),(14,(.s (.one (.aD 9))))],none⟩),false,[],[2,8]⟩
noncomputable def sM (sh:Sh) (m:Int) (n:List ae) (j:List Bool) (q:List ae) (r:Γa) (s:List ah) (t:List aj) (u:List av) (v:Int) (w:List aw) (o:List aq) (p:Bool) (b c:Int) (d:Γa) (e f g h i k:Int) (z0:ae) (a:Bool):T (Bool⊕(Bool×Bool×Int)):=.bf (a) (.bd (c' k 64) λl=>.bf (cn j l) (.ok (.inl true))<|.bd (nm sh z0 (ae.mk b (cJ.mk c d) (cV.mk e f) g h i)) λz2=>.ok (.inl (!z2)))<|.ok (.inl false)
noncomputable def rG (sh:Sh) (d:Int) (c:List ae) (o:List Bool) (p:List ae) (q:Γa) (r:List ah) (s:List aj) (t:List av) (u:Int) (v:List aw) (e:List aq) (f:Bool) (g h:Int) (i:Γa) (j k l m n b:Int) (a:Bool):T ((Bool×Bool×Int)):=.ok ((decide (b<(↑c.length:Int))),a,b)
noncomputable def z7 (sh:Sh) (b:Int) (a:List ae) (m:List Bool) (n:List ae) (o:Γa) (p:List ah) (q:List aj) (r:List av) (s:Int) (t:List aw) (c:List aq) (d:Bool) (e f:Int) (g:Γa) (h i j k l:Int) (u:Bool):Option ((Bool×Bool×Int)):=b4 sh (sM sh b a m n o p q r s t c d e f g h i j k l) (rG sh b a m n o p q r s t c d e f g h i j k l) a u
noncomputable def Us {R:Type} (k:AX->AS SS->Option R) (a:Int) (b:List ae) (n:List Bool) (o:List ae) (p:Γa) (q:List ah) (r:List aj) (s:List av) (t:Int) (u:List aw) (c:List aq) (d:Bool) (e f:Int) (g:Γa) (h i j l m:Int) (x:(Bool×Bool×Int)):Option R:=(λv=>k (.exit 2) (XK a b n o p q r s t u c d e f g h i j l m v.1 v.2.1 v.2.2)) x
noncomputable def vj:bh SS:=bt 7 (λst=>((b9 st 1 24).bind λ_=>(b9 st 6 25).bind λ_=>(b9 st 9 51).bind λ_=>fQ st 43 7).bind λ_=>(aU (aK st 3 0)).bind λa=>(ba 22 (aK st 12 0)).bind λb=>(kj (aN st 2 1)).bind λn=>(ba 22 (aN st 4 0)).bind λq=>(e1 (aN st 7 0)).bind λr=>(ba 48 (aN st 7 1)).bind λs=>(ba 51 (aN st 7 2)).bind λt=>(ba 52 (aN st 7 3)).bind λu=>(aU (aN st 7 4)).bind λv=>(ba 55 (aN st 7 5)).bind λw=>(ba 56 (aN st 7 6)).bind λc=>(iz (aN st 8 0)).bind λd=>(aU (aN st 11 0)).bind λe=>(aU (aN st 11 1)).bind λf=>(e1 (aN st 11 2)).bind λg=>(aU (aN st 11 3)).bind λh=>(aU (aN st 11 4)).bind λi=>(aU (aN st 11 5)).bind λj=>(aU (aN st 11 6)).bind λl=>(aU (aN st 11 7)).bind λm=>(iz (aK st 5 0)).bind λo=>some (a,b,n,q,r,s,t,u,v,w,c,d,e,f,g,h,i,j,l,m,o)) (λp:Int×List ae×List Bool×List ae×Γa×List ah×List aj×List av×Int×List aw×List aq×Bool×Int×Int×Γa×Int×Int×Int×Int×Int×Bool=>Pe p.1 p.2.1 p.2.2.1 p.2.2.2.1 p.2.2.2.2.1 p.2.2.2.2.2.1 p.2.2.2.2.2.2.1 p.2.2.2.2.2.2.2.1 p.2.2.2.2.2.2.2.2.1 p.2.2.2.2.2.2.2.2.2.1 p.2.2.2.2.2.2.2.2.2.2.1 p.2.2.2.2.2.2.2.2.2.2.2.1 p.2.2.2.2.2.2.2.2.2.2.2.2.1 p.2.2.2.2.2.2.2.2.2.2.2.2.2.1 p.2.2.2.2.2.2.2.2.2.2.2.2.2.2.1 p.2.2.2.2.2.2.2.2.2.2.2.2.2.2.2.1 p.2.2.2.2.2.2.2.2.2.2.2.2.2.2.2.2.1 p.2.2.2.2.2.2.2.2.2.2.2.2.2.2.2.2.2.1 p.2.2.2.2.2.2.2.2.2.2.2.2.2.2.2.2.2.2.1 p.2.2.2.2.2.2.2.2.2.2.2.2.2.2.2.2.2.2.2.1 p.2.2.2.2.2.2.2.2.2.2.2.2.2.2.2.2.2.2.2.2) (λp=>z7 shut p.1 p.2.1 p.2.2.1 p.2.2.2.1 p.2.2.2.2.1 p.2.2.2.2.2.1 p.2.2.2.2.2.2.1 p.2.2.2.2.2.2.2.1 p.2.2.2.2.2.2.2.2.1 p.2.2.2.2.2.2.2.2.2.1 p.2.2.2.2.2.2.2.2.2.2.1 p.2.2.2.2.2.2.2.2.2.2.2.1 p.2.2.2.2.2.2.2.2.2.2.2.2.1 p.2.2.2.2.2.2.2.2.2.2.2.2.2.1 p.2.2.2.2.2.2.2.2.2.2.2.2.2.2.1 p.2.2.2.2.2.2.2.2.2.2.2.2.2.2.2.1 p.2.2.2.2.2.2.2.2.2.2.2.2.2.2.2.2.1 p.2.2.2.2.2.2.2.2.2.2.2.2.2.2.2.2.2.1 p.2.2.2.2.2.2.2.2.2.2.2.2.2.2.2.2.2.2.1 p.2.2.2.2.2.2.2.2.2.2.2.2.2.2.2.2.2.2.2.1 p.2.2.2.2.2.2.2.2.2.2.2.2.2.2.2.2.2.2.2.2) (λk p=>Us k p.1 p.2.1 p.2.2.1 p.2.2.2.1 p.2.2.2.2.1 p.2.2.2.2.2.1 p.2.2.2.2.2.2.1 p.2.2.2.2.2.2.2.1 p.2.2.2.2.2.2.2.2.1 p.2.2.2.2.2.2.2.2.2.1 p.2.2.2.2.2.2.2.2.2.2.1 p.2.2.2.2.2.2.2.2.2.2.2.1 p.2.2.2.2.2.2.2.2.2.2.2.2.1 p.2.2.2.2.2.2.2.2.2.2.2.2.2.1 p.2.2.2.2.2.2.2.2.2.2.2.2.2.2.1 p.2.2.2.2.2.2.2.2.2.2.2.2.2.2.2.1 p.2.2.2.2.2.2.2.2.2.2.2.2.2.2.2.2.1 p.2.2.2.2.2.2.2.2.2.2.2.2.2.2.2.2.2.1 p.2.2.2.2.2.2.2.2.2.2.2.2.2.2.2.2.2.2.1 p.2.2.2.2.2.2.2.2.2.2.2.2.2.2.2.2.2.2.2.1)
noncomputable def GY:bw SS:= {(j4 shut) with T:=fX ((j4 shut).T) 24 ⟨⟨ξb,ar 24⟩,[lQ]⟩}
theorem RG:a_ GY η:=(a_.fI (f:=24) (J:=⟨⟨ξb,ar 24⟩,[lQ]⟩) (ak.all rU rfl) ξv rfl a8 λc a=>by cases a;exact aJ.cons (aJ.nil) (by kernel_rfl) E3)
theorem NC:aX KK η ⟨ξf,ar 51⟩ (h2 (bY ξf) 7) vj:=
 aX.b_ (G:=GY) (I:=⟨⟨ξf,ar 51⟩,[]⟩) (π:=Int×List ae×List Bool×List ae×Γa×List ah×List aj×List av×Int×List aw×List aq×Bool×Int×Int×Γa×Int×Int×Int×Int×Int×Bool) (σ:=Bool) RG (aJ.nil) rfl 60 (λp i a=>Kr p.1 p.2.1 p.2.2.1 p.2.2.2.1 p.2.2.2.2.1 p.2.2.2.2.2.1 p.2.2.2.2.2.2.1 p.2.2.2.2.2.2.2.1 p.2.2.2.2.2.2.2.2.1 p.2.2.2.2.2.2.2.2.2.1 p.2.2.2.2.2.2.2.2.2.2.1 p.2.2.2.2.2.2.2.2.2.2.2.1 p.2.2.2.2.2.2.2.2.2.2.2.2.1 p.2.2.2.2.2.2.2.2.2.2.2.2.2.1 p.2.2.2.2.2.2.2.2.2.2.2.2.2.2.1 p.2.2.2.2.2.2.2.2.2.2.2.2.2.2.2.1 p.2.2.2.2.2.2.2.2.2.2.2.2.2.2.2.2.1 p.2.2.2.2.2.2.2.2.2.2.2.2.2.2.2.2.2.1 p.2.2.2.2.2.2.2.2.2.2.2.2.2.2.2.2.2.2.1 p.2.2.2.2.2.2.2.2.2.2.2.2.2.2.2.2.2.2.2.1 i a) (λp=>p.2.1) (λp=>p.2.2.2.2.2.2.2.2.2.2.2.2.2.2.2.2.2.2.2.2) (St:=λp=>sM shut p.1 p.2.1 p.2.2.1 p.2.2.2.1 p.2.2.2.2.1 p.2.2.2.2.2.1 p.2.2.2.2.2.2.1 p.2.2.2.2.2.2.2.1 p.2.2.2.2.2.2.2.2.1 p.2.2.2.2.2.2.2.2.2.1 p.2.2.2.2.2.2.2.2.2.2.1 p.2.2.2.2.2.2.2.2.2.2.2.1 p.2.2.2.2.2.2.2.2.2.2.2.2.1 p.2.2.2.2.2.2.2.2.2.2.2.2.2.1 p.2.2.2.2.2.2.2.2.2.2.2.2.2.2.1 p.2.2.2.2.2.2.2.2.2.2.2.2.2.2.2.1 p.2.2.2.2.2.2.2.2.2.2.2.2.2.2.2.2.1 p.2.2.2.2.2.2.2.2.2.2.2.2.2.2.2.2.2.1 p.2.2.2.2.2.2.2.2.2.2.2.2.2.2.2.2.2.2.1 p.2.2.2.2.2.2.2.2.2.2.2.2.2.2.2.2.2.2.2.1) (F:=λp=>rG shut p.1 p.2.1 p.2.2.1 p.2.2.2.1 p.2.2.2.2.1 p.2.2.2.2.2.1 p.2.2.2.2.2.2.1 p.2.2.2.2.2.2.2.1 p.2.2.2.2.2.2.2.2.1 p.2.2.2.2.2.2.2.2.2.1 p.2.2.2.2.2.2.2.2.2.2.1 p.2.2.2.2.2.2.2.2.2.2.2.1 p.2.2.2.2.2.2.2.2.2.2.2.2.1 p.2.2.2.2.2.2.2.2.2.2.2.2.2.1 p.2.2.2.2.2.2.2.2.2.2.2.2.2.2.1 p.2.2.2.2.2.2.2.2.2.2.2.2.2.2.2.1 p.2.2.2.2.2.2.2.2.2.2.2.2.2.2.2.2.1 p.2.2.2.2.2.2.2.2.2.2.2.2.2.2.2.2.2.1 p.2.2.2.2.2.2.2.2.2.2.2.2.2.2.2.2.2.2.1 p.2.2.2.2.2.2.2.2.2.2.2.2.2.2.2.2.2.2.2.1) (λp=>rfl)
  (λm p i a k=>by kernel_rfl) (λp x=>⟨_,_,λ_=>rfl⟩) (λp N C A O w a b=>cE b (t:=22) (sl:=12) rfl λv h=>h)
abbrev fL:=List Bool->List ae->List ae->Γa->List ah->List aj->List av->Int->List aw->List aq->Option (List Bool×Bool)
noncomputable def hD (F:fL):dD SS:=⟨25,λvs h k=>match vs,h with|[.agg [.bu .i64 16 g0,.ao 48 g1,.ao 51 g2,.ao 52 g3,.v (.int .u64 g4),.ao 55 g5,.ao 56 g6],.one (.an 0 0),.one (.an 3 0),.one (.an 4 0),.one (.an 5 0)],[some (.box 25 [.aD 1]),some (.aD 24 [.one (.an 2 0)] []),some (.box 77 cs),some (.box 73 [.an 2 0]),some (.box 24 [.ao 22 q]),some (.box 78 [.aD 6]),some (.aD 25 [] [.one (.an 0 0),.one (.an 3 0),.one (.an 4 0),.one (.an 5 0)])]=>(match flagsOf cs with|some (.ao 22 a,64,p)=>(F p q a g0 g1 g2 g3 g4 g5 g6).bind λr=>k (.ret (.s (.one (.v (.bool r.2))))) [some (.box 25 [.aD 1]),some (.aD 24 [.one (.an 2 0)] []),some (.box 77 [.ao 22 a,.b2 64 r.1]),some (.box 73 [.an 2 0]),some (.box 24 [.ao 22 q]),some (.box 78 [.aD 6]),some (.aD 25 [] [.one (.an 0 0),.one (.an 3 0),.one (.an 4 0),.one (.an 5 0)])] [2]|_=>none)|_,_=>none⟩
noncomputable def oC (a:fL):bw SS:= {(j4 shut) with H:=hD a::(j4 shut).H}
theorem Hi {a:fL} (b:gv KK (hD a) η):ak (oC a) η:=ak.dw (c:=hD a) rU b.ok
noncomputable def Kq (a:List ae) (b:List Bool) (e:List ae) (f:Γa) (g:List ah) (h:List aj) (i:List av) (j:Int) (k:List aw) (l:List aq) (c:Int) (d:Bool):AS SS:=⟨[(0,(.s (.one .cT))),(1,(.s (.one (.an 10 0)))),(12,(.s (.one (.ao 22 a)))),(13,(.s (.one (.v (.int .i64 (↑a.length:Int)))))),(14,(.s (.one (.v (.int .i64 c)))))],[(some (.box 25 [(.aD 1)])),(some (.aD 24 [(.one (.an 2 0))] [])),(some (.box 77 [(.ao 22 a),(.b2 64 b)])),(some (.box 73 [(.an 2 0)])),(some (.box 24 [(.ao 22 e)])),(some (.box 78 [(.aD 6)])),(some (.aD 25 [] [(.one (.an 0 0)),(.one (.an 3 0)),(.one (.an 4 0)),(.one (.an 5 0))])),(some (.box 60 [(.bu .i64 16 f),(.ao 48 g),(.ao 51 h),(.ao 52 i),(.v (.int .u64 j)),(.ao 55 k),(.ao 56 l)])),(some (.box 4 [(.v (.bool d))])),(some (.aD 51 [] [(.one (.an 10 0))])),(some (.box 73 [(.an 2 0)]))],11,(some ⟨⟨υ,ar 25⟩,[15],(dT (bY υ) 7),(dU (bY υ) 7),[(2,(.s (.one (.an 3 0)))),(3,(.s (.one (.an 4 0)))),(4,(.s (.one (.an 5 0)))),(5,(.s (.one (.an 7 0)))),(7,(.s (.one (.an 8 0)))),(14,(.s (.one (.aD 9))))],none⟩),false,[],[2,8]⟩
noncomputable def Pd (a:List ae) (b:List Bool) (d:List ae) (e:Γa) (f:List ah) (g:List aj) (h:List av) (i:Int) (j:List aw) (k:List aq) (c:Bool):AS SS:=Kq a b d e f g h i j k 0 c
noncomputable def XI (b c:List ae) (d:Γa) (e:List ah) (f:List aj) (g:List av) (h:Int) (i:List aw) (j:List aq) (a0:List Bool) (a:Bool):AS SS:=⟨[],[(some (.box 25 [(.aD 1)])),(some (.aD 24 [(.one (.an 2 0))] [])),(some (.box 77 [(.ao 22 b),(.b2 64 a0)])),(some (.box 73 [(.an 2 0)])),(some (.box 24 [(.ao 22 c)])),(some (.box 78 [(.aD 6)])),(some (.aD 25 [] [(.one (.an 0 0)),(.one (.an 3 0)),(.one (.an 4 0)),(.one (.an 5 0))])),(some (.box 60 [(.bu .i64 16 d),(.ao 48 e),(.ao 51 f),(.ao 52 g),(.v (.int .u64 h)),(.ao 55 i),(.ao 56 j)])),(some (.box 4 [(.v (.bool a))])),(some (.aD 51 [] [(.one (.an 10 0))])),(some (.box 73 [(.an 2 0)]))],11,(some ⟨⟨υ,ar 25⟩,[15],(dT (bY υ) 7),(dU (bY υ) 7),[(2,(.s (.one (.an 3 0)))),(3,(.s (.one (.an 4 0)))),(4,(.s (.one (.an 5 0)))),(5,(.s (.one (.an 7 0)))),(7,(.s (.one (.an 8 0)))),(14,(.s (.one (.aD 9))))],(some (.exit 0))⟩),false,[],[2,8]⟩
noncomputable def XJ (a c:List ae) (d:Γa) (e:List ah) (f:List aj) (g:List av) (h:Int) (i:List aw) (j:List aq) (a0:Bool) (b:Int) (a2:List Bool) (a3:Bool):AS SS:=⟨[(15,(.s (.one (.v (.bool a0))))),(0,(.s (.one .cT))),(1,(.s (.one (.an 10 0)))),(12,(.s (.one (.ao 22 a)))),(13,(.s (.one (.v (.int .i64 (↑a.length:Int)))))),(14,(.s (.one (.v (.int .i64 b)))))],[(some (.box 25 [(.aD 1)])),(some (.aD 24 [(.one (.an 2 0))] [])),(some (.box 77 [(.ao 22 a),(.b2 64 a2)])),(some (.box 73 [(.an 2 0)])),(some (.box 24 [(.ao 22 c)])),(some (.box 78 [(.aD 6)])),(some (.aD 25 [] [(.one (.an 0 0)),(.one (.an 3 0)),(.one (.an 4 0)),(.one (.an 5 0))])),(some (.box 60 [(.bu .i64 16 d),(.ao 48 e),(.ao 51 f),(.ao 52 g),(.v (.int .u64 h)),(.ao 55 i),(.ao 56 j)])),(some (.box 4 [(.v (.bool a3))])),(some (.aD 51 [] [(.one (.an 10 0))])),(some (.box 73 [(.an 2 0)]))],11,(some ⟨⟨υ,ar 25⟩,[15],(dT (bY υ) 7),(dU (bY υ) 7),[(2,(.s (.one (.an 3 0)))),(3,(.s (.one (.an 4 0)))),(4,(.s (.one (.an 5 0)))),(5,(.s (.one (.an 7 0)))),(7,(.s (.one (.an 8 0)))),(14,(.s (.one (.aD 9))))],none⟩),false,[],[2,8]⟩
noncomputable def sL (sh:Sh) (n:fL) (e d:List ae) (f:Γa) (g:List ah) (h:List aj) (i:List av) (j:Int) (k:List aw) (l:List aq) (b:Int) (z0:ae) (a:List Bool×Bool):T ((List Bool×Bool)⊕(List Bool×Bool)⊕(Bool×Int×List Bool×Bool)):=.bd (c' b 64) λp=>.bf (cn a.1 p) (.ok (.inl (a.1,a.2)))<|.gd (Pe b e a.1 d f g h i j k l a.2 z0.cx z0.bU.bq z0.bU.fArgs z0.bZ.cb z0.bZ.cv z0.bz z0.aL z0.bj true)<|.bd (z7 sh b e a.1 d f g h i j k l a.2 z0.cx z0.bU.bq z0.bU.fArgs z0.bZ.cb z0.bZ.cv z0.bz z0.aL z0.bj true) λo=>.bf (o.2.1) (.bd (idx d b) λz3=>.bd (fF sh (aZ.mk (bI.mk f g) h (bR.mk i j) (aO.mk k l)) z3) λz4=>.bf (!z4.snd) (.ok (.inl (a.1,a.2)))<|.bd (c' b 64) λz5=>.bf (a.1.length.beq 64) (.bd (n (a.1.set z5 true) d e z4.fst.az.aM z4.fst.az.ag z4.fst.aQ z4.fst.aF.ag z4.fst.aF.bm z4.fst.aA.ax z4.fst.aA.au) λc=>.bd (c' b 64) λm=>.bf (c.fst.length.beq 64) (.bf (c.snd) (.ok (.inr (.inl ((c.fst.set m false),c.snd))))<|.ok (.inl ((c.fst.set m false),c.snd)))<|.no)<|.no)<|.ok (.inl (a.1,a.2))
noncomputable def xx (sh:Sh) (c d:List ae) (e:Γa) (f:List ah) (g:List aj) (h:List av) (i:Int) (j:List aw) (k:List aq) (b:Int) (a:List Bool×Bool):T ((List Bool×Bool)⊕(Bool×Int×List Bool×Bool)):=.ok (.inr ((decide (b<(↑c.length:Int))),b,a.1,a.2))
noncomputable def z6 (sh:Sh) (j:fL) (a:List ae) (k:List Bool) (b:List ae) (c:Γa) (d:List ah) (e:List aj) (f:List av) (g:Int) (h:List aw) (i:List aq) (l:Bool):Option ((List Bool×Bool)⊕(Bool×Int×List Bool×Bool)):=b4 sh (sL sh j a b c d e f g h i) (xx sh a b c d e f g h i) a (k,l)
noncomputable def Ur {R:Type} (k:AX->AS SS->Option R) (a b:List ae) (c:Γa) (d:List ah) (e:List aj) (f:List av) (g:Int) (h:List aw) (i:List aq) (x:(List Bool×Bool)⊕(Bool×Int×List Bool×Bool)):Option R:=(λx=>ξx (λv=>k .ret (XI a b c d e f g h i v.1 v.2)) (λv=>k (.exit 0) (XJ a b c d e f g h i v.1 v.2.1 v.2.2.1 v.2.2.2)) x) x
noncomputable def D6 (a:fL):bh SS:=gm (λst=>gc (ar 51 2) (d' [2,8] (st)))<|bt 2 (λst=>((b9 st 1 24).bind λ_=>(b9 st 6 25).bind λ_=>(b9 st 9 51).bind λ_=>fQ st 43 7).bind λ_=>(ba 22 (aK st 12 0)).bind λb=>(kj (aN st 2 1)).bind λc=>(ba 22 (aN st 4 0)).bind λe=>(e1 (aN st 7 0)).bind λf=>(ba 48 (aN st 7 1)).bind λg=>(ba 51 (aN st 7 2)).bind λh=>(ba 52 (aN st 7 3)).bind λi=>(aU (aN st 7 4)).bind λj=>(ba 55 (aN st 7 5)).bind λl=>(ba 56 (aN st 7 6)).bind λm=>(iz (aN st 8 0)).bind λd=>some (b,c,e,f,g,h,i,j,l,m,d)) (λp:List ae×List Bool×List ae×Γa×List ah×List aj×List av×Int×List aw×List aq×Bool=>Pd p.1 p.2.1 p.2.2.1 p.2.2.2.1 p.2.2.2.2.1 p.2.2.2.2.2.1 p.2.2.2.2.2.2.1 p.2.2.2.2.2.2.2.1 p.2.2.2.2.2.2.2.2.1 p.2.2.2.2.2.2.2.2.2.1 p.2.2.2.2.2.2.2.2.2.2) (λp=>z6 shut a p.1 p.2.1 p.2.2.1 p.2.2.2.1 p.2.2.2.2.1 p.2.2.2.2.2.1 p.2.2.2.2.2.2.1 p.2.2.2.2.2.2.2.1 p.2.2.2.2.2.2.2.2.1 p.2.2.2.2.2.2.2.2.2.1 p.2.2.2.2.2.2.2.2.2.2) (λk p=>Ur k p.1 p.2.2.1 p.2.2.2.1 p.2.2.2.2.1 p.2.2.2.2.2.1 p.2.2.2.2.2.2.1 p.2.2.2.2.2.2.2.1 p.2.2.2.2.2.2.2.2.1 p.2.2.2.2.2.2.2.2.2.1)
noncomputable def GZ (a:fL):bw SS:= {(oC a) with T:=fX ((oC a).T) 24 ⟨⟨ξb,ar 24⟩,[lQ]⟩}
theorem RH {a:fL} (b:gv KK (hD a) η):a_ (GZ a) η:=(a_.fI (f:=24) (J:=⟨⟨ξb,ar 24⟩,[lQ]⟩) (ak.all (Hi b) rfl) ξv rfl a8 λc d=>by cases d;exact aJ.cons (aJ.nil) (by kernel_rfl) E3)
theorem acM {b:fL} (c:gv KK (hD b) η):aX KK η ⟨ξf,ar 51⟩ (h2 (bY ξf) 2) (D6 b):=aX.pre (bT.comp (bT.gc (ar 51 2)) (bT.d' [2,8]))<|
 aX.b_ (G:=GZ b) (I:=⟨⟨ξf,ar 51⟩,[vj]⟩) (π:=List ae×List Bool×List ae×Γa×List ah×List aj×List av×Int×List aw×List aq×Bool) (σ:=List Bool×Bool) (RH c) (aJ.cons (aJ.nil) (by kernel_rfl) NC) rfl 60 (λp i a=>Kq p.1 a.1 p.2.2.1 p.2.2.2.1 p.2.2.2.2.1 p.2.2.2.2.2.1 p.2.2.2.2.2.2.1 p.2.2.2.2.2.2.2.1 p.2.2.2.2.2.2.2.2.1 p.2.2.2.2.2.2.2.2.2.1 i a.2) (λp=>p.1) (λp=>(p.2.1,p.2.2.2.2.2.2.2.2.2.2)) (St:=λp=>sL shut b p.1 p.2.2.1 p.2.2.2.1 p.2.2.2.2.1 p.2.2.2.2.2.1 p.2.2.2.2.2.2.1 p.2.2.2.2.2.2.2.1 p.2.2.2.2.2.2.2.2.1 p.2.2.2.2.2.2.2.2.2.1) (F:=λp=>xx shut p.1 p.2.2.1 p.2.2.2.1 p.2.2.2.2.1 p.2.2.2.2.2.1 p.2.2.2.2.2.2.1 p.2.2.2.2.2.2.2.1 p.2.2.2.2.2.2.2.2.1 p.2.2.2.2.2.2.2.2.2.1) (λp=>rfl)
  (λm p i a k=>by kernel_rfl) (by rintro p (x|x)<;>exact⟨_,_,λ_=>rfl⟩) (λp N C A O w a d=>cE d (t:=22) (sl:=12) rfl λv h=>h)
noncomputable def GX (a:fL):bw SS:= {(oC a) with T:=fX (fX ((oC a).T) 24 ⟨⟨ξb,ar 24⟩,[lQ]⟩) 51 ⟨⟨ξf,ar 51⟩,[vj,(D6 a)]⟩}
theorem RI {a:fL} (d:gv KK (hD a) η):a_ (GX a) η:=(a_.fI (f:=51) (J:=⟨⟨ξf,ar 51⟩,[vj,(D6 a)]⟩) (a_.fI (f:=24) (J:=⟨⟨ξb,ar 24⟩,[lQ]⟩) (ak.all (Hi d) rfl) ξv rfl a8 λc b=>by cases b;exact aJ.cons (aJ.nil) (by kernel_rfl) E3) Tryz.func51 rfl a8 λc b=>by cases b;exact aJ.cons (aJ.cons (aJ.nil) (by kernel_rfl) (acM d)) (by kernel_rfl) NC)
noncomputable def pf (sh:Sh) (c:fL) (p:List Bool) (q b:List ae) (g0:Γa) (g1:List ah) (g2:List aj) (g3:List av) (g4:Int) (g5:List aw) (g6:List aq):T ((List Bool×Bool)×Bool):=.gd (OZ b p)<|.bd (r_ sh b p) λx3=>.cs x3 (λ_=>.gd (Pd b p q g0 g1 g2 g3 g4 g5 g6 false)<|.bd (z6 sh c b p q g0 g1 g2 g3 g4 g5 g6 false) λx5=>.cs x5 (λa=>.ok ((a.1,a.2),true)) λa=>.ok ((a.2.2.1,a.2.2.2),true)) λa=>.ok ((p,true),false)
noncomputable def JD (sh:Sh) (a:fL) (p:List Bool) (q b:List ae) (g0:Γa) (g1:List ah) (g2:List aj) (g3:List av) (g4:Int) (g5:List aw) (g6:List aq):Option ((List Bool×Bool)×Bool):=sh.s _ (pf sh a p q b g0 g1 g2 g3 g4 g5 g6).val
theorem aeA {R:Type} (b:fL) (p:List Bool) (q a:List ae) (g0:Γa) (g1:List ah) (g2:List aj) (g3:List av) (g4:Int) (g5:List aw) (g6:List aq) (k:Rs SS->AH SS->Γ->Option R):dY (GX b) 100 25 [.agg [.bu .i64 16 g0,.ao 48 g1,.ao 51 g2,.ao 52 g3,.v (.int .u64 g4),.ao 55 g5,.ao 56 g6],.one (.an 0 0),.one (.an 3 0),.one (.an 4 0),.one (.an 5 0)] [some (.box 25 [.aD 1]),some (.aD 24 [.one (.an 2 0)] []),some (.box 77 [.ao 22 a,.b2 64 p]),some (.box 73 [.an 2 0]),some (.box 24 [.ao 22 q]),some (.box 78 [.aD 6]),some (.aD 25 [] [.one (.an 0 0),.one (.an 3 0),.one (.an 4 0),.one (.an 5 0)])] k=(pf shut b p q a g0 g1 g2 g3 g4 g5 g6).run (λr=>k (.ret (.s (.one (.v (.bool r.1.2))))) [some (.box 25 [.aD 1]),some (.aD 24 [.one (.an 2 0)] []),some (.box 77 [.ao 22 a,.b2 64 r.1.1]),some (.box 73 [.an 2 0]),some (.box 24 [.ao 22 q]),some (.box 78 [.aD 6]),some (.aD 25 [] [.one (.an 0 0),.one (.an 3 0),.one (.an 4 0),.one (.an 5 0)])] (bif r.2 then[2] else[])):=by kernel_rfl
theorem ZG {c:fL} (f:gv KK (hD c) η):gv KK (hD (λp q b g0 g1 g2 g3 g4 g5 g6=>(JD shut c p q b g0 g1 g2 g3 g4 g5 g6).map (·.1))) η:=⟨λ{R} vs h k z a=>by
 simp only[hD] at a;split at a
 rotate_left
 ·cases a
 rename_i g0 g1 g2 g3 g4 g5 g6 cs q;split at a
 rotate_left
 ·cases a
 rename_i b p he;obtain⟨r,h',dt,d,e⟩:=ZE (j:=2) (X:=List Bool×Bool) (rs:=λr=>.ret (.s (.one (.v (.bool r.2))))) (hp:=λr=>[some (.box 25 [.aD 1]),some (.aD 24 [.one (.an 2 0)] []),some (.box 77 [.ao 22 b,.b2 64 r.1]),some (.box 73 [.an 2 0]),some (.box 24 [.ao 22 q]),some (.box 78 [.aD 6]),some (.aD 25 [] [.one (.an 0 0),.one (.an 3 0),.one (.an 4 0),.one (.an 5 0)])]) (RI f) (λk=>aeA _ p q b g0 g1 g2 g3 g4 g5 g6 k) rfl (Nat.le_of_ble_eq_true rfl) a;exact⟨r,h',dt,d,cU.seen (j:=2) rfl (λv h=>Y0 he v h) rfl e⟩⟩
noncomputable def kq (sh:Sh):Nat->fL
 |0=>λ_ _ _ _ _ _ _ _ _ _=>none
 |n+1=>λp q a g0 g1 g2 g3 g4 g5 g6=>(JD sh (kq sh n) p q a g0 g1 g2 g3 g4 g5 g6).map (·.1)
theorem JY: ∀n,gv KK (hD (kq shut n)) η
 |0=>⟨λ{R} vs h k z a=>by
  simp only[hD] at a;split at a
  ·split at a
   ·cases a
   ·cases a
  ·cases a⟩
 |n+1=>ZG (JY n)
noncomputable def FF (sh:Sh) (p:List Bool) (q a:List ae) (g0:Γa) (g1:List ah) (g2:List aj) (g3:List av) (g4:Int) (g5:List aw) (g6:List aq):Option (List Bool×Bool):=kq sh 100 p q a g0 g1 g2 g3 g4 g5 g6
noncomputable def Kv (sh:Sh):dD SS:=hD (FF sh)
noncomputable def oG (sh:Sh):bw SS:= {(j4 sh) with H:=Kv sh::(j4 sh).H}
theorem HJ:ak (oG shut) η:=ak.dw (c:=Kv shut) rU (JY 100).ok
noncomputable def sZ (sh:Sh) (h:cK):T (Bool×Int):=.bd (jz sh h) λz0=>.bf (z0 !=0) (.ok (false,390))<|.bf (decide ((↑h.cC.length:Int)>7)) (.ok (false,3))<|.bd (pN sh) λa=>.bd (FF sh (ι 64 false) h.cC h.cC a.az.aM a.az.ag a.aQ a.aF.ag a.aF.bm a.aA.ax a.aA.au) λz2=>.ok (z2.snd,0)
noncomputable def CL (sh:Sh) (h:cK):Option (Bool×Int):=sh.s _ (sZ sh h).val
theorem t_9 {R:Type} (h:cK) (k:Rs SS->Option R):dY (oG shut) 100 9 [KK.a1 24 h] [] (gq KK [4,27] k)=(sZ shut h).run (λr=>k (.ret (.br [KK.a1 4 r.1,KK.a1 27 r.2]))):=by kernel_rfl
noncomputable def Jf (sh:Sh):eJ SS:=fE KK 9 [24] (λ{R} xs (k:Rs SS->Option R)=>match xs with| .cons h .nil=>(CL sh h).bind (λr=>k (.ret (.br [KK.a1 4 r.1,KK.a1 27 r.2]))))
noncomputable def H5 (sh:Sh):bw SS:= {(oG sh) with C:=Jf sh::(oG sh).C}
theorem SI:ak (H5 shut) η:=ak.ga (c:=Jf shut) HJ λxs k z _ b=>ir (G:=(oG shut)) (ak.all HJ rfl) (λ{R} xs k z a=>by
 match xs,a with
 | .cons h .nil,a=>exact⟨100,(t_9 h k).trans (jB a)⟩) b
noncomputable def zc (sh:Sh):bw SS:= {mv sh with F:=[12]}
theorem SJ:ak (zc shut) η:=ak.JW xT _
theorem afc {R:Type} (k:Rs SS->Option R):dY (zc ab) 300 7 [] [] (gq KK [4] k)=k (.ret (.s (KK.a1 4 true))):=by kernel_rfl
noncomputable def Je:eJ SS:=fE KK 7 [] (λ{R} xs (k:Rs SS->Option R)=>k (.ret (.s (KK.a1 4 true))))
noncomputable def zd (sh:Sh):bw SS:= {H5 sh with F:=[12]}
theorem SK:ak (zd shut) η:=ak.JW SI _
noncomputable def y5 (sh:Sh):bw SS:= {zd sh with C:=Je::(zd sh).C}
theorem SH:ak (y5 shut) η:=ak.ga (c:=Je) SK λxs k z _ a=>ir (G:=zc ab) (rs:=[4]) (me▸ak.all SJ rfl) (λ{R} xs k z h=>by
 match xs,h with
 | .nil,h=>exact⟨300,(afc k).trans h⟩) a
noncomputable def sX (sh:Sh) (x:cK):T (Bool):=
 .bd (ep x.cC none (Option.map (λx=>x.snd) (some (ο,if 66<(↑x.cC.length:Int) then 66 else(↑x.cC.length:Int)))) none) λz0=>
  .bd (app 88 [] z0) λa=>
   .bd (na sh (cK.mk a)) λz2=>
    .bf (z2.snd !=0) (
     .bd (Cs sh (cK.mk a)) λz3=>
      .bf ((↑z2.fst.length:Int)==0) (
       .ok (z3.snd==z2.snd))<|
      .ok false)<|
    .bd (CL sh (cK.mk a)) λz3=>
     .bd (Ct sh (cK.mk a) z2.fst) λz4=>
      .bf (z4) (
       .bf (z3.fst) (
        .bf (z3.snd==0) (
         .ok true)<|
        .bf (z3.snd==3) (
         .ok (decide ((↑a.length:Int)>7)))<|
        .ok false)<|
       .bf (z3.snd==3) (
        .ok (decide ((↑a.length:Int)>7)))<|
       .ok false)<|
      .ok false
noncomputable def CE (sh:Sh) (x:cK):Option (Bool):=sh.s _ (sX sh x).val
theorem t_5 {R:Type} (x:cK) (k:Rs SS->Option R):dY (y5 shut) 100 5 [KK.a1 24 x] [] (gq KK [4] k)=(sX shut x).run (λr=>k (.ret (.s (KK.a1 4 r)))):=by kernel_rfl
section
variable {q:List ae}
def rR (q:List ae) (p:List Bool) (d:ae):Prop:= ∀(k:Nat) e,q[k]? =some e->cn p k=false->hv e d=false
def mC (q:List ae) (p:List Bool):Prop:= ∀(k:Nat) e,q[k]? =some e->e.bj≠0->cn p k=true
def Walk (q:List ae):List Bool->aZ->Γa->Prop
 |p,_,[]=>mC q p
 |p,s,x::r=> ∃(i:Nat) (d:ae) (a:aZ),x=(i:Int)/\q[i]? =some d/\cn p i=false/\rR q p d/\fF ab s d=some (a,true)/\Walk q (p.set i true) a r
theorem lN {j n:Nat} (h:j<n):c' (j:Int) n=some j:=by unfold c';rw[if_pos ⟨by omega,by omega⟩,μ]
theorem SQ {p:List Bool} {i:Nat} {d:ae} (v:q.length<=64) (s:q[i]? =some d) (t:rR q p d) {b:Γa} {f:Int} {g:Γa} {h:List ah} {l:List aj} {m:List av} {n:Int} {c:List aw} {e:List aq}:zu ab (i:Int) b f q p g h l m n c e=some (.inr (false,(q.length:Int))):=by
 show bV (λk z a=>(sq ab (i:Int) b f q p g h l m n c e k z a).val) (λk a=>(rf ab (i:Int) b f q p g h l m n c e k a).val) 0 q ()=_;refine qK (st:=λ_=>()) (λj z o=>?_) ?_
 ·have u:=(γ.1 o).1;unfold sq;simp only[T.aS,T.aI,T.aH,lN (show j<64 by omega),δ,cW s,Gd];cases r:cn p j
  ·have:=t j z o r;unfold hv at this;simp only[this,ξm,cond_true,cond_false]
  ·rfl
 ·unfold rf;simp only[T.aH,ξq,decide_false]
theorem H8 {p:List Bool} (f:q.length<=64) (d:mC q p):zv ab q p=some (.inr (false,(q.length:Int))):=by
 show bV (λk z a=>(sr ab q p k z a).val) (λk a=>(rh ab q p k a).val) 0 q ()=_;refine qK (st:=λ_=>()) (λj z b=>?_) ?_
 ·have e:=(γ.1 b).1;unfold sr;simp only[T.aS,T.aI,T.aH,lN (show j<64 by omega),δ];cases c:(z.bj !=0)
  ·rfl
  ·have:=d j z b (by simpa using c);simp only[this,ω,cond_true,cond_false]
 ·unfold rh;simp only[T.aH,ξq,decide_false]
abbrev Te:=List Bool×Γa×List ah×List aj×List av×Int×List aw×List aq
def wK (p:List Bool) (s:aZ):Te:=(p,s.az.aM,s.az.ag,s.aQ,s.aF.ag,s.aF.bm,s.aA.ax,s.aA.au)
theorem wD {p:List Bool} {i:Nat} (h:p.length=64):(p.set i true).length=64:=by rw[ξu];exact h
theorem H9 (c:q.length<=64) {l:Γa}: ∀(r:Γa) (k:Nat) (p:List Bool) (s:aZ),Walk q p s r->p.length=64-> ∃x,bV (λk z a=>(oT ab l q k z a).val) (λk a=>(xu ab l q k a).val) k r (wK p s)=some (.inr x)/\mC q x.2.2.1
 |[],k,p,s,hw,hp=>⟨_,rfl,hw⟩
 |x::r,k,p,s,hw,hp=>by
  obtain⟨i,d,e,rfl,b,n,o,m,t⟩:=hw;have hi:=(γ.1 b).1;have u:(oT ab l q k (i:Int) (wK p s)).val=some (.inl (wK (p.set i true) e)):=by
   unfold oT wK;have f:decide ((i:Int)<0)=false:=decide_eq_false (by omega);have g:decide ((i:Int)>=(q.length:Int))=false:=decide_eq_false (by omega);have h:p.length.beq 64=true:=by rw[hp];rfl
   have j:fF ab (aZ.mk (bI.mk s.az.aM s.az.ag) s.aQ (bR.mk s.aF.ag s.aF.bm) (aO.mk s.aA.ax s.aA.au)) d=some (e,true):=m;simp only[T.aS,T.aI,T.aH,T.bL,T.cN,f,g,cond_false,lN (show i<64 by omega),δ,n,SQ c b o,cW b,j,ω,h,cond_true]
  rw[hf,u,δ];exact H9 c r _ _ _ t (wD hp)
theorem w17 {l:Γa} (a:k1 q) (h:Walk q (ι 64 false) dJ l):Ct ab ⟨q⟩ l=some true:=by
 have b:=a.1;have d:jz ab ⟨q⟩=some 0:=by
  rcases w3 (q:=q) (by omega) with⟨e,_⟩|⟨_,e⟩
  ·exact e
  ·exact absurd a e
 obtain⟨x,h1,f⟩:=H9 b (l:=l) l 0 _ _ h (by simp);have g:zw ab l q dJ.az.aM dJ.az.ag dJ.aQ dJ.aF.ag dJ.aF.bm dJ.aA.ax dJ.aA.au (ι 64 false)=some (.inr x):=h1;show(sU ab ⟨q⟩ l).val=_;unfold sU;have c:((0:Int) !=0)=false:=rfl;simp only[T.aS,T.aI,T.bL,T.cN,T.aH,d,δ,c,cond_false,F9,g,H8 b f]
end
section
variable {q:List ae} {p:List Bool}
theorem SX (b:q.length<=64) (a:mC q p):r_ ab q p=some (.inr (false,(q.length:Int))):=H8 b a
theorem SV (m:q.length<=64) (i: ¬mC q p):r_ ab q p=some (.inl ()):=by
 have l: ∃n,∃e,q[n]? =some e/\e.bj≠0/\cn p n=false:=by
  refine Classical.byContradiction λh=>i λk e he d=>?_;cases c:cn p k
  ·exact absurd ⟨k,e,he,d,c⟩ h
  ·rfl
 obtain⟨n,⟨e,he,d,c⟩,hm⟩:=Me l;have st: ∀(j:Nat) z,q[j]? =some z->(o1 ab q p j z ()).val=some (bif (z.bj !=0)&&!cn p j then .inr (.inl ()) else .inl ()):=λj z b=>by
  have f:=(γ.1 b).1;unfold o1;simp only[T.aS,T.aI,T.aH,lN (show j<64 by omega),δ];cases (z.bj !=0)<;>cases cn p j<;>rfl
 show bV (λk z a=>(o1 ab q p k z a).val) (λk a=>(xv ab q p k a).val) 0 q ()=_;refine Oh (st:=λ_=>()) he (λj z f b=>?_) ?_
 ·have:((z.bj !=0)&&!cn p j)=false:=by
   cases h1:(z.bj !=0)
   ·rfl
   ·cases g:cn p j
    ·exact absurd ⟨z,b,by simpa using h1,g⟩ (hm j f)
    ·rfl
  rw[st j z b,this];rfl
 ·have:((e.bj !=0)&&!cn p n)=true:=by rw[c];simpa using d
  rw[st n e he,this];rfl
def jC (q:List ae) (p:List Bool) (d:ae) (j:Nat):Bool:=(ξ0 j).all λk=>cn p k||!(match q[k]? with|some e=>hv e d|none=>false)
theorem Y4 {d:ae}:jC q p d q.length=true↔rR q p d:=by
 unfold jC rR;rw[List.all_eq_true];constructor
 ·intro h k e he a;have:=h k (ξ2.2 (γ.1 he).1);rw[a,he] at this;simpa using this
 ·intro h k hk;have hk:=ξ2.1 hk;cases a:cn p k
  ·rw[ε hk];have:=h k _ (ε hk) a;simp only[this];rfl
  ·rfl
theorem S1 (t:q.length<=64) {d:ae} {b:Int} {g:Γa} {h:List ah} {i:List aj} {l:List av} {m:Int} {n:List aw} {c:List aq} {f:Bool}:
  z7 ab b q p q g h i l m n c f d.cx d.bU.bq d.bU.fArgs d.bZ.cb d.bZ.cv d.bz d.aL d.bj true=some (false,jC q p d q.length,(q.length:Int)):=by
 show bV (λk z a=>(sM ab b q p q g h i l m n c f d.cx d.bU.bq d.bU.fArgs d.bZ.cb d.bZ.cv d.bz d.aL d.bj k z a).val) (λk a=>(rG ab b q p q g h i l m n c f d.cx d.bU.bq d.bU.fArgs d.bZ.cb d.bZ.cv d.bz d.aL d.bj k a).val) 0 q true=_;refine qK (st:=λj=>jC q p d j) (λj z o=>?_) ?_
 ·have s:=(γ.1 o).1;have r:(ae.mk d.cx (cJ.mk d.bU.bq d.bU.fArgs) (cV.mk d.bZ.cb d.bZ.cv) d.bz d.aL d.bj)=d:=rfl;have e:jC q p d (j+1)=(jC q p d j&&(cn p j||!hv z d)):=by
   unfold jC;rw[ξi,List.all_append];simp[o]
  unfold sM;simp only[T.aS,T.aI,T.aH,r,lN (show j<64 by omega),δ,Gd,e];cases jC q p d j
  ·rfl
  ·cases cn p j<;>rfl
 ·unfold rG;simp only[T.aH,ξq,decide_false]
noncomputable abbrev gS (n:Nat) (p:List Bool) (q:List ae) (s:aZ):Option (List Bool×Bool):=kq ab n p q q s.az.aM s.az.ag s.aQ s.aF.ag s.aF.bm s.aA.ax s.aA.au
theorem ad8 {j:Nat} (a:j<p.length) (h:cn p j=false):(p.set j true).set j false=p:=by
 unfold cn at h;rw[ε a] at h;rw[ξB,<-show p[j]=false from h,List.set_getElem_self]
theorem VD {j:Nat} (a:j<p.length) (h:cn p j=false):(p.set j true).count false<p.count false:=by
 unfold cn at h;rw[ε a] at h;have h:p[j]=false:=h;have h1:0<p.count false:=List.count_pos_iff.2 (h▸ν a);rw[List.count_set a,h];simp;omega
theorem Qb (hw:ka q) (A:q.length<=64): ∀(n:Nat) (p:List Bool) (s:aZ),p.length=64->c8 s->p.count false<n-> ∃b,gS n p q s=some (p,b)/\((∃r,Walk q p s r)->b=true)
 |0,p,s,hp,L,hn=>by omega
 |n+1,p,s,hp,L,hn=>by
  have U:gS (n+1) p q s=((pf ab (kq ab n) p q q s.az.aM s.az.ag s.aQ s.aF.ag s.aF.bm s.aA.ax s.aA.au).val).map (·.1):=rfl;rw[U]
  by_cases C:mC q p
  ·refine⟨true,?_,λ_=>rfl⟩;unfold pf;simp only[T.aS,T.bL,T.cN,T.aH,SX A C,δ,ξ9]
  obtain⟨x,h1,Q⟩:=Oe (step:=λk z a=>(sL ab (kq ab n) q q s.az.aM s.az.ag s.aQ s.aF.ag s.aF.bm s.aA.ax s.aA.au k z a).val) (fin:=λk a=>(xx ab q q s.az.aM s.az.ag s.aQ s.aF.ag s.aF.bm s.aA.ax s.aA.au k a).val) (l:=q) (a0:=(p,false))
   (I:=λj a=>a=(p,false)/\ ∀(k:Nat) r,k<j-> ¬Walk q p s ((k:Int)::r)) (J:=λx=>x= .inl (p,true)\/ ∃c i,x= .inr (c,i,p,false)/\ ∀(k:Nat) r,k<q.length-> ¬Walk q p s ((k:Int)::r)) (λj z a o ⟨B,V⟩=>by
    subst B;have Z:=(γ.1 o).1;have next:(∀r,¬Walk q p s ((j:Int)::r))-> ∀(k:Nat) r,k<j+1-> ¬Walk q p s ((k:Int)::r):=λh k r hk=>by
     rcases ξh k j with f|f
     ·exact V k r f
     ·have:k=j:=by omega
      subst this;exact h r
    have v: ∀ {i:Nat},((j:Nat):Int)=(i:Int)->i=j:=λh=>by omega
    unfold sL;cases u:cn p j
    rotate_left
    ·simp only[T.aS,T.aI,T.aH,lN (show j<64 by omega),δ,u,cond_true];refine⟨_,rfl,λa' e=>?_,λx e=>by cases e⟩;cases e;exact⟨rfl,next λr ⟨i,d,g,f,_,w,_⟩=>by rw[v f,u] at w;cases w⟩
    simp only[T.aS,T.aI,T.bL,T.aH,lN (show j<64 by omega),δ,u,cond_false,S1 A];cases G:jC q p z q.length
    ·refine⟨_,rfl,λa' e=>?_,λx e=>by cases e⟩;cases e;exact⟨rfl,next λr ⟨i,d,g,f,m,_,R,_⟩=>by
      rw[v f,o] at m;cases m;rw[Y4.2 R] at G;cases G⟩
    obtain⟨g,b,D,W⟩:=Gb L (hw z (ζ o));have N:fF ab (aZ.mk (bI.mk s.az.aM s.az.ag) s.aQ (bR.mk s.aF.ag s.aF.bm) (aO.mk s.aA.ax s.aA.au)) z=some (g,b):=D;have M:p.length.beq 64=true:=by rw[hp];rfl
    simp only[cW o,δ,N,cond_true,M];cases b
    ·refine⟨_,rfl,λa' e=>?_,λx e=>by cases e⟩;cases e;exact⟨rfl,next λr ⟨i,d,s2,f,m,_,_,t,_⟩=>by
      rw[v f,o] at m;cases m;rw[D] at t;cases t⟩
    have H:j<p.length:=by omega
    obtain⟨E,X,Y⟩:=Qb hw A n (p.set j true) g (wD hp) W (by have:=VD H u;omega);have O:kq ab n (p.set j true) q q g.az.aM g.az.ag g.aQ g.aF.ag g.aF.bm g.aA.ax g.aA.au=some (p.set j true,E):=X;have P:(p.set j true).length.beq 64=true:=by rw[wD hp];rfl
    simp only[ω,cond_false,cond_true,O,δ,P,ad8 H u];cases E
    ·refine⟨_,rfl,λa' e=>?_,λx e=>by cases e⟩;cases e;exact⟨rfl,next λr ⟨i,d,s2,f,m,_,_,t,F⟩=>by
      rw[v f,o] at m;cases m;rw[D] at t;cases t;rw[v f] at F;cases Y ⟨r,F⟩⟩
    ·exact⟨_,rfl,(λa' e=>by cases e),λx e=>by cases e;exact .inl rfl⟩)
   (λa ⟨B,f⟩=>by subst B;exact⟨_,rfl,.inr ⟨_,_,rfl,f⟩⟩) ⟨rfl,λk r hk=>absurd hk (by omega)⟩
  have S:z6 ab (kq ab n) q p q s.az.aM s.az.ag s.aQ s.aF.ag s.aF.bm s.aA.ax s.aA.au false=some x:=h1;unfold pf;simp only[T.aS,T.bL,T.cN,T.aH,SV A C,S,δ];rcases Q with rfl|⟨c,i,rfl,f⟩
  ·exact⟨true,rfl,λ_=>rfl⟩
  ·refine⟨false,rfl,λ⟨r,K⟩=>?_⟩;cases r with
   |nil=>exact absurd K C
   |cons y r=>
    obtain⟨i,d,g,rfl,m,w⟩:=K;exact absurd ⟨i,d,g,rfl,m,w⟩ (f i r (γ.1 m).1)
theorem w9 (hw:ka q) (a:k1 q) (i: ∃l,Walk q (ι 64 false) dJ l):CL ab ⟨q⟩=some (bif decide ((q.length:Int)>7) then(false,3) else(true,0)):=by
 have h:=a.1;have d:jz ab ⟨q⟩=some 0:=by
  rcases w3 (q:=q) (by omega) with⟨e,_⟩|⟨_,e⟩
  ·exact e
  ·exact absurd a e
 have c:((0:Int) !=0)=false:=rfl;obtain⟨b,h1,f⟩:=Qb hw h 100 (ι 64 false) dJ (by simp) KO (by decide);have g:FF ab (ι 64 false) q q dJ.az.aM dJ.az.ag dJ.aQ dJ.aF.ag dJ.aF.bm dJ.aA.ax dJ.aA.au=some (ι 64 false,b):=h1;show(sZ ab ⟨q⟩).val=_;unfold sZ;simp only[T.aS,T.aI,T.aH,d,δ,c,cond_false,F9,g,f i];cases decide ((q.length:Int)>7)<;>rfl
end
theorem wE {d:ae} (h:jU d=true):(d.bj≠0->d.bz<=d.bj)/\(d.aL≠0->d.bz<=d.aL/\(d.bj≠0->d.aL<=d.bj)):=by
 have h1:=Qe d;rw[h] at h1
 change (pg ab d).val=some true at h1
 unfold pg at h1;simp only[T.aI,T.aH] at h1;generalize decide (d.cx>=0)=b at h1;generalize decide (d.cx<8)=c at h1;generalize decide (d.bz>=1)=e at h1;generalize fi d.bZ (cV.mk 0 0)=g at h1;generalize l:(d.aL==0)=a at h1;generalize m:(d.bj==0)=f at h1;generalize n:decide (d.aL>=d.bz)=i at h1;generalize o:decide (d.aL<=d.bj)=j at h1;generalize p:decide (d.bj>=d.bz)=k at h1;cases b<;>cases c<;>cases e<;>cases g<;>cases a<;>cases f<;>cases i<;>cases j<;>cases k<;>first
  |(cases h1;done)
  |(simp at l m n o p;omega)
section
variable {q:List ae} {o:Γa}
def Fit (q:List ae):aZ->Γa->aZ->Prop
 |s,[],a=>s=a
 |s,x::r,a=> ∃d s1,idx q x=some d/\fF ab s d=some (s1,true)/\Fit q s1 r a
theorem Fit.app {b:Γa} {s2:aZ}: ∀ {a:Γa} {s s1:aZ},Fit q s a s1->Fit q s1 b s2->Fit q s (a++b) s2
 |[],s,s1,h,k=>by cases h;exact k
 |x::a,s,s1,⟨d,f,h1,c,e⟩,k=>⟨d,f,h1,c,Fit.app e k⟩
theorem Fit.same {s:aZ}: ∀ {a:Γa},(∀x∈a,∃d,idx q x=some d/\fF ab s d=some (s,true))->Fit q s a s
 |[],_=>rfl
 |x::a,h=>by
  obtain⟨d,h1,b⟩:=h x (by simp);exact⟨d,s,h1,b,Fit.same λy c=>h y (ξ6 _ c)⟩
def Ak (q:List ae) (x y:Int):Prop:=x≠y/\ ∀d e,idx q x=some d->idx q y=some e->hv e d=false
theorem aaR {p:List Bool} {i k:Nat} (hi:i<p.length):cn (p.set i true) k=if i=k then true else cn p k:=by
 unfold cn;rw[ξ1]
 by_cases h:i=k
 ·rw[if_pos h,if_pos h,if_pos (h▸hi)];rfl
 ·rw[if_neg h,if_neg h]
theorem Qh (z: ∀d∈q,jU d=true) (t: ∀(k:Nat) e,q[k]? =some e->e.bj≠0->(k:Int)∈o) (u:dz q o) (w:o.Pairwise (Ak q)) (F:q.length<=64):
  ∀(r a:Γa) (p:List Bool) (s m:aZ),o=a++r->p.length=64->(∀k:Nat,k<64->(cn p k=true↔(k:Int)∈a))->Fit q s r m->Walk q p s r
 |[],a,p,s,m,e,hp,hm,_=>λk d c l=>by
  rw[ξs] at e;subst e;exact(hm k (by have:=(γ.1 c).1;omega)).2 (t k d c l)
 |x::r,a,p,s,m,e,hp,hm,⟨d,s1,c,h1,A⟩=>by
  have H:=u x (by rw[e];simp);obtain⟨i,rfl⟩: ∃i:Nat,x=i:=⟨x.toNat,by omega⟩;have hi:i<q.length:=by omega
  have g:q[i]? =some q[i]:=ε hi;have C:d=q[i]:=by rw[cW g] at c;cases c;rfl
  rw[<-C] at g;have y:=w;rw[e] at y;obtain⟨_,E,B⟩:=ξ7.1 y;obtain⟨D,_⟩:=List.pairwise_cons.1 E;have n:cn p i=false:=by
   cases n:cn p i
   ·rfl
   ·exact absurd rfl (B _ ((hm i (by omega)).1 n) (i:Int) (by simp)).1
  refine⟨i,d,s1,rfl,g,n,λk f he hk=>?_,h1,Qh z t u w F r (a++[(i:Int)]) (p.set i true) s1 m (by rw[e];simp) (wD hp) (λk hk=>?_) A⟩
  ·have G:=(γ.1 he).1;cases j:hv f d
   ·rfl
   have l:f.bj≠0/\f.bj<d.bz:=by
    unfold hv at j;simpa using j
   have v:=t k f he l.1;rw[e] at v;rcases φ.1 v with b|b
   ·rw[(hm k (by omega)).2 b] at hk;cases hk
   rcases ξr.1 b with b|b
   ·have:k=i:=by omega
    subst this;rw[g] at he;cases he;have:=(wE (z d (ζ g))).1 l.1;omega
   ·rw[(D _ b).2 d f c (cW he)] at j;cases j
  ·rw[aaR (by omega)]
   by_cases b:i=k
   ·subst b;simp
   ·rw[if_neg b,hm k hk];constructor
    ·intro h;exact κ _ h
    ·intro h;rcases φ.1 h with h|h
     ·exact h
     ·exact absurd (ψ.1 h) (by omega)
end
section
variable {q:List ae} {l:Γa} {ss:List aZ}
def El (q:List ae) (l:Γa) (ss:List aZ) (x:Int) (m:Nat):Prop:=x∈da q (cw q l ss) m q.length\/l[m]? =some x
abbrev aT (q:List ae) (x:Int):Int:=dk ae.aL q x
theorem l8 (h:gx q l ss) {m:Nat} {x:Int} (c:x∈da q (cw q l ss) m q.length): ∃(i:Nat) (d:ae),x=i/\q[i]? =some d/\d.aL=0/\d.bj≠0/\cw q l ss d=some m/\m<=l.length/\k' q l ss d m:=by
 obtain⟨i,rfl,h1,a⟩:=Fx.1 c;have g:q[i]? =some q[i]:=ε h1;unfold hZ at a;rw[g] at a;simp only[Bool.and_eq_true,beq_iff_eq,bne_iff_ne,ne_eq] at a;have f:=h.ll;rcases ES (d:=q[i]) h.i (by omega) h.ls h.si (h.w _ (ζ g)) with⟨n,_,b,e⟩|⟨n,_,b⟩
 ·rw[b] at a;have:n=m:=by simpa using a.2.2
  subst this;exact⟨i,q[i],rfl,g,a.1,a.2.1,b,e⟩
 ·rw[b] at a;cases a.2.2
theorem BT (h:gx q l ss) {m:Nat} {x:Int} (b:l[m]? =some x): ∃(i:Nat) (d:ae),x=i/\q[i]? =some d/\d.aL≠0:=by
 obtain⟨l',e,hp,_⟩:=Gc h.c;rw[h.ki] at e;cases e;obtain⟨i,rfl,h1,a⟩:=pB.1 (hp.mem_iff.1 (ζ b));have g:q[i]? =some q[i]:=ε h1;unfold g_ at a;rw[g] at a;exact⟨i,q[i],rfl,g,by simpa using a⟩
theorem IN (h:gx q l ss) {m n:Nat} {x y:Int} (d:l[m]? =some x) (f:l[n]? =some y) (b:m<n):aT q x<aT q y:=by
 obtain⟨l',e,_,hp⟩:=Gc h.c;rw[h.ki] at e;cases e;obtain⟨h1,rfl⟩:=γ.1 d;obtain⟨a,rfl⟩:=γ.1 f;exact List.pairwise_iff_getElem.1 hp m n h1 a b
theorem s8 (h:gx q l ss) {m n:Nat} {x y:Int} (b:l[m]? =some x) (a:l[n]? =some y) (c:m<=n):aT q x<=aT q y:=by
 rcases ξh m n with h1|h1
 ·have:=IN h b a h1;omega
 ·have:m=n:=by omega
  subst this;rw[b] at a;cases a;exact Int.le_refl _
theorem Cc (h:gx q l ss) {m k:Nat} {x c:Int} {d:ae} (a:El q l ss x m) (b:idx q x=some d) (hk:m<=k) (e:l[k]? =some c):d.bz<=aT q c:=by
 rcases a with a|a
 ·obtain⟨i,n,rfl,g,_,_,_,_,_,j,_⟩:=l8 h a;rw[cW g] at b;cases b;have p:=(γ.1 e).1;have f:l[m]? =some l[m]:=ε (by omega);exact ξC (j _ f) (s8 h f e hk)
 ·obtain⟨i,n,rfl,g,h1⟩:=BT h a;rw[cW g] at b;cases b;have j:=((wE (h.c.2.1 d (ζ g))).2 h1).1;have o:=s8 h a e hk;rw[show aT q (i:Int)=d.aL from ve g] at o;omega
theorem adu (h:gx q l ss) {n k:Nat} {y c:Int} {e:ae} (d:y∈da q (cw q l ss) n q.length) (he:idx q y=some e) (hk:k<n) (b:l[k]? =some c):aT q c<=e.bj:=by
 obtain⟨i,f,rfl,g,_,_,_,hn,h1,_⟩:=l8 h d;rw[cW g] at he;cases he;have a:l[n-1]? =some l[n-1]:=ε (by omega);exact ξC (s8 h b a (by omega)) (h1 _ (by omega) a)
theorem I4 (h:gx q l ss) {n k:Nat} {y c:Int} {e:ae} (a:l[n]? =some y) (he:idx q y=some e) (f:e.bj≠0) (hk:k<=n) (d:l[k]? =some c):aT q c<=e.bj:=by
 obtain⟨i,j,rfl,g,h1⟩:=BT h a;rw[cW g] at he;cases he;have m:=((wE (h.c.2.1 e (ζ g))).2 h1).2 f;have b:=s8 h d a hk;rw[show aT q (i:Int)=e.aL from ve g] at b;omega
theorem Ec {x y a:Int} (g:x≠y) (h: ∀d,idx q x=some d->d.bz<=a) (i: ∀e,idx q y=some e->e.bj≠0->a<=e.bj):Ak q x y:=⟨g,λd e f he=>by
 have h1:=h d f;have c:=i e he;unfold hv;rcases Decidable.em (e.bj=0) with b|b
 ·simp[b]
 ·have:=c b;rw[decide_eq_false (by omega),ξl]⟩
theorem Cd (h:gx q l ss) {m n:Nat} {x y:Int} (c:El q l ss x m) (e:El q l ss y n) (k:m<n\/(x∈da q (cw q l ss) m q.length/\l[n]? =some y)):x≠y:=by
 rintro rfl;have rc: ∀ {a b:Nat},x∈da q (cw q l ss) a q.length->l[b]? =some x->False:=λh1 j=>by
  obtain⟨i,d,rfl,g,u,_⟩:=l8 h h1;obtain⟨o,t,p,f,r⟩:=BT h j;have:i=o:=by omega
  subst this;rw[g] at f;cases f;exact r u
 rcases k with k|⟨h1,j⟩
 rotate_left
 ·exact rc h1 j
 rcases c with c|c<;>rcases e with e|e
 ·obtain⟨i,d,rfl,g,_,_,p,_⟩:=l8 h c;obtain⟨o,t,r,f,_,_,s,_⟩:=l8 h e;have:i=o:=by omega
  subst this;rw[g] at f;cases f;rw[p] at s;cases s;omega
 ·exact rc c e
 ·exact rc e c
 ·have:=IN h c e k;omega
theorem Na (h:gx q l ss): ∀n,n<=l.length+1->(fb q l (cw q l ss) n).Pairwise (Ak q)/\ ∀x∈fb q l (cw q l ss) n,∃m,m<n/\El q l ss x m
 |0,_=>⟨by simp[fb],λx b=>by simp[fb] at b⟩
 |n+1,hn=>by
  obtain⟨t,s⟩:=Na h n (by omega);have z:=h.c.1;obtain⟨_,sp,u⟩:=qN (q:=q) (pl:=cw q l ss) (by omega) n;have k: ∀ {y},y∈gr q (da q (cw q l ss) n q.length)->y∈da q (cw q l ss) n q.length:=λf=>sp.mem_iff.1 f;rw[nW];refine⟨ξ7.2 ⟨t,ξ7.2 ⟨u.imp_of_mem λ{x y} b f r=>?_,?_,λx b y f=>?_⟩,λx b y f=>?_⟩,λx b=>?_⟩
  ·refine⟨λe=>by subst e;exact et.irrefl r,λd e j he=>?_⟩;have h1:d.bz<=e.bz:=by
    have:dk ae.bz q x<=dk ae.bz q y:=by rcases r with h1|h1<;>omega
    rw[vf j,vf he] at this;exact this
   obtain⟨i,v,rfl,g,_,o,_⟩:=l8 h (k f);rw[cW g] at he;cases he;have w:=(wE (h.c.2.1 e (ζ g))).1 o;unfold hv;rw[decide_eq_false (by omega),ξl]
  ·cases l[n]? <;>simp
  ·have f:l[n]? =some y:=by simpa using f
   exact Ec (a:=aT q y) (Cd h (.inl (k b)) (.inr f) (.inr ⟨k b,f⟩)) (λd j=>Cc h (.inl (k b)) j (χ _) f) λe he o=>I4 h f he o (χ _) f
  ·obtain⟨m,hm,b⟩:=s x b;have p:l[m]? =some l[m]:=ε (by omega);rcases φ.1 f with f|f
   ·exact Ec (a:=aT q l[m]) (Cd h b (.inl (k f)) (.inl hm)) (λd j=>Cc h b j (χ _) p) λe he _=>adu h (k f) he hm p
   ·have f:l[n]? =some y:=by simpa using f
    exact Ec (a:=aT q l[m]) (Cd h b (.inr f) (.inl hm)) (λd j=>Cc h b j (χ _) p) λe he o=>I4 h f he o (by omega) p
  ·rcases φ.1 b with b|b
   ·obtain⟨m,hm,b⟩:=s x b;exact⟨m,by omega,b⟩
   rcases φ.1 b with b|b
   ·exact⟨n,by omega,.inl (k b)⟩
   ·exact⟨n,by omega,.inr (by simpa using b)⟩
theorem M_ (h:gx q l ss) (e:k2 q l ss l.length): ∀n,n<=l.length-> ∃s,ss[n]? =some s/\Fit q dJ (fb q l (cw q l ss) n) s/\Fit q s (gr q (da q (cw q l ss) n q.length)) s
 |n,hn=>by
  have t:=h.c.1;have row: ∀ {s},ss[n]? =some s->Fit q s (gr q (da q (cw q l ss) n q.length)) s:=λ{s} p=>Fit.same λx r=>by
   obtain⟨_,sp,_⟩:=qN (q:=q) (pl:=cw q l ss) (by omega) n;obtain⟨i,d,rfl,g,_,_,_,_,_,_,s2,a,b⟩:=l8 h (sp.mem_iff.1 r);rw[p] at a;cases a;exact⟨d,cW g,b⟩
  cases n with
  |zero=>exact⟨dJ,e.1,rfl,row e.1⟩
  |succ n=>
   obtain⟨s,h1,m,o⟩:=M_ h e n (by omega);have j:l[n]? =some l[n]:=ε (by omega);obtain⟨d,s0,s1,a,b,f,k⟩:=e.2 n _ (by omega) j;rw[h1] at b;cases b;refine⟨s1,f,?_,row f⟩;rw[nW,j];exact m.app (o.app ⟨d,s1,a,k,rfl⟩)
theorem aby (h:gx q l ss) {k:Nat} {e:ae} (he:q[k]? =some e) (j:e.bj≠0):(k:Int)∈fb q l (cw q l ss) (l.length+1):=by
 have g:=(γ.1 he).1;have o:=h.c.1;unfold fb;rw[ξg]
 by_cases a:e.aL=0
 ·have h1:=h.ok e (ζ he);have m:=h.ll;rcases ES (d:=e) h.i (by omega) h.ls h.si (h.w _ (ζ he)) with⟨n,_,b,p,_⟩|⟨n,_,b⟩
  ·refine⟨n,ξ2.2 (by omega),κ _ ?_⟩;obtain⟨_,sp,_⟩:=qN (q:=q) (pl:=cw q l ss) (by omega) n;refine sp.mem_iff.2 (Fx.2 ⟨k,rfl,g,?_⟩);unfold hZ;rw[he];simp[a,j,b]
  ·unfold lT at h1;rw[b] at h1;simp[a,j] at h1
 ·obtain⟨l',f,hp,_⟩:=Gc h.c;rw[h.ki] at f;cases f;have hm:(k:Int)∈l:=hp.mem_iff.2 (pB.2 ⟨k,rfl,g,by unfold g_;rw[he];simpa using a⟩);obtain⟨n,hn⟩:=List.mem_iff_getElem?.1 hm;have:=(γ.1 hn).1;exact⟨n,ξ2.2 (by omega),ξ _ (by rw[hn];simp)⟩
theorem abz (h:gx q l ss):Walk q (ι 64 false) dJ (fb q l (cw q l ss) (l.length+1)):=by
 have r:=h.ll;obtain⟨t,b,jq,j⟩:=Qd h.w h.i (by omega);rw[h.jq] at jq;cases jq;obtain⟨_,_,n⟩:=j rfl;obtain⟨h1,d⟩:=Na h (l.length+1) (χ _);obtain⟨s,_,f,g⟩:=M_ h n l.length (χ _);have o:Fit q dJ (fb q l (cw q l ss) (l.length+1)) s:=by
  rw[nW,ξj (χ _)];exact f.app (by simpa using g)
 refine Qh h.c.2.1 (λk e he p=>aby h he p) (λx a=>?_) h1 h.c.1 _ [] _ dJ s rfl (by simp) (λk hk=>?_) o
 ·obtain⟨m,_,a|a⟩:=d x a
  ·exact Ol _ _ x a
  ·exact h.i x (ζ a)
 ·unfold cn;rw[ξe];simp[hk]
end
theorem w16 {q:List ae} {o:Γa} {e:Int} (h:na ab ⟨q⟩=some (o,e)) (he:(e !=0)=true): ∃s,Cs ab ⟨q⟩=some (s,e):=by
 show ∃s,(sT ab ⟨q⟩).val=some (s,e);unfold sT;simp only[T.aS,T.aI,T.aH,h,δ,he,cond_true];exact⟨_,rfl⟩
theorem w5 {x:cK} (hw: ∀d∈x.cC,hr d.bU):CE ab x=some true:=by
 show(sX ab x).val=_;obtain⟨q,g⟩: ∃q,q=x.cC.take 66:=⟨_,rfl⟩;have hl:q.length<=66:=by rw[g,List.length_take];omega
 have o:ka q:=λd f=>hw d (by rw[g] at f;exact List.mem_of_mem_take f);have j:ep x.cC none (some (if 66<(x.cC.length:Int) then 66 else(x.cC.length:Int))) none=some q:=by
  rw[VO x.cC 66 66 rfl,g]
 have i:app 88 ([]:List ae) q=some q:=lq (n:=100) (by simp;omega) (by decide);unfold sX;rcases ae9 hl o with⟨l,ss,a⟩|⟨e,b,he⟩
 rotate_left
 ·have h:(e !=0)=true:=by simpa using he
  obtain⟨s,m⟩:=w16 b h;have k:(((([]:Γa).length:Nat):Int)==0)=true:=rfl;simp only[T.aS,T.aI,T.aH,ξ9,j,i,δ,b,h,cond_true,m,k,beq_self_eq_true]
 have b:=ae_ a;have hk:=abz a;simp only[T.aS,T.aI,T.aH,ξ9,j,i,δ,b,bne_self_eq_false,cond_false,w9 a.w a.c ⟨_,hk⟩,w17 a.c hk,cond_true];cases f:decide ((q.length:Int)>7)
 ·rfl
 ·rfl
end Go.Proofs.YtoggponeookhbaaGreatDoor
end
section
namespace Go.Dc
open Go.RowKit
structure ez {α:Type} (P:Program) (t:TypeId) (T:Ty α) (D: {H:Type}->DataW H->α->Prop):Prop where
 cells:P.cellsOf t=T.n
 shape: ∀ {w:World} {b:Nat} {v:Value},ξ4 P w .any b t v->v=T.mk' v.cells.toList
 a1: ∀ {H:Type} {enc:TypeId×Value->H} {w:World} {held:Bool} {fuel:Nat} {cs:Γb} {d:DataW H} {p:List MemPlace},ξw enc P w 0 (λ_=>true) held fuel t cs=some (d,p)->w.noneFrozen p-> ∃x,T.rep [] w cs x/\D d x
section
variable {P:Program} {t:TypeId}
def cr (k:IntKind) {H:Type} (d:DataW H) (x:Int):Prop:=d= .lit (.int k x)/\(Lit.int k x).wf=true
def oA {H:Type} (d:DataW H) (x:Bool):Prop:=d= .lit (.bool x)
theorem EF {k:IntKind} (hu:P.underlying t=some (.int k)) (a:P.cellsOf t=1):ez P t (Ty.int k) (cr k) where
 cells:=a
 shape {w b v} h:=by
  simp only[ξ4,hu,ξE] at h;unfold Cell.ok at h;rw[hu] at h;cases v<;>simp_all [Ty.mk',Ty.int,ξo]
 a1 {H enc w held fuel cs d p} h _:=by
  obtain⟨n,rfl,c,hw⟩:=DataW.trod_int hu h;cases c;exact⟨n,rfl,rfl,hw⟩
theorem abp (hu:P.underlying t=some .bool) (a:P.cellsOf t=1):ez P t Ty.bool oA where
 cells:=a
 shape {w b v} h:=by
  simp only[ξ4,hu,ξE] at h;unfold Cell.ok at h;rw[hu] at h;cases v<;>simp_all [Ty.mk',Ty.bool,ξo]
 a1 {H enc w held fuel cs d p} h _:=by
  obtain⟨b,rfl,c⟩:=DataW.trod_bool hu h;cases c;exact⟨b,rfl,rfl⟩
def hT {α:Type} (D: {H:Type}->DataW H->α->Prop) {H:Type}:List (DataW H)->List α->Prop
 |[],xs=>xs=[]
 |d::ds,xs=> ∃y ys,xs=y::ys/\D d y/\hT D ds ys
def k4 {α:Type} (D: {H:Type}->DataW H->α->Prop) {H:Type} (d:DataW H) (xs:List α):Prop:=
 match d with
 | .nil=>xs=[]
 | .slice es _=>hT D es xs
 |_=>False
theorem hT.len {α:Type} {D: {H:Type}->DataW H->α->Prop} {H:Type}: ∀ {ds:List (DataW H)} {xs:List α},hT D ds xs->ds.length=xs.length
 |[],_,h=>by rw[show _=[] from h];rfl
 |_::_,_,⟨y,ys,h,_,a⟩=>by subst h;simp[hT.len a]
theorem hT.mem {α:Type} {D: {H:Type}->DataW H->α->Prop} {H:Type}: ∀ {ds:List (DataW H)} {xs:List α},hT D ds xs-> ∀x∈xs,∃d∈ds,D d x
 |[],_,h,x,a=>by rw[show _=[] from h] at a;cases a
 |d::_,_,⟨y,ys,h,h1,b⟩,x,a=>by
  subst h;rcases ξr.1 a with rfl|a
  ·exact⟨d,ξc,h1⟩
  ·obtain⟨e,he,h⟩:=hT.mem b x a;exact⟨e,ξ6 _ he,h⟩
theorem k4.mem {α:Type} {D: {H:Type}->DataW H->α->Prop} {H:Type} {d:DataW H} {xs:List α} (h:k4 D d xs): ∀x∈xs,∃e:DataW H,D e x:=by
 intro x a;unfold k4 at h;split at h
 ·subst h;cases a
 ·obtain⟨e,_,he⟩:=hT.mem h x a;exact⟨e,he⟩
 ·exact h.elim
theorem B9 {α:Type} {D: {H:Type}->DataW H->α->Prop} {H:Type} {R:Nat->α->Prop}: ∀(ds:List (DataW H)) (o:Nat),(∀k d,ds[k]? =some d-> ∃x,R (o+k) x/\D d x)-> ∃xs,hT D ds xs/\ ∀(k:Nat) x,xs[k]? =some x->R (o+k) x
 |[],_,_=>⟨[],rfl,λk x h=>by simp at h⟩
 |d::ds,o,h=>by
  obtain⟨x,f,c⟩:=h 0 d rfl;obtain⟨xs,h1,b⟩:=B9 (R:=R) ds (o+1) (λk e he=>by
   have:=h (k+1) e (by simpa using he)
   rwa [show o+(k+1)=o+1+k by omega] at this)
  refine⟨x::xs,⟨x,xs,rfl,c,h1⟩,λk y a=>?_⟩;cases k with
  |zero=>simp at a;subst a;simpa using f
  |succ k=>
   have:=b k y (by simpa using a)
   rwa [show o+(k+1)=o+1+k by omega]
theorem IT {w:World} {a:Addr} {u:Value} (h:w.cell? a=some u):a.block<w.heap.size:=by
 unfold World.cell? at h;split at h
 ·rename_i b;exact(Array.getElem?_eq_some_iff.1 b).1
 ·cases h
theorem US (a:Addr) (n:Nat):(a.add n).off=a.off+n:=by unfold Addr.add;split<;>simp_all
theorem abr {α:Type} {e:TypeId} {T:Ty α} {D: {H:Type}->DataW H->α->Prop} (hu:P.underlying t=some (.slice e)) (s:P.cellsOf t=1) (he:ez P e T D) (hn:0<T.n):ez P t T.slice (k4 D) where
 cells:=s
 shape {w b v} h:=by
  obtain⟨a,len,cap,rfl⟩:=WideShapes.okWide_slice hu h;rfl
 a1 {H enc w held fuel cs d p} h o:=by
  rcases DataW.trod_slice hu h with⟨rfl,c⟩|⟨a,len,cap,elems,rest,n,rfl,rfl,c,_,O,A,hlen,C,_,_⟩
  ·cases c;exact⟨[],⟨none,0,rfl,⟨χ _,by unfold maxLen;omega⟩,λk x h=>by simp at h⟩,rfl⟩
  ·cases c;have key: ∀(k:Nat) (x:DataW H),(elems.map (·.1))[k]? =some x-> ∃y,(a.block<w.heap.size/\ ∃es,T.rep [] w es y/\k0 w (a.add ((0+k)*T.n)) es)/\D x y:=by
    intro k x hk;have F:k<len:=by
     have:=(γ.1 hk).1;simpa[hlen] using this
    have m:elems[k]? =some elems[k]:=ε (by omega);have f:=C k F;rw[m] at f;simp only[Option.bind_eq_some_iff] at f;obtain⟨cs,B,K⟩:=f;have c:x=elems[k].1:=by
     rw[τ,m] at hk;simpa using hk.symm
    obtain⟨y,M,N⟩:=he.a1 (d:=elems[k].1) (p:=elems[k].2) K (λb off hm=>o b off (ξ _ (ξg.2 ⟨elems[k],κ _ (ν _),hm⟩)));obtain⟨_,hl,g⟩:=World.cells?_some B;rw[he.cells] at hl g;have I:0<cs.length:=by omega
    refine⟨y,⟨?_,cs,M,λj u i=>?_,λj i=>?_⟩,by rw[c];exact N⟩
    ·have l:=g 0 (by omega);rw[ε I] at l;have:=IT l;simpa[ht] using this
    ·have E:j<T.n:=by have:=(γ.1 i).1;omega
     rw[ξk,g j E];exact i
    ·have G:(0+k)*T.n+j<(elems.length+rest.length)*P.cellsOf e:=by
      rw[he.cells,ξk];have:(k+1)*T.n<=(elems.length+rest.length)*T.n:=Nat.mul_le_mul_right _ (by omega);rw[Nat.succ_mul] at this;omega
     have:=o a.block (a.off+((0+k)*T.n+j)) (κ _ (MemPlace.mem_row.2 ⟨_,G,rfl⟩));rw[add_add];simp only[ξy,ht,US] at this ⊢;exact this
   obtain⟨xs,h1,q⟩:=B9 (R:=λk y=>a.block<w.heap.size/\ ∃es,T.rep [] w es y/\k0 w (a.add (k*T.n)) es) (elems.map (·.1)) 0 (λk x hk=>key k x hk);have L:xs.length=len:=by rw[<-h1.len];simpa using hlen
   refine⟨xs,⟨some a,cap,by rw[L],⟨by omega,A⟩,λk x hk=>?_⟩,h1⟩;obtain⟨r,es,J,z⟩:=q k x hk;exact⟨a,es,rfl,r,by simp,J,by simpa using z⟩
structure mB {α:Type} (P:Program) (o:Nat) (fs:List Field) (T:Ty α) (D: {H:Type}->List (DataW H)->α->Prop):Prop where
 a1: ∀ {H:Type} {enc:TypeId×Value->H} {w:World} {held:Bool} {fuel:Nat} {cs:Γb} {xs:List (DataW H×List MemPlace)},xs.length=fs.length->
  (∀(i:Nat) (f:Field),fs[i]? =some f->ξw enc P w 0 (λ_=>true) held fuel f.type ((cs.drop f.offset).take (P.cellsOf f.type))=xs[i]?)->w.noneFrozen (xs.flatMap (·.2))->
  ∃x,T.rep [] w ((cs.drop o).take T.n) x/\D (xs.map (·.1)) x
def eV {α:Type} (D: {H:Type}->DataW H->α->Prop) {H:Type} (ds:List (DataW H)) (x:α):Prop:= ∃d,ds=[d]/\D d x
def cP {α β:Type} (D: {H:Type}->DataW H->α->Prop) (E: {H:Type}->List (DataW H)->β->Prop) {H:Type} (ds:List (DataW H)) (x:α×β):Prop:= ∃d r,ds=d::r/\D d x.1/\E r x.2
theorem qt {α:Type} {o:Nat} {f:Field} {T:Ty α} {D: {H:Type}->DataW H->α->Prop} (e:f.offset=o) (h:ez P f.type T D):mB P o [f] T (eV D) where
 a1 {H enc w held fuel cs xs} hl hm c:=by
  obtain⟨y,rfl⟩: ∃y,xs=[y]:=List.length_eq_one_iff.1 hl;have g:=hm 0 f rfl;obtain⟨x,h1,a⟩:=h.a1 (d:=y.1) (p:=y.2) g (λb off hm=>c b off (by simpa using hm));rw[e,h.cells] at h1;exact⟨x,h1,y.1,rfl,a⟩
theorem iQ {α β:Type} {o o':Nat} {f:Field} {fs:List Field} {T:Ty α} {S:Ty β} {D: {H:Type}->DataW H->α->Prop} {E: {H:Type}->List (DataW H)->β->Prop} (l:f.offset=o) (h:ez P f.type T D) (m:o'=o+T.n) (q:mB P o' fs S E):
  mB P o (f::fs) (Ty.pair T S) (cP D E) where
 a1 {H enc w held fuel cs xs} hl hm a:=by
  cases xs with
  |nil=>simp at hl
  |cons y r=>
   have s:=hm 0 f rfl;obtain⟨x,h1,c⟩:=h.a1 (d:=y.1) (p:=y.2) s (λb off hm=>a b off (by simp[hm]));obtain⟨z,e,j⟩:=q.a1 (xs:=r) (by simpa using hl) (λi g k=>by simpa using hm (i+1) g (by simpa using k)) (λb off hm=>a b off (by rw[List.flatMap_cons];exact ξ _ hm));rw[l,h.cells] at h1;refine⟨(x,z),⟨_,_,?_,h1,e⟩,y.1,r.map (·.1),rfl,c,j⟩;show(cs.drop o).take (T.n+S.n)=_;rw[List.take_add,List.drop_drop,m]
theorem abn {α:Type} {o:Nat} {fs:List Field} {T:Ty α} {D: {H:Type}->List (DataW H)->α->Prop} (h:mB P o fs T D):mB P o fs (Ty.single T) D where
 a1 hl hm a:=h.a1 hl hm a
def eW {α β:Type} (E: {H:Type}->List (DataW H)->α->Prop) (f:β->α) {H:Type} (d:DataW H) (x:β):Prop:= ∃ds,d= .agg ds/\E ds (f x)
theorem qu {α β:Type} {fs:Array Field} {T:Ty α} {E: {H:Type}->List (DataW H)->α->Prop} (f:β->α) (g:α->β) (a: ∀x,f (g x)=x) (hu:P.underlying t=some (.struct fs)) (j:P.cellsOf t=T.n) (e:T.agg=true) (h:mB P 0 fs.toList T E):ez P t (T.fm f) (eW E f) where
 cells:=j
 shape {w b v} h:=by
  simp only[ξ4,hu] at h;obtain⟨cs,rfl,_⟩:=h;simp[Ty.mk',Ty.fm,e,ξo]
 a1 {H enc w held fuel cs d p} k l:=by
  obtain⟨xs,n,rfl,o,hl,q,hi⟩:=DataW.trod_struct hu k;cases o;obtain⟨x,h1,c⟩:=h.a1 (xs:=xs) (cs:=cs) (by simpa using q) (λi g m=>hi i g (by simpa using m)) l;rw[List.drop_zero,List.take_of_length_le (by omega)] at h1;exact⟨g x,by show T.rep [] w cs (f (g x));rw[a];exact h1,_,rfl,by rw[a];exact c⟩
theorem ez.arg {α:Type} {T:Ty α} {D: {H:Type}->DataW H->α->Prop} (h:ez P t T D) {H:Type} {enc:TypeId×Value->H} {w:World} {held:Bool} {v:Value} {d:DataW H} {p:List MemPlace} {b:Nat} (g:ξ4 P w .any b t v)
  (c:DataW.Trod enc P w 0 (λ_=>true) held t v d p) (f:w.noneFrozen p): ∃x,T.is [] w v x/\D d x:=by
 obtain⟨fuel,e⟩:=c;obtain⟨x,h1,a⟩:=h.a1 e f;exact⟨x,⟨_,h1,h.shape g⟩,a⟩
end
theorem IG {H:Type} {enc:TypeId×Value->H} {P:Program} {W d:World} (hl:laidOutB P=true): ∀ {c:List TypeId} {vs:Γb} {ds:List (DataW H)} {ps:List MemPlace},(∀t∈c,P.readableRec t=true/\t<P.types.size)->ξz enc P W 0 (λ_=>true) true c vs ds ps->Below W.heap.size W d->(∀x∈ps,x.block<W.heap.size)->
  ∀sp:Nat->Bool,(∀p∈ps,sp p.block=true)->ξz enc P d 0 sp true c vs ds ps
 |[],[],[],_,_,h,_,_,_,_=>h
 |_::_,_::_,_::_,_,b,⟨p,q,h1,j,e⟩,f,g,sp,i=>by
  subst e;refine⟨p,q,?_,IG hl (λt h=>b t (ξ6 _ h)) j f (λx a=>g x (ξ _ a)) sp (λx a=>i x (ξ _ a)),rfl⟩;exact WideElems.Trod_stays hl (b _ ξc).1 (b _ ξc).2 h1 (λx a=>f.same (g x (κ _ a))) (λx a=>i x (κ _ a))
end Go.Dc
end
section
namespace Go.Vx
open Go.RowKit Go.Dc
variable {P:Program} {t:TypeId}
def j1 (k:IntKind) (n:Nat) {H:Type} (d:DataW H) (x:Γa):Prop:= ∃ds,d= .agg ds/\hT (cr k) ds x/\x.length=n
theorem abo {k:IntKind} {n:Nat} {e:TypeId} (hu:P.underlying t=some (.array n e)) (o:P.cellsOf t=n) (he:ez P e (Ty.int k) (cr k)):ez P t (jh k n) (j1 k n) where
 cells:=o
 shape {w b v} s:=by
  simp only[ξ4,hu] at s;obtain⟨cs,rfl,_⟩:=s;simp[Ty.mk',jh,ξo]
 a1 {H enc w held fuel cs d p} f B:=by
  obtain⟨xs,m,rfl,g,hl,D,hi⟩:=DataW.trod_array hu f;cases g;have h1:P.cellsOf e=1:=he.cells;have key: ∀(j:Nat) (x:DataW H),(xs.map (·.1))[j]? =some x-> ∃y,(cs[0+j]? =some (.int k y))/\cr k x y:=by
   intro j x a;have C:j<xs.length:=by
    have:=(γ.1 a).1;simpa using this
   have l:xs[j]? =some xs[j]:=ε C;have g:x=xs[j].1:=by
    rw[τ,l] at a;simpa using a.symm
   have q:=hi j (by omega);rw[l] at q;obtain⟨y,c,E⟩:=he.a1 (d:=xs[j].1) (p:=xs[j].2) q (λb off hm=>B b off (ξg.2 ⟨xs[j],ν _,hm⟩));refine⟨y,?_,by rw[g];exact E⟩;rw[h1,Nat.mul_one] at c;have c:(cs.drop j).take 1=[.int k y]:=c;rw[ξk];cases f:cs.drop j with
   |nil=>rw[f] at c;simp at c
   |cons u r=>
    rw[f] at c;have:u= .int k y:=by simpa using c
    subst this;have:=List.getElem?_drop (xs:=cs) (i:=j) (j:=0);rw[f] at this;simpa using this.symm
  obtain⟨ys,h,A⟩:=B9 (R:=λj y=>cs[j]? =some (.int k y)) (xs.map (·.1)) 0 (λj x a=>key j x a);have z:ys.length=n:=by rw[<-h.len];simpa using D
  refine⟨ys,⟨z,?_⟩,_,rfl,h,z⟩;refine ξd λj=>?_;rw[τ];cases a:ys[j]? with
  |none=>
   rw[θ] at a;rw[ξj (by rw[hl,o];omega)];rfl
  |some y=>
   have:=A j y a;rw[ξk] at this;exact this
end Go.Vx
end
section
namespace Go.Proofs.YtoggponeookhbaaGreatDoor
open Go.RowKit Go.Dc Go.Vx
theorem nV:ez η 35 (Ty.int .u64) (cr .u64):=EF Tryz.underlying35 (by kernel_rfl)
theorem abi:ez η 36 (jh .u64 4) (j1 .u64 4):=abo Tryz.underlying36 (by kernel_rfl) nV
theorem abj:ez η 38 iX (eW (cP (cr .u64) (eV (j1 .u64 4))) (λd:cJ=>(d.bq,d.fArgs))):=qu (λd:cJ=>(d.bq,d.fArgs)) (λp=>⟨p.1,p.2⟩) (λ_=>rfl) Tryz.underlying38 (by kernel_rfl) rfl (iQ rfl nV rfl (qt rfl abi))
theorem vK:ez η 3 (Ty.int .i64) (cr .i64):=EF Tryz.underlying3 (by kernel_rfl)
theorem abh:ez η 27 (Ty.int .i64) (cr .i64):=EF Tryz.underlying27 (by kernel_rfl)
theorem abl:ez η 40 jV (eW (cP (cr .i64) (eV (cr .u64))) (λd:cV=>(d.cb,d.cv))):=qu (λd:cV=>(d.cb,d.cv)) (λp=>⟨p.1,p.2⟩) (λ_=>rfl) Tryz.underlying40 (by kernel_rfl) rfl (iQ rfl abh rfl (qt rfl nV))
theorem abm:ez η 42 e7 (eW (cP (cr .i64) (cP (eW (cP (cr .u64) (eV (j1 .u64 4))) (λd:cJ=>(d.bq,d.fArgs))) (cP (eW (cP (cr .i64) (eV (cr .u64))) (λd:cV=>(d.cb,d.cv))) (cP (cr .i64) (cP (cr .i64) (eV (cr .i64))))))) (λd:ae=>(d.cx,d.bU,d.bZ,d.bz,d.aL,d.bj))):=qu (λd:ae=>(d.cx,d.bU,d.bZ,d.bz,d.aL,d.bj)) (λp=>⟨p.1,p.2.1,p.2.2.1,p.2.2.2.1,p.2.2.2.2.1,p.2.2.2.2.2⟩) (λ_=>rfl) Tryz.underlying42 (by kernel_rfl) rfl (iQ rfl vK rfl (iQ rfl abj rfl (iQ rfl abl rfl (iQ rfl vK rfl (iQ rfl vK rfl (qt rfl vK))))))
theorem abf:ez η 22 (Ty.slice e7) (k4 (eW (cP (cr .i64) (cP (eW (cP (cr .u64) (eV (j1 .u64 4))) (λd:cJ=>(d.bq,d.fArgs))) (cP (eW (cP (cr .i64) (eV (cr .u64))) (λd:cV=>(d.cb,d.cv))) (cP (cr .i64) (cP (cr .i64) (eV (cr .i64))))))) (λd:ae=>(d.cx,d.bU,d.bZ,d.bz,d.aL,d.bj)))):=abr Tryz.underlying22 (by kernel_rfl) abm (by decide)
theorem abg:ez η 24 qT (eW (eV (k4 (eW (cP (cr .i64) (cP (eW (cP (cr .u64) (eV (j1 .u64 4))) (λd:cJ=>(d.bq,d.fArgs))) (cP (eW (cP (cr .i64) (eV (cr .u64))) (λd:cV=>(d.cb,d.cv))) (cP (cr .i64) (cP (cr .i64) (eV (cr .i64))))))) (λd:ae=>(d.cx,d.bU,d.bZ,d.bz,d.aL,d.bj))))) (λd:cK=>d.cC)):=qu (λd:cK=>d.cC) (λp=>⟨p⟩) (λ_=>rfl) Tryz.underlying24 (by kernel_rfl) rfl (abn (qt rfl abf))
theorem abk:ez η 4 Ty.bool oA:=abp Tryz.underlying4 (by kernel_rfl)
theorem abe:ez η 115 gO (eW (cP (cr .u64) (cP (cr .u64) (cP oA (eV (cr .u64))))) (λd:ah=>(d.aa,d.aW,d.bp,d.cg))):=qu (λd:ah=>(d.aa,d.aW,d.bp,d.cg)) (λp=>⟨p.1,p.2.1,p.2.2.1,p.2.2.2⟩) (λ_=>rfl) Tryz.underlying115 (by kernel_rfl) rfl (iQ rfl nV rfl (iQ rfl nV rfl (iQ rfl abk rfl (qt rfl nV))))
def Aj (P:Program) (w:World) (n:String) (d:DataW Unit):Prop:= ∃g t cs fuel p,P.globalNamed n=some g/\(P.globals[g]?).map (·.type)=some t/\w.var? P n=some cs/\ξw (λ_=>()) P w 0 (λ_=>true) false fuel t cs.toList=some (d,p)/\w.noneFrozen p/\w.noneFrozen (ξD ⟨g,0,none⟩ cs.size)
theorem K1 {P:Program} {w:World}: ∀ {l:List (String×DataW Unit)} {ps:List MemPlace},DataW.LaidVars P w l ps->w.noneFrozen ps-> ∀n d,(n,d)∈l->Aj P w n d
 |[],_,_,_,_,_,hm=>by cases hm
 |(o,m)::r,ps,h,c,n,d,hm=>by
  obtain⟨g,t,cs,fuel,p,q,h1,f,i,j,k,rfl⟩:=h;rcases ξr.1 hm with e|e
  ·cases e;exact⟨g,t,cs,fuel,p,h1,f,i,j,λb off a=>c b off (by simp[a]),λb off a=>c b off (by simp[a])⟩
  ·exact K1 k (λb off a=>c b off (by simp[a])) n d e
theorem aai {P:Program} {w:World} {l:List (String×DataW Unit)} (h:laidMet P l w) {n:String} {d:DataW Unit} (hm:(n,d)∈l):Aj P w n d:=by
 obtain⟨ps,g,_,f⟩:=h;refine K1 g (λb off a=>?_) n d hm;obtain⟨⟨c,t,e⟩,_⟩:=f b off a;unfold ξy;simp[e]
theorem aaj {α:Type} {P:Program} {w:World} {n:String} {d:DataW Unit} {g t:Nat} {T:Ty α} {D: {H:Type}->DataW H->α->Prop} (c:P.globalNamed n=some g) (o:(P.globals[g]?).map (·.type)=some t) (h:ez P t T D) (s:0<T.n) (hl:Aj P w n d):
  ∃x,T.ptr.is [] w (.pointer (some ⟨g,0,none⟩)) x/\D d x:=by
 obtain⟨q,t',cs,fuel,p,h1,f,i,k,hp,m⟩:=hl;cases c.symm.trans h1;cases o.symm.trans f;obtain⟨x,a,l⟩:=h.a1 k hp;have b: ∀j,w.cell? ⟨g,j,none⟩=cs.toList[j]? :=λj=>by
  have:=World.var?_cell c i j;simpa using this
 have hl:=T.len a;have e: ∀j,(⟨g,0,none⟩:Addr).add j=⟨g,j,none⟩:=λj=>by unfold Addr.add;split<;>simp_all
 refine⟨x,⟨_,⟨⟨g,0,none⟩,_,rfl,?_,by simp,a,λj u hu=>?_,λj r=>?_⟩,rfl⟩,l⟩
 ·obtain⟨u,hu⟩: ∃u,cs.toList[0]? =some u:=⟨_,ε (by omega)⟩;rw[<-b] at hu;exact IT hu
 ·rw[e,b];exact hu
 ·rw[e];refine m g j ?_;unfold ξD
  simp_all
theorem ZB {H:Type} {d:DataW H} {x:Int} (h:cr .u64 d x):0<=x/\x<18446744073709551616:=by
 have:=h.2;simp[Lit.wf,IntKind.min,IntKind.max,IntKind.signed,IntKind.bits] at this;omega
theorem Y7 {x:ah} (h:eW (cP (cr .u64) (cP (cr .u64) (cP oA (eV (cr .u64))))) (λd:ah=>(d.aa,d.aW,d.bp,d.cg)) (ξ5 (H:=Unit)) x):x=tT:=by
 obtain⟨a,b,c,d⟩:=x;simp[ξ5,eW,cP,eV,cr,oA] at h;obtain⟨d1,l,⟨rfl,rfl⟩,⟨h1,_⟩,d2,m,e,⟨i,_⟩,d3,n,f,j,d4,g,k,_⟩:=h;simp at e;obtain⟨rfl,rfl⟩:=e;simp at f;obtain⟨rfl,rfl⟩:=f;simp at g;subst g;simp at h1 i j k;subst h1;subst i;subst j;subst k;rfl
theorem Y_ {O:Γ} {w:World} (h:gO.ptr.is O w (.pointer (some ⟨0,0,none⟩)) tT):cI KK O w:=by
 intro g t x a;show(SS.ty t).ptr.is O w (.pointer (some ⟨g,0,none⟩)) x;have a:CW g=some ⟨t,x⟩:=a;unfold CW at a;split at a
 ·cases a;exact h
 ·cases a
theorem U' {f:Nat} {args:List (ay SS)} {r:Bool} (c:eC KK η f args (.ret (.s (KK.a1 4 r)))) {A:Pl} {O:Γ} {w:World} {vs:Γb} (d:cF A O w args vs) (hO:OB O w) (b:cI KK O w):Calls η f vs.toArray w (gu (og Ty.bool) O w r):=by
 refine(c.2 A O w vs d hO b).mono ?_;rintro e w' ⟨⟨v,rfl,h1,_⟩,a⟩;cases h1;exact⟨_,rfl,ji.2 rfl,a⟩
theorem PW {l:Γa} (h: ∀x∈l,dd x) (i:Nat):dd (aE l i):=by
 unfold aE;cases e:l[i]? with
 |none=>exact⟨by simp,by simp⟩
 |some x=>exact h x (ζ e)
theorem afs {H:Type} {d:DataW H} {l:Γa} (h:j1 .u64 4 d l):(∀x∈l,dd x)/\l.length=4:=by
 obtain⟨ds,_,a,hl⟩:=h;refine⟨λx b=>?_,hl⟩;obtain⟨e,_,he⟩:=a.mem x b;exact ZB he
theorem aft {H:Type} {d:DataW H} {x:cK} (h:(eW (eV (k4 (eW (cP (cr .i64) (cP (eW (cP (cr .u64) (eV (j1 .u64 4))) (λd:cJ=>(d.bq,d.fArgs))) (cP (eW (cP (cr .i64) (eV (cr .u64))) (λd:cV=>(d.cb,d.cv))) (cP (cr .i64) (cP (cr .i64) (eV (cr .i64))))))) (λd:ae=>(d.cx,d.bU,d.bZ,d.bz,d.aL,d.bj))))) (λd:cK=>d.cC)) d x): ∀z∈x.cC,hr z.bU:=by
 obtain⟨ds,rfl,d1,rfl,c⟩:=h;intro z f;obtain⟨e,es,rfl,d2,i,rfl,_,d3,j,rfl,b,_⟩:=c.mem z f;obtain⟨g,rfl,d4,k,rfl,_,d5,rfl,a⟩:=b;have:=(afs a).1;exact⟨PW this 0,PW this 1⟩
theorem SL {x:cK} (h: ∀z∈x.cC,hr z.bU):CE ab x=some true:=w5 h
theorem aag {O:Γ} {w:World} (hO:OB O w) (c:gO.ptr.is O w (.pointer (some ⟨0,0,none⟩)) tT) {v0:Value} {x0:cK} (a:qT.is O w v0 x0) {r:Bool} (h:CE ab x0=some r):Calls η 5 #[v0] w (gu (og Ty.bool) O w r):=by
 rw[<-me] at h;have b:eC KK η 5 [KK.a1 24 x0] (.ret (.s (KK.a1 4 r))):=wq (G:=y5 shut) (ak.all SH rfl) (kf:=λ{R} (k:Rs SS->Option R)=>(λr=>k (.ret (.s (KK.a1 4 r))))) (λk=>t_5 x0 k) rfl (pX h) λk=>rfl;exact U' b (A:=vz) (vs:=[v0]) ⟨v0,_,rfl,hM du (t:=24) rfl rfl a,rfl⟩ hO (Y_ c)
end Go.Proofs.YtoggponeookhbaaGreatDoor
end
