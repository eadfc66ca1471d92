/- A part of the proof that OrderReads returns true for every input: the machine of values, its soundness, the program as plain functions, the law. Conditions: those of the given rows. -/
import Derived.Test.YtoggponeookhbaaGreatDoorR5
import Derived.ProofKit
import Derived.OpenShut
import Derived.Lib.LaidTab
import Derived.Test.YtoggponeookhbaaGreatDoorCards
import Derived.Test.YtoggponeookhbaaGreatDoorTie
set_option linter.unusedVariables false
set_option linter.unusedSimpArgs false
noncomputable section
set_option maxRecDepth 1000000
set_option maxHeartbeats 12000000
open Array renaming length_toList→υ
open Bool renaming false_or→ξx,not_true→ξy,not_false→ξJ,true_or→ξQ
open Go.Builtin renaming zeroCells→ξg
open Go.Cell renaming okWide→ξT
open Go.DataW renaming trod→ξM,TrodAll→ξO
open Go.IntKind renaming i64→ζ,u64→ξj
open Go.Lib renaming bitLen→ξL
open Go.MemPlace renaming row→ξR
open Go.Proofs.Tryz renaming prog→κ,func13→ξS
open Go.Proofs.YtoggponeookhbaaGreatDoor.Rows renaming laid_afterglow_proc_first→ξ5
open Go.Value renaming okWide→ξ4,cells→ξv,int→ξG
open Go.World renaming frozen?→ξN
open Int renaming toNat_natCast→η
open List renaming getElem?_eq_getElem→δ,getElem?_eq_some_iff→ε,getElem?_eq_none_iff→θ,mem_of_getElem?→ι,length_map→μ,length_append→ν,getElem?_map→ξ,getElem?_append_left→ο,pairwise_map→ρ,getElem_mem→φ,mem_cons_self→χ,mem_append_right→ψ,mem_append_left→ω,range→ξ0,length_filter_le→ξ1,eraseIdx_sublist→ξ2,mem_cons_of_mem→ξ6,mem_filter→ξ7,filter_sublist→ξ8,getElem?_range→ξ9,perm_ext_iff_of_nodup→ξa,filter_append→ξb,mem_map→ξc,mem_singleton→ξd,ext_getElem?→ξf,append_assoc→ξh,mem_cons→ξi,length_take→ξk,length_drop→ξl,take_of_length_le→ξm,pairwise_lt_range→ξn,getElem?_eraseIdx→ξo,range_succ→ξp,map_append→ξq,mem_append→ξr,take_append_drop→ξs,map_congr_left→ξt,toList_toArray→ξu,pairwise_cons→ξw,getElem?_drop→ξz,getElem?_set→ξA,mem_flatMap→ξC,append_nil→ξE,take_left'→ξF,drop_zero→ξH,mem_range→ξI,replicate→ξK
open List.Pairwise renaming nil→ξU,and→ξV
open Nat renaming zero_add→ξ3,eq_zero_or_pos→ξe,le_trans→ξB,le_refl→ξD,lt_or_ge→ξP
open Option renaming bind_some→γ,map_some→τ,map→ξW
section
namespace Go.Proofs.YtoggponeookhbaaGreatDoor
open Go.RowKit Go.Dc Go.Vx Go.Sort
theorem uniq {α:Type} {r:α->α->Prop} (g: ∀a b,r a b-> ¬r b a): ∀ {f c:List α},f.Perm c->f.Pairwise r->c.Pairwise r->f=c
 |[],c,h,_,_=>h.nil_eq
 |a::t,[],h,_,_=>absurd h.length_eq (by simp)
 |a::t,b::s,h,h1,i=>by
  obtain⟨k,p2⟩:=ξw.1 h1;obtain⟨m,n⟩:=ξw.1 i;have j:a=b:=by
   rcases ξi.1 (h.mem_iff.1 (χ (a:=a) (l:=t))) with e|e
   ·exact e
   ·rcases ξi.1 (h.mem_iff.2 (χ (a:=b) (l:=s))) with d|d
    ·exact d.symm
    ·exact absurd (m a e) (g _ _ (k b d))
  subst j;rw[uniq g ((List.perm_cons a).1 h) p2 n]
theorem ac7 {q:List ag} {xs:Γa} (a: ∀x∈xs,0<=x/\x<(q.length:Int)) (hl:xs.length<=1000): ∃ys,oc q xs=some ys/\ys.Perm xs/\ys.Pairwise λx y=> ¬c0 ag.aR q y<c0 ag.aR q x:=by
 unfold oc;rw[dif_pos ⟨a,by omega⟩];refine⟨_,rfl,?_⟩;have b:(xs.attachWith _ a).map (·.1)=xs:=by simp
 generalize xs.attachWith _ a=ps at b;rcases ps with _|⟨p,r⟩
 ·have:xs=[]:=by rw[<-b];rfl
  subst this;exact⟨List.Perm.refl _,ξU⟩
 letI:Inhabited (dD q):=⟨p⟩
 have e:=pdq_sorts (ltOf (fI ag.aR q)) (wo ag.aR q) (p::r).toArray 0 (r.length+1) (ξL (r.length+1)) true true (Nat.zero_le _) (by simp) (Or.inl rfl);have l:OE ag.aR q (p::r)=(pdq (ltOf (fI ag.aR q)) (p::r).toArray 0 (r.length+1) (ξL (r.length+1)) true true).toList:=rfl;rw[l];generalize pdq (ltOf (fI ag.aR q)) (p::r).toArray 0 (r.length+1) (ξL (r.length+1)) true true=D at e;obtain⟨h1,j⟩:=e;obtain⟨m,c⟩:=H2 (Nat.zero_le _) (by simp) h1;have d:D.size=r.length+1:=by rw[h1.1];simp
 have f:=H3 (by rw[d];exact ξD _) j;have g:(D.toList.drop 0).take (r.length+1-0)=D.toList:=by
  rw[ξH,ξm];rw[υ,d];exact ξD _
 rw[g] at c f;have i:(((p::r).toArray.toList.drop 0).take (r.length+1-0))=p::r:=by simp
 rw[i] at c;refine⟨?_,?_⟩
 ·rw[<-b];exact c.map _
 ·rw[ρ];refine f.imp λh k=>?_;rw[qb,uQ,uQ] at h;exact absurd k (of_decide_eq_false h)
section
variable {q:List ag}
def e1 (q:List ag) (i:Nat):Bool:=match q[i]? with|some d=>d.aR !=0|none=>false
def eL (q:List ag) (j:Nat):Γa:=((ξ0 j).filter (e1 q)).map λ(i:Nat)=>(i:Int)
theorem Ui (j:Nat):eL q (j+1)=eL q j++if e1 q j then[(j:Int)] else[]:=by
 unfold eL;rw[ξp,ξb,ξq]
 congr 1
 cases h:e1 q j<;>simp[h]
theorem Bo (j:Nat):(eL q j).length<=j:=by
 unfold eL;rw[μ];exact ξB (ξ1 _ _) (by simp)
theorem ie {j:Nat} {x:Int}:x∈eL q j↔ ∃i:Nat,x=i/\i<j/\e1 q i=true:=by
 unfold eL;simp only[ξc,ξ7,ξI];constructor
 ·rintro ⟨i,⟨h1,a⟩,rfl⟩;exact⟨i,rfl,h1,a⟩
 ·rintro ⟨i,rfl,h1,a⟩;exact⟨i,⟨h1,a⟩,rfl⟩
theorem p5 {i:Nat} (h:e1 q i=true):i<q.length:=by
 unfold e1 at h;split at h
 ·rename_i d a;exact(ε.1 a).1
 ·cases h
theorem Bp (j:Nat):(eL q j).Pairwise (· < ·):=by
 unfold eL;rw[ρ];exact((ξn (n:=j)).sublist ξ8).imp λh=>by omega
theorem Bn (j:Nat):dn q (eL q j):=λx b=>by
 obtain⟨i,rfl,h1,a⟩:=ie.1 b;have:=p5 a;omega
theorem RM (e:q.length<=100):zu ab q []=some (false,(q.length:Int),eL q q.length):=by
 show bS (λi z a=>(sy ab q i z a).val) (λi a=>(rq ab q i a).val) 0 q (eL q 0)=_;refine vV (st:=eL q) (λj z b=>?_) ?_
 ·have d:=(ε.1 b).1;unfold sy;rw[Ui];have c:e1 q j=(z.aR !=0):=by unfold e1;rw[b]
  rw[c];cases h:(z.aR !=0) with
  |false=>
   simp only[T.aE,T.aC,h,cond_false];simp
  |true=>
   simp only[T.aE,T.aN,T.aC,h,cond_true];rw[ja (n:=1000) (by have:=Bo (q:=q) j;simp;omega) (by decide),γ];rfl
 ·unfold rq;simp only[T.aC];simp
theorem Ph (c:q.length<=100): ∃l,lf ab ⟨q⟩=some l/\l.Perm (eL q q.length)/\l.Pairwise λx y=> ¬c0 ag.aR q y<c0 ag.aR q x:=by
 obtain⟨l,h1,a,b⟩:=ac7 (q:=q) (Bn q.length) (by have:=Bo (q:=q) q.length;omega);refine⟨l,?_,a,b⟩;show(Ay ab ⟨q⟩).val=_;unfold Ay;simp only[T.bM,T.aN,T.aC,RM c,γ,h1]
theorem J4 {key:ag->Int} {i:Nat} {d:ag} (h:q[i]? =some d):c0 key q (i:Int)=key d:=by
 unfold c0;rw[η,h]
theorem T1 (c:iU q) {x y:Int} (f:x∈eL q q.length) (k:y∈eL q q.length) (g:x≠y):c0 ag.aR q x≠c0 ag.aR q y:=by
 have key: ∀ {i j:Nat},i<j->e1 q i=true->e1 q j=true->c0 ag.aR q (i:Int)≠c0 ag.aR q (j:Int):=λ{i j} d hi a=>by
  have li:=p5 hi;have b:=p5 a;have:=List.pairwise_iff_getElem.1 c.2.2 i j li b d;rw[J4 (δ li),J4 (δ b)];unfold e1 at a;rw[δ b] at a;unfold ib at this;simp only[Bool.and_eq_true,Bool.or_eq_true,beq_iff_eq,bne_iff_ne,ne_eq] at this a;exact this.2.resolve_left a
 obtain⟨i,rfl,_,hi⟩:=ie.1 f;obtain⟨j,rfl,_,a⟩:=ie.1 k;rcases Nat.lt_trichotomy i j with h|h|h
 ·exact key h hi a
 ·exact absurd (by rw[h]) g
 ·exact λe=>key h a hi e.symm
theorem wI (b:iU q): ∃l,lf ab ⟨q⟩=some l/\l.Perm (eL q q.length)/\l.Pairwise λx y=>c0 ag.aR q x<c0 ag.aR q y:=by
 obtain⟨l,h1,a,d⟩:=Ph (q:=q) (by have:=b.1;omega);refine⟨l,h1,a,?_⟩;have hn:l.Nodup:=a.nodup_iff.2 (nA (Bp _));have e:l.Pairwise λx y=>x≠y/\ ¬c0 ag.aR q y<c0 ag.aR q x:=ξV hn d;refine e.imp_of_mem λ{x y} f g ⟨c,h⟩=>?_;have:=T1 b (a.mem_iff.1 f) (a.mem_iff.1 g) c;omega
def ey (k:Nat) (x:Int):Int:=if x<k then x else x-1
theorem s5 {k i:Nat} (a:i≠k):(q.eraseIdx k)[if i<k then i else i-1]? =q[i]? :=by
 split
 ·rename_i h;rw[ξo,if_pos h]
 ·rename_i h;rw[ξo,if_neg (by omega)]
  congr 1
  omega
theorem oa {k i:Nat} (a:i≠k):ey k (i:Int)=((if i<k then i else i-1:Nat):Int):=by
 unfold ey
 by_cases h:i<k
 ·rw[if_pos h,if_pos (by omega)]
 ·rw[if_neg h,if_neg (by omega)];omega
theorem JM {k:Nat} {x:Int} (c:x≠k) (f:0<=x):idx (q.eraseIdx k) (ey k x)=idx q x:=by
 obtain⟨i,rfl⟩: ∃i:Nat,x=i:=⟨x.toNat,by omega⟩;have b:i≠k:=λe=>c (by rw[e]);rw[oa b];have:=s5 (q:=q) b;cases a:q[i]? with
 |some d=>
  rw[a] at this;rw[dq this,dq a]
 |none=>
  rw[a] at this;have n1: ∀ {l:List ag} {j:Nat},l[j]? =none->idx l (j:Int)=none:=λ{l j} h=>by
   unfold idx
   first
    |(rw[if_neg (by rw[θ] at h;omega)])
    |(simp[h])
  rw[n1 this,n1 a]
theorem uS {key:ag->Int} {k:Nat} {x:Int} (b:x≠k) (c:0<=x):c0 key (q.eraseIdx k) (ey k x)=c0 key q x:=by
 obtain⟨i,rfl⟩: ∃i:Nat,x=i:=⟨x.toNat,by omega⟩;have a:i≠k:=λe=>b (by rw[e]);rw[oa a];unfold c0;rw[η,η,s5 a]
theorem Ow {k:Nat} {x y:Int} (a:x≠k) (b:y≠k):ey k x<ey k y↔x<y:=by
 unfold ey;split<;>split<;>omega
theorem JT {k i:Nat} (a:i≠k):e1 (q.eraseIdx k) (if i<k then i else i-1)=e1 q i:=by
 unfold e1;rw[s5 a]
theorem Uh {k:Nat} (hk:k<q.length) (m:e1 q k=false):(eL (q.eraseIdx k) (q.eraseIdx k).length).Perm ((eL q q.length).map (ey k)):=by
 have g: ∀x∈eL q q.length,x≠(k:Int)/\0<=x:=λx c=>by
  obtain⟨i,rfl,_,hi⟩:=ie.1 c;refine⟨λe=>?_,by omega⟩;have:i=k:=by omega
  rw[this,m] at hi;cases hi
 have n:((eL q q.length).map (ey k)).Nodup:=by
  rw[List.Nodup,ρ];refine(nA (Bp (q:=q) q.length)).imp_of_mem λ{x y} c d p=>?_;have h1:=g x c;have o:=g y d;unfold ey;split<;>split<;>omega
 refine(ξa (nA (Bp _)) n).2 λx=>?_;rw[ξc];constructor
 ·intro c;obtain⟨i,rfl,hi,a⟩:=ie.1 c;have b: ∃j,j≠k/\i=if j<k then j else j-1:=by
   by_cases h:i<k
   ·exact⟨i,by omega,by rw[if_pos h]⟩
   ·exact⟨i+1,by omega,by rw[if_neg (by omega)];omega⟩
  obtain⟨j,b,e⟩:=b;rw[e,JT b] at a;exact⟨(j:Int),ie.2 ⟨j,rfl,p5 a,a⟩,by rw[oa b,<-e]⟩
 ·rintro ⟨y,d,rfl⟩;obtain⟨j,rfl,b,a⟩:=ie.1 d;have l:j≠k:=λe=>(g _ d).1 (by rw[e]);rw[oa l];have f:=JT (q:=q) l;rw[a] at f;exact ie.2 ⟨_,rfl,p5 f,f⟩
theorem adV {k:Nat} (hk:k<q.length) (j:e1 q k=false) (m:iU q) {l:Γa} (h:lf ab ⟨q⟩=some l):lf ab ⟨q.eraseIdx k⟩=some (l.map (ey k)):=by
 obtain⟨w,f,g,o⟩:=wI m;rw[h] at f;cases f;obtain⟨z,p,s,t⟩:=wI (m.sub (ξ2 q k));rw[p]
 congr 1
 have c: ∀x∈l,x≠(k:Int)/\0<=x:=λx d=>by
  obtain⟨i,rfl,_,hi⟩:=ie.1 (g.mem_iff.1 d);refine⟨λe=>?_,by omega⟩;have:i=k:=by omega
  rw[this,j] at hi;cases hi
 refine uniq (r:=λx y=>c0 ag.aR (q.eraseIdx k) x<c0 ag.aR (q.eraseIdx k) y) (λa b h1 v=>by omega) (s.trans ((Uh hk j).trans (g.map _).symm)) t ?_;rw[ρ];refine o.imp_of_mem λ{x y} d n u=>?_;rw[uS (c x d).1 (c x d).2,uS (c y n).1 (c y n).2];exact u
end
end Go.Proofs.YtoggponeookhbaaGreatDoor
end
section
namespace Go.Proofs.YtoggponeookhbaaGreatDoor
open Go.RowKit Go.Dc Go.Vx
section
variable {α σ X:Type}
theorem Nk {step:Int->α->σ->Option (σ⊕X)} {fin:Int->σ->Option X} {l:List α} {I:Nat->σ->Prop} {J:X->Prop}
  (h: ∀(j:Nat) z a,l[j]? =some z->I j a-> ∃y,step j z a=some y/\(∀a',y= .inl a'->I (j+1) a')/\ ∀x,y= .inr x->J x) (b: ∀a,I l.length a-> ∃x,fin (l.length:Int) a=some x/\J x):
  ∀(r pre:List α) (a:σ),l=pre++r->I pre.length a-> ∃x,bS step fin pre.length r a=some x/\J x
 |[],pre,a,e,hi=>by
  rw[ξE] at e;subst e;exact b a hi
 |z::r,pre,a,e,hi=>by
  obtain⟨y,h1,c,d⟩:=h pre.length z a (by rw[e];simp) hi;rw[gG,h1,γ];cases y with
  |inl a'=>
   have:=Nk h b r (pre++[z]) a' (by rw[e];simp) (by rw[ν];exact c a' rfl);rw[show(pre++[z]).length=pre.length+1 by simp] at this;exact this
  |inr x=>exact⟨x,rfl,d x rfl⟩
theorem aca {step:Int->α->σ->Option (σ⊕X)} {fin:Int->σ->Option X} {l:List α} {I:Nat->σ->Prop} {J:X->Prop} {a0:σ}
 (h: ∀(j:Nat) z a,l[j]? =some z->I j a-> ∃y,step j z a=some y/\(∀a',y= .inl a'->I (j+1) a')/\ ∀x,y= .inr x->J x) (c: ∀a,I l.length a-> ∃x,fin (l.length:Int) a=some x/\J x) (b:I 0 a0): ∃x,bS step fin 0 l a0=some x/\J x:=Nk h c l [] a0 rfl b
theorem Nl {β:Type} {f:α->β} {step:Int->α->σ->Option (σ⊕X)} {d:Int->β->σ->Option (σ⊕X)} {fin b:Int->σ->Option X} (c: ∀i a,b i a=fin i a): ∀ {l:List α} {i:Nat} {a:σ},(∀(j:Nat) a,∀z∈l,d j (f z) a=step j z a)->bS d b i (l.map f) a=bS step fin i l a
 |[],i,a,_=>c i a
 |z::r,i,a,h=>by
  rw[List.map_cons,gG,gG,h _ _ z (by simp)];cases step i z a with
  |none=>rfl
  |some y=>
   cases y with
   |inl a'=>exact Nl c λj a z e=>h j a z (ξ6 _ e)
   |inr x=>rfl
end
theorem Pg {s:bb} {d:ag} (c:c5 s) (e:hd d.b9): ∃a b,ik ab s d=some (a,b)/\c5 a:=by
 have hi:=YR c e;show ∃a b,(Ax ab s d).val=some (a,b)/\c5 a;unfold Ax;simp only[T.aN,T.aE,T.aC,v19 c e,γ,w52,v12];cases (d.bK==0)
 ·cases (fC d.cn ⟨363,0⟩||fC d.cn ⟨364,0⟩)
  ·exact⟨_,_,rfl,hi⟩
  ·cases ((hq s d.b9).2.cq==0)
   ·exact⟨_,_,rfl,c⟩
   ·exact⟨_,_,rfl,c⟩
 ·exact⟨_,_,rfl,hi⟩
theorem Za {α:Type} {l:List α} {k:Nat} {z:α} (hl:l.length=k+1) (hk:k<=1000) (a:l[k]? =some z):idx l (ζ.wrap ((l.length:Int)-1))=some z/\l[(ζ.wrap ((l.length:Int)-1)).toNat]? =some z:=by
 have e:ζ.wrap ((l.length:Int)-1)=(k:Int):=by rw[cp]<;>omega
 rw[e];exact⟨dq a,by rw[η];exact a⟩
section
variable {q:List ag}
def mv (q:List ag):Prop:= ∀d∈q,hd d.b9
theorem YH {x:Int} {d:ag} (h:idx q x=some d):d∈q:=by
 unfold idx at h;split at h
 ·exact ι h
 ·cases h
def l7 (q:List ag) (l:Γa) (a:List bb) (j:Nat):Prop:=a[0]? =some nz/\ ∀(k:Nat) x,k<j->l[k]? =some x-> ∃d s s1,idx q x=some d/\a[k]? =some s/\a[k+1]? =some s1/\ik ab s d=some (s1,true)
theorem l7.app {l:Γa} {a:List bb} {j:Nat} {x:Int} {d:ag} {s c:bb} (h:l7 q l a j) (hl:a.length=j+1) (r:l[j]? =some x) (o:idx q x=some d) (p:a[j]? =some s) (h1:ik ab s d=some (c,true)):l7 q l (a++[c]) (j+1):=by
 refine⟨by rw[ο (by omega)];exact h.1,λk y hk b=>?_⟩;rcases ξP k j with f|f
 ·obtain⟨d2,s2,t,g,i,m,n⟩:=h.2 k y f b;exact⟨d2,s2,t,g,by rw[ο (by omega)];exact i,by rw[ο (by omega)];exact m,n⟩
 ·have e:k=j:=by omega
  subst e;rw[r] at b;cases b;exact⟨d,s,c,o,by rw[ο (by omega)];exact p,by rw[List.getElem?_append_right (by omega),hl];simp,h1⟩
theorem w33 {l:Γa} (hw:mv q) (hi:dn q l) (hl:l.length<=100): ∃ss b,mR ab ⟨q⟩ l=some (ss,b)/\(b=true->ss.length=l.length+1/\(∀s∈ss,c5 s)/\l7 q l ss l.length):=by
 obtain⟨x,h1,f⟩:=aca (step:=λi z a=>(kV ab l q i z a).val) (fin:=λi a=>(l_ ab l q i a).val) (l:=l) (a0:=[nz]) (I:=λj a=>a.length=j+1/\(∀s∈a,c5 s)/\l7 q l a j) (J:=λx=> ∀y,x= .inr y->y.2.2.length=l.length+1/\(∀s∈y.2.2,c5 s)/\l7 q l y.2.2 l.length) (λj z a m ⟨h1,f,t⟩=>by
  have C:=(ε.1 m).1;have o:a[j]? =some a[j]:=δ (by omega);obtain⟨v,w⟩:=Za h1 (by omega) o;obtain⟨d,h,_⟩:=ju (hi z (ι m));have c:c5 a[j]:=f _ (φ _);obtain⟨B,b,p,A⟩:=Pg c (hw d (YH h));unfold kV;simp only[T.aN,T.aE,T.aC,v,w,h,p,γ,v12];cases b
  ·exact⟨_,rfl,(λa' e=>by cases e),λx e y g=>by cases e;cases g⟩
  ·cases decide (B=a[j])
   ·rw[ja (n:=1000) (by simp;omega) (by decide)];refine⟨_,rfl,λa' e=>?_,λx e=>by cases e⟩;cases e;refine⟨by simp;omega,λs c=>?_,t.app h1 m h o p⟩;rcases ξr.1 c with c|c
    ·exact f s c
    ·rw[ξd.1 c];exact A
   ·exact⟨_,rfl,(λa' e=>by cases e),λx e y g=>by cases e;cases g⟩) (λa ⟨h1,f⟩=>⟨_,rfl,λy g=>by cases g;exact⟨h1,f⟩⟩) ⟨rfl,(λs c=>by rw[ξd.1 c];exact YS),rfl,λk x hk=>absurd hk (by omega)⟩
 have r:oE ab l q [nz]=some x:=h1;show ∃ss b,(mr ab ⟨q⟩ l).val=some (ss,b)/\_;unfold mr;simp only[T.aN,T.bM,T.cM,T.aC,v18,γ,r];cases x with
 |inl u=>exact⟨_,_,rfl,λe=>by cases e⟩
 |inr y=>exact⟨_,_,rfl,λ_=>f y rfl⟩
theorem adW {b:List ag} {f:Int->Int} {l:Γa} (h: ∀x∈l,idx b (f x)=idx q x):mR ab ⟨b⟩ (l.map f)=mR ab ⟨q⟩ l:=by
 have c: ∀a,oE ab (l.map f) b a=oE ab l q a:=λa=>by
  show bS (λi z a=>(kV ab (l.map f) b i z a).val) (λi a=>(l_ ab (l.map f) b i a).val) 0 (l.map f) a=bS (λi z a=>(kV ab l q i z a).val) (λi a=>(l_ ab l q i a).val) 0 l a;exact Nl (λi a=>by unfold l_;simp only[T.aC,μ]) λj a z d=>by
   unfold kV;simp only[T.aN,T.aE,T.aC,h z d]
 show(mr ab ⟨b⟩ (l.map f)).val=(mr ab ⟨q⟩ l).val;unfold mr;simp only[T.aN,T.bM,T.cM,T.aC,c]
theorem YG {f:Int->Int} {l:Γa} {i:Int}:idx (l.map f) i=(idx l i).map f:=by
 unfold idx;split
 ·rw[ξ]
 ·rfl
theorem adX {o:List ag} {f:Int->Int} {l:Γa} (h: ∀x∈l,idx o (f x)=idx q x) (ss:List bb) (d:ag):j9 ab ⟨o⟩ (l.map f) ss d=j9 ab ⟨q⟩ l ss d:=by
 have t: ∀ {β:Type} (i:Int) (g:ag->Option β),((idx (l.map f) i).bind λz=>(idx o z).bind g)=(idx l i).bind λz=>(idx q z).bind g:=λ{β} i g=>by
  rw[YG];cases p:idx l i with
  |none=>rfl
  |some x=>
   have hm:x∈l:=by
    unfold idx at p;split at p
    ·exact ι p
    ·cases p
   simp only[τ,γ,h x hm]
 have s: ∀(n:Int) (c k:Int) (b:Γa) (e v j at_ m a:Int),(fU ab (l.map f) ss n o c k b e v j at_ m a).val=(fU ab l ss n q c k b e v j at_ m a).val:=λn c k b e v j at_ m a=>by
  unfold fU;simp only[T.aN,T.aE,T.aC,μ,t]
 show(mu ab ⟨o⟩ (l.map f) ss d).val=(mu ab ⟨q⟩ l ss d).val;have r: ∀(n:Int) (c k:Int) (b:Γa) (e v j at_ m a:Int),oF ab (l.map f) ss n o c k b e v j at_ m a=oF ab l ss n q c k b e v j at_ m a:=λn c k b e v j at_ m a=>by
  show b4 (λa=>(fU ab (l.map f) ss n o c k b e v j at_ m a).val) 1000000 a=b4 (λa=>(fU ab l ss n q c k b e v j at_ m a).val) 1000000 a;rw[funext (s n c k b e v j at_ m)]
 unfold mu;simp only[T.aN,T.bM,T.cM,T.aC,r,μ]
end
section
variable {q:List ag} {l:Γa} {ss:List bb} {d:ag}
theorem J5 {key:ag->Int} {x:Int} {d:ag} (h:idx q x=some d):c0 key q x=key d:=by
 unfold idx at h;split at h
 ·unfold c0;rw[h]
 ·cases h
def mg (q:List ag) (l:Γa) (ss:List bb) (d:ag) (a:Nat):Prop:=(∀x,0<a->l[a-1]? =some x->c0 ag.aR q x<=d.bK)/\(∀x,l[a]? =some x->d.bP<=c0 ag.aR q x)/\ ∃s,ss[a]? =some s/\ik ab s d=some (s,true)
theorem RV (hi:dn q l) (hl:l.length<=100) (J:ss.length=l.length+1) (C: ∀s∈ss,c5 s) (E:hd d.b9) {a:Nat} (I:a<=l.length):
  ∃y,(fU ab l ss ((l.length+1:Nat):Int) q d.cO d.b9.bm d.b9.fArgs d.cn.cq d.cn.cD d.bP d.aR d.bK (a:Int)).val=some y/\(y= .inl ((a+1:Nat):Int)\/y= .inr (.inl (a:Int))/\mg q l ss d a):=by
 have m:decide ((a:Int)<((l.length+1:Nat):Int))=true:=decide_eq_true (by omega);have g:ss[a]? =some ss[a]:=δ (by omega);obtain⟨i,b,k,_⟩:=Pg (C ss[a] (φ _)) E;have w1:ζ.wrap ((a:Int)+1)=((a+1:Nat):Int):=by rw[cp]<;>omega
 have t:(ag.mk d.cO (cN.mk d.b9.bm d.b9.fArgs) (cX.mk d.cn.cq d.cn.cD) d.bP d.aR d.bK)=d:=rfl;have fin:(∀x,0<a->l[a-1]? =some x->c0 ag.aR q x<=d.bK)->(∀x,l[a]? =some x->d.bP<=c0 ag.aR q x)-> ∀(y:Option (Int⊕Int⊕(Bool×Int))),y=(bif b then(bif decide (i=ss[a]) then some (.inr (.inl (a:Int))) else some (.inl ((a+1:Nat):Int))) else some (.inl ((a+1:Nat):Int)))-> ∃z,y=some z/\(z= .inl ((a+1:Nat):Int)\/z= .inr (.inl (a:Int))/\mg q l ss d a):=λe B y G=>by
  rw[G];cases b
  ·exact⟨_,rfl,.inl rfl⟩
  ·cases F:decide (i=ss[a])
   ·exact⟨_,rfl,.inl rfl⟩
   ·exact⟨_,rfl,.inr ⟨rfl,e,B,ss[a],g,by rw[k,of_decide_eq_true F]⟩⟩
 have tail:(∀x,0<a->l[a-1]? =some x->c0 ag.aR q x<=d.bK)-> ∀(f:Bool),(f=true->a<l.length)->(f=false-> ¬a<l.length)-> ∃z,(bif f then((idx l (a:Int)).bind λz0=>(idx q z0).bind λH=>bif decide (H.aR<d.bP) then some (.inl ((a+1:Nat):Int)) else(bif b then(bif decide (i=ss[a]) then some (.inr (.inl (a:Int))) else some (.inl ((a+1:Nat):Int))) else some (.inl ((a+1:Nat):Int)))) else(bif b then(bif decide (i=ss[a]) then some (.inr (.inl (a:Int))) else some (.inl ((a+1:Nat):Int))) else some (.inl ((a+1:Nat):Int))))=(some z:Option (Int⊕Int⊕(Bool×Int)))/\(z= .inl ((a+1:Nat):Int)\/z= .inr (.inl (a:Int))/\mg q l ss d a):=λe f h1 v=>by
  cases f
  ·exact fin e (λx c=>absurd (ε.1 c).1 (v rfl)) _ rfl
  ·have D:=h1 rfl;have o:l[a]? =some l[a]:=δ D;obtain⟨d3,r,_⟩:=ju (hi l[a] (φ _));simp only[cond_true,dq o,r,γ];cases w:decide (d3.aR<d.bP)
   ·refine fin e (λx c=>?_) _ rfl;rw[o] at c;cases c;rw[J5 r];have:=of_decide_eq_false w;omega
   ·exact⟨_,rfl,.inl rfl⟩
 have t2:=λe=>tail e (decide ((a:Int)<(l.length:Int))) (λh=>by have:=of_decide_eq_true h;omega) (λh=>by have:=of_decide_eq_false h;omega);unfold fU;simp only[t];rcases ξe a with u|u
 ·have j:decide ((a:Int)>0)=false:=decide_eq_false (by omega);simp only[T.aN,T.aE,T.aC,m,j,cond_true,cond_false,dq g,k,γ,v12,w1];exact t2 λx h=>absurd h (by omega)
 ·have j:decide ((a:Int)>0)=true:=decide_eq_true (by omega);have w2:ζ.wrap ((a:Int)-1)=((a-1:Nat):Int):=by rw[cp]<;>omega
  have hp:a-1<l.length:=by omega
  have n:l[a-1]? =some l[a-1]:=δ hp;obtain⟨d1,p,_⟩:=ju (hi l[a-1] (φ _));simp only[T.aN,T.aE,T.aC,m,j,cond_true,w2,dq n,p,dq g,k,γ,v12,w1];cases A:decide (d1.aR>d.bK)
  ·refine t2 λx _ c=>?_;rw[n] at c;cases c;rw[J5 p];have:=of_decide_eq_false A;omega
  ·exact⟨_,rfl,.inl rfl⟩
theorem Hr (hi:dn q l) (hl:l.length<=100) (g:ss.length=l.length+1) (b: ∀s∈ss,c5 s) (c:hd d.b9): ∀(k a f:Nat),a+k=l.length+1->k<f-> ∃x,b4 (λa=>(fU ab l ss ((l.length+1:Nat):Int) q d.cO d.b9.bm d.b9.fArgs d.cn.cq d.cn.cD d.bP d.aR d.bK a).val) f (a:Int)=some x/\ ∀y,x= .inl y-> ∃m:Nat,y=m/\m<=l.length/\mg q l ss d m
 |k,a,0,_,h=>by omega
 |0,a,f+1,h,_=>by
  have j:decide ((a:Int)<((l.length+1:Nat):Int))=false:=decide_eq_false (by omega);have n:(fU ab l ss ((l.length+1:Nat):Int) q d.cO d.b9.bm d.b9.fArgs d.cn.cq d.cn.cD d.bP d.aR d.bK (a:Int)).val=some (.inr (.inr (false,(a:Int)))):=by
   unfold fU;simp only[T.aE,T.aC,j,cond_false]
  refine⟨.inr (false,(a:Int)),?_,λy e=>by cases e⟩;show((fU ab l ss _ q _ _ _ _ _ _ _ _ _).val.bind _)=_;rw[n];rfl
 |k+1,a,f+1,h,u=>by
  obtain⟨y,i,o⟩:=RV (a:=a) hi hl g b c (by omega);rcases o with rfl|⟨rfl,t⟩
  ·obtain⟨x,p,r⟩:=Hr hi hl g b c k (a+1) f (by omega) (by omega);refine⟨x,?_,r⟩;show((fU ab l ss _ q _ _ _ _ _ _ _ _ _).val.bind _)=_;rw[i];exact p
  ·refine⟨.inl (a:Int),?_,λy e=>by cases e;exact⟨a,rfl,by omega,t⟩⟩;show((fU ab l ss _ q _ _ _ _ _ _ _ _ _).val.bind _)=_;rw[i];rfl
theorem w34 (hi:dn q l) (hl:l.length<=100) (g:ss.length=l.length+1) (a: ∀s∈ss,c5 s) (f:hd d.b9): ∃n b,j9 ab ⟨q⟩ l ss d=some (n,b)/\(b=true-> ∃m:Nat,n=m/\m<=l.length/\mg q l ss d m):=by
 obtain⟨x,h,i⟩:=Hr (d:=d) hi hl g a f (l.length+1) 0 1000000 (by omega) (by omega);have w1:ζ.wrap ((l.length:Int)+1)=((l.length+1:Nat):Int):=by rw[cp]<;>omega
 have c:oF ab l ss ((l.length+1:Nat):Int) q d.cO d.b9.bm d.b9.fArgs d.cn.cq d.cn.cD d.bP d.aR d.bK 0=some x:=h;show ∃n b,(mu ab ⟨q⟩ l ss d).val=some (n,b)/\_;unfold mu;simp only[T.aN,T.bM,T.cM,T.aC,w1,c,γ];cases x with
 |inl y=>exact⟨_,_,rfl,λ_=>i y rfl⟩
 |inr y=>exact⟨_,_,rfl,λe=>by cases e⟩
end
theorem Ov {α:Type} {f g:Nat->α} {n m:Nat} {y:α} (b:g m=y) (a: ∀i,i≠m->g i=f i):((ξ0 n).map f).set m y=(ξ0 n).map g:=by
 apply ξf;intro i;rw[ξA,ξ,ξ,μ,List.length_range]
 by_cases h:m=i
 ·subst h;rw[if_pos rfl]
  by_cases hn:m<n
  ·rw[if_pos hn,ξ9 hn];simp[b]
  ·rw[if_neg hn,θ.2 (by simp;omega)];rfl
 ·rw[if_neg h]
  by_cases hn:i<n
  ·rw[ξ9 hn];simp[a i (λe=>h e.symm)]
  ·rw[θ.2 (by simp;omega)];rfl
theorem Cp {α:Type} {f:Nat->α} {n m:Nat} (h:m<n):((ξ0 n).map f)[m]? =some (f m):=by
 rw[ξ,ξ9 h];rfl
section
variable {q:List ag} {l:Γa} {ss:List bb}
noncomputable def c3 (q:List ag) (l:Γa) (ss:List bb) (d:ag):Option Nat:=match j9 ab ⟨q⟩ l ss d with
 |some (n,true)=>some n.toNat
 |_=>none
theorem aau (hi:dn q l) (hl:l.length<=100) (f:ss.length=l.length+1) (c: ∀s∈ss,c5 s) {d:ag} (e:hd d.b9):
  (∃n:Nat,j9 ab ⟨q⟩ l ss d=some ((n:Int),true)/\c3 q l ss d=some n/\n<=l.length/\mg q l ss d n)\/(∃n,j9 ab ⟨q⟩ l ss d=some (n,false)/\c3 q l ss d=none):=by
 obtain⟨n,b,h1,a⟩:=w34 (d:=d) hi hl f c e;unfold c3;rw[h1];cases b
 ·exact .inr ⟨n,rfl,rfl⟩
 ·obtain⟨m,rfl,hm⟩:=a rfl;exact .inl ⟨m,rfl,by simp,hm⟩
def hy (q:List ag) (pl:ag->Option Nat) (n j:Nat):Bool:=match q[j]? with
 |some d=>(d.aR==0)&&((d.bK !=0)&&(pl d==some n))
 |none=>false
def dh (q:List ag) (pl:ag->Option Nat) (n j:Nat):Γa:=((ξ0 j).filter (hy q pl n)).map λ(i:Nat)=>(i:Int)
variable {pl:ag->Option Nat}
theorem EW (n j:Nat):dh q pl n (j+1)=dh q pl n j++if hy q pl n j then[(j:Int)] else[]:=by
 unfold dh;rw[ξp,ξb,ξq]
 congr 1
 cases h:hy q pl n j<;>simp[h]
theorem vY (n j:Nat):(dh q pl n j).length<=j:=by
 unfold dh;rw[μ];exact ξB (ξ1 _ _) (by simp)
theorem qF {n j:Nat} {x:Int}:x∈dh q pl n j↔ ∃i:Nat,x=i/\i<j/\hy q pl n i=true:=by
 unfold dh;simp only[ξc,ξ7,ξI];constructor
 ·rintro ⟨i,⟨h1,a⟩,rfl⟩;exact⟨i,rfl,h1,a⟩
 ·rintro ⟨i,rfl,h1,a⟩;exact⟨i,⟨h1,a⟩,rfl⟩
theorem Dl {n i:Nat} (h:hy q pl n i=true):i<q.length:=by
 unfold hy at h;split at h
 ·rename_i d a;exact(ε.1 a).1
 ·cases h
theorem EV (n j:Nat):(dh q pl n j).Pairwise (· < ·):=by
 unfold dh;rw[ρ];exact((ξn (n:=j)).sublist ξ8).imp λh=>by omega
theorem EU (n j:Nat):dn q (dh q pl n j):=λx b=>by
 obtain⟨i,rfl,h1,a⟩:=qF.1 b;have:=Dl a;omega
def eb (q:List ag) (pl:ag->Option Nat) (L j:Nat):List (Option (Γa)):=(ξ0 (L+1)).map λn=>some (dh q pl n j)
theorem ads {L j:Nat}:(eb q pl L j).length=L+1:=by simp[eb]
theorem OP {L j n:Nat} (h:n<=L):(eb q pl L j)[n]? =some (some (dh q pl n j)):=Cp (by omega)
def nG (pl:ag->Option Nat) (d:ag):Bool:=(d.aR !=0)||((d.bK==0)||(pl d).isSome)
theorem RR (u:q.length<=100) (hw:mv q) (hi:dn q l) (hl:l.length<=100) (p:ss.length=l.length+1) (o: ∀s∈ss,c5 s) {j:Nat} {z:ag} (g:q[j]? =some z):
  (oI ab l ss q (j:Int) z (eb q (c3 q l ss) l.length j)).val=some (bif nG (c3 q l ss) z then .inl (eb q (c3 q l ss) l.length (j+1)) else .inr (.inl ())):=by
 have t:=(ε.1 g).1;have same:(∀n,hy q (c3 q l ss) n j=false)->eb q (c3 q l ss) l.length (j+1)=eb q (c3 q l ss) l.length j:=λh=>by
  unfold eb;refine ξt λn hn=>?_;rw[EW,h n];simp
 have c: ∀n,hy q (c3 q l ss) n j=((z.aR==0)&&((z.bK !=0)&&(c3 q l ss z==some n))):=λn=>by unfold hy;rw[g]
 unfold oI nG;cases h1:(z.aR !=0) with
 |true=>
  have d:(z.aR==0)=false:=by rw[show(z.aR !=0)=!(z.aR==0) from rfl] at h1;simpa using h1
  simp only[T.aE,T.aC,h1,cond_true,ξQ];rw[same λn=>by rw[c,d];rfl]
 |false=>
  have d:(z.aR==0)=true:=by rw[show(z.aR !=0)=!(z.aR==0) from rfl] at h1;simpa using h1
  cases a:(z.bK==0) with
  |true=>
   have f:(z.bK !=0)=false:=by rw[show(z.bK !=0)=!(z.bK==0) from rfl,a];rfl
   simp only[T.aE,T.aC,h1,a,cond_true,cond_false,ξx,ξQ];rw[same λn=>by rw[c,f,Bool.false_and,Bool.and_false]]
  |false=>
   have f:(z.bK !=0)=true:=by rw[show(z.bK !=0)=!(z.bK==0) from rfl,a];rfl
   rcases aau (q:=q) (l:=l) (ss:=ss) hi hl p o (hw z (ι g)) with⟨n,i,b,k,_⟩|⟨n,i,b⟩
   ·have i1:idx (eb q (c3 q l ss) l.length j) (n:Int)=some _:=dq (OP k);have i2:jL (eb q (c3 q l ss) l.length j) n=some (dh q (c3 q l ss) n j):=by unfold jL;rw[OP k]
    have i3:idx ((eb q (c3 q l ss) l.length j).set n none) (n:Int)=some none:=dq (by rw[ξA,if_pos rfl,if_pos (by rw[ads];omega)]);have v:=vY (q:=q) (pl:=c3 q l ss) n j;have r:(dH.mk q)=(⟨q⟩:dH):=rfl;simp only[T.aE,T.aN,T.aC,h1,a,cond_true,cond_false,ξx,i,b,γ,ξy,i1,η,i2,i3,Option.isSome_some];rw[ja (n:=1000) (by simp;omega) (by decide),γ,List.set_set]
    congr 2
    unfold eb;refine Ov ?_ λm hm=>?_
    ·rw[EW,c,d,f,b];simp
    ·rw[EW,c,b];have:((some n:Option Nat)==some m)=false:=by simpa using λe=>hm e.symm
     rw[this];simp
   ·simp only[T.aE,T.aN,T.aC,h1,a,cond_true,cond_false,ξx,i,b,γ,ξJ,Option.isSome_none]
theorem OQ {L:Nat}:eb q pl L 0=ξK (L+1) (some []):=by
 unfold eb;apply ξf;intro i
 by_cases h:i<L+1
 ·rw[Cp h,List.getElem?_replicate,if_pos h];rfl
 ·rw[θ.2 (by simp;omega),θ.2 (by simp;omega)]
theorem Hq (g:q.length<=100) (hw:mv q) (hi:dn q l) (hl:l.length<=100) (k:ss.length=l.length+1) (e: ∀s∈ss,c5 s):
  ((∀d∈q,nG (c3 q l ss) d=true)/\ ∃n o,rZ ab l ss q (eb q (c3 q l ss) l.length 0)=some (.inr (n,o,eb q (c3 q l ss) l.length q.length)))\/(¬(∀d∈q,nG (c3 q l ss) d=true)/\rZ ab l ss q (eb q (c3 q l ss) l.length 0)=some (.inl ())):=by
 have h:=vX (step:=λi z a=>(oI ab l ss q i z a).val) (fin:=λi a=>(q4 ab l ss q i a).val) (l:=q) (st:=eb q (c3 q l ss) l.length) (ok:=λ_ z=>nG (c3 q l ss) z) (x0:=λ_=>.inl ()) (x1:=.inr (false,(q.length:Int),eb q (c3 q l ss) l.length q.length)) (λj z m _=>RR g hw hi hl k e m) (λ_=>by
  unfold q4;simp only[T.aC];simp)
 rcases h with⟨h1,b⟩|⟨j,z,h1,b,_,c⟩
 ·refine .inl ⟨λd f=>?_,_,_,b⟩;obtain⟨i,hi,rfl⟩:=List.getElem_of_mem f;exact h1 i _ (δ hi)
 ·refine .inr ⟨λh=>?_,c⟩;rw[h z (ι h1)] at b;cases b
end
section
variable {q:List ag} {l:Γa} {ss:List bb} {pl:ag->Option Nat}
noncomputable def gi (q:List ag) (xs:Γa):Γa:=(n9 ab xs q).getD []
theorem ac4 {xs:Γa} (hn:xs.length<=80) (c:xs.Pairwise (· < ·)) (hi:dn q xs):n9 ab xs q=some (gi q xs)/\(gi q xs).Perm xs/\(gi q xs).Pairwise (cE q):=by
 obtain⟨ys,h1,a,b⟩:=w35 hn c hi;have e:gi q xs=ys:=by unfold gi;rw[h1];rfl
 rw[e];exact⟨h1,a,b⟩
noncomputable def fM (q:List ag) (l:Γa) (pl:ag->Option Nat) (n:Nat):Γa:=(ξ0 n).flatMap λm=>gi q (dh q pl m q.length)++(l[m]?).toList
def gJ (q:List ag) (pl:ag->Option Nat) (L n:Nat):List (Option (Γa)):=(ξ0 (L+1)).map λm=>if m<n then none else some (dh q pl m q.length)
theorem adp {L:Nat}:gJ q pl L 0=eb q pl L q.length:=by
 unfold gJ eb;exact ξt λn hn=>by rw[if_neg (by omega)]
theorem nL (n:Nat):fM q l pl (n+1)=fM q l pl n++(gi q (dh q pl n q.length)++(l[n]?).toList):=by
 unfold fM;rw[ξp,List.flatMap_append];simp
theorem aaj (o:Option Int):o.toList.length<=1:=by cases o<;>simp
theorem qG (a:q.length<=66) (n:Nat):n9 ab (dh q pl n q.length) q=some (gi q (dh q pl n q.length))/\(gi q (dh q pl n q.length)).Perm (dh q pl n q.length)/\(gi q (dh q pl n q.length)).Pairwise (cE q):=
 ac4 (by have:=vY (q:=q) (pl:=pl) n q.length;omega) (EV _ _) (EU _ _)
theorem D7 (a:q.length<=66): ∀n,(fM q l pl n).length<=70*n
 |0=>by simp[fM]
 |n+1=>by
  rw[nL,ν,ν];have h1:=D7 a n;have b:=aaj l[n]?
  have c:=(qG (pl:=pl) a n).2.1.length_eq;have d:=vY (q:=q) (pl:=pl) n q.length;omega
theorem wP {n:Nat} (h:n<=1000):ζ.wrap ((n:Int)+1)=((n+1:Nat):Int):=by rw[cp]<;>omega
theorem RI (d:q.length<=66) (hl:l.length<=100): ∃k o p,yT ab l q (eb q pl l.length q.length) 0 [] (eb q pl l.length q.length)=some (k,o,fM q l pl (l.length+1),p):=by
 refine⟨false,((l.length+1:Nat):Int),gJ q pl l.length (l.length+1),?_⟩;show b4 (λa=>(oJ ab l q (eb q pl l.length q.length) a).val) 1000000 ((0:Int),([]:Γa),eb q pl l.length q.length)=_;rw[<-adp];refine wK (st:=λn=>((n:Int),fM q l pl n,gJ q pl l.length n)) (n:=l.length+1) (λn hn=>?_) ?_ (by omega)
 ·have b:decide ((n:Int)<((gJ q pl l.length 0).length:Int))=true:=decide_eq_true (by simp[gJ];omega);have g1:(gJ q pl l.length n)[n]? =some (some (dh q pl n q.length)):=by unfold gJ;rw[Cp (by omega),if_neg (by omega)]
  have g2:jL (gJ q pl l.length n) n=some (dh q pl n q.length):=by unfold jL;rw[g1]
  obtain⟨g,i,_⟩:=qG (pl:=pl) d n;have s:=vY (q:=q) (pl:=pl) n q.length;have r:=D7 (l:=l) (pl:=pl) d n;have t:=i.length_eq;have e:app 8 (fM q l pl n) (gi q (dh q pl n q.length))=some (fM q l pl n++gi q (dh q pl n q.length)):=ja (n:=100000) (by omega) (by decide);have j:(gJ q pl l.length n).set n none=gJ q pl l.length (n+1):=by
   unfold gJ;refine Ov (by rw[if_pos (by omega)]) λm hm=>?_
   by_cases h:m<n
   ·rw[if_pos h,if_pos (by omega)]
   ·rw[if_neg h,if_neg (by omega)]
  unfold oJ;simp only[T.aE,T.aN,T.aC,b,cond_true,dq g1,η,g2,g,γ,e,j];rcases ξP n l.length with h|h
  ·have c:decide ((n:Int)<(l.length:Int))=true:=decide_eq_true (by omega);have hk:l[n]? =some l[n]:=δ h;have f:dL l (some (n:Int)) (some ((n+1:Nat):Int)) (some ((n+1:Nat):Int))=some [l[n]]:=by
    unfold dL;simp only[Option.getD_some];rw[if_pos ⟨by omega,by omega,by omega,by omega,by omega,by simp⟩,η,η]
    congr 1
    rw[List.drop_take,show n+1-n=1 by omega,List.take_one,List.head?_drop,hk];rfl
   simp only[c,cond_true,wP (show n<=1000 by omega),τ];rw[f,γ,ja (n:=100000) (by simp;omega) (by decide),γ,nL,hk];simp
  ·have c:decide ((n:Int)<(l.length:Int))=false:=decide_eq_false (by omega);have hn:l[n]? =none:=θ.2 h;simp only[c,cond_false,wP (show n<=1000 by omega)];rw[nL,hn];simp
 ·have b:decide (((l.length+1:Nat):Int)<((gJ q pl l.length 0).length:Int))=false:=decide_eq_false (by simp[gJ]);unfold oJ;simp only[T.aE,T.aC,b,cond_false]
structure oH (q:List ag) (l:Γa) (ss:List bb):Prop where
 c:iU q
 w:mv q
 hM:lf ab ⟨q⟩=some l
 i:dn q l
 ll:l.length<=64
 ls:ss.length=l.length+1
 si: ∀s∈ss,c5 s
 k9:mR ab ⟨q⟩ l=some (ss,true)
 ok: ∀d∈q,nG (c3 q l ss) d=true
theorem LG {n:Nat} (hn:n<=100):hV 24 (ζ.wrap ((n:Int)+1)) (ζ.wrap ((n:Int)+1)) (some ([]:Γa))=some (ξK (n+1) (some [])):=by
 rw[wP (by omega)];unfold hV;rw[if_pos ⟨by omega,by omega,by omega,by omega⟩,η]
theorem Pe (h:oH q l ss):pC ab ⟨q⟩=some (fM q l (c3 q l ss) (l.length+1),0):=by
 have g:=h.c.1;have hl:=h.ll;have d:pF ab ⟨q⟩=some 0:=by
  rcases Pf (q:=q) (by omega) with⟨e,_⟩|⟨_,e⟩
  ·exact e
  ·exact absurd h.c e
 obtain⟨j,k,m,f⟩:=RI (q:=q) (l:=l) (pl:=c3 q l ss) (by omega) (by omega);rcases Hq (by omega) h.w h.i (by omega) h.ls h.si with⟨_,n,z2,a⟩|⟨e,_⟩
 ·rw[OQ] at a;show(iZ ab ⟨q⟩).val=_;unfold iZ;have b:((0:Int) !=0)=false:=rfl;simp only[T.aN,T.aE,T.bM,T.cM,T.aC,d,γ,b,cond_false,h.hM,h.k9,ξy,LG (show l.length<=100 by omega),a,f]
 ·exact absurd h.ok e
theorem adU (i:q.length<=66) (hw:mv q):(∃l ss,oH q l ss)\/ ∃e,pC ab ⟨q⟩=some ([],e)/\e≠0:=by
 rcases Pf (q:=q) (by omega) with⟨c,d⟩|⟨c,d⟩
 rotate_left
 ·refine .inr ⟨390,?_,by decide⟩;show(iZ ab ⟨q⟩).val=_;unfold iZ;have a:((390:Int) !=0)=true:=rfl;simp only[T.aN,T.aE,T.aC,c,γ,a,cond_true]
 have a:((0:Int) !=0)=false:=rfl;obtain⟨l,hM,p,_⟩:=Ph (q:=q) (by omega);have hi:dn q l:=uI (Bn _) p;have hl:l.length<=64:=by
  have:=p.length_eq;have:=Bo (q:=q) q.length;have:=d.1;omega
 obtain⟨ss,b,k9,h⟩:=w33 (q:=q) hw hi (by omega);cases b
 ·refine .inr ⟨391,?_,by decide⟩;show(iZ ab ⟨q⟩).val=_;unfold iZ;simp only[T.aN,T.aE,T.aC,c,γ,a,cond_false,hM,k9,ξJ,cond_true]
 ·obtain⟨h1,f,_⟩:=h rfl;rcases Hq (by omega) hw hi (by omega) h1 f with⟨ok,_⟩|⟨_,g⟩
  ·exact .inl ⟨l,ss,d,hw,hM,hi,hl,h1,f,k9,ok⟩
  ·refine .inr ⟨391,?_,by decide⟩;rw[OQ] at g;show(iZ ab ⟨q⟩).val=_;unfold iZ;simp only[T.aN,T.aE,T.bM,T.cM,T.aC,c,γ,a,cond_false,hM,k9,ξy,LG (show l.length<=100 by omega),g]
variable {k:Nat}
theorem J8 (h:oH q l ss) (d:e1 q k=false): ∀x∈l,x≠(k:Int)/\0<=x:=λx f=>by
 obtain⟨g,a,b,_⟩:=wI h.c;rw[h.hM] at a;cases a;obtain⟨i,rfl,_,hi⟩:=ie.1 (b.mem_iff.1 f);refine⟨λe=>?_,by omega⟩;have:i=k:=by omega
 rw[this,d] at hi;cases hi
theorem Mu (h: ∀x∈l,x≠(k:Int)/\0<=x):c3 (q.eraseIdx k) (l.map (ey k)) ss=c3 q l ss:=by
 funext d
 unfold c3;rw[adX (q:=q) (λx a=>JM (h x a).1 (h x a).2)]
theorem aam (h:oH q l ss) (hk:k<q.length) (g:e1 q k=false):oH (q.eraseIdx k) (l.map (ey k)) ss:=by
 have e:=J8 h g;have a:=ξ2 q k;have hM:=adV hk g h.c h.hM;obtain⟨n,f,m,_⟩:=wI (h.c.sub a);rw[hM] at f;cases f;exact {
  c:=h.c.sub a
  w:=λd b=>h.w d (a.subset b)
  hM:=hM
  i:=uI (Bn _) m
  ll:=by rw[μ];exact h.ll
  ls:=by rw[μ];exact h.ls
  si:=h.si
  k9:=by rw[adW (q:=q) (λx j=>JM (e x j).1 (e x j).2)];exact h.k9
  ok:=λd b=>by rw[Mu e];exact h.ok d (a.subset b)}
def ei (k:Nat) (xs:Γa):Γa:=(xs.filter λx=>x !=(k:Int)).map (ey k)
theorem JU {n i:Nat} (a:i≠k):hy (q.eraseIdx k) pl n (if i<k then i else i-1)=hy q pl n i:=by
 unfold hy;rw[s5 a]
theorem UD {xs:Γa} {x:Int}:x∈ei k xs↔ ∃y∈xs,y≠(k:Int)/\x=ey k y:=by
 unfold ei;simp only[ξc,ξ7,bne_iff_ne,ne_eq];constructor
 ·rintro ⟨y,⟨h1,a⟩,rfl⟩;exact⟨y,h1,a,rfl⟩
 ·rintro ⟨y,h1,a,rfl⟩;exact⟨y,⟨h1,a⟩,rfl⟩
theorem Ix {r c:Int->Int->Prop} {xs:Γa} (h:xs.Pairwise r) (d: ∀x∈xs,∀y∈xs,x≠(k:Int)->y≠(k:Int)->r x y->c (ey k x) (ey k y)):(ei k xs).Pairwise c:=by
 unfold ei;rw[ρ];refine(h.sublist ξ8).imp_of_mem λ{x y} a b e=>?_;rw[ξ7] at a b;exact d x a.1 y b.1 (by simpa using a.2) (by simpa using b.2) e
theorem acg (n:Nat):dh (q.eraseIdx k) pl n (q.eraseIdx k).length=ei k (dh q pl n q.length):=by
 have o:=EV (q:=q.eraseIdx k) (pl:=pl) n (q.eraseIdx k).length;have p2:(ei k (dh q pl n q.length)).Pairwise (· < ·):=Ix (EV n q.length) λx _ y _ g l h=>(Ow g l).2 h;refine uniq (r:=(· < ·)) (λa b h1 s=>by omega) ?_ o p2;refine(ξa (nA o) (nA p2)).2 λx=>?_;rw[UD];constructor
 ·intro g;obtain⟨i,rfl,hi,d⟩:=qF.1 g;have c: ∃j,j≠k/\i=if j<k then j else j-1:=by
   by_cases h:i<k
   ·exact⟨i,by omega,by rw[if_pos h]⟩
   ·exact⟨i+1,by omega,by rw[if_neg (by omega)];omega⟩
  obtain⟨j,c,e⟩:=c;rw[e,JU c] at d;exact⟨(j:Int),qF.2 ⟨j,rfl,Dl d,d⟩,λe=>c (by omega),by rw[oa c,<-e]⟩
 ·rintro ⟨y,l,p,rfl⟩;obtain⟨j,rfl,c,d⟩:=qF.1 l;have m:j≠k:=λe=>p (by rw[e]);rw[oa m];have f:=JU (q:=q) (pl:=pl) (n:=n) m;rw[d] at f;exact qF.2 ⟨_,rfl,Dl f,f⟩
theorem UE {xs ys:Γa} (h:xs.Perm ys):(ei k xs).Perm (ei k ys):=(h.filter _).map _
theorem BG {xs ys:Γa}:ei k (xs++ys)=ei k xs++ei k ys:=by unfold ei;rw[ξb,ξq]
theorem ac3 (d:q.length<=66) (n:Nat):gi (q.eraseIdx k) (dh (q.eraseIdx k) pl n (q.eraseIdx k).length)=ei k (gi q (dh q pl n q.length)):=by
 have hl:(q.eraseIdx k).length<=66:=ξB (ξ2 q k).length_le d;obtain⟨_,a2,a3⟩:=qG (q:=q) (pl:=pl) d n;obtain⟨_,g,i⟩:=qG (q:=q.eraseIdx k) (pl:=pl) hl n;refine uniq (r:=cE (q.eraseIdx k)) (λa b h1=>dx.asymm h1) ?_ i ?_
 ·refine g.trans ?_;rw[acg];exact(UE a2).symm
 ·refine Ix a3 λx j y l e f h=>?_;have c: ∀z∈gi q (dh q pl n q.length),0<=z:=λz m=>(EU n q.length z (a2.mem_iff.1 m)).1;unfold cE dx at*
  rw[uS e (c x j),uS f (c y l),Ow e f];exact h
theorem Mj (a:q.length<=66) (h: ∀x∈l,x≠(k:Int)/\0<=x): ∀n,fM (q.eraseIdx k) (l.map (ey k)) pl n=ei k (fM q l pl n)
 |0=>rfl
 |n+1=>by
  rw[nL,nL,Mj a h n,ac3 a,BG,BG]
  congr 2
  rw[ξ];cases hn:l[n]? with
  |none=>rfl
  |some x=>
   have:=(h x (ι hn)).1;simp[ei,this]
end
theorem adj:dA.Flat:=λh=>h
def zD:Value:=.agg #[.int .i64 0,.int .u64 0,.int .u64 0,.int .u64 0,.int .u64 0,.int .u64 0,.int .i64 0,.int .u64 0,.int .i64 0,.int .i64 0,.int .i64 0]
theorem aei {n:Nat} {z:Array Value} {u:Value} (h:u∈(ξg z n).toList) (b: ∀i:Fin z.size,z[i].oneCell'=true):u.oneCell'=true:=by
 simp only[ξg,Array.toList_map,ξc] at h;obtain⟨i,hi,rfl⟩:=h
 by_cases a:i%z.size<z.size
 ·have:=b ⟨i%z.size,a⟩;simpa[a] using this
 ·have:z.size=0:=by rcases ξe z.size with h|h;exact h;exact absurd (Nat.mod_lt i h) a
  simp[this] at hi
noncomputable def qK (xs:List ag) (i j:Int):Option (List ag):=if 0<=i/\i<=j/\j<=xs.length then some (xs.take i.toNat++xs.drop j.toNat) else none
set_option maxRecDepth 100000 in
set_option maxHeartbeats 4000000 in
theorem acJ {O:Γ} {w:World} (hO:OB O w) {B:Nat} {v:Value} {xs:List ag} (r:Go.Dc.Own dA 42 B O w v xs) {i j:Int} {zs:List ag} (t:qK xs i j=some zs):
  Calls κ 13 #[v,.int .i64 i,.int .i64 j] w (eB dA 42 B O w v zs):=by
 unfold qK at t;split at t
 case isFalse=>cases t
 rename_i aN;cases t;obtain⟨i,rfl⟩: ∃k:Nat,i=k:=⟨i.toNat,by omega⟩;obtain⟨j,rfl⟩: ∃k:Nat,j=k:=⟨j.toNat,by omega⟩;simp only[η] at*
 obtain⟨A,c,rfl,aR,aM⟩:=r.form;have av:(Ty.slice dA).is [] w (.slice A xs.length c) xs:=r.hQ.data adj (λ_ _ h=>by cases h);refine fV (args:=[.slice A xs.length c,.int .i64 i,.int .i64 j]) (N:=33) ξS rfl rfl rfl (aF (aT (l:=[0]) rfl (ax ah [0] [(0,.slice A xs.length c),(1,.int .i64 i),(2,.int .i64 j)] rfl ⟨rfl,rfl,rfl,trivial⟩ (aQ (aG (aF (aT (l:=[0,1,2,3,4,5]) rfl (ax ah [0,1,2,3,4] [(0,.slice A xs.length c),(1,.int .i64 i),(2,.int .i64 j),(8,.slice A xs.length c),(9,.int .i64 i),(10,.int .i64 j),(12,.int .i64 (xs.length:Int))] rfl ⟨rfl,rfl,rfl,rfl,rfl,rfl,rfl,trivial⟩ ?_))))))));refine Pw (l':=some (.i64,(i:Int))) (h':=some (.i64,(j:Int))) (m':=some (.i64,(xs.length:Int))) (ys:=(xs.take j).drop i) ah rfl rfl rfl rfl rfl rfl rfl rfl rfl rfl rfl rfl rfl av (by
  simp only[τ];unfold dL;rw[if_pos (by simp;omega)];simp) (λv1 h1=>?_)
 refine aQ (aG (aF (aF (aT (l:=[0,1,2]) rfl (ax ah [0,1,2] [(0,.slice A xs.length c),(1,.int .i64 i),(2,.int .i64 j),(16,.bool ((i:Int)==j))] rfl ⟨rfl,rfl,rfl,rfl,trivial⟩ (aQ (aG ?_)))))))
 by_cases aB:i=j
 ·subst aB;refine fe rfl (by simp) ?_;refine aF (aT (l:=[0,1]) rfl (ax ah [0,1] [(6,.slice A xs.length c)] rfl ⟨rfl,trivial⟩ (aQ (aG (dk (ff (ez rfl ⟨_,O,rfl,?_⟩)))))));rw[ξs];exact⟨r,Tr.refl _ _,hO,Sub.refl _,λ_ _ _=>rfl,λ_ _ h=>h⟩
 refine fz rfl (beq_eq_false_iff_ne.2 (by omega)) ?_;refine eo (aG ?_);obtain⟨cs,⟨ar,G⟩,Z⟩:=r.ex;rcases G with⟨_,aO⟩|⟨g,cap,cur,G,af,z,D,au,M,P⟩
 ·omega
 injection G with ae aP ao;subst ae;subst ao;have U:=r.mem g rfl;have o:cs.length=xs.length*11:=ar;have al:dA.n=11:=rfl;rw[al] at M P;have ai:bH dA O w (cs.take (i*11)) (xs.take i):=Z.take i;have I:bH dA O w (cs.drop (j*11)) (xs.drop j):=Z.drop j;have aC:(cs.take (i*11)).length=i*11:=by rw[ξk,o];omega
 have V:(cs.drop (j*11)).length=(xs.length-j)*11:=by rw[ξl,o];omega
 obtain⟨C,x⟩: ∃C,C=cs.take (i*11)++cs.drop (j*11):=⟨_,rfl⟩;have aj:bH dA O w C (xs.take i++xs.drop j):=by rw[x];exact ai.app I
 have s:C.length=(i+(xs.length-j))*11:=by rw[x,ν,aC,V];omega
 obtain⟨R,ak⟩: ∃R,R=cur.toList.drop (xs.length*11):=⟨_,rfl⟩;have Q:cur.toList=cs++R:=by
  rw[ak]
  conv=>rhs;rw[<-P]
  exact(ξs _ _).symm
 have aL:xs.length*11+R.length=c*11:=by
  have:=congrArg List.length Q;rw[υ,M] at this;simp only[ν,o] at this;omega
 have f:bz w g 42 (cs++R):=by
  unfold bz;rw[<-Q,Array.toArray_toList];exact z
 refine aF (aT (l:=[0,1,2]) rfl (ax ah [0,1,2] [(0,.slice (some ⟨g,0,none⟩) xs.length c),(1,.int .i64 i),(2,.int .i64 j),(7,.int .i64 (xs.length:Int))] rfl ⟨rfl,rfl,rfl,rfl,trivial⟩ (aQ (aG (aF (qU mixed [⟨20,[],[0]⟩,⟨21,[],[1]⟩,⟨22,[0,1],[]⟩,⟨23,[],[0]⟩,⟨24,[],[2]⟩,⟨25,[3,4],[]⟩] [SP.eq (.slice (some ⟨g,0,none⟩) xs.length c),SP.eq (.int .i64 i),SP.eq (.slice (some ⟨g,0,none⟩) i c),SP.eq (.slice (some ⟨g,0,none⟩) xs.length c),SP.eq (.int .i64 j),SP.eq (.slice (if c=j then some ⟨g,0,none⟩ else(some ⟨g,0,none⟩:Option Addr).map (·.add (j*11))) (xs.length-j) (c-j))] rfl rfl rfl rfl ⟨?_,?_,?_,?_,?_,?_,trivial⟩ ?_))))))
 ·intro a w2 p b d f m;exact cB ah ⟨b,d,bQ (E:=[(0,.slice (some ⟨g,0,none⟩) xs.length c)]) ⟨f 0 rfl _ rfl,trivial⟩⟩ rfl rfl rfl rfl rfl
 ·intro a w2 p b d f m;exact cB ah ⟨b,d,bQ (E:=[(1,.int .i64 i)]) ⟨f 1 rfl _ rfl,trivial⟩⟩ rfl rfl rfl rfl rfl
 ·intro a w2 p b d f m;exact Me (n:=xs.length) (c:=c) (hi:=i) ah ⟨b,d,bQ (E:=[(20,.slice (some ⟨g,0,none⟩) xs.length c),(21,.int .i64 i)]) ⟨(m 0 rfl _ _ rfl rfl),(m 1 rfl _ _ rfl rfl),trivial⟩⟩ rfl rfl rfl rfl rfl rfl rfl rfl rfl D (by omega)
 ·intro a w2 p b d f m;exact cB ah ⟨b,d,bQ (E:=[(0,.slice (some ⟨g,0,none⟩) xs.length c)]) ⟨f 0 rfl _ rfl,trivial⟩⟩ rfl rfl rfl rfl rfl
 ·intro a w2 p b d f m;exact cB ah ⟨b,d,bQ (E:=[(2,.int .i64 j)]) ⟨f 2 rfl _ rfl,trivial⟩⟩ rfl rfl rfl rfl rfl
 ·intro a w2 p b d f m;refine(nI (A:=some ⟨g,0,none⟩) (n:=xs.length) (c:=c) (lo:=j) ah ⟨b,d,bQ (E:=[(23,.slice (some ⟨g,0,none⟩) xs.length c),(24,.int .i64 j)]) ⟨(m 3 rfl _ _ rfl rfl),(m 4 rfl _ _ rfl rfl),trivial⟩⟩ rfl rfl rfl rfl rfl rfl rfl rfl rfl D (by omega)).weaken (λu ab z=>?_);exact z
 intro a ab f3 b d y F;have K:=f.b7 f3;obtain⟨ad,an,aq⟩: ∃ad,(if c=j then some ⟨g,0,none⟩ else(some ⟨g,0,none⟩:Option Addr).map (·.add (j*11)))=some ad/\dB ab ad (cs.drop (j*11)):=by
  by_cases L:c=j
  ·refine⟨⟨g,0,none⟩,by rw[if_pos L],?_⟩;rw[List.drop_eq_nil_of_le (by rw[o];omega)];intro k u hk;simp at hk
  ·refine⟨⟨g,j*11,none⟩,by rw[if_neg L,τ,eC,ξ3],?_⟩;intro k u hk;rw[eC,K.cell];rw[ξz] at hk;have aD:=(ε.1 hk).1;rw[ο aD];exact hk
 rw[an] at F;refine oh (E:=[(1,.int .i64 i),(2,.int .i64 j),(7,.int .i64 (xs.length:Int)),(22,.slice (some ⟨g,0,none⟩) i c),(25,.slice (some ad) (xs.length-j) (c-j))]) (l:=[6,7]) b d ⟨y 1 _ rfl rfl,y 2 _ rfl rfl,y 7 _ rfl rfl,(F 2 _ _ rfl rfl),(F 5 _ _ rfl rfl),trivial⟩ rfl ?_;have S:=V;refine Pu ah rfl rfl rfl rfl rfl rfl rfl rfl rfl rfl K aq S (λu hu=>I.one u hu) (by omega) (by simp only[List.size_toArray,ν,o];show(i+(xs.length-j))*11<=_;omega) (λw4 new aw az aE=>?_);have W:new.toList=C++(cs++R).drop (i*11+(xs.length-j)*11):=by
  rw[aE];simp only[ξu];rw[S,x,ξh,ξh]
  congr 1
  show List.take (i*11) (cs++R)=_;rw[List.take_append_of_le_length (by rw[o];omega)]
 have H:(xs.take i++xs.drop j).length=i+(xs.length-j):=by simp;omega
 refine ax ah [7] [(0,.slice (some ⟨g,0,none⟩) (i+(xs.length-j)) c),(1,.int .i64 i),(2,.int .i64 j),(7,.int .i64 (xs.length:Int))] rfl ⟨rfl,rfl,rfl,rfl,trivial⟩ (aQ (aG (aF (aT (l:=[0,1,2,3,4,5]) rfl (ax ah [0,1,2,3] [(0,.slice (some ⟨g,0,none⟩) (i+(xs.length-j)) c),(27,.slice (some ⟨g,0,none⟩) (i+(xs.length-j)) c),(29,.int .i64 ((i+(xs.length-j):Nat):Int)),(30,.int .i64 (xs.length:Int))] rfl ⟨rfl,rfl,rfl,rfl,trivial⟩ (Px (n:=i+(xs.length-j)) (c:=c) (lo:=i+(xs.length-j)) (hi:=xs.length) ah rfl rfl rfl rfl rfl rfl rfl rfl rfl rfl rfl (by omega) (by omega) D (by omega) ?_))))));obtain⟨q,aJ⟩: ∃q,xs.length-(i+(xs.length-j))=q+1:=⟨xs.length-(i+(xs.length-j))-1,by omega⟩;rw[aJ,eC,ξ3];have Y:new.size=c*11:=by
  rw[<-υ,W];simp only[ν,ξl,o,s];omega
 refine FD (k:=11) ah rfl rfl rfl rfl rfl rfl rfl rfl az rfl (λu hu=>aei hu (by decide)) (by rw[Y];show(i+(xs.length-j))*11+(q+1)*11<=c*11;omega) (λaK aa ay aA aH=>?_);have X:aa.toList=C++((ξg zD.cells (q+1)).toList++new.toList.drop ((i+(xs.length-j))*11+(q+1)*11)):=by
  rw[aH];simp only[ξu,ξh]
  congr 1
  show List.take ((i+(xs.length-j))*11) new.toList=_;rw[W];exact ξF s
 have aI:aa.size=c*11:=by
  rw[<-υ,X];simp only[ν,ξl,s,υ,size_zeroCells,Y];show _+((q+1)*11+_)=_;omega
 refine aQ (aG (aF (aT (l:=[0,1]) rfl (ax ah [0,1] [(6,.slice (some ⟨g,0,none⟩) (i+(xs.length-j)) c)] rfl ⟨rfl,trivial⟩ (aQ (aG (dk (ez rfl ⟨_,O,rfl,?_⟩))))))));have J:Fr [g] w aK:=(f3.more (by simp)).trans (aw.trans ay);have:=qZ (T:=dA) (e:=42) (B:=B) (n0:=xs.length) (zs:=xs.take i++xs.drop j) (cap:=c) hO U af J aA aI au (by rw[H];omega) (aj.tr (J.tr (λk hk=>by rw[ξd.1 hk];exact U))) (by
  rw[X];exact ξF (by rw[s,H];rfl))
 rw[H] at this;exact this
noncomputable def pr (xs:List ag) (us:Γb):Option (List ag):=match us with
 |[.int .i64 i,.int .i64 j]=>qK xs i j
 |_=>none
noncomputable def BJ:dI SS:=wD KK 13 42 pr
theorem UT {R:Type} (xs:List (an SS)) (h:AH SS) (k:Rs SS->AH SS->Γ->Option R) (z:R) (a:BJ.out xs h k=some z): ∃r h' dt,k r h' dt=some z/\dv KK κ 13 xs h r h' dt:=
 OV (e:=42) (tr:=pr) c8 (cG aY ξS rfl) (λO w v us xs zs hO b a=>by
  unfold pr at a;split at a
  ·exact acJ hO b a
  ·cases a) xs h k z a
noncomputable def oA (sh:Sh):bE SS:= {GD sh with F:=[12]}
theorem Ho:aj (oA shut) κ:=aj.XT Ry _
theorem ad1 {R:Type} (k:Rs SS->Option R):fh (oA ab) 300 7 [] [] (hW KK [4] k)=k (.ret (.s (KK.a_ 4 true))):=by kernel_rfl
noncomputable def Ir:fg SS:=gq KK 7 [] (λ{R} xs (k:Rs SS->Option R)=>k (.ret (.s (KK.a_ 4 true))))
noncomputable def yO (sh:Sh):bE SS:= {oA sh with H:=BJ::(oA sh).H}
theorem RD:aj (yO shut) κ:=aj.dw (c:=BJ) Ho UT
noncomputable def Hk (sh:Sh):bE SS:= {yO sh with C:=Ir::(yO sh).C}
theorem Hl:aj (Hk shut) κ:=aj.ho (c:=Ir) RD λxs k z _ a=>k6 (G:=oA ab) (rs:=[4]) (lV▸aj.all Ho rfl) (λ{R} xs k z h=>by
 match xs,h with
 | .nil,h=>exact⟨300,(ad1 k).trans h⟩) a
end Go.Proofs.YtoggponeookhbaaGreatDoor
end
section
namespace Go.Proofs.YtoggponeookhbaaGreatDoor
open Go.RowKit Go.Dc Go.Vx
variable (sh:Sh)
def CS (p0 b:Int) (p2 a:Γa) (c:Int) (d:Γa):AS SS:=⟨[(7,(vi p0)),(8,(vi b)),(10,(vd 31 p2)),(11,(vo 0)),(59,(vd 31 a)),(60,(vl a)),(61,(vi c))],[(rX 3 d)],0,none,false,[],[]⟩
def N' (p0 a:Int) (p2 b c:Γa):AS SS:=CS p0 a p2 b 0 c
def Ww (p0 b:Int) (p2 a:Γa) (a0:Bool) (c:Int) (a2:Γa):AS SS:= {CS p0 b p2 a p0 a2 with env:=[(62,(vb a0)),(7,(vi p0)),(8,(vi b)),(10,(vd 31 p2)),(11,(vo 0)),(59,(vd 31 a)),(60,(vl a)),(61,(vi c))]}
def sA (sh:Sh) (p0 c:Int) (p2 d:Γa) (e z0:Int) (a:Γa):T (Γa⊕(Bool×Int×Γa)):=.bf (decide (z0<c)) (.bd (app 8 a [z0]) λb=>.ok (.inl b))<|.bf (decide (z0>c)) (.bd (app 8 a [ζ.wrap (z0-1)]) λb=>.ok (.inl b))<|.ok (.inl a)
def rA (sh:Sh) (p0 d:Int) (p2 c:Γa) (b:Int) (a:Γa):T ((Bool×Int×Γa)):=.ok ((decide (b<(↑c.length:Int))),b,a)
def zw (p0 b:Int) (p2 a c:Γa):=b8 sh (sA sh p0 b p2 a) (rA sh p0 b p2 a) a c
def Th {R} (k:KX SS R) (p0 a:Int) (p2 b:Γa) (x:(Bool×Int×Γa)):Option R:=(λv=>k (.exit 0) (Ww p0 a p2 b v.1 v.2.1 v.2.2)) x
def K5:bc SS:=br 15 (λst=>(aU (aJ st 7 0)).bind λp0=>(aU (aJ st 8 0)).bind λa=>(bo 31 (aJ st 10 0)).bind λp2=>(bo 31 (aJ st 59 0)).bind λb=>(b3 st 0 3).bind λc=>some (p0,a,p2,b,c)) (u5 N') (u5 (zw shut)) (λk p=>Th k p.1 p.2.1 p.2.2.1 p.2.2.2.1)
theorem abx:LS KK κ aq Tryz.f4 4 15 K5:=
 aZ.cd (π:=Int×Int×Γa×Γa×Γa) (σ:=Γa) (aj.all Hl rfl) (aO.nil) rfl 60 (λp i a=>CS p.1 p.2.1 p.2.2.1 p.2.2.2.1 i a) (λp=>p.2.2.2.1) (λp=>p.2.2.2.2) (St:=λp=>sA shut p.1 p.2.1 p.2.2.1 p.2.2.2.1) (F:=λp=>rA shut p.1 p.2.1 p.2.2.1 p.2.2.2.1) (λp=>rfl)
  (λm p i a k=>by kernel_rfl) (λp x=>⟨_,_,λ_=>rfl⟩) (λp N C A O w a b=>cL b (t:=31) (sl:=59) rfl λv h=>h)
def tQ (p0 a:Γa) (p2:Int):AS SS:=⟨[(0,(vd 31 p0)),(1,(vo 0)),(12,(vl p0)),(13,(vi p2))],[(rX 3 a)],1,none,false,[],[]⟩
def NT (p0 a:Γa):AS SS:=tQ p0 a 0
def VH (p0 a:Γa):AS SS:= {tQ p0 a 0 with env:=[(4,(vb false))]}
def VI (p0 b:Γa) (a0:Bool) (a:Int):AS SS:=xe [(14,(vb a0))] (tQ p0 b a)
def sd (sh:Sh) (p0 b:Γa) (p2 z0:Int) (a:Unit):T (Unit⊕Unit⊕(Bool×Int)):=.bd (idx b p2) λc=>.bd (b[p2.toNat]?) λz2=>.bf (z0 !=z2) (.ok (.inr (.inl ())))<|.ok (.inl ())
def q8 (sh:Sh) (p0 b:Γa) (p2:Int) (a:Unit):T (Unit⊕(Bool×Int)):=.ok (.inr ((decide (p2<(↑p0.length:Int))),p2))
def y4 (p0 a:Γa):=b8 sh (sd sh p0 a) (q8 sh p0 a) p0 ()
def SD {R} (k:KX SS R) (p0 a:Γa) (x:Unit⊕(Bool×Int)):Option R:=(λx=>Sum.rec (λv=>k .ret (VH p0 a)) (λv=>k (.exit 0) (VI p0 a v.1 v.2)) x) x
def Ku:bc SS:=br 5 (λst=>(bo 31 (aJ st 0 0)).bind λp0=>(b3 st 0 3).bind λa=>some (p0,a)) (u2 NT) (u2 (y4 shut)) (λk=>u2 (SD k))
def Gl:=bL (Hk shut) aq Tryz.f4 4 [K5]
theorem Gm:a7 Gl κ:=bO (aj.all Hl rfl) Tryz.func4 rfl aY (by kernel_rfl) abx
theorem aa1:LS KK κ aq Tryz.f15 15 5 Ku:=
 aZ.cd Gm (aO.nil) rfl 60 (λp i a=>u2 tQ p i) (λp=>p.1) (λp=>()) (St:=u2 (sd shut)) (F:=u2 (q8 shut)) (λp=>rfl)
  (λm p i a k=>by kernel_rfl) (by rintro p (x|x)<;>exact⟨_,_,λ_=>rfl⟩) (λp N C A O w a b=>cL b (t:=31) (sl:=0) rfl λv h=>h)
def wT:=bL Gl aq Tryz.f15 15 [Ku]
theorem Q2:a7 wT κ:=bO Gm Tryz.func15 rfl aY (by kernel_rfl) aa1
def sJ (x:dH) (pk:Int):T Bool:=
 .bd (dL x.cA none (ξW (λx=>x.snd) (some (ζ,if 66<(↑x.cA.length:Int) then 66 else(↑x.cA.length:Int)))) none) λz0=>
  .bd (app 88 [] z0) λb=>
   .bd (pC sh (dH.mk b)) λz2=>
    .bf (z2.snd !=0) (
     .ok true)<|
    .bf ((↑b.length:Int)==0) (
     .ok true)<|
    .bd (nV (ξj.wrap pk) (ξj.wrap (↑b.length:Int))) λz3=>
     .bd (idx b (ζ.wrap z3)) λz4=>
      .bf (z4.aR !=0) (
       .ok true)<|
      .bd (app 88 [] b) λz5=>
       .bd (pr z5 [ξG ζ (ζ.wrap z3),ξG ζ (ζ.wrap (ζ.wrap z3+1))]) λe=>
        .bd (pC sh (dH.mk e)) λa=>
         .gd (N' a.snd (ζ.wrap z3) a.fst z2.fst [])<|
          .bd (zw sh a.snd (ζ.wrap z3) a.fst z2.fst []) λc=>
           .bf (a.snd==0) (
            .bf ((↑a.fst.length:Int) !=(↑c.2.2.length:Int)) (
             .ok false)<|
            .gd (NT a.fst c.2.2)<|
             .bd (y4 sh a.fst c.2.2) λd=>.cs d (λ_=>
              .ok false) λf=>
              .ok true)<|
           .ok false
def B6 (x:dH) (pk:Int):=sh.s _ (sJ sh x pk).val
theorem t_4:R2 KK wT 4 24 3 [4] (sJ shut) (cx KK 4):=by intro R x pk k;kernel_rfl
end Go.Proofs.YtoggponeookhbaaGreatDoor
end
section
namespace Go.Proofs.YtoggponeookhbaaGreatDoor
open Go.RowKit Go.Dc Go.Vx
section
variable {q:List ag} {l:Γa} {pl:ag->Option Nat} {k:Nat}
theorem Mi (b:q.length<=66) (hl:dn q l): ∀n,dn q (fM q l pl n)
 |0,x,a=>by simp[fM] at a
 |n+1,x,a=>by
  rw[nL] at a;rcases ξr.1 a with a|a
  ·exact Mi b hl n x a
  ·rcases ξr.1 a with a|a
   ·exact EU n q.length x ((qG (pl:=pl) b n).2.1.mem_iff.1 a)
   ·cases hn:l[n]? with
    |none=>rw[hn] at a;cases a
    |some y=>
     rw[hn] at a;simp at a;rw[a];exact hl y (ι hn)
theorem UC {xs:Γa}:(ei k xs).length<=xs.length:=by
 unfold ei;rw[μ];exact ξ1 _ _
theorem RN {o p2:Γa} {p0:Int} (hk:k<=1000) (s:o.length<=10000) (hi: ∀x∈o,0<=x/\x<=1000): ∃p q,zw ab p0 (k:Int) p2 o []=some (p,q,ei k o):=by
 refine⟨false,(o.length:Int),?_⟩;show bS (λi z a=>(sA ab p0 (k:Int) p2 o i z a).val) (λi a=>(rA ab p0 (k:Int) p2 o i a).val) 0 o (ei k (o.take 0))=_;refine vV (st:=λj=>ei k (o.take j)) (λj z f=>?_) ?_
 ·have r:=(ε.1 f).1;have l:=UC (k:=k) (xs:=o.take j);rw[ξk] at l;obtain⟨z0,t⟩:=hi z (ι f);have m:ei k (o.take (j+1))=ei k (o.take j)++if z=(k:Int) then[] else[ey k z]:=by
   rw[List.take_add_one,f,BG]
   congr 1
   unfold ei
   by_cases e:z=(k:Int)
   ·simp[e]
   ·simp[e]
  rw[m];unfold sA
  by_cases h1:z<(k:Int)
  ·have b:decide (z<(k:Int))=true:=decide_eq_true h1;have c:ey k z=z:=by unfold ey;rw[if_pos h1]
   simp only[T.aE,T.aN,T.aC,b,cond_true];rw[if_neg (by omega),c,ja (n:=100000) (by simp;omega) (by decide),γ]
  ·have b:decide (z<(k:Int))=false:=decide_eq_false h1
   by_cases g:z>(k:Int)
   ·have d:decide (z>(k:Int))=true:=decide_eq_true g;have c:ey k z=z-1:=by unfold ey;rw[if_neg h1]
    have h:ζ.wrap (z-1)=z-1:=cp (by omega) (by omega);simp only[T.aE,T.aN,T.aC,b,d,cond_true,cond_false,h];rw[if_neg (by omega),c,ja (n:=100000) (by simp;omega) (by decide),γ]
   ·have d:decide (z>(k:Int))=false:=decide_eq_false g;simp only[T.aE,T.aC,b,d,cond_false];rw[if_pos (by omega),ξE]
 ·unfold rA;simp only[T.aC,List.take_length];simp
theorem RH (o:Γa):y4 ab o o=some (.inr (false,(o.length:Int))):=by
 show bS (λi z a=>(sd ab o o i z a).val) (λi a=>(q8 ab o o i a).val) 0 o ()=_;refine vV (st:=λ_=>()) (λk z b=>?_) ?_
 ·unfold sd;simp only[T.aN,T.aE,T.aC,dq b,η,b,γ,bne_self_eq_false,cond_false]
 ·unfold q8;simp only[T.aC];simp
theorem UW (hk:k<q.length):pr q [ξG .i64 (k:Int),ξG .i64 ((k+1:Nat):Int)]=some (q.eraseIdx k):=by
 show qK q (k:Int) ((k+1:Nat):Int)=_;unfold qK;rw[if_pos ⟨by omega,by omega,by omega⟩,η,η,List.eraseIdx_eq_take_drop_succ]
end
theorem w4 {x:dH} (hw: ∀d∈x.cA,hd d.b9) (pk:Int):B6 ab x pk=some true:=by
 show(sJ ab x pk).val=_;obtain⟨q,h⟩: ∃q,q=x.cA.take 66:=⟨_,rfl⟩;have hl:q.length<=66:=by rw[h,ξk];omega
 have F:mv q:=λd b=>hw d (by rw[h] at b;exact List.mem_of_mem_take b);have A:dL x.cA none (ξW (λx=>x.snd) (some (ζ,if 66<(x.cA.length:Int) then 66 else(x.cA.length:Int)))) none=some q:=by
  rw[τ];show dL x.cA none (some (if 66<(x.cA.length:Int) then 66 else(x.cA.length:Int))) none=some q;rw[UJ x.cA 66 66 rfl,h]
 have m:app 88 ([]:List ag) q=some q:=ja (n:=100) (by simp;omega) (by decide);have r:dL x.cA none (some (if 66<(x.cA.length:Int) then 66 else(x.cA.length:Int))) none=some q:=A;unfold sJ;rcases adU hl F with⟨l,ss,c⟩|⟨e,g,he⟩
 rotate_left
 ·have a:(e !=0)=true:=by simpa using he
  simp only[T.aN,T.aE,T.aC,τ,r,m,γ,g,a,cond_true]
 have g:=Pe c;simp only[T.aN,T.aE,T.bM,T.cM,T.aC,τ,r,m,γ,g,bne_self_eq_false,cond_false];rcases ξe q.length with f|f
 ·have a:((q.length:Int)==0)=true:=by simp[f]
  simp only[a,cond_true]
 have a:((q.length:Int)==0)=false:=beq_eq_false_iff_ne.2 (by omega);have G:ξj.wrap (q.length:Int)=q.length:=jN (by omega) (by omega);have hp:0<=ξj.wrap pk:=by show(0:Int)<=pk%18446744073709551616;omega
 obtain⟨u,hu⟩:=Int.eq_ofNat_of_zero_le hp;have t:nV (ξj.wrap pk) (q.length:Int)=some ((u%q.length:Nat):Int):=by
  unfold nV;rw[if_neg (by omega),hu];rfl
 have hk:u%q.length<q.length:=Nat.mod_lt _ f;obtain⟨k,B⟩: ∃k,k=u%q.length:=⟨_,rfl⟩;rw[<-B] at t hk;have D:ζ.wrap (k:Int)=(k:Int):=cp (by omega) (by omega);have E:ζ.wrap ((k:Int)+1)=((k+1:Nat):Int):=wP (by omega);have b:q[k]? =some q[k]:=δ hk;simp only[a,cond_false,G,t,γ,D,dq b,E];cases y:(q[k].aR !=0) with
 |true=>simp only[cond_true]
 |false=>
  have p:e1 q k=false:=by unfold e1;rw[b];exact y
  have s:=J8 c p;have C:=aam c hk p;have j:=Pe C;rw[Mu s,μ,Mj hl s] at j;have J:=D7 (q:=q) (l:=l) (pl:=c3 q l ss) hl (l.length+1);have I:=c.ll;obtain⟨K,L,w⟩:=RN (k:=k) (p0:=(0:Int)) (p2:=ei k (fM q l (c3 q l ss) (l.length+1))) (o:=fM q l (c3 q l ss) (l.length+1)) (by omega) (by omega) λz H=>by
   have:=Mi (pl:=c3 q l ss) hl c.i (l.length+1) z H;omega
  have v: ∀n:Int,(n !=n)=false:=λn=>by simp
  simp only[cond_false,UW hk,γ,j,w,beq_self_eq_true,cond_true,v,RH]
end Go.Proofs.YtoggponeookhbaaGreatDoor
end
section
namespace Go.Dc
open Go.RowKit
structure er {α:Type} (P:Program) (t:TypeId) (T:Ty α) (D: {H:Type}->DataW H->α->Prop):Prop where
 cells:P.cellsOf t=T.n
 shape: ∀ {w:World} {b:Nat} {v:Value},ξ4 P w .any b t v->v=T.mk' v.cells.toList
 a_: ∀ {H:Type} {enc:TypeId×Value->H} {w:World} {held:Bool} {fuel:Nat} {cs:Γb} {d:DataW H} {p:List MemPlace},ξM enc P w 0 (λ_=>true) held fuel t cs=some (d,p)->w.noneFrozen p-> ∃x,T.rep [] w cs x/\D d x
section
variable {P:Program} {t:TypeId}
def cj (k:IntKind) {H:Type} (d:DataW H) (x:Int):Prop:=d= .lit (.int k x)/\(Lit.int k x).wf=true
def oo {H:Type} (d:DataW H) (x:Bool):Prop:=d= .lit (.bool x)
theorem D6 {k:IntKind} (hu:P.underlying t=some (.int k)) (a:P.cellsOf t=1):er P t (Ty.int k) (cj k) where
 cells:=a
 shape {w b v} h:=by
  simp only[ξ4,hu,ξT] at h;unfold Cell.ok at h;rw[hu] at h;cases v<;>simp_all [Ty.mk',Ty.int,ξv]
 a_ {H enc w held fuel cs d p} h _:=by
  obtain⟨n,rfl,c,hw⟩:=DataW.trod_int hu h;cases c;exact⟨n,rfl,rfl,hw⟩
theorem aae (hu:P.underlying t=some .bool) (a:P.cellsOf t=1):er P t Ty.bool oo where
 cells:=a
 shape {w b v} h:=by
  simp only[ξ4,hu,ξT] at h;unfold Cell.ok at h;rw[hu] at h;cases v<;>simp_all [Ty.mk',Ty.bool,ξv]
 a_ {H enc w held fuel cs d p} h _:=by
  obtain⟨b,rfl,c⟩:=DataW.trod_bool hu h;cases c;exact⟨b,rfl,rfl⟩
def hK {α:Type} (D: {H:Type}->DataW H->α->Prop) {H:Type}:List (DataW H)->List α->Prop
 |[],xs=>xs=[]
 |d::ds,xs=> ∃y ys,xs=y::ys/\D d y/\hK D ds ys
def kN {α:Type} (D: {H:Type}->DataW H->α->Prop) {H:Type} (d:DataW H) (xs:List α):Prop:=
 match d with
 | .nil=>xs=[]
 | .slice es _=>hK D es xs
 |_=>False
theorem hK.len {α:Type} {D: {H:Type}->DataW H->α->Prop} {H:Type}: ∀ {ds:List (DataW H)} {xs:List α},hK D ds xs->ds.length=xs.length
 |[],_,h=>by rw[show _=[] from h];rfl
 |_::_,_,⟨y,ys,h,_,a⟩=>by subst h;simp[hK.len a]
theorem hK.mem {α:Type} {D: {H:Type}->DataW H->α->Prop} {H:Type}: ∀ {ds:List (DataW H)} {xs:List α},hK D ds xs-> ∀x∈xs,∃d∈ds,D d x
 |[],_,h,x,a=>by rw[show _=[] from h] at a;cases a
 |d::_,_,⟨y,ys,h,h1,b⟩,x,a=>by
  subst h;rcases ξi.1 a with rfl|a
  ·exact⟨d,χ,h1⟩
  ·obtain⟨e,he,h⟩:=hK.mem b x a;exact⟨e,ξ6 _ he,h⟩
theorem kN.mem {α:Type} {D: {H:Type}->DataW H->α->Prop} {H:Type} {d:DataW H} {xs:List α} (h:kN D d xs): ∀x∈xs,∃e:DataW H,D e x:=by
 intro x a;unfold kN at h;split at h
 ·subst h;cases a
 ·obtain⟨e,_,he⟩:=hK.mem h x a;exact⟨e,he⟩
 ·exact h.elim
theorem BH {α:Type} {D: {H:Type}->DataW H->α->Prop} {H:Type} {R:Nat->α->Prop}: ∀(ds:List (DataW H)) (o:Nat),(∀k d,ds[k]? =some d-> ∃x,R (o+k) x/\D d x)-> ∃xs,hK D ds xs/\ ∀(k:Nat) x,xs[k]? =some x->R (o+k) x
 |[],_,_=>⟨[],rfl,λk x h=>by simp at h⟩
 |d::ds,o,h=>by
  obtain⟨x,f,c⟩:=h 0 d rfl;obtain⟨xs,h1,b⟩:=BH (R:=R) ds (o+1) (λk e he=>by
   have:=h (k+1) e (by simpa using he)
   rwa [show o+(k+1)=o+1+k by omega] at this)
  refine⟨x::xs,⟨x,xs,rfl,c,h1⟩,λk y a=>?_⟩;cases k with
  |zero=>simp at a;subst a;simpa using f
  |succ k=>
   have:=b k y (by simpa using a)
   rwa [show o+(k+1)=o+1+k by omega]
theorem H7 {w:World} {a:Addr} {u:Value} (h:w.cell? a=some u):a.block<w.heap.size:=by
 unfold World.cell? at h;split at h
 ·rename_i b;exact(Array.getElem?_eq_some_iff.1 b).1
 ·cases h
theorem TK (a:Addr) (n:Nat):(a.add n).off=a.off+n:=by unfold Addr.add;split<;>simp_all
theorem aag {α:Type} {e:TypeId} {T:Ty α} {D: {H:Type}->DataW H->α->Prop} (hu:P.underlying t=some (.slice e)) (s:P.cellsOf t=1) (he:er P e T D) (hn:0<T.n):er P t T.slice (kN D) where
 cells:=s
 shape {w b v} h:=by
  obtain⟨a,len,cap,rfl⟩:=WideShapes.okWide_slice hu h;rfl
 a_ {H enc w held fuel cs d p} h o:=by
  rcases DataW.trod_slice hu h with⟨rfl,c⟩|⟨a,len,cap,elems,rest,n,rfl,rfl,c,_,O,A,hlen,C,_,_⟩
  ·cases c;exact⟨[],⟨none,0,rfl,⟨ξD _,by unfold maxLen;omega⟩,λk x h=>by simp at h⟩,rfl⟩
  ·cases c;have key: ∀(k:Nat) (x:DataW H),(elems.map (·.1))[k]? =some x-> ∃y,(a.block<w.heap.size/\ ∃es,T.rep [] w es y/\kL w (a.add ((0+k)*T.n)) es)/\D x y:=by
    intro k x hk;have F:k<len:=by
     have:=(ε.1 hk).1;simpa[hlen] using this
    have m:elems[k]? =some elems[k]:=δ (by omega);have f:=C k F;rw[m] at f;simp only[Option.bind_eq_some_iff] at f;obtain⟨cs,B,K⟩:=f;have c:x=elems[k].1:=by
     rw[ξ,m] at hk;simpa using hk.symm
    obtain⟨y,M,N⟩:=he.a_ (d:=elems[k].1) (p:=elems[k].2) K (λb off hm=>o b off (ψ _ (ξC.2 ⟨elems[k],ω _ (φ _),hm⟩)));obtain⟨_,hl,g⟩:=World.cells?_some B;rw[he.cells] at hl g;have I:0<cs.length:=by omega
    refine⟨y,⟨?_,cs,M,λj u i=>?_,λj i=>?_⟩,by rw[c];exact N⟩
    ·have l:=g 0 (by omega);rw[δ I] at l;have:=H7 l;simpa[hg] using this
    ·have E:j<T.n:=by have:=(ε.1 i).1;omega
     rw[ξ3,g j E];exact i
    ·have G:(0+k)*T.n+j<(elems.length+rest.length)*P.cellsOf e:=by
      rw[he.cells,ξ3];have:(k+1)*T.n<=(elems.length+rest.length)*T.n:=Nat.mul_le_mul_right _ (by omega);rw[Nat.succ_mul] at this;omega
     have:=o a.block (a.off+((0+k)*T.n+j)) (ω _ (MemPlace.mem_row.2 ⟨_,G,rfl⟩));rw[add_add];simp only[ξN,hg,TK] at this ⊢;exact this
   obtain⟨xs,h1,q⟩:=BH (R:=λk y=>a.block<w.heap.size/\ ∃es,T.rep [] w es y/\kL w (a.add (k*T.n)) es) (elems.map (·.1)) 0 (λk x hk=>key k x hk);have L:xs.length=len:=by rw[<-h1.len];simpa using hlen
   refine⟨xs,⟨some a,cap,by rw[L],⟨by omega,A⟩,λk x hk=>?_⟩,h1⟩;obtain⟨r,es,J,z⟩:=q k x hk;exact⟨a,es,rfl,r,by simp,J,by simpa using z⟩
structure mf {α:Type} (P:Program) (o:Nat) (fs:List Field) (T:Ty α) (D: {H:Type}->List (DataW H)->α->Prop):Prop where
 a_: ∀ {H:Type} {enc:TypeId×Value->H} {w:World} {held:Bool} {fuel:Nat} {cs:Γb} {xs:List (DataW H×List MemPlace)},xs.length=fs.length->
  (∀(i:Nat) (f:Field),fs[i]? =some f->ξM enc P w 0 (λ_=>true) held fuel f.type ((cs.drop f.offset).take (P.cellsOf f.type))=xs[i]?)->w.noneFrozen (xs.flatMap (·.2))->
  ∃x,T.rep [] w ((cs.drop o).take T.n) x/\D (xs.map (·.1)) x
def eU {α:Type} (D: {H:Type}->DataW H->α->Prop) {H:Type} (ds:List (DataW H)) (x:α):Prop:= ∃d,ds=[d]/\D d x
def cJ {α β:Type} (D: {H:Type}->DataW H->α->Prop) (E: {H:Type}->List (DataW H)->β->Prop) {H:Type} (ds:List (DataW H)) (x:α×β):Prop:= ∃d r,ds=d::r/\D d x.1/\E r x.2
theorem ql {α:Type} {o:Nat} {f:Field} {T:Ty α} {D: {H:Type}->DataW H->α->Prop} (e:f.offset=o) (h:er P f.type T D):mf P o [f] T (eU D) where
 a_ {H enc w held fuel cs xs} hl hm c:=by
  obtain⟨y,rfl⟩: ∃y,xs=[y]:=List.length_eq_one_iff.1 hl;have g:=hm 0 f rfl;obtain⟨x,h1,a⟩:=h.a_ (d:=y.1) (p:=y.2) g (λb off hm=>c b off (by simpa using hm));rw[e,h.cells] at h1;exact⟨x,h1,y.1,rfl,a⟩
theorem iI {α β:Type} {o o':Nat} {f:Field} {fs:List Field} {T:Ty α} {S:Ty β} {D: {H:Type}->DataW H->α->Prop} {E: {H:Type}->List (DataW H)->β->Prop} (l:f.offset=o) (h:er P f.type T D) (m:o'=o+T.n) (q:mf P o' fs S E):
  mf P o (f::fs) (Ty.pair T S) (cJ D E) where
 a_ {H enc w held fuel cs xs} hl hm a:=by
  cases xs with
  |nil=>simp at hl
  |cons y r=>
   have s:=hm 0 f rfl;obtain⟨x,h1,c⟩:=h.a_ (d:=y.1) (p:=y.2) s (λb off hm=>a b off (by simp[hm]));obtain⟨z,e,j⟩:=q.a_ (xs:=r) (by simpa using hl) (λi g k=>by simpa using hm (i+1) g (by simpa using k)) (λb off hm=>a b off (by rw[List.flatMap_cons];exact ψ _ hm));rw[l,h.cells] at h1;refine⟨(x,z),⟨_,_,?_,h1,e⟩,y.1,r.map (·.1),rfl,c,j⟩;show(cs.drop o).take (T.n+S.n)=_;rw[List.take_add,List.drop_drop,m]
theorem aac {α:Type} {o:Nat} {fs:List Field} {T:Ty α} {D: {H:Type}->List (DataW H)->α->Prop} (h:mf P o fs T D):mf P o fs (Ty.single T) D where
 a_ hl hm a:=h.a_ hl hm a
def eV {α β:Type} (E: {H:Type}->List (DataW H)->α->Prop) (f:β->α) {H:Type} (d:DataW H) (x:β):Prop:= ∃ds,d= .agg ds/\E ds (f x)
theorem qm {α β:Type} {fs:Array Field} {T:Ty α} {E: {H:Type}->List (DataW H)->α->Prop} (f:β->α) (g:α->β) (a: ∀x,f (g x)=x) (hu:P.underlying t=some (.struct fs)) (j:P.cellsOf t=T.n) (e:T.agg=true) (h:mf P 0 fs.toList T E):er P t (T.fm f) (eV E f) where
 cells:=j
 shape {w b v} h:=by
  simp only[ξ4,hu] at h;obtain⟨cs,rfl,_⟩:=h;simp[Ty.mk',Ty.fm,e,ξv]
 a_ {H enc w held fuel cs d p} k l:=by
  obtain⟨xs,n,rfl,o,hl,q,hi⟩:=DataW.trod_struct hu k;cases o;obtain⟨x,h1,c⟩:=h.a_ (xs:=xs) (cs:=cs) (by simpa using q) (λi g m=>hi i g (by simpa using m)) l;rw[ξH,ξm (by omega)] at h1;exact⟨g x,by show T.rep [] w cs (f (g x));rw[a];exact h1,_,rfl,by rw[a];exact c⟩
theorem er.arg {α:Type} {T:Ty α} {D: {H:Type}->DataW H->α->Prop} (h:er P t T D) {H:Type} {enc:TypeId×Value->H} {w:World} {held:Bool} {v:Value} {d:DataW H} {p:List MemPlace} {b:Nat} (g:ξ4 P w .any b t v)
  (c:DataW.Trod enc P w 0 (λ_=>true) held t v d p) (f:w.noneFrozen p): ∃x,T.is [] w v x/\D d x:=by
 obtain⟨fuel,e⟩:=c;obtain⟨x,h1,a⟩:=h.a_ e f;exact⟨x,⟨_,h1,h.shape g⟩,a⟩
end
theorem HW {H:Type} {enc:TypeId×Value->H} {P:Program} {W d:World} (hl:laidOutB P=true): ∀ {c:List TypeId} {vs:Γb} {ds:List (DataW H)} {ps:List MemPlace},(∀t∈c,P.readableRec t=true/\t<P.types.size)->ξO enc P W 0 (λ_=>true) true c vs ds ps->Below W.heap.size W d->(∀x∈ps,x.block<W.heap.size)->
  ∀sp:Nat->Bool,(∀p∈ps,sp p.block=true)->ξO enc P d 0 sp true c vs ds ps
 |[],[],[],_,_,h,_,_,_,_=>h
 |_::_,_::_,_::_,_,b,⟨p,q,h1,j,e⟩,f,g,sp,i=>by
  subst e;refine⟨p,q,?_,HW hl (λt h=>b t (ξ6 _ h)) j f (λx a=>g x (ψ _ a)) sp (λx a=>i x (ψ _ a)),rfl⟩;exact WideElems.Trod_stays hl (b _ χ).1 (b _ χ).2 h1 (λx a=>f.same (g x (ω _ a))) (λx a=>i x (ω _ a))
end Go.Dc
end
section
namespace Go.Vx
open Go.RowKit Go.Dc
variable {P:Program} {t:TypeId}
def jR (k:IntKind) (n:Nat) {H:Type} (d:DataW H) (x:Γa):Prop:= ∃ds,d= .agg ds/\hK (cj k) ds x/\x.length=n
theorem aad {k:IntKind} {n:Nat} {e:TypeId} (hu:P.underlying t=some (.array n e)) (o:P.cellsOf t=n) (he:er P e (Ty.int k) (cj k)):er P t (jb k n) (jR k n) where
 cells:=o
 shape {w b v} s:=by
  simp only[ξ4,hu] at s;obtain⟨cs,rfl,_⟩:=s;simp[Ty.mk',jb,ξv]
 a_ {H enc w held fuel cs d p} f B:=by
  obtain⟨xs,m,rfl,g,hl,D,hi⟩:=DataW.trod_array hu f;cases g;have h1:P.cellsOf e=1:=he.cells;have key: ∀(j:Nat) (x:DataW H),(xs.map (·.1))[j]? =some x-> ∃y,(cs[0+j]? =some (.int k y))/\cj k x y:=by
   intro j x a;have C:j<xs.length:=by
    have:=(ε.1 a).1;simpa using this
   have l:xs[j]? =some xs[j]:=δ C;have g:x=xs[j].1:=by
    rw[ξ,l] at a;simpa using a.symm
   have q:=hi j (by omega);rw[l] at q;obtain⟨y,c,E⟩:=he.a_ (d:=xs[j].1) (p:=xs[j].2) q (λb off hm=>B b off (ξC.2 ⟨xs[j],φ _,hm⟩));refine⟨y,?_,by rw[g];exact E⟩;rw[h1,Nat.mul_one] at c;have c:(cs.drop j).take 1=[.int k y]:=c;rw[ξ3];cases f:cs.drop j with
   |nil=>rw[f] at c;simp at c
   |cons u r=>
    rw[f] at c;have:u= .int k y:=by simpa using c
    subst this;have:=ξz (xs:=cs) (i:=j) (j:=0);rw[f] at this;simpa using this.symm
  obtain⟨ys,h,A⟩:=BH (R:=λj y=>cs[j]? =some (.int k y)) (xs.map (·.1)) 0 (λj x a=>key j x a);have z:ys.length=n:=by rw[<-h.len];simpa using D
  refine⟨ys,⟨z,?_⟩,_,rfl,h,z⟩;refine ξf λj=>?_;rw[ξ];cases a:ys[j]? with
  |none=>
   rw[θ] at a;rw[List.getElem?_eq_none (by rw[hl,o];omega)];rfl
  |some y=>
   have:=A j y a;rw[ξ3] at this;exact this
end Go.Vx
end
section
namespace Go.Proofs.YtoggponeookhbaaGreatDoor
open Go.RowKit Go.Dc Go.Vx
theorem nK:er κ 35 (Ty.int .u64) (cj .u64):=D6 Tryz.underlying35 (by kernel_rfl)
theorem Z9:er κ 36 (jb .u64 4) (jR .u64 4):=aad Tryz.underlying36 (by kernel_rfl) nK
theorem Z_:er κ 38 iP (eV (cJ (cj .u64) (eU (jR .u64 4))) (λd:cN=>(d.bm,d.fArgs))):=qm (λd:cN=>(d.bm,d.fArgs)) (λp=>⟨p.1,p.2⟩) (λ_=>rfl) Tryz.underlying38 (by kernel_rfl) rfl (iI rfl nK rfl (ql rfl Z9))
theorem qk:er κ 3 (Ty.int .i64) (cj .i64):=D6 Tryz.underlying3 (by kernel_rfl)
theorem Z8:er κ 27 (Ty.int .i64) (cj .i64):=D6 Tryz.underlying27 (by kernel_rfl)
theorem aaa:er κ 40 jK (eV (cJ (cj .i64) (eU (cj .u64))) (λd:cX=>(d.cq,d.cD))):=qm (λd:cX=>(d.cq,d.cD)) (λp=>⟨p.1,p.2⟩) (λ_=>rfl) Tryz.underlying40 (by kernel_rfl) rfl (iI rfl Z8 rfl (ql rfl nK))
theorem aab:er κ 42 dA (eV (cJ (cj .i64) (cJ (eV (cJ (cj .u64) (eU (jR .u64 4))) (λd:cN=>(d.bm,d.fArgs))) (cJ (eV (cJ (cj .i64) (eU (cj .u64))) (λd:cX=>(d.cq,d.cD))) (cJ (cj .i64) (cJ (cj .i64) (eU (cj .i64))))))) (λd:ag=>(d.cO,d.b9,d.cn,d.bP,d.aR,d.bK))):=qm (λd:ag=>(d.cO,d.b9,d.cn,d.bP,d.aR,d.bK)) (λp=>⟨p.1,p.2.1,p.2.2.1,p.2.2.2.1,p.2.2.2.2.1,p.2.2.2.2.2⟩) (λ_=>rfl) Tryz.underlying42 (by kernel_rfl) rfl (iI rfl qk rfl (iI rfl Z_ rfl (iI rfl aaa rfl (iI rfl qk rfl (iI rfl qk rfl (ql rfl qk))))))
theorem Z6:er κ 22 (Ty.slice dA) (kN (eV (cJ (cj .i64) (cJ (eV (cJ (cj .u64) (eU (jR .u64 4))) (λd:cN=>(d.bm,d.fArgs))) (cJ (eV (cJ (cj .i64) (eU (cj .u64))) (λd:cX=>(d.cq,d.cD))) (cJ (cj .i64) (cJ (cj .i64) (eU (cj .i64))))))) (λd:ag=>(d.cO,d.b9,d.cn,d.bP,d.aR,d.bK)))):=aag Tryz.underlying22 (by kernel_rfl) aab (by decide)
theorem Z7:er κ 24 qN (eV (eU (kN (eV (cJ (cj .i64) (cJ (eV (cJ (cj .u64) (eU (jR .u64 4))) (λd:cN=>(d.bm,d.fArgs))) (cJ (eV (cJ (cj .i64) (eU (cj .u64))) (λd:cX=>(d.cq,d.cD))) (cJ (cj .i64) (cJ (cj .i64) (eU (cj .i64))))))) (λd:ag=>(d.cO,d.b9,d.cn,d.bP,d.aR,d.bK))))) (λd:dH=>d.cA)):=qm (λd:dH=>d.cA) (λp=>⟨p⟩) (λ_=>rfl) Tryz.underlying24 (by kernel_rfl) rfl (aac (ql rfl Z6))
theorem Z':er κ 4 Ty.bool oo:=aae Tryz.underlying4 (by kernel_rfl)
theorem Z5:er κ 115 gI (eV (cJ (cj .u64) (cJ (cj .u64) (cJ oo (eU (cj .u64))))) (λd:ai=>(d.aa,d.aW,d.bl,d.b_))):=qm (λd:ai=>(d.aa,d.aW,d.bl,d.b_)) (λp=>⟨p.1,p.2.1,p.2.2.1,p.2.2.2⟩) (λ_=>rfl) Tryz.underlying115 (by kernel_rfl) rfl (iI rfl nK rfl (iI rfl nK rfl (iI rfl Z' rfl (ql rfl nK))))
def zK (P:Program) (w:World) (n:String) (d:DataW Unit):Prop:= ∃g t cs fuel p,P.globalNamed n=some g/\(P.globals[g]?).map (·.type)=some t/\w.var? P n=some cs/\ξM (λ_=>()) P w 0 (λ_=>true) false fuel t cs.toList=some (d,p)/\w.noneFrozen p/\w.noneFrozen (ξR ⟨g,0,none⟩ cs.size)
theorem J9 {P:Program} {w:World}: ∀ {l:List (String×DataW Unit)} {ps:List MemPlace},DataW.LaidVars P w l ps->w.noneFrozen ps-> ∀n d,(n,d)∈l->zK P w n d
 |[],_,_,_,_,_,hm=>by cases hm
 |(o,m)::r,ps,h,c,n,d,hm=>by
  obtain⟨g,t,cs,fuel,p,q,h1,f,i,j,k,rfl⟩:=h;rcases ξi.1 hm with e|e
  ·cases e;exact⟨g,t,cs,fuel,p,h1,f,i,j,λb off a=>c b off (by simp[a]),λb off a=>c b off (by simp[a])⟩
  ·exact J9 k (λb off a=>c b off (by simp[a])) n d e
theorem Y9 {P:Program} {w:World} {l:List (String×DataW Unit)} (h:laidMet P l w) {n:String} {d:DataW Unit} (hm:(n,d)∈l):zK P w n d:=by
 obtain⟨ps,g,_,f⟩:=h;refine J9 g (λb off a=>?_) n d hm;obtain⟨⟨c,t,e⟩,_⟩:=f b off a;unfold ξN;simp[e]
theorem Y_ {α:Type} {P:Program} {w:World} {n:String} {d:DataW Unit} {g t:Nat} {T:Ty α} {D: {H:Type}->DataW H->α->Prop} (c:P.globalNamed n=some g) (o:(P.globals[g]?).map (·.type)=some t) (h:er P t T D) (s:0<T.n) (hl:zK P w n d):
  ∃x,T.ptr.is [] w (.pointer (some ⟨g,0,none⟩)) x/\D d x:=by
 obtain⟨q,t',cs,fuel,p,h1,f,i,k,hp,m⟩:=hl;cases c.symm.trans h1;cases o.symm.trans f;obtain⟨x,a,l⟩:=h.a_ k hp;have b: ∀j,w.cell? ⟨g,j,none⟩=cs.toList[j]? :=λj=>by
  have:=World.var?_cell c i j;simpa using this
 have hl:=T.len a;have e: ∀j,(⟨g,0,none⟩:Addr).add j=⟨g,j,none⟩:=λj=>by unfold Addr.add;split<;>simp_all
 refine⟨x,⟨_,⟨⟨g,0,none⟩,_,rfl,?_,by simp,a,λj u hu=>?_,λj r=>?_⟩,rfl⟩,l⟩
 ·obtain⟨u,hu⟩: ∃u,cs.toList[0]? =some u:=⟨_,δ (by omega)⟩;rw[<-b] at hu;exact H7 hu
 ·rw[e,b];exact hu
 ·rw[e];refine m g j ?_;unfold ξR
  simp_all
theorem Yq {H:Type} {d:DataW H} {x:Int} (h:cj .u64 d x):0<=x/\x<18446744073709551616:=by
 have:=h.2;simp[Lit.wf,IntKind.min,IntKind.max,IntKind.signed,IntKind.bits] at this;omega
theorem XW {x:ai} (h:eV (cJ (cj .u64) (cJ (cj .u64) (cJ oo (eU (cj .u64))))) (λd:ai=>(d.aa,d.aW,d.bl,d.b_)) (ξ5 (H:=Unit)) x):x=tE:=by
 obtain⟨a,b,c,d⟩:=x;simp[ξ5,eV,cJ,eU,cj,oo] at h;obtain⟨d1,l,⟨rfl,rfl⟩,⟨h1,_⟩,d2,m,e,⟨i,_⟩,d3,n,f,j,d4,g,k,_⟩:=h;simp at e;obtain⟨rfl,rfl⟩:=e;simp at f;obtain⟨rfl,rfl⟩:=f;simp at g;subst g;simp at h1 i j k;subst h1;subst i;subst j;subst k;rfl
theorem XZ {O:Γ} {w:World} (h:gI.ptr.is O w (.pointer (some ⟨0,0,none⟩)) tE):cC KK O w:=by
 intro g t x a;show(SS.ty t).ptr.is O w (.pointer (some ⟨g,0,none⟩)) x;have a:Cr g=some ⟨t,x⟩:=a;unfold Cr at a;split at a
 ·cases a;exact h
 ·cases a
theorem T4 {f:Nat} {args:List (an SS)} {r:Bool} (c:eA KK κ f args (.ret (.s (KK.a_ 4 r)))) {A:Pl} {O:Γ} {w:World} {vs:Γb} (d:cy A O w args vs) (hO:OB O w) (b:cC KK O w):Calls κ f vs.toArray w (gj (n3 Ty.bool) O w r):=by
 refine(c.2 A O w vs d hO b).mono ?_;rintro e w' ⟨⟨v,rfl,h1,_⟩,a⟩;cases h1;exact⟨_,rfl,jc.2 rfl,a⟩
theorem OW {l:Γa} (h: ∀x∈l,c9 x) (i:Nat):c9 (ay l i):=by
 unfold ay;cases e:l[i]? with
 |none=>exact⟨by simp,by simp⟩
 |some x=>exact h x (ι e)
theorem aec {H:Type} {d:DataW H} {l:Γa} (h:jR .u64 4 d l):(∀x∈l,c9 x)/\l.length=4:=by
 obtain⟨ds,_,a,hl⟩:=h;refine⟨λx b=>?_,hl⟩;obtain⟨e,_,he⟩:=a.mem x b;exact Yq he
theorem aed {H:Type} {d:DataW H} {x:dH} (h:(eV (eU (kN (eV (cJ (cj .i64) (cJ (eV (cJ (cj .u64) (eU (jR .u64 4))) (λd:cN=>(d.bm,d.fArgs))) (cJ (eV (cJ (cj .i64) (eU (cj .u64))) (λd:cX=>(d.cq,d.cD))) (cJ (cj .i64) (cJ (cj .i64) (eU (cj .i64))))))) (λd:ag=>(d.cO,d.b9,d.cn,d.bP,d.aR,d.bK))))) (λd:dH=>d.cA)) d x): ∀z∈x.cA,hd z.b9:=by
 obtain⟨ds,rfl,d1,rfl,c⟩:=h;intro z f;obtain⟨e,es,rfl,d2,i,rfl,_,d3,j,rfl,b,_⟩:=c.mem z f;obtain⟨g,rfl,d4,k,rfl,_,d5,rfl,a⟩:=b;have:=(aec a).1;exact⟨OW this 0,OW this 1⟩
theorem RQ {x:dH} (h: ∀z∈x.cA,hd z.b9) (pk:Int):B6 ab x pk=some true:=w4 h pk
theorem Y7 {O:Γ} {w:World} (hO:OB O w) (c:gI.ptr.is O w (.pointer (some ⟨0,0,none⟩)) tE) {v0 v1:Value} {x0:dH} {x1:Int} (a:qN.is O w v0 x0) (h1:(Ty.int .i64).is O w v1 x1) {r:Bool} (h:B6 ab x0 x1=some r):Calls κ 4 #[v0,v1] w (gj (n3 Ty.bool) O w r):=by
 rw[<-lV] at h;have b:eA KK κ 4 [KK.a_ 24 x0,KK.a_ 3 x1] (.ret (.s (KK.a_ 4 r))):=vZ (G:=wT) Q2 (kf:=λ{R} (k:Rs SS->Option R)=>(λr=>k (.ret (.s (KK.a_ 4 r))))) (λk=>t_4 x0 x1 k) rfl (tD h) λk=>rfl;exact T4 b (A:=ve) (vs:=[v0,v1]) ⟨v0,_,rfl,gX c8 (t:=24) rfl rfl a,v1,_,rfl,gX c8 (t:=3) rfl rfl h1,rfl⟩ hO (XZ c)
end Go.Proofs.YtoggponeookhbaaGreatDoor
end
