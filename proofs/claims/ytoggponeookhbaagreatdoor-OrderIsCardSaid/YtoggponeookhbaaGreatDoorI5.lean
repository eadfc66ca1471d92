/- A part of the proof that OrderIs returns true for every input: the machine of values, its soundness, the program as plain functions, the law. Conditions: those of the given rows. -/
import Derived.Test.YtoggponeookhbaaGreatDoorI4
import Derived.Deep.QuietTactic
import Derived.BigQuiet
import Derived.Shelf.SlSortCmp.Whole1
import Derived.Shelf.SlSortCmp.NoneTotal
set_option linter.unusedVariables false
set_option linter.unusedSimpArgs false
noncomputable section
set_option maxRecDepth 1000000
set_option maxHeartbeats 12000000
open Array renaming getElem?_toList→ξr,getElem?_eq_getElem→ξu,getElem?_eq_some_iff→ξI,length_toList→ζ8,getElem?_eq_none→ζq,getElem?_modify→ζy,modify→ηl
open Bool renaming and_eq_true→ι,not_true→μ,not_false→ξ2,eq_iff_iff→ξd,false_eq_true→ξz,not_eq_true'→ξY,not_eq_true→ζ3,false_or→ζ4,false_ne_true→ζb,or_eq_true→ζu,not_not→ζx,true_and→ηc,or_false→ηe,or_self→ηi
open Go.ByteArray renaming toList_eq→ζD
open Go.Calls renaming quiet_of_same→ζE
open Go.IntKind renaming i64→γ,u64→ο,signed→η9,wrap→ηn,bits→ηo
open Go.Lib renaming bitLen→ζP,bitLen→ηf
open Go.Proofs.SlLaysF renaming n6→ηq
open Go.Proofs.Tryz renaming prog→κ,f95→ζK,ntmps37→ζR,f58→ζX,func37→η3,f123→ηj,sizeOf3→ηk,func184→ηm,func57→ηu,func36→ηv,func56→ηx,func94→ηy,isAgg3→ηz,f12→ηA
open Go.Sort renaming putCells→ξL
open Go.Value renaming int→ζz
open Go.World renaming cell?→ηw
open Int renaming toNat_natCast→θ,fdiv_eq_ediv_of_nonneg→ζ9,toNat_of_nonneg→ζG
open Int.ofNat renaming inj→ζN
open List renaming getElem?_eq_getElem→ε,length_append→ζ,getElem?_eq_some_iff→η,append_assoc→ν,mem_singleton→ξ,pairwise_iff_getElem→τ,pairwise_append→υ,pairwise_cons→φ,getElem?_append_right→χ,mem_append→ψ,length_singleton→ω,mem_filter→ξ0,take_append_drop→ξ1,drop_eq_getElem_cons→ξ4,getElem_mem→ξ5,append_nil→ξ6,flatten_cons→ξ7,mem_of_find?_eq_some→ξ8,mem_cons_of_mem→ξ9,mem_cons→ξa,size_toArray→ξb,mem_of_getElem?→ξc,all_eq_true→ξe,length_filter_le→ξf,length_cons→ξg,length_pos_iff→ξh,nil_append→ξi,eq_nil_of_length_eq_zero→ξj,cons_append→ξk,take_add_one→ξl,getElem_of_mem→ξm,flatten_append→ξn,flatten_nil→ξo,mem_cons_self→ξq,mem_take_iff_getElem→ξs,takeWhile_cons→ξv,filter_cons→ξw,length_drop→ξx,drop_eq_nil_of_le→ξy,find?_some→ξB,length_nil→ξE,ext_getElem?→ξG,getElem?_map→ξH,mem_of_mem_take→ξJ,length_take→ξM,filterMap_cons→ξN,pairwise_singleton→ξP,findIdx?_eq_some_iff_getElem→ξQ,length_map→ξR,filter_append→ξS,getElem?_take→ξT,exists_of_findSome?_eq_some→ξU,takeWhile_sublist→ξV,take_of_length_le→ξX,getElem?_set→ξZ,pairwise_map→ζ0,map_append→ζ5,find?_cons→ζ6,dropWhile_cons→ζ7,isPrefixOf_iff_prefix→ζa,mem_filterMap→ζc,findIdx?_cons→ζd,mem_range→ζe,getElem?_append_left→ζf,any_eq_false→ζg,getElem_take→ζh,getElem_drop→ζi,take_sublist→ζj,drop_sublist→ζk,map_take→ζl,any_eq_true→ζm,mem_flatten→ζo,filter_eq_nil_iff→ζp,getElem_singleton→ζr,length_eq_one_iff→ζt,mem_map→ζv,set_append_right→ζw,perm_append_comm→ζB,range_eq_range'→ζC,set_cons_zero→ζI,getElem?_drop→ζL,getElem_map→ζT,drop_length→ζU,take_length→ζV,perm_middle→ζW,foldl_cons→ζY,map_id→ζZ,range_succ→η0,take_left→η5,drop_left→η6,replicate→η7,drop_drop→η8,drop_zero→ηa,map_cons→ηd,map_drop→ηg,map_map→ηh,flatten→ηp,range'→ηr,length→ηs
open List.Pairwise renaming nil→ζ1,and→ζQ
open List.Perm renaming append_left→ξF,refl→ζ2,append_right→ζs,trans→η4
open Nat renaming le_refl→ξ3,zero_add→ξp,zero_le→ξt,lt_or_eq_of_le→ξA,le_trans→ξC,sub_self→ξO,add_zero→ζA,mul_one→ζF,add_sub_cancel→ζH,add_assoc→ζM,lt_trichotomy→ζO,succ_pos→ζS
open Option renaming bind_some→δ,map_some→ξD,getD_some→ξK,map_eq_none_iff→ξW,getD_none→ζn,isSome_none→ζJ,map→ηb
open Sum renaming rec→η2
open UInt8 renaming ofNat→η1,toNat→ηt
section
namespace Go.Proofs.YtoggponeookhbaaGreatDoor
open Go.RowKit Go.Dc Go.Vx
theorem YE {a b:ah} (h:fP a b=true):a=b:=by
 obtain⟨c,a2,a3,a4⟩:=a;obtain⟨d,e,f,g⟩:=b;simp[fP] at h;simp[h]
section
variable {α:Type} {q:α->α->Bool} {A:α->Bool} {l:List α}
theorem qy (m: ∀a b c,q a b=true->q b c=true->q a c=true):
  allI (λi z=>A z&&fG q l i z) 0 l=true↔(∀z∈l,A z=true)/\l.Pairwise λa b=>q a b=true:=by
 rw[lj];constructor
 ·intro h;have h1: ∀z∈l,A z=true:=λz n=>by
   obtain⟨k,hk⟩:=List.getElem?_of_mem n;have:=h k z hk;rw[ι] at this;exact this.1
  have e: ∀k (hk:k+1<l.length),q l[k] l[k+1]=true:=λk hk=>by
   have:=h (k+1) l[k+1] (ε hk);rw[ι] at this;have:=this.2;unfold fG at this;rw[ξp,show(k+1==0)=false from rfl,ζ4,ζH,ε (by omega)] at this;exact this
  refine⟨h1,τ.2 λi j hi f p=>?_⟩;obtain⟨d,rfl⟩: ∃d,j=i+1+d:=⟨j-(i+1),by omega⟩
  induction d with
  |zero=>exact e i f
  |succ d o=>exact m _ _ _ (o (by omega) (by omega)) (e (i+1+d) f)
 ·rintro ⟨h1,e⟩ k z hk;rw[ι];refine⟨h1 z (ξc hk),?_⟩;unfold fG;rw[ξp];cases k with
  |zero=>rfl
  |succ k=>
   have g:=(η.1 hk).1;rw[show(k+1==0)=false from rfl,ζ4,ζH,ε (by omega)];have:=τ.1 e k (k+1) (by omega) g (by omega);obtain⟨_,rfl⟩:=η.1 hk;exact this
theorem take_drop (p:α->Bool) (l:List α):l.takeWhile p++l.dropWhile p=l:=List.takeWhile_append_dropWhile
theorem kC {lt:α->Bool} {x z:α}:z∈b3 lt x l↔z=x\/z∈l:=by
 unfold b3
 conv=>rhs;rw[<-take_drop lt l]
 simp only[ψ,ξa];constructor
 ·rintro (h|h|h)
  ·exact .inr (.inl h)
  ·exact .inl h
  ·exact .inr (.inr h)
 ·rintro (h|h|h)
  ·exact .inr (.inl h)
  ·exact .inl h
  ·exact .inr (.inr h)
theorem Mf {lt:α->Bool} {x:α}:(b3 lt x l).length=l.length+1:=by
 unfold b3
 conv=>rhs;rw[<-take_drop lt l]
 simp only[ζ,ξg];omega
theorem Mv {p:α->Bool} {z:α} (h:z∈l.takeWhile p):p z=true:=by
 have:=List.all_takeWhile (p:=p) (l:=l);rw[ξe] at this;exact this z h
theorem V4 {p:α->Bool} {z:α} {r:List α} (h:l.dropWhile p=z::r):p z=false:=by
 have:=List.head?_dropWhile_not p l;rw[h] at this;simpa using this
theorem EL {R:α->α->Prop} {lt:α->Bool} {x:α} (q:l.Pairwise R) (j: ∀a b c,R a b->R b c->R a c) (h1: ∀z∈l,lt z=true->R z x) (n: ∀z∈l,lt z=false->R x z):(b3 lt x l).Pairwise R:=by
 unfold b3;have o: ∀z,z∈l.takeWhile lt->z∈l:=λz d=>(ξV lt).mem d;have p: ∀z,z∈l.dropWhile lt->z∈l:=λz d=>(List.dropWhile_sublist lt).mem d;have f:=q;rw[<-take_drop lt l,υ] at f;have k: ∀z∈l.dropWhile lt,R x z:=by
  intro z d;cases e:l.dropWhile lt with
  |nil=>rw[e] at d;cases d
  |cons y r=>
   have m:=n y (p y (by rw[e];exact ξq)) (V4 e);rw[e] at d;rcases ξa.1 d with rfl|d
   ·exact m
   ·have:=f.2.1;rw[e,φ] at this;exact j _ _ _ m (this.1 z d)
 rw[υ,φ];refine⟨f.1,⟨k,f.2.1⟩,λa h b g=>?_⟩;have i:=h1 a (o a h) (Mv h);rcases ξa.1 g with rfl|g
 ·exact i
 ·exact j _ _ _ i (k b g)
theorem lG {p:α->Bool}:l.find? p=none↔ ∀z∈l,p z=false:=by
 rw[List.find?_eq_none];constructor
 ·intro h z a;have:=h z a;cases e:p z with
  |true=>exact absurd e this
  |false=>rfl
 ·intro h z a;rw[h z a];exact ζb
theorem YX {p:α->Bool} {z:α} (hu: ∀a∈l,∀b∈l,p a=true->p b=true->a=b):l.find? p=some z↔z∈l/\p z=true:=by
 constructor
 ·intro h;exact⟨ξ8 h,ξB h⟩
 ·rintro ⟨h1,c⟩;cases e:l.find? p with
  |none=>rw[lG.1 e z h1] at c;cases c
  |some y=>rw[hu y (ξ8 e) z h1 (ξB e) c]
theorem EN {R:α->α->Prop} (d:l.Pairwise R) {a b:α} (e:a∈l) (f:b∈l):a=b\/R a b\/R b a:=by
 obtain⟨i,hi,rfl⟩:=ξm e;obtain⟨j,c,rfl⟩:=ξm f;rcases ζO i j with h|h|h
 ·exact .inr (.inl (τ.1 d i j hi c h))
 ·subst h;exact .inl rfl
 ·exact .inr (.inr (τ.1 d j i c hi h))
theorem Py {key:α->Int} {n:Nat}: ∀ {l:List α} {a:Int},l.Pairwise (λx y=>key x<key y)->(∀z∈l,a<key z/\key z<=a+n)->l.length<=n
 |[],_,_,_=>by simp
 |z::r,a,b,h=>by
  rw[φ] at b;obtain⟨e,f⟩:=h z ξq;have hn:0<n:=by omega
  obtain⟨m,hm⟩: ∃m:Nat,(m:Int)=a+n-key z:=⟨(a+n-key z).toNat,by omega⟩;have:=Py (n:=m) (a:=key z) b.2 λy c=>by
   have h1:=b.1 y c;have d:=h y (ξ9 _ c);omega
  simp only[ξg];omega
end
def dv (l:List ah) (pid:Int):Prop:= ∃x∈l,x.aa=pid/\x.bp=false
structure Ig (p:bI) (x:ah):Prop where
 i1:1<=ix x.aa
 i2:ix x.aa<=16
 gen:x.aa/64+1=aE p.aM (ix x.aa-1).toNat
 self:x.aW≠x.aa
 par:x.aW=0\/dv p.ag x.aW
 dead:x.bp=true->x.aW≠0
 live:x.bp=false->x.cg=0
structure dE (p:bI):Prop where
 gl:p.aM.length=16
 kr: ∀i,i<16->0<=aE p.aM i/\aE p.aM i<=65536
 u: ∀x∈p.ag,dd x.aa
 one: ∀x∈p.ag,Ig p x
 ord:p.ag.Pairwise λa b=>ix a.aa<ix b.aa
 head:p.ag.head? =some ⟨1,0,false,0⟩
theorem vU {l:List ah} (e:l.Pairwise λa b=>ix a.aa<ix b.aa) {a b:ah} (c:a∈l) (d:b∈l) (h:a.aa=b.aa):a=b:=by
 rcases EN e c d with h1|h1|h1
 ·exact h1
 ·rw[h] at h1;omega
 ·rw[h] at h1;omega
theorem EC {l:List ah} (f:l.Pairwise λa b=>ix a.aa<ix b.aa) {pid:Int} {x:ah}:ft l pid=some x↔x∈l/\x.aa=pid:=by
 unfold ft;rw[YX λa d b e h1 c=>vU f d e ((eq_of_beq h1).trans (eq_of_beq c).symm),beq_iff_eq]
theorem hP {l:List ah} (c:l.Pairwise λa b=>ix a.aa<ix b.aa) {pid:Int}:b7 l pid=true↔dv l pid:=by
 unfold b7;constructor
 ·intro h;cases e:ft l pid with
  |none=>rw[e] at h;cases h
  |some x=>
   rw[e] at h;have:=(EC c).1 e;exact⟨x,this.1,this.2,by simpa using h⟩
 ·rintro ⟨x,f,hp,d⟩;rw[(EC c).2 ⟨f,hp⟩];simp[d]
theorem abx (l:List ah):hc l=fG (λa b=>decide (ix a.aa<ix b.aa)) l:=by funext i x;unfold hc fG;cases l[i-1]? <;>rfl
theorem M' {p:bI}:allI (λi x=>hK p x&&hc p.ag i x) 0 p.ag=true↔(∀x∈p.ag,hK p x=true)/\p.ag.Pairwise λa b=>ix a.aa<ix b.aa:=by
 rw[abx];have:=qy (q:=λa b:ah=>decide (ix a.aa<ix b.aa)) (A:=hK p) (l:=p.ag) (λa b c h1 d=>decide_eq_true (by have:=of_decide_eq_true h1;have:=of_decide_eq_true d;omega));rw[this];simp only[decide_eq_true_eq]
theorem MW {p:bI} (j:p.ag.Pairwise λa b=>ix a.aa<ix b.aa) {x:ah}:hK p x=true↔Ig p x:=by
 unfold hK;simp only[ι,decide_eq_true_eq,beq_iff_eq,ξY,beq_eq_false_iff_ne,ne_eq,ζu,hP j];constructor
 ·rintro ⟨h1,e,f,g,h,c⟩;refine⟨h1,e,f,g,h,λd=>?_,λd=>?_⟩
  ·rw[d] at c;simpa using c
  ·rw[d] at c;simpa using c
 ·rintro ⟨h1,e,f,g,h,c,i⟩;refine⟨h1,e,f,g,h,?_⟩;cases d:x.bp with
  |true=>simpa using c d
  |false=>simpa using i d
theorem J1 {g:Γa}:ks g=true↔ ∀i,i<16->0<=aE g i/\aE g i<=65536:=by
 unfold ks;simp only[ξe,ζe,ι,decide_eq_true_eq]
theorem Z4 {p:bI} (gl:p.aM.length=16) (u: ∀x∈p.ag,dd x.aa) (h:iT p=true):dE p:=by
 unfold iT at h;rw[ι,ι,J1,M'] at h;obtain⟨h1,⟨c,b⟩,a⟩:=h;refine⟨gl,h1,u,λx d=>(MW b).1 (c x d),b,?_⟩;cases e:p.ag with
 |nil=>rw[e] at a;cases a
 |cons z r=>
  rw[e] at a;have:z=⟨1,0,false,0⟩:=YE a;rw[this];rfl
theorem Oa {p:bI} (h:dE p):iT p=true:=by
 unfold iT;rw[ι,ι,J1,M'];refine⟨h.kr,⟨λx a=>(MW h.ord).2 (h.one x a),h.ord⟩,?_⟩;have:=h.head;cases e:p.ag with
 |nil=>rw[e] at this;cases this
 |cons z r=>
  rw[e] at this;cases this;rfl
theorem dE.len {p:bI} (h:dE p):p.ag.length<=16:=
 Py (a:=0) h.ord λz b=>by have:=h.one z b;have:=this.i1;have:=(h.one z b).i2;omega
theorem dE.pid {p:bI} (h:dE p) {x:ah} (a:x∈p.ag):1<=x.aa/\x.aa<4194304:=by
 have h1:=h.one x a;have b:=h.u x a;have e:=qc b.1;have c:=h1.i1;have d:=h1.i2;have f:=h1.gen;have g:=h.kr (ix x.aa-1).toNat (by omega);omega
theorem YZ {p:bI} (h:dE p):⟨1,0,false,0⟩∈p.ag:=List.mem_of_mem_head? h.head
theorem Ei {g:Γa} {i j:Nat} {v:Int} (hi:i<g.length):aE (g.set i v) j=if j=i then v else aE g j:=by
 unfold aE;rw[ξZ]
 by_cases h:i=j
 ·subst h;simp[hi]
 ·rw[if_neg h,if_neg (λe=>h e.symm)]
theorem D8 {p:bI} {i:Nat} (h:h0 p=some i):i<16/\(∀x∈p.ag,ix x.aa≠(i:Int)+1)/\aE p.aM i<=65535:=by
 have h1:=ξ8 h;have a:=ξB h;simp only[ι,ξY,ζg,decide_eq_true_eq,beq_iff_eq] at a;exact⟨ζe.1 h1,a.1,a.2⟩
theorem MF {p:bI} (hp:dE p) {i:Nat} (h:h0 p=some i):0<=dB p i/\dB p i<4194304/\ix (dB p i)=i+1/\dB p i/64=aE p.aM i:=by
 obtain⟨h1,b,c⟩:=D8 h;have d:=hp.kr i h1;have a:0<=dB p i:=by unfold dB;omega
 rw[qc a];unfold dB;omega
theorem OC {l l':List ah} {q:Int} (h: ∀x∈l,x.aa=q->x.bp=false-> ∃y∈l',y.aa=q/\y.bp=false):dv l q->dv l' q:=λ⟨x,b,hp,a⟩=>h x b hp a
theorem aee {p:bI} {parent:Int} {q:bI} {v:Int} (h:iV p parent= .ok (q,v)): ∃i,b7 p.ag parent=true/\h0 p=some i/\v=dB p i/\q=⟨p.aM.set i (aE p.aM i+1),b3 (λy=>decide (ix y.aa<=i+1)) ⟨dB p i,parent,false,0⟩ p.ag⟩:=by
 unfold iV at h;cases h1:b7 p.ag parent with
 |false=>rw[h1] at h;cases h
 |true=>
  rw[h1] at h;cases a:h0 p with
  |none=>rw[a] at h;cases h
  |some i=>
   rw[a] at h;cases h;exact⟨i,rfl,rfl,rfl,rfl⟩
theorem aed {p:bI} (hp:dE p) {parent:Int} {i:Nat} (t:b7 p.ag parent=true) (h:h0 p=some i):dE ⟨p.aM.set i (aE p.aM i+1),b3 (λy=>decide (ix y.aa<=i+1)) ⟨dB p i,parent,false,0⟩ p.ag⟩:=by
 obtain⟨h1,k,w⟩:=D8 h;obtain⟨n0,n1,n2,v⟩:=MF hp h;have m:=(hP hp.ord).1 t;have l:i<p.aM.length:=by rw[hp.gl];exact h1
 have hm: ∀q,dv p.ag q->dv (b3 (λy=>decide (ix y.aa<=i+1)) ⟨dB p i,parent,false,0⟩ p.ag) q:=λq=>OC λx f e d=>⟨x,kC.2 (.inr f),e,d⟩;refine⟨?_,?_,?_,?_,?_,?_⟩
 ·simp[hp.gl]
 ·intro j o;show 0<=aE (p.aM.set i _) j/\aE (p.aM.set i _) j<=65536;rw[Ei l];have:=hp.kr j o;have:=hp.kr i h1;split<;>omega
 ·intro x f;rcases kC.1 f with rfl|f
  ·exact⟨n0,by show dB p i<_;omega⟩
  ·exact hp.u x f
 ·intro x f;rcases kC.1 f with rfl|f
  ·refine⟨?_,?_,?_,?_,.inr (hm _ m),λe=>(ζb e).elim,λ_=>rfl⟩
   ·show 1<=ix (dB p i);omega
   ·show ix (dB p i)<=16;omega
   ·show dB p i/64+1=aE (p.aM.set i _) (ix (dB p i)-1).toNat;rw[n2,v,show((i:Int)+1-1).toNat=i by omega,Ei l,if_pos rfl]
   ·show parent≠dB p i;intro e;obtain⟨x,f,s,_⟩:=m;apply k x f;rw[s,e,n2]
  ·have g:=hp.one x f;refine⟨g.i1,g.i2,?_,g.self,g.par.imp_right (hm _),g.dead,g.live⟩;show x.aa/64+1=aE (p.aM.set i _) (ix x.aa-1).toNat;rw[Ei l,if_neg,g.gen];intro e;apply k x f;have:=g.i1;omega
 ·refine EL hp.ord (λa b c h1 k=>by omega) (λz n e=>?_) λz n e=>?_
  ·have e:=of_decide_eq_true e;have:=k z n;show ix z.aa<ix (dB p i);omega
  ·have e:=of_decide_eq_false e;show ix (dB p i)<ix z.aa;omega
 ·have:=hp.head;show(b3 _ _ p.ag).head? =_;cases e:p.ag with
  |nil=>rw[e] at this;cases this
  |cons z r=>
   rw[e] at this;cases this;have:ix 1=1:=by rw[qc (by omega)];rfl
   unfold b3;rw[ξv];have:decide (ix (ah.mk 1 0 false 0).aa<=(i:Int)+1)=true:=decide_eq_true (by show ix 1<=_;omega);simp only[this,if_true];rfl
theorem YQ {p:bI} {pid code:Int} {q:bI} (h:iA p pid code= .ok q):b7 p.ag pid=true/\pid≠1/\q=⟨p.aM,p.ag.filterMap (gf pid code)⟩:=by
 unfold iA at h;cases h1:b7 p.ag pid with
 |false=>rw[h1] at h;cases h
 |true=>
  rw[h1] at h;cases a:pid==1 with
  |true=>rw[a] at h;cases h
  |false=>
   rw[a] at h;cases h;exact⟨rfl,by simpa using a,rfl⟩
theorem tp {pid code:Int} {x y:ah} (h:gf pid code x=some y):y.aa=x.aa/\((x.aa=pid/\x.aW≠0/\y=⟨x.aa,x.aW,true,code⟩)\/(x.aa≠pid/\x.aW=pid/\x.bp=false/\y=⟨x.aa,0,x.bp,x.cg⟩)\/(x.aa≠pid/\x.aW≠pid/\y=x)):=by
 unfold gf at h;cases h1:x.aa==pid with
 |true=>
  rw[h1] at h;cases a:x.aW==0 with
  |true=>rw[a] at h;cases h
  |false=>
   rw[a] at h;cases h;exact⟨rfl,.inl ⟨by simpa using h1,by simpa using a,rfl⟩⟩
 |false=>
  rw[h1] at h;cases a:x.aW==pid with
  |true=>
   rw[a] at h;cases b:x.bp with
   |true=>rw[b] at h;cases h
   |false=>
    rw[b] at h;cases h;exact⟨rfl,.inr (.inl ⟨by simpa using h1,by simpa using a,rfl,rfl⟩)⟩
  |false=>
   rw[a] at h;cases h;exact⟨rfl,.inr (.inr ⟨by simpa using h1,by simpa using a,rfl⟩)⟩
theorem YP {pid code:Int} {x:ah} (h1:x.aa≠pid) (a:x.bp=false): ∃y,gf pid code x=some y/\y.aa=x.aa/\y.bp=false:=by
 unfold gf;rw[show(x.aa==pid)=false by simpa using h1,a];cases x.aW==pid
 ·exact⟨_,rfl,rfl,a⟩
 ·exact⟨_,rfl,rfl,rfl⟩
theorem tq {l:List ah} {pid code q:Int} (c:q≠pid) (h:dv l q):dv (l.filterMap (gf pid code)) q:=by
 obtain⟨x,d,rfl,a⟩:=h;obtain⟨y,e,hp,b⟩:=YP (code:=code) c a;exact⟨y,ζc.2 ⟨x,d,e⟩,hp,b⟩
theorem YO {p:bI} (hp:dE p) {pid code:Int} (g:dv p.ag pid) (h1:pid≠1):dE ⟨p.aM,p.ag.filterMap (gf pid code)⟩:=by
 refine⟨hp.gl,hp.kr,?_,?_,?_,?_⟩
 ·intro y i;obtain⟨x,f,h⟩:=ζc.1 i;rw[(tp h).1];exact hp.u x f
 ·intro y i;obtain⟨x,f,h⟩:=ζc.1 i;obtain⟨e,h'⟩:=tp h;have c:=hp.one x f;have j:x.aW≠pid->x.aW=0\/dv (p.ag.filterMap (gf pid code)) x.aW:=λhn=>c.par.imp_right λg=>tq hn g;refine⟨by rw[e];exact c.i1,by rw[e];exact c.i2,by rw[e];exact c.gen,?_,?_,?_,?_⟩
  ·rcases h' with⟨_,_,rfl⟩|⟨_,_,_,rfl⟩|⟨_,_,rfl⟩
   ·exact c.self
   ·have:=(hp.pid f).1;show(0:Int)≠x.aa;omega
   ·exact c.self
  ·rcases h' with⟨k,_,rfl⟩|⟨_,_,_,rfl⟩|⟨_,k,rfl⟩
   ·exact j (λe=>c.self (e.trans k.symm))
   ·exact .inl rfl
   ·exact j k
  ·intro d;rcases h' with⟨_,k,rfl⟩|⟨_,_,k,rfl⟩|⟨_,k,rfl⟩
   ·exact k
   ·rw[show(ah.mk x.aa 0 x.bp x.cg).bp=x.bp from rfl,k] at d;cases d
   ·exact c.dead d
  ·intro d;rcases h' with⟨_,k,rfl⟩|⟨_,_,k,rfl⟩|⟨_,k,rfl⟩
   ·cases d
   ·exact c.live k
   ·exact c.live d
 ·refine hp.ord.filterMap _ λa b n a' m q o=>?_;rw[(tp m).1,(tp o).1];exact n
 ·have:=hp.head;show(p.ag.filterMap (gf pid code)).head? =_;cases e:p.ag with
  |nil=>rw[e] at this;cases this
  |cons z r=>
   rw[e] at this;cases this;have l:(0:Int)≠pid:=by
    obtain⟨x,f,rfl,_⟩:=g;have:=(hp.pid f).1;omega
   rw[ξN];have:gf pid code ⟨1,0,false,0⟩=some ⟨1,0,false,0⟩:=by
    unfold gf;rw[show((ah.mk 1 0 false 0).aa==pid)=false by simpa using λe=>h1 (Eq.symm e),show((ah.mk 1 0 false 0).aW==pid)=false by simpa using l];rfl
   rw[this];rfl
theorem afb {p:bI} (hp:dE p) {pid child:Int} {q:bI} {v:Int} (h:i_ p pid child= .ok (q,v)): ∃x∈p.ag,x.aa=child/\x.aW=pid/\x.bp=true/\v=x.cg/\dv p.ag pid/\q=⟨p.aM,p.ag.filter λy=>!(y.aa==child)⟩:=by
 unfold i_ at h;cases h1:b7 p.ag pid with
 |false=>rw[h1] at h;cases h
 |true=>
  rw[h1] at h;cases b:ft p.ag child with
  |none=>rw[b] at h;cases h
  |some x=>
   rw[b] at h;obtain⟨e,d⟩:=(EC hp.ord).1 b;cases a:x.aW==pid with
   |false=>simp only[a,cond_true,cond_false] at h;cases h
   |true=>
    cases c:x.bp with
    |false=>simp only[a,c,cond_true,cond_false] at h;cases h
    |true=>
     simp only[a,c,cond_true] at h;cases h;exact⟨x,e,d,by simpa using a,c,rfl,(hP hp.ord).1 h1,rfl⟩
theorem Qg {p:bI} (hp:dE p) {x:ah} (c:x∈p.ag) (b:x.bp=true) {q:Int} (h:dv p.ag q):dv (p.ag.filter λy=>!(y.aa==x.aa)) q:=by
 obtain⟨y,a,rfl,hl⟩:=h;refine⟨y,ξ0.2 ⟨a,?_⟩,rfl,hl⟩;have:y.aa≠x.aa:=λe=>by
  rw[vU hp.ord a c e,b] at hl;cases hl
 simpa using this
theorem afa {p:bI} (hp:dE p) {x:ah} (d:x∈p.ag) (b:x.bp=true):dE ⟨p.aM,p.ag.filter λy=>!(y.aa==x.aa)⟩:=by
 refine⟨hp.gl,hp.kr,λy c=>hp.u y (ξ0.1 c).1,λy c=>?_,hp.ord.filter _,?_⟩
 ·have a:=hp.one y (ξ0.1 c).1;exact⟨a.i1,a.i2,a.gen,a.self,a.par.imp_right λh=>Qg hp d b h,a.dead,a.live⟩
 ·have:=hp.head;show(p.ag.filter λy=>!(y.aa==x.aa)).head? =_;cases e:p.ag with
  |nil=>rw[e] at this;cases this
  |cons z r=>
   rw[e] at this;cases this;have h1:(1:Int)≠x.aa:=λh=>by
    have:=vU hp.ord (YZ hp) d h;rw[<-this] at b;cases b
   rw[ξw,show(!((ah.mk 1 0 false 0).aa==x.aa))=true by simpa using h1];rfl
structure fM (l:List aj):Prop where
 is: ∀d∈l,hF d=true
 ord:l.Pairwise λa b=>dH a b=true
 len:l.length<=64
theorem po {a b:aj}:dH a b=true↔a.aa<b.aa\/a.aa=b.aa/\a.bF<b.bF:=by simp[dH]
theorem BG (a b c:aj) (h1:dH a b=true) (d:dH b c=true):dH a c=true:=by rw[po] at*;omega
theorem N9 {l:List aj}:l6 l=true↔fM l:=by
 unfold l6;rw[ι,decide_eq_true_eq];have:=qy (q:=dH) (A:=hF) (l:=l) BG;constructor
 ·rintro ⟨h1,a⟩;have:=this.1 h1;exact⟨this.1,this.2,a⟩
 ·rintro ⟨h1,a,b⟩;exact⟨this.2 ⟨h1,a⟩,b⟩
theorem VZ {l:List aj} (h:fM l) {a b:aj} (c:a∈l) (d:b∈l) (h1:a.aa=b.aa) (f:a.bF=b.bF):a=b:=by
 rcases EN h.ord c d with e|e|e
 ·exact e
 ·rw[po] at e;omega
 ·rw[po] at e;omega
theorem Kt {l:List aj} {pid fd w:Int} (h:dc l pid fd=some w): ∃d∈l,d.aa=pid/\d.bF=fd/\d.cp=w:=by
 unfold dc at h;cases e:l.find? (λd=>d.aa==pid&&d.bF==fd) with
 |none=>rw[e] at h;cases h
 |some d=>
  rw[e] at h;have:=ξB e;simp only[ι,beq_iff_eq] at this;exact⟨d,ξ8 e,this.1,this.2,by simpa using h⟩
theorem ZC {l:List aj} {pid fd:Int} (h:dc l pid fd=none): ∀d∈l,¬(d.aa=pid/\d.bF=fd):=by
 unfold dc at h;rw[ξW] at h;intro d a;have:=lG.1 h d a;simpa using this
theorem vJ {l:List aj} {pid bC:Int} {l':List aj} {v:Int} (h:hL l pid bC= .ok (l',v)): ∃i:Nat,hC l pid=some i/\l.length≠64/\v=i/\l'=b3 (λy=>dH y ⟨pid,i,bC⟩) ⟨pid,i,bC⟩ l:=by
 unfold hL at h;cases h1:hC l pid with
 |none=>rw[h1] at h;cases h
 |some i=>
  rw[h1] at h;cases a:l.length==64 with
  |true=>simp only[a,cond_true] at h;cases h
  |false=>
   simp only[a,cond_false] at h;cases h;exact⟨i,rfl,by simpa using a,rfl,rfl⟩
theorem CQ {l:List aj} {pid:Int} {i:Nat} (h:hC l pid=some i):i<8/\ ∀d∈l,¬(d.aa=pid/\d.bF=i):=by
 have h1:=ξ8 h;have a:=ξB h;exact⟨ζe.1 h1,ZC (Option.isNone_iff_eq_none.1 a)⟩
theorem abd {l:List aj} (h:fM l) {pid bC:Int} {i:Nat} (hp:pid<4294967296) (c:hC l pid=some i) (hl:l.length≠64):fM (b3 (λy=>dH y ⟨pid,i,bC⟩) ⟨pid,i,bC⟩ l):=by
 obtain⟨h1,b⟩:=CQ c;refine⟨λd a=>?_,EL h.ord BG (λ_ _ e=>e) λz f e=>?_,?_⟩
 ·rcases kC.1 a with rfl|a
  ·simp only[hF,ι,decide_eq_true_eq];omega
  ·exact h.is d a
 ·have:=b z f;rw[po];have e: ¬_:=λk=>ζb (e.symm.trans (po.2 k));simp only at e ⊢;omega
 ·rw[Mf];have:=h.len;omega
theorem fM.filter {l:List aj} (h:fM l) (p:aj->Bool):fM (l.filter p):=
 ⟨λd a=>h.is d (ξ0.1 a).1,h.ord.filter _,ξC (ξf _ _) h.len⟩
theorem Jn {l:List aj} {pid fd:Int} {r:List aj×Int} (h:hA l pid fd= .ok r): ∃w,dc l pid fd=some w/\hL l pid w= .ok r:=by
 unfold hA at h;cases e:dc l pid fd with
 |none=>rw[e] at h;cases h
 |some w=>rw[e] at h;exact⟨w,rfl,h⟩
theorem I7 {l:List aj} {pid fd:Int} {r:List aj} (h:gW l pid fd= .ok r): ∃w,dc l pid fd=some w/\r=l.filter λd=>!(d.aa==pid&&d.bF==fd):=by
 unfold gW at h;cases e:dc l pid fd with
 |none=>rw[e] at h;cases h
 |some w=>rw[e] at h;cases h;exact⟨w,rfl,rfl⟩
structure fY (m:bR):Prop where
 path: ∀x∈m.ag,dd x.bl/\cA x.bl=true
 id: ∀x∈m.ag,1<=x.a6/\x.a6<m.bm
 ord:m.ag.Pairwise λa b=>a.a6<b.a6
 new:m.ag.Pairwise λa b=>a.bl≠b.bl
 len:m.ag.length<=16
 n1:1<=m.bm
 n2:m.bm<=1073741825
theorem U0 {α:Type} {p q:Nat->α->Bool} {l:List α} {i:Nat}:allI (λi z=>p i z&&q i z) i l=true↔allI p i l=true/\allI q i l=true:=by
 simp only[lj,ι];exact⟨λh=>⟨λk z hk=>(h k z hk).1,λk z hk=>(h k z hk).2⟩,λh k z hk=>⟨h.1 k z hk,h.2 k z hk⟩⟩
theorem aaI {l:List av}:allI (λi z=>nM l i z) 0 l=true↔l.Pairwise λa b=>a.bl≠b.bl:=by
 rw[lj,τ];constructor
 ·intro h i j hi c g e;have:=h j l[j] (ε c);unfold nM at this;rw[ξY,ζg,ξp] at this;apply this l[i] (ξs.2 ⟨i,by omega,rfl⟩);simpa using e
 ·intro h k z hk;obtain⟨d,rfl⟩:=η.1 hk;unfold nM;rw[ξY,ζg,ξp];intro y f e;obtain⟨i,hi,rfl⟩:=ξs.1 f;exact h i k (by omega) d (by omega) (by simpa using e)
theorem N' {m:bR} (hu: ∀x∈m.ag,dd x.bl):qJ cA m=true↔fY m:=by
 unfold qJ vm;rw[ι,ι,ι,U0,aaI,decide_eq_true_eq,decide_eq_true_eq,decide_eq_true_eq];have:=qy (q:=λy z:av=>decide (y.a6<z.a6)) (A:=qp cA m.bm) (l:=m.ag) (λa b c h1 e=>decide_eq_true (by have:=of_decide_eq_true h1;have:=of_decide_eq_true e;omega));simp only[decide_eq_true_eq] at this;rw[this];simp only[qp,ι,decide_eq_true_eq];constructor
 ·rintro ⟨⟨⟨h1,e⟩,f⟩,g,h,i⟩;exact⟨λx d=>⟨hu x d,(h1 x d).1⟩,λx d=>(h1 x d).2,e,f,g,h,i⟩
 ·rintro ⟨h1,e,f,g,h,i,j⟩;exact⟨⟨⟨λx d=>⟨(h1 x d).2,e x d⟩,f⟩,g⟩,h,i,j⟩
theorem aax {m:bR} (h:fY m) {a b:av} (c:a∈m.ag) (d:b∈m.ag) (e:a.bl=b.bl):a=b:=by
 rcases EN h.new c d with k|k|k
 ·exact k
 ·exact(k e).elim
 ·exact(k e.symm).elim
theorem DD {m:bR} {w i:Int} (h:di m w=some i): ∃x∈m.ag,x.bl=w/\x.a6=i:=by
 unfold di at h;cases e:m.ag.find? (λx=>x.bl==w) with
 |none=>rw[e] at h;cases h
 |some x=>
  rw[e] at h;exact⟨x,ξ8 e,by simpa using ξB e,by simpa using h⟩
theorem ZR {m:bR} {w:Int} (h:di m w=none): ∀x∈m.ag,x.bl≠w:=by
 unfold di at h;rw[ξW] at h;intro x a;simpa using lG.1 h x a
theorem UT {m:bR} {w:Int} {n:bR} {v:Int} (h:ih m w= .ok (n,v)):cA w=true/\di m w=none/\m.ag.length≠16/\m.bm<=1073741824/\v=m.bm/\n=⟨m.ag++[⟨w,m.bm⟩],m.bm+1⟩:=by
 unfold ih at h;cases h1:cA w with
 |false=>rw[h1] at h;cases h
 |true=>
  rw[h1] at h;cases b:di m w with
  |some _=>rw[b] at h;cases h
  |none=>
   rw[b] at h;cases a:(m.ag.length==16||decide (m.bm>1073741824)) with
   |true=>simp only[a,cond_true] at h;cases h
   |false=>
    simp only[a,cond_true,cond_false] at h;cases h;simp only[Bool.or_eq_false_iff,beq_eq_false_iff_ne,decide_eq_false_iff_not] at a;exact⟨rfl,rfl,a.1,by omega,rfl,rfl⟩
theorem UR {m:bR} (h:fY m) {w:Int} (hu:dd w) (hw:cA w=true) (hi:di m w=none) (hl:m.ag.length≠16) (hn:m.bm<=1073741824):fY ⟨m.ag++[⟨w,m.bm⟩],m.bm+1⟩:=by
 refine⟨λx c=>?_,λx c=>?_,?_,?_,?_,?_,?_⟩
 ·rcases ψ.1 c with c|c
  ·exact h.path x c
  ·cases ξ.1 c;exact⟨hu,hw⟩
 ·rcases ψ.1 c with c|c
  ·have:=h.id x c;show 1<=x.a6/\x.a6<m.bm+1;omega
  ·cases ξ.1 c;have:=h.n1;show 1<=m.bm/\m.bm<m.bm+1;omega
 ·refine υ.2 ⟨h.ord,ξP _ _,λa d b e=>?_⟩;cases ξ.1 e;exact(h.id a d).2
 ·refine υ.2 ⟨h.new,ξP _ _,λa d b e=>?_⟩;cases ξ.1 e;exact ZR hi a d
 ·have:=h.len;show(m.ag++_).length<=16;rw[ζ,ω];omega
 ·have:=h.n1;show 1<=m.bm+1;omega
 ·show m.bm+1<=_;omega
theorem aeP {m:bR} {w:Int} {n:bR} (h:iY m w= .ok n):cA w=true/\(∃i,di m w=some i)/\kd m w=false/\n=⟨m.ag.filter λx=>!(x.bl==w),m.bm⟩:=by
 unfold iY at h;cases h1:cA w with
 |false=>rw[h1] at h;cases h
 |true=>
  rw[h1] at h;cases a:di m w with
  |none=>rw[a] at h;cases h
  |some i=>
   rw[a] at h;cases b:kd m w with
   |true=>simp only[b,cond_true] at h;cases h
   |false=>
    simp only[b,cond_true,cond_false] at h;cases h;exact⟨rfl,⟨i,rfl⟩,rfl,rfl⟩
theorem fY.filter {m:bR} (h:fY m) (p:av->Bool):fY ⟨m.ag.filter p,m.bm⟩:=
 ⟨λx a=>h.path x (ξ0.1 a).1,λx a=>h.id x (ξ0.1 a).1,h.ord.filter _,h.new.filter _,ξC (ξf _ _) h.len,h.n1,h.n2⟩
theorem aaX {m:bR} {w i:Int} (h:iO m w= .ok i):cA w=true/\di m w=some i:=by
 unfold iO at h;cases h1:cA w with
 |false=>rw[h1] at h;cases h
 |true=>
  rw[h1] at h;cases a:di m w with
  |none=>rw[a] at h;cases h
  |some j=>rw[a] at h;cases h;exact⟨rfl,rfl⟩
theorem ado {m:bR} {w i:Int} (h:fV m w= .ok i): ∃x∈m.ag,x.a6=i:=by
 unfold fV at h;cases h1:cA w with
 |false=>rw[h1] at h;cases h
 |true=>
  rw[h1] at h;cases a:wW m w with
  |none=>rw[a] at h;cases h
  |some j=>
   rw[a] at h;cases h;obtain⟨u,_,a⟩:=ξU a;obtain⟨x,b,_,e⟩:=DD a;exact⟨x,b,e⟩
structure eL (s:aO):Prop where
 name: ∀z∈s.ax,dd z.bb/\eD z.bb=true/\ec z.aa=true
 jJ:s.ax.Pairwise λa b=>a.bb<b.bb
 len:s.ax.length<=16
 box: ∀b∈s.au,ec b.aa=true/\1<=b.bc.length/\b.bc.length<=4
 kH:s.au.Pairwise λa b=>a.aa<b.aa
theorem Mn {α:Type} {f:α->Int} (a b c:α) (h1:decide (f a<f b)=true) (d:decide (f b<f c)=true):decide (f a<f c)=true:=decide_eq_true (by have:=of_decide_eq_true h1;have:=of_decide_eq_true d;omega)
theorem N_ {s:aO} (hu: ∀z∈s.ax,dd z.bb):l7 s=true↔eL s:=by
 unfold l7 nK mP;rw[ι,ι,decide_eq_true_eq];have h1:=qy (q:=λy z:aw=>decide (y.bb<z.bb)) (A:=nS) (l:=s.ax) Mn;have c:=qy (q:=λy z:aq=>decide (y.aa<z.aa)) (A:=okB) (l:=s.au) Mn;simp only[decide_eq_true_eq] at h1 c;rw[h1,c];simp only[nS,okB,ι,decide_eq_true_eq];constructor
 ·rintro ⟨⟨b,a2⟩,⟨a3,a4⟩,a5⟩;exact⟨λz a=>⟨hu z a,b z a⟩,a2,a5,a3,a4⟩
 ·rintro ⟨b,a2,a3,a4,a5⟩;exact⟨⟨λz a=>(b z a).2,a2⟩,⟨a4,a5⟩,a3⟩
theorem aao {l:List aw} {n:Int} (h:fq l n=none): ∀z∈l,z.bb≠n:=by
 unfold fq at h;rw[ξW] at h;intro z a;simpa using lG.1 h z a
theorem adj {s:aO} {n pid:Int} {r:aO} (h:iS s n pid= .ok r):eD n=true/\ec pid=true/\fq s.ax n=none/\s.ax.length≠16/\r=⟨b3 (λy=>decide (y.bb<n)) ⟨n,pid⟩ s.ax,s.au⟩:=by
 unfold iS at h;cases h1:eD n with
 |false=>rw[h1] at h;cases h
 |true=>
  cases b:ec pid with
  |false=>rw[h1,b] at h;cases h
  |true=>
   rw[h1,b] at h;cases c:fq s.ax n with
   |some _=>rw[c] at h;cases h
   |none=>
    rw[c] at h;cases a:s.ax.length==16 with
    |true=>simp only[a,cond_true] at h;cases h
    |false=>
     simp only[a,cond_true,cond_false] at h;cases h;exact⟨rfl,rfl,rfl,by simpa using a,rfl⟩
theorem adi {s:aO} (h:eL s) {n pid:Int} (hu:dd n) (h1:eD n=true) (f:ec pid=true) (g:fq s.ax n=none) (i:s.ax.length≠16):eL ⟨b3 (λy=>decide (y.bb<n)) ⟨n,pid⟩ s.ax,s.au⟩:=by
 refine⟨λz d=>?_,EL h.jJ (λa b c h1 f=>by omega) (λz d e=>of_decide_eq_true e) λz d e=>?_,?_,h.box,h.kH⟩
 ·rcases kC.1 d with rfl|d
  ·exact⟨hu,h1,f⟩
  ·exact h.name z d
 ·have:=aao g z d;have e:=of_decide_eq_false e;show n<z.bb;omega
 ·show(b3 _ _ _).length<=16;rw[Mf];have:=h.len;omega
theorem qg {s:aO} {n p:Int} (h:gH s n= .ok p):eD n=true/\fq s.ax n=some p:=by
 unfold gH at h;cases h1:eD n with
 |false=>rw[h1] at h;cases h
 |true=>
  rw[h1] at h;cases a:fq s.ax n with
  |none=>rw[a] at h;cases h
  |some q=>rw[a] at h;cases h;exact⟨rfl,rfl⟩
theorem aeS {s:aO} (h:eL s) (n:Int):eL (qY s n):=
 ⟨λz a=>h.name z (ξ0.1 a).1,h.jJ.filter _,ξC (ξf _ _) h.len,h.box,h.kH⟩
theorem w8 {s:aO} {pid:Int} {ws:Γa} {b:aq}:b∈(fK s pid ws).au↔(b∈s.au/\b.aa≠pid)\/(ws≠[]/\b=⟨pid,ws⟩):=by
 unfold fK;simp only[ψ,ξ0,decide_eq_true_eq];have h:b∈(if ws=[] then[] else[aq.mk pid ws])↔ws≠[]/\b=⟨pid,ws⟩:=by
  split
  ·rename_i e;simp[e]
  ·rename_i e;simp[e]
 rw[h];constructor
 ·rintro (⟨h1,a⟩|h|⟨h1,a⟩)
  ·exact .inl ⟨h1,by omega⟩
  ·exact .inr h
  ·exact .inl ⟨h1,by omega⟩
 ·rintro (⟨h1,a⟩|h)
  ·rcases Int.lt_or_gt_of_ne a with k|k
   ·exact .inl ⟨h1,k⟩
   ·exact .inr (.inr ⟨h1,k⟩)
  ·exact .inr (.inl h)
theorem afh {s:aO} (h:s.au.Pairwise λa b=>a.aa<b.aa) {pid:Int} {ws:Γa}:(fK s pid ws).au.Pairwise λa b=>a.aa<b.aa:=by
 have e:(if ws=[] then[] else[aq.mk pid ws]).Pairwise λa b=>a.aa<b.aa:=by
  split
  ·exact .nil
  ·exact ξP _ _
 have hm: ∀b∈(if ws=[] then[] else[aq.mk pid ws]),b.aa=pid:=by
  intro b c;split at c
  ·cases c
  ·cases ξ.1 c;rfl
 refine υ.2 ⟨h.filter _,υ.2 ⟨e,h.filter _,λa d b c=>?_⟩,λa d b c=>?_⟩
 ·have:=of_decide_eq_true (ξ0.1 c).2;rw[hm a d];exact this
 ·have d:=of_decide_eq_true (ξ0.1 d).2;rcases ψ.1 c with c|c
  ·rw[hm b c];exact d
  ·have:=of_decide_eq_true (ξ0.1 c).2;omega
theorem Gk {s:aO} (h:eL s) {pid:Int} {ws:Γa} (hp:ec pid=true) (hl:ws.length<=4):eL (fK s pid ws):=by
 refine⟨h.name,h.jJ,h.len,λb a=>?_,afh h.kH⟩;rcases w8.1 a with⟨a,_⟩|⟨hn,rfl⟩
 ·exact h.box b a
 ·refine⟨hp,?_,hl⟩;cases ws with
  |nil=>exact(hn rfl).elim
  |cons _ _=>exact Nat.succ_le_succ (ξt _)
theorem Ge {s:aO} (h:eL s) (pid:Int):(dq s pid).length<=4:=by
 unfold dq;cases e:s.au.find? (λb=>b.aa==pid) with
 |none=>exact ξt _
 |some b=>exact(h.box b (ξ8 e)).2.2
theorem ad7 {s:aO} {pid w:Int} {r:aO} (h:kU s pid w= .ok r):(dq s pid).length≠4/\r=fK s pid (dq s pid++[w]):=by
 unfold kU at h;cases h1:(dq s pid).length==4 with
 |true=>rw[h1] at h;cases h
 |false=>rw[h1] at h;cases h;exact⟨by simpa using h1,rfl⟩
theorem adg {s:aO} {pid v:Int} {r:aO} (h:kQ s pid= .ok (r,v)): ∃ws,dq s pid=v::ws/\r=fK s pid ws:=by
 unfold kQ at h;cases h1:dq s pid with
 |nil=>rw[h1] at h;cases h
 |cons w ws=>rw[h1] at h;cases h;exact⟨ws,rfl,rfl⟩
structure c8 (s:aZ):Prop where
 p:dE s.az
 d:fM s.aQ
 m:fY s.aF
 i:eL s.aA
 bC: ∀d∈s.aQ,dv s.az.ag d.aa/\ ∃x∈s.aF.ag,x.a6=d.cp
 names: ∀n∈s.aA.ax,dv s.az.ag n.aa
 boxes: ∀b∈s.aA.au,dv s.az.ag b.aa
def BS (s:aZ):Bool:=iT s.az&&(l6 s.aQ&&(qJ cA s.aF&&(l7 s.aA&&qH s)))
structure Bz (s:aZ):Prop where
 gl:s.az.aM.length=16
 pid: ∀z∈s.az.ag,dd z.aa
 path: ∀z∈s.aF.ag,dd z.bl
 name: ∀z∈s.aA.ax,dd z.bb
theorem Z5 {s:aZ} (h:c8 s):Bz s:=⟨h.p.gl,h.p.u,λz a=>(h.m.path z a).1,λz a=>(h.i.name z a).1⟩
theorem N7 {s:aZ} (h:s.az.ag.Pairwise λa b=>ix a.aa<ix b.aa):qH s=true↔(∀d∈s.aQ,dv s.az.ag d.aa/\ ∃x∈s.aF.ag,x.a6=d.cp)/\(∀n∈s.aA.ax,dv s.az.ag n.aa)/\ ∀b∈s.aA.au,dv s.az.ag b.aa:=by
 unfold qH;simp only[ι,ξe,ζm,hP h,beq_iff_eq]
theorem I3 {s:aZ} (h:Bz s):BS s=true↔c8 s:=by
 unfold BS;rw[ι,ι,ι,ι,N9,N' h.path,N_ h.name];constructor
 ·rintro ⟨h1,b,c,e,a⟩;have h1:=Z4 h.gl h.pid h1;obtain⟨a,f,g⟩:=(N7 h1.ord).1 a;exact⟨h1,b,c,e,a,f,g⟩
 ·intro h;exact⟨Oa h.p,h.d,h.m,h.i,(N7 h.p.ord).2 ⟨h.bC,h.names,h.boxes⟩⟩
theorem jR {p:bI} (h:dE p) {q:Int} (a:dv p.ag q):ec q=true/\q<4294967296/\1<=q:=by
 obtain⟨x,b,rfl,_⟩:=a;have:=h.pid b;unfold ec;simp only[ι,decide_eq_true_eq];omega
inductive Step (s:aZ) (p a b:Int):Int->aZ->Int->Prop
 |spawn (i:Nat):b7 s.az.ag p=true->h0 s.az=some i->Step s p a b 1 ⟨⟨s.az.aM.set i (aE s.az.aM i+1),b3 (λy=>decide (ix y.aa<=i+1)) ⟨dB s.az i,p,false,0⟩ s.az.ag⟩,s.aQ,s.aF,s.aA⟩ (dB s.az i)
 |exit:dv s.az.ag p->p≠1->(∀n∈s.aA.ax,n.aa≠p)->Step s p a b 2 ⟨⟨s.az.aM,s.az.ag.filterMap (gf p a)⟩,pG s.aQ p,s.aF,fK s.aA p []⟩ 0
 |wait (x:ah):x∈s.az.ag->x.aa=a->x.aW=p->x.bp=true->Step s p a b 3 ⟨⟨s.az.aM,s.az.ag.filter λy=>!(y.aa==x.aa)⟩,s.aQ,s.aF,s.aA⟩ x.cg
 |a1 (x:av) (i:Nat):fV s.aF a= .ok x.a6->x∈s.aF.ag->hC s.aQ p=some i->s.aQ.length≠64->Step s p a b 4 ⟨s.az,b3 (λy=>dH y ⟨p,i,x.a6⟩) ⟨p,i,x.a6⟩ s.aQ,s.aF,s.aA⟩ i
 |close (w:Int):dc s.aQ p a=some w->Step s p a b 5 ⟨s.az,s.aQ.filter λd=>!(d.aa==p&&d.bF==a),s.aF,s.aA⟩ 0
 |dup (w:Int) (i:Nat):dc s.aQ p a=some w->hC s.aQ p=some i->s.aQ.length≠64->Step s p a b 6 ⟨s.az,b3 (λy=>dH y ⟨p,i,w⟩) ⟨p,i,w⟩ s.aQ,s.aF,s.aA⟩ i
 |MA:cA a=true->di s.aF a=none->s.aF.ag.length≠16->s.aF.bm<=1073741824->Step s p a b 7 ⟨s.az,s.aQ,⟨s.aF.ag++[⟨a,s.aF.bm⟩],s.aF.bm+1⟩,s.aA⟩ s.aF.bm
 |PX (x:av):x∈s.aF.ag->x.bl=a->(∀d∈s.aQ,d.cp≠x.a6)->kd s.aF a=false->Step s p a b 8 ⟨s.az,s.aQ,⟨s.aF.ag.filter λx=>!(x.bl==a),s.aF.bm⟩,s.aA⟩ 0
 |resolve (i:Int):fV s.aF a= .ok i->Step s p a b 9 s i
 |register:eD a=true->ec p=true->fq s.aA.ax a=none->s.aA.ax.length≠16->Step s p a b 10 ⟨s.az,s.aQ,s.aF,⟨b3 (λy=>decide (y.bb<a)) ⟨a,p⟩ s.aA.ax,s.aA.au⟩⟩ 0
 |unregister:eD a=true->fq s.aA.ax a=some p->Step s p a b 11 ⟨s.az,s.aQ,s.aF,qY s.aA a⟩ 0
 |lookup (q:Int):eD a=true->fq s.aA.ax a=some q->Step s p a b 12 s q
 |send:dv s.az.ag a->(dq s.aA a).length≠4->Step s p a b 13 ⟨s.az,s.aQ,s.aF,fK s.aA a (dq s.aA a++[b])⟩ 0
 |NS (v:Int) (ws:Γa):dq s.aA p=v::ws->Step s p a b 14 ⟨s.az,s.aQ,s.aF,fK s.aA p ws⟩ v
theorem aae {s:aZ} (h:c8 s) {k p a b:Int} (R:1<=k/\k<=14) {n:aZ} {v:Int} (hk:nE s k p a b= .ok (n,v)):Step s p a b k n v:=by
 unfold nE at hk
 by_cases B:k=1
 ·rw[if_pos B] at hk;subst B;cases e:iV s.az p with
  |error _=>rw[e] at hk;cases hk
  |ok r=>
   obtain⟨q,w⟩:=r;rw[e] at hk;cases hk;obtain⟨i,h1,c,rfl,rfl⟩:=aee e;exact .spawn i h1 c
 rw[if_neg B] at hk
 by_cases G:k=2
 ·rw[if_pos G] at hk;subst G;cases e:iA s.az p a with
  |error _=>rw[e] at hk;cases hk
  |ok q=>
   rw[e] at hk;obtain⟨h1,c,rfl⟩:=YQ e
   by_cases y:ku s.aA p=[]
   ·simp only[y,if_true] at hk;cases hk;refine .exit ((hP h.p.ord).1 h1) c λn hn e=>?_;have:n.bb∈ku s.aA p:=ζv.2 ⟨n,ξ0.2 ⟨hn,by simpa using e⟩,rfl⟩;rw[y] at this;cases this
   ·simp only[y,if_false] at hk;cases hk
 rw[if_neg G] at hk
 by_cases H:k=3
 ·rw[if_pos H] at hk;subst H;cases e:i_ s.az p a with
  |error _=>rw[e] at hk;cases hk
  |ok r=>
   obtain⟨q,w⟩:=r;rw[e] at hk;cases hk;obtain⟨x,A,rfl,h1,u,rfl,_,rfl⟩:=afb h.p e;exact .wait x A rfl h1 u
 rw[if_neg H] at hk
 by_cases I:k=4
 ·rw[if_pos I] at hk;subst I;cases e:fV s.aF a with
  |error _=>rw[e] at hk;cases hk
  |ok i=>
   rw[e] at hk;cases f:hL s.aQ p i with
   |error _=>simp only[f] at hk;cases hk
   |ok r=>
    obtain⟨l,w⟩:=r;simp only[f] at hk;cases hk;obtain⟨x,A,rfl⟩:=ado e;obtain⟨j,h1,c,rfl,rfl⟩:=vJ f;exact .a1 x j e A h1 c
 rw[if_neg I] at hk
 by_cases J:k=5
 ·rw[if_pos J] at hk;subst J;cases e:gW s.aQ p a with
  |error _=>rw[e] at hk;cases hk
  |ok l=>
   rw[e] at hk;cases hk;obtain⟨w,hw,rfl⟩:=I7 e;exact .close w hw
 rw[if_neg J] at hk
 by_cases K:k=6
 ·rw[if_pos K] at hk;subst K;cases e:hA s.aQ p a with
  |error _=>rw[e] at hk;cases hk
  |ok r=>
   obtain⟨l,w⟩:=r;rw[e] at hk;cases hk;obtain⟨bC,h1,c⟩:=Jn e;obtain⟨j,g,o,rfl,rfl⟩:=vJ c;exact .dup bC j h1 g o
 rw[if_neg K] at hk
 by_cases L:k=7
 ·rw[if_pos L] at hk;subst L;cases e:ih s.aF a with
  |error _=>rw[e] at hk;cases hk
  |ok r=>
   obtain⟨m,w⟩:=r;rw[e] at hk;cases hk;obtain⟨h1,c,g,o,rfl,rfl⟩:=UT e;exact .MA h1 c g o
 rw[if_neg L] at hk
 by_cases M:k=8
 ·rw[if_pos M] at hk;subst M;cases e:iO s.aF a with
  |error _=>rw[e] at hk;cases hk
  |ok i=>
   rw[e] at hk
   by_cases t:lC s.aQ i=0
   ·simp only[t,if_true] at hk;cases f:iY s.aF a with
    |error _=>simp only[f] at hk;cases hk
    |ok m=>
     simp only[f] at hk;cases hk;obtain⟨h1,_,c,rfl⟩:=aeP f;obtain⟨x0,Q,P,rfl⟩:=DD (aaX e).2;refine .PX x0 Q P (λd u hw=>?_) c;have:d∈s.aQ.filter λd=>d.cp==x0.a6:=ξ0.2 ⟨u,by simpa using hw⟩;rw[ξj t] at this;cases this
   ·simp only[t,if_false] at hk;cases hk
 rw[if_neg M] at hk
 by_cases N:k=9
 ·rw[if_pos N] at hk;subst N;cases e:fV s.aF a with
  |error _=>rw[e] at hk;cases hk
  |ok i=>rw[e] at hk;cases hk;exact .resolve _ e
 rw[if_neg N] at hk
 by_cases C:k=10
 ·rw[if_pos C] at hk;subst C;cases e:iS s.aA a p with
  |error _=>rw[e] at hk;cases hk
  |ok r=>
   rw[e] at hk;cases hk;obtain⟨h1,c,g,o,rfl⟩:=adj e;exact .register h1 c g o
 rw[if_neg C] at hk
 by_cases D:k=11
 ·rw[if_pos D] at hk;subst D;cases e:gH s.aA a with
  |error _=>rw[e] at hk;cases hk
  |ok q=>
   rw[e] at hk
   by_cases O:q=p
   ·subst O;simp only[if_true] at hk;cases hk;exact .unregister (qg e).1 (qg e).2
   ·simp only[O,if_false] at hk;cases hk
 rw[if_neg D] at hk
 by_cases E:k=12
 ·rw[if_pos E] at hk;subst E;cases e:gH s.aA a with
  |error _=>rw[e] at hk;cases hk
  |ok i=>rw[e] at hk;cases hk;exact .lookup _ (qg e).1 (qg e).2
 rw[if_neg E] at hk
 by_cases F:k=13
 ·rw[if_pos F] at hk;subst F;cases z:b7 s.az.ag a with
  |false=>rw[z] at hk;cases hk
  |true=>
   rw[z] at hk;cases e:kU s.aA a b with
   |error _=>rw[e] at hk;cases hk
   |ok r=>
    rw[e] at hk;cases hk;obtain⟨h1,rfl⟩:=ad7 e;exact .send ((hP h.p.ord).1 z) h1
 rw[if_neg F] at hk;obtain rfl:k=14:=by omega
 cases e:kQ s.aA p with
 |error _=>rw[e] at hk;cases hk
 |ok r=>
  obtain⟨r,w⟩:=r;rw[e] at hk;cases hk;obtain⟨ws,h1,rfl⟩:=adg e;exact .NS _ ws h1
theorem M6 {s:aZ} (h:c8 s) {p bC:Int} {i:Nat} (b:dv s.az.ag p) (hw: ∃x∈s.aF.ag,x.a6=bC) (h1:hC s.aQ p=some i) (c:s.aQ.length≠64):c8 ⟨s.az,b3 (λy=>dH y ⟨p,i,bC⟩) ⟨p,i,bC⟩ s.aQ,s.aF,s.aA⟩:=by
 refine⟨h.p,abd h.d (jR h.p b).2.1 h1 c,h.m,h.i,λd a=>?_,h.names,h.boxes⟩;rcases kC.1 a with rfl|a
 ·exact⟨b,hw⟩
 ·exact h.bC d a
theorem ael {s:aZ} (h:c8 s) {k p a b:Int} (hu:dd a) (q:k≠9->k≠12->dv s.az.ag p) {n:aZ} {v:Int} (hk:Step s p a b k n v):c8 n:=by
 cases hk with
 |spawn i h1 g=>
  have hm: ∀ {y},dv s.az.ag y->dv (b3 (λy=>decide (ix y.aa<=i+1)) ⟨dB s.az i,p,false,0⟩ s.az.ag) y:=λ{y}=>OC λx j e d=>⟨x,kC.2 (.inr j),e,d⟩;exact⟨aed h.p h1 g,h.d,h.m,h.i,λd c=>(h.bC d c).imp_left hm,λn hn=>hm (h.names n hn),λb f=>hm (h.boxes b f)⟩
 |exit l g A=>
  refine⟨YO h.p l g,h.d.filter _,h.m,Gk h.i (jR h.p l).1 (ξt _),λd c=>?_,λn hn=>tq (A n hn) (h.names n hn),λb f=>?_⟩
  ·obtain⟨c,o⟩:=ξ0.1 c;have o:d.aa≠p:=by simpa using o
   exact(h.bC d c).imp_left (tq o)
  ·rcases w8.1 f with⟨f,o⟩|⟨hn,_⟩
   ·exact tq o (h.boxes b f)
   ·exact(hn rfl).elim
 |wait x j _ _ c=>
  have hm: ∀ {y},dv s.az.ag y->dv (s.az.ag.filter λy=>!(y.aa==x.aa)) y:=λ{y}=>Qg h.p j c;exact⟨afa h.p j c,h.d,h.m,h.i,λd c=>(h.bC d c).imp_left hm,λn hn=>hm (h.names n hn),λb f=>hm (h.boxes b f)⟩
 |a1 x i u j h1 g=>exact M6 h (q (by omega) (by omega)) ⟨x,j,rfl⟩ h1 g
 |close=>exact⟨h.p,h.d.filter _,h.m,h.i,λd c=>h.bC d (ξ0.1 c).1,h.names,h.boxes⟩
 |dup w i u h1 g=>
  obtain⟨d,c,_,_,rfl⟩:=Kt u;exact M6 h (q (by omega) (by omega)) (h.bC d c).2 h1 g
 |MA h1 g r t=>exact⟨h.p,h.d,UR h.m hu h1 g r t,h.i,λd c=>⟨(h.bC d c).1,(h.bC d c).2.imp λx j=>⟨List.mem_append_left _ j.1,j.2⟩⟩,h.names,h.boxes⟩
 |PX x0 C B z g=>
  refine⟨h.p,h.d,h.m.filter _,h.i,λd c=>⟨(h.bC d c).1,?_⟩,h.names,h.boxes⟩;obtain⟨x,j,hw⟩:=(h.bC d c).2;refine⟨x,ξ0.2 ⟨j,?_⟩,hw⟩;have o:x.bl≠a:=λe=>by
   have:=aax h.m j C (e.trans B.symm);subst this;exact z d c hw.symm
  simpa using o
 |resolve=>exact h
 |register h1 g r t=>
  refine⟨h.p,h.d,h.m,adi h.i hu h1 g r t,h.bC,λn hn=>?_,h.boxes⟩;rcases kC.1 hn with rfl|hn
  ·exact q (by omega) (by omega)
  ·exact h.names n hn
 |unregister=>exact⟨h.p,h.d,h.m,aeS h.i a,h.bC,λn hn=>h.names n (ξ0.1 hn).1,h.boxes⟩
 |lookup=>exact h
 |send l h1=>
  have:=Ge h.i a;refine⟨h.p,h.d,h.m,Gk h.i (jR h.p l).1 (by rw[ζ,ω];omega),h.bC,h.names,λb f=>?_⟩;rcases w8.1 f with⟨f,_⟩|⟨_,rfl⟩
  ·exact h.boxes b f
  ·exact l
 |NS v ws h1=>
  have l:=q (by omega) (by omega);have:=Ge h.i p;rw[h1,ξg] at this;refine⟨h.p,h.d,h.m,Gk h.i (jR h.p l).1 (by omega),h.bC,h.names,λb f=>?_⟩;rcases w8.1 f with⟨f,_⟩|⟨_,rfl⟩
  ·exact h.boxes b f
  ·exact l
theorem Vl {s:aZ} (h:c8 s) {c:cJ} {n:aZ} {v:Int} (hk:ly s c= .ok (n,v)):Step s (aE c.fArgs 0) (aE c.fArgs 1) (aE c.fArgs 2) c.bq n v/\(c.bq≠9->c.bq≠12->dv s.az.ag (aE c.fArgs 0)):=by
 unfold ly at hk;split at hk
 ·rename_i a;cases e:lY c||b7 s.az.ag (aE c.fArgs 0) with
  |false=>rw[e] at hk;cases hk
  |true=>
   rw[e] at hk;refine⟨aae h a hk,λb d=>?_⟩;rw[<-hP h.p.ord];simpa[lY,b,d] using e
 ·cases hk
def fj:Γa:=[2,4,5,6,310,321,322,323,324,341,351,361,362]
theorem Jx {e:Int} (h:e∈fj):e≠0:=by
 intro a;subst a
 revert h
 decide
theorem gY {e:Int} (h:e∈fj):(e==0)=false:=by simpa using Jx h
theorem PD {x:bI} {y e:Int} (h:iV x y= .error e):e∈fj:=by
 unfold iV at h;cases h1:b7 x.ag y with
 |false=>rw[h1] at h;cases h;decide
 |true=>
  rw[h1] at h;cases a:h0 x<;>(rw[a] at h;cases h);decide
theorem JA {x:bI} {y z e:Int} (h:iA x y z= .error e):e∈fj:=by
 unfold iA at h;cases h1:b7 x.ag y with
 |false=>rw[h1] at h;cases h;decide
 |true=>
  rw[h1] at h;cases a:y==1<;>(rw[a] at h;cases h);decide
theorem Qf {x:bI} {y z e:Int} (h:i_ x y z= .error e):e∈fj:=by
 unfold i_ at h;cases h1:b7 x.ag y with
 |false=>rw[h1] at h;cases h;decide
 |true=>
  rw[h1] at h;cases a:ft x.ag z with
  |none=>rw[a] at h;cases h;decide
  |some u=>
   rw[a] at h;cases b:u.aW==y with
   |false=>simp only[b,cond_true,cond_false] at h;cases h;decide
   |true=>cases c:u.bp<;>(simp only[b,c,cond_true,cond_false] at h;cases h);decide
theorem EE {x:List aj} {y z e:Int} (h:hL x y z= .error e):e∈fj:=by
 unfold hL at h;cases h1:hC x y with
 |none=>rw[h1] at h;cases h;decide
 |some i=>
  rw[h1] at h;cases a:x.length==64<;>(simp only[a,cond_true,cond_false] at h;cases h);decide
theorem Vw {x:List aj} {y z e:Int} (h:gW x y z= .error e):e∈fj:=by
 unfold gW at h;cases e:dc x y z<;>(rw[e] at h;cases h);decide
theorem Jm {x:List aj} {y z e:Int} (h:hA x y z= .error e):e∈fj:=by
 unfold hA at h;cases e:dc x y z with
 |none=>rw[e] at h;cases h;decide
 |some w=>rw[e] at h;exact EE h
theorem wj {x:bR} {y e:Int} (h:fV x y= .error e):e∈fj:=by
 unfold fV at h;cases h1:cA y with
 |false=>rw[h1] at h;cases h;decide
 |true=>
  rw[h1] at h;cases a:wW x y<;>(rw[a] at h;cases h);decide
theorem MT {x:bR} {y e:Int} (h:iO x y= .error e):e∈fj:=by
 unfold iO at h;cases h1:cA y with
 |false=>rw[h1] at h;cases h;decide
 |true=>
  rw[h1] at h;cases a:di x y<;>(rw[a] at h;cases h);decide
theorem Iu {x:bR} {y e:Int} (h:ih x y= .error e):e∈fj:=by
 unfold ih at h;cases h1:cA y with
 |false=>rw[h1] at h;cases h;decide
 |true=>
  rw[h1] at h;cases a:di x y with
  |some _=>rw[a] at h;cases h;decide
  |none=>
   rw[a] at h;cases b:(x.ag.length==16||decide (x.bm>1073741824))<;>(simp only[b,cond_true,cond_false] at h;cases h);decide
theorem PY {x:bR} {y e:Int} (h:iY x y= .error e):e∈fj:=by
 unfold iY at h;cases h1:cA y with
 |false=>rw[h1] at h;cases h;decide
 |true=>
  rw[h1] at h;cases a:di x y with
  |none=>rw[a] at h;cases h;decide
  |some i=>
   rw[a] at h;cases b:kd x y<;>(simp only[b,cond_true,cond_false] at h;cases h);decide
theorem vn {x:aO} {y e:Int} (h:gH x y= .error e):e∈fj:=by
 unfold gH at h;cases h1:eD y with
 |false=>rw[h1] at h;cases h;decide
 |true=>
  rw[h1] at h;cases a:fq x.ax y<;>(rw[a] at h;cases h);decide
theorem NU {x:aO} {y z e:Int} (h:iS x y z= .error e):e∈fj:=by
 unfold iS at h;cases h1:eD y with
 |false=>rw[h1] at h;cases h;decide
 |true=>
  cases a:ec z with
  |false=>rw[h1,a] at h;cases h;decide
  |true=>
   rw[h1,a] at h;cases b:fq x.ax y with
   |some _=>rw[b] at h;cases h;decide
   |none=>
    rw[b] at h;cases c:x.ax.length==16<;>(simp only[c,cond_true,cond_false] at h;cases h);decide
theorem ad6 {x:aO} {y z e:Int} (h:kU x y z= .error e):e∈fj:=by
 unfold kU at h;cases e:(dq x y).length==4<;>(rw[e] at h;cases h);decide
theorem adf {x:aO} {y e:Int} (h:kQ x y= .error e):e∈fj:=by
 unfold kQ at h;cases e:dq x y<;>(rw[e] at h;cases h);decide
theorem aad {s:aZ} {k p a b e:Int} (hk:nE s k p a b= .error e):e∈fj:=by
 unfold nE at hk
 by_cases j:k=1
 ·rw[if_pos j] at hk;cases e:iV s.az p with
  |error _=>rw[e] at hk;cases hk;exact PD e
  |ok r=>rw[e] at hk;cases hk
 rw[if_neg j] at hk
 by_cases u:k=2
 ·rw[if_pos u] at hk;cases e:iA s.az p a with
  |error _=>rw[e] at hk;cases hk;exact JA e
  |ok r=>
   rw[e] at hk
   by_cases f:ku s.aA p=[]
   ·simp only[f,if_true] at hk;cases hk
   ·simp only[f,if_false] at hk;cases hk;decide
 rw[if_neg u] at hk
 by_cases v:k=3
 ·rw[if_pos v] at hk;cases e:i_ s.az p a with
  |error _=>rw[e] at hk;cases hk;exact Qf e
  |ok r=>rw[e] at hk;cases hk
 rw[if_neg v] at hk
 by_cases w:k=4
 ·rw[if_pos w] at hk;cases e:fV s.aF a with
  |error _=>rw[e] at hk;cases hk;exact wj e
  |ok i=>
   rw[e] at hk;cases c:hL s.aQ p i with
   |error _=>simp only[c] at hk;cases hk;exact EE c
   |ok r=>simp only[c] at hk;cases hk
 rw[if_neg w] at hk
 by_cases x:k=5
 ·rw[if_pos x] at hk;cases e:gW s.aQ p a with
  |error _=>rw[e] at hk;cases hk;exact Vw e
  |ok r=>rw[e] at hk;cases hk
 rw[if_neg x] at hk
 by_cases y:k=6
 ·rw[if_pos y] at hk;cases e:hA s.aQ p a with
  |error _=>rw[e] at hk;cases hk;exact Jm e
  |ok r=>rw[e] at hk;cases hk
 rw[if_neg y] at hk
 by_cases z:k=7
 ·rw[if_pos z] at hk;cases e:ih s.aF a with
  |error _=>rw[e] at hk;cases hk;exact Iu e
  |ok r=>rw[e] at hk;cases hk
 rw[if_neg z] at hk
 by_cases A:k=8
 ·rw[if_pos A] at hk;cases e:iO s.aF a with
  |error _=>rw[e] at hk;cases hk;exact MT e
  |ok i=>
   rw[e] at hk
   by_cases d:lC s.aQ i=0
   ·simp only[d,if_true] at hk;cases c:iY s.aF a with
    |error _=>simp only[c] at hk;cases hk;exact PY c
    |ok m=>simp only[c] at hk;cases hk
   ·simp only[d,if_false] at hk;cases hk;decide
 rw[if_neg A] at hk
 by_cases B:k=9
 ·rw[if_pos B] at hk;cases e:fV s.aF a with
  |error _=>rw[e] at hk;cases hk;exact wj e
  |ok r=>rw[e] at hk;cases hk
 rw[if_neg B] at hk
 by_cases l:k=10
 ·rw[if_pos l] at hk;cases e:iS s.aA a p with
  |error _=>rw[e] at hk;cases hk;exact NU e
  |ok r=>rw[e] at hk;cases hk
 rw[if_neg l] at hk
 by_cases n:k=11
 ·rw[if_pos n] at hk;cases e:gH s.aA a with
  |error _=>rw[e] at hk;cases hk;exact vn e
  |ok q=>
   rw[e] at hk
   by_cases g:q=p
   ·simp only[g,if_true] at hk;cases hk
   ·simp only[g,if_false] at hk;cases hk;decide
 rw[if_neg n] at hk
 by_cases o:k=12
 ·rw[if_pos o] at hk;cases e:gH s.aA a with
  |error _=>rw[e] at hk;cases hk;exact vn e
  |ok r=>rw[e] at hk;cases hk
 rw[if_neg o] at hk
 by_cases t:k=13
 ·rw[if_pos t] at hk;cases h:b7 s.az.ag a with
  |false=>rw[h] at hk;cases hk;decide
  |true=>
   rw[h] at hk;cases e:kU s.aA a b with
   |error _=>rw[e] at hk;cases hk;exact ad6 e
   |ok r=>rw[e] at hk;cases hk
 rw[if_neg t] at hk;cases e:kQ s.aA p with
 |error _=>rw[e] at hk;cases hk;exact adf e
 |ok r=>rw[e] at hk;cases hk
theorem Vk {s:aZ} {c:cJ} {e:Int} (hk:ly s c= .error e):e∈fj:=by
 unfold ly at hk;split at hk
 ·cases h1:lY c||b7 s.az.ag (aE c.fArgs 0) with
  |false=>rw[h1] at hk;cases hk;decide
  |true=>rw[h1] at hk;exact aad hk
 ·cases hk;decide
theorem filter_all {α:Type} {l:List α} {p:α->Bool} (h: ∀z∈l,p z=true):l.filter p=l:=List.filter_eq_self.2 h
section
variable {α σ X β:Type}
theorem Fu {step:Int->α->Unit->Option (Unit⊕X)} {fin:Int->Unit->Option X} {p:α->Bool} {e:Nat->X} {l:List α} (h: ∀(i:Nat) z,l[i]? =some z->step i z ()=bif p z then some (.inr (e i)) else some (.inl ())):
  bV step fin 0 l ()=match l.findIdx? p with|some i=>some (e i)|none=>fin (l.length:Int) ():=by
 suffices H: ∀(r pre:List α),l=pre++r->bV step fin pre.length r ()=match r.findIdx? p with|some i=>some (e (pre.length+i))|none=>fin (l.length:Int) () by
  have:=H l [] rfl;simpa using this
 intro r
 induction r with
 |nil=>intro pre e;rw[e,ξ6];rfl
 |cons z r b=>
  intro pre a;rw[hf,h pre.length z (by rw[a];simp),ζd];cases hp:p z with
  |true=>simp
  |false=>
   simp only[cond_false,δ];have:=b (pre++[z]) (by rw[a];simp);rw[show(pre++[z]).length=pre.length+1 by simp] at this;rw[this];cases c:r.findIdx? p with
   |none=>rfl
   |some i=>simp only[ξD,ξz,if_false];rw[show pre.length+1+i=pre.length+(i+1) by omega]
theorem Ft {step:Int->α->σ->Option (σ⊕X)} {fin:Int->σ->Option X} {g:σ->α->σ} {Q:Nat->σ->Prop} {l:List α} (h: ∀(i:Nat) z a,l[i]? =some z->Q i a->step i z a=some (.inl (g a z))/\Q (i+1) (g a z)):
  ∀(r pre:List α) (a:σ),l=pre++r->Q pre.length a->bV step fin pre.length r a=fin (l.length:Int) (r.foldl g a)
 |[],pre,a,e,_=>by rw[e,ξ6];rfl
 |z::r,pre,a,e,c=>by
  obtain⟨h1,b⟩:=h pre.length z a (by rw[e];simp) c;rw[hf,h1];have:=Ft (fin:=fin) h r (pre++[z]) (g a z) (by rw[e];simp) (by rw[ζ,ω];exact b);rw[ζ,ω] at this;exact this
theorem CP {p:α->Bool} {f:α->β}: ∀(l:List α) (a:List β),l.foldl (λa z=>if p z then a++[f z] else a) a=a++(l.filter p).map f
 |[],a=>by simp
 |z::r,a=>by
  rw[ζY,CP r];cases hp:p z<;>simp[hp]
theorem KS {p:Bool} {a:List β} {y:β} {i:Nat} (h:a.length<=i):(if p then a++[y] else a).length<=i+1:=by
 split
 ·simp;omega
 ·omega
theorem qM {step:Int->α->List β->Option (List β⊕X)} {fin:Int->List β->Option X} {p:α->Bool} {f:α->β} {l:List α} (h: ∀(i:Nat) z a,l[i]? =some z->a.length<=i->step i z a=some (.inl (if p z then a++[f z] else a))):
  bV step fin 0 l []=fin (l.length:Int) ((l.filter p).map f):=by
 have:=Ft (fin:=fin) (Q:=λi a=>a.length<=i) (g:=λa z=>if p z then a++[f z] else a) (λi z a c b=>⟨h i z a c b,KS b⟩) l [] [] rfl (ξ3 0);rw[CP] at this;exact this
theorem Ql {step:Int×σ->Option ((Int×σ)⊕X)} {g:σ->α->σ} {Q:Nat->σ->Prop} {x:σ->X} {l:List α} (h: ∀(i:Nat) z a,l[i]? =some z->Q i a->step ((i:Int),a)=some (.inl (((i+1:Nat):Int),g a z))/\Q (i+1) (g a z)) (d: ∀a,Q l.length a->step ((l.length:Int),a)=some (.inr (x a))):
  ∀(r pre:List α) (a:σ) (n:Nat),l=pre++r->Q pre.length a->r.length<n->cf step n ((pre.length:Int),a)=some (x (r.foldl g a))
 |[],pre,a,n+1,e,b,_=>by
  have c:l=pre:=by rw[e,ξ6]
  rw[eI,<-c,d a (c▸b)];rfl
 |z::r,pre,a,n+1,e,b,hn=>by
  obtain⟨h1,f⟩:=h pre.length z a (by rw[e];simp) b;rw[eI,h1];have:=Ql h d r (pre++[z]) (g a z) n (by rw[e];simp) (by rw[ζ,ω];exact f) (by simpa using hn);rw[ζ,ω] at this;exact this
theorem Gj {step:Int×List β->Option ((Int×List β)⊕X)} {p:α->Bool} {f:α->β} {x:List β->X} {l:List α} {n:Nat} (h: ∀(i:Nat) z a,l[i]? =some z->a.length<=i->step ((i:Int),a)=some (.inl (((i+1:Nat):Int),if p z then a++[f z] else a))) (c: ∀a,step ((l.length:Int),a)=some (.inr (x a))) (hn:l.length<n):
  cf step n (0,[])=some (x ((l.filter p).map f)):=by
 have:=Ql (Q:=λi a=>a.length<=i) (g:=λa z=>if p z then a++[f z] else a) (λi z a d b=>⟨h i z a d b,KS b⟩) (λa _=>c a) l [] [] n rfl (ξ3 0) hn;rw[CP] at this;exact this
theorem om {g:α->α} {l:List α} {i:Nat} (h:i<l.length):((l.take i).map g++l.drop i).set i (g l[i])=(l.take (i+1)).map g++l.drop (i+1):=by
 have e:((l.take i).map g).length=i:=by simp;omega
 rw[ζw (h:=by omega),e,ξO,ξ4 h,ζI,List.take_succ_eq_append_getElem h,ζ5,ν];rfl
theorem get_map {g:α->α} {l:List α} {i:Nat} (h:i<l.length):((l.take i).map g++l.drop i)[i]? =some l[i]:=by
 have e:((l.take i).map g).length=i:=by simp;omega
 rw[χ (by omega),e,ξO,ξ4 h];rfl
theorem afg {step:Int×List α->Option ((Int×List α)⊕X)} {g:α->α} {x:List α->X} {l:List α} {n:Nat} (h: ∀(i:Nat) (hi:i<l.length) (a:List α),a[i]? =some l[i]->a.length=l.length->step ((i:Int),a)=some (.inl (((i+1:Nat):Int),a.set i (g l[i])))) (b: ∀a,step ((l.length:Int),a)=some (.inr (x a))) (hn:l.length<n):
  cf step n (0,l)=some (x (l.map g)):=by
 suffices H: ∀(k i n:Nat),i+k=l.length->k<n->cf step n ((i:Int),(l.take i).map g++l.drop i)=some (x (l.map g)) by
  have:=H l.length 0 n (by omega) hn;simpa using this
 intro k
 induction k with
 |zero=>
  intro i n e hn;obtain⟨m,rfl⟩: ∃m,n=m+1:=⟨n-1,by omega⟩;obtain rfl:i=l.length:=by omega
  rw[eI,b];simp
 |succ k c=>
  intro i n e hn;obtain⟨m,rfl⟩: ∃m,n=m+1:=⟨n-1,by omega⟩;have hi:i<l.length:=by omega
  rw[eI,h i hi _ (get_map hi) (by simp;omega),om hi];exact c (i+1) m (by omega) (by omega)
theorem JL {p:α->Bool}: ∀ {l:List α},l.find? p=(l.findIdx? p).bind λi=>l[i]?
 |[]=>rfl
 |z::r=>by
  rw[ζ6,ζd];cases hp:p z with
  |true=>rfl
  |false=>
   rw[JL];cases r.findIdx? p<;>rfl
theorem findIdx_take {p:α->Bool}: ∀ {l:List α},l.take ((l.findIdx? p).getD l.length)=l.takeWhile (λz=>!p z)/\l.drop ((l.findIdx? p).getD l.length)=l.dropWhile (λz=>!p z)
 |[]=>⟨rfl,rfl⟩
 |z::r=>by
  rw[ζd,ξv,ζ7];cases hp:p z with
  |true=>exact⟨rfl,rfl⟩
  |false=>
   have:=findIdx_take (p:=p) (l:=r);cases e:r.findIdx? p with
   |none=>
    rw[e] at this;simpa using this
   |some i=>
    rw[e] at this;simpa using this
end
theorem BL {X:Type} {step:Int×Int->Option ((Int×Int)⊕X)} {q:Nat->Bool} {N c:Nat} {x:X} (g:c<=N) (h1: ∀i,i<c->q i=true) (b: ∀i,c<=i->i<N->q i=false)
  (h: ∀lo hi:Nat,lo<hi->hi<=N->step ((lo:Int),(hi:Int))=some (.inl (if q ((lo+hi)/2) then((((lo+hi)/2+1:Nat):Int),(hi:Int)) else((lo:Int),(((lo+hi)/2:Nat):Int)))))
  (f:step ((c:Int),(c:Int))=some (.inr x)): ∀(d lo hi n:Nat),hi-lo<=d->d<n->lo<=c->c<=hi->hi<=N->cf step n ((lo:Int),(hi:Int))=some x
 |d,lo,hi,0,_,hn,_,_,_=>by omega
 |d,lo,hi,n+1,l,hn,hl,j,hm=>by
  rw[eI]
  by_cases e:lo=hi
  ·obtain rfl:lo=c:=by omega
   obtain rfl:lo=hi:=e;rw[f];rfl
  ·rw[h lo hi (by omega) hm,δ];cases a:q ((lo+hi)/2) with
   |true=>
    have:(lo+hi)/2<c:=Nat.lt_of_not_le λhle=>by rw[b _ hle (by omega)] at a;cases a
    exact BL g h1 b h f (d-1) _ hi n (by omega) (by omega) (by omega) j hm
   |false=>
    have:c<=(lo+hi)/2:=Nat.le_of_not_lt λk=>by rw[h1 _ k] at a;cases a
    exact BL g h1 b h f (d-1) lo _ n (by omega) (by omega) hl this (by omega)
theorem half {lo hi:Nat} (h:lo+hi<4611686018427387904):γ.wrap ((ο.wrap (γ.wrap ((lo:Int)+(hi:Int)))).fdiv 2)=(((lo+hi)/2:Nat):Int):=by
 rw[dy (x:=(lo:Int)+hi) (by omega) (by omega),kZ (x:=(lo:Int)+hi) (by omega) (by omega),ζ9 _ (by omega),dy (by omega) (by omega)];omega
theorem BF {α:Type} {lt:α->Bool}: ∀ {l:List α},l.Pairwise (λa b=>lt b=true->lt a=true)-> ∀(i:Nat) z,l[i]? =some z->(lt z=true↔i<(l.takeWhile lt).length)
 |[],_,i,z,h=>by simp at h
 |y::r,c,i,z,h=>by
  rw[φ] at c;rw[ξv];cases d:lt y with
  |true=>
   cases i with
   |zero=>simp at h;subst h;simp[d]
   |succ i=>simpa using BF c.2 i z (by simpa using h)
  |false=>
   simp only[ξz,if_false,ξE,Nat.not_lt_zero,iff_false];intro e;cases i with
   |zero=>simp at h;subst h;rw[d] at e;cases e
   |succ i=>
    have:=c.1 z (ξc (by simpa using h:r[i]? =some z)) e;rw[d] at this;cases this
theorem gU {α:Type} {b:Nat} {l:List α} (h:l.length*b<=140737488355328):app b [] l=some l:=by
 rw[s6 (by simpa using h)];rfl
theorem hy {α:Type} {b i n:Nat} {a:List α} {z:α} (h1:a.length<=i) (d:i<n) (c:(n+1)*b<=140737488355328):app b a [z]=some (a++[z]):=
 s6 (ξC (Nat.mul_le_mul_right b (by simp;omega)) c)
theorem Kg {p:bI} (h:dE p):xK p:=⟨h.u,by have:=h.len;unfold maxLen;omega⟩
theorem f46 {p:bI} (h:dE p):kn ab p=some 0:=by rw[v46 (Kg h),Oa h];rfl
theorem aaV (l:List ah) (pid:Int):ft l pid=(l.findIdx? λz=>z.aa==pid).bind λi=>l[i]? :=JL
theorem ET {S:Int->ah->Unit->T (Unit⊕Nat⊕(Bool×Int))} {F:Int->Unit->T (Nat⊕(Bool×Int))} {l:List ah} {pid:Int}
  (b:(F (l.length:Int) ()).val=some (.inr (false,(l.length:Int))))
  (c: ∀(i:Int) z,(S i z ()).val=(l[i.toNat]?).bind λf=>bif f.aa==pid then some (.inr (.inl i.toNat)) else some (.inl ())):
  bV (λi z a=>(S i z a).val) (λi a=>(F i a).val) 0 l ()=match l.findIdx? (λz=>z.aa==pid) with|some i=>some (.inl i)|none=>some (.inr (false,(l.length:Int))):=by
 rw[Fu (p:=λz=>z.aa==pid) (e:=λi=>.inl i) λi z d=>by rw[c,θ,d];rfl,b]
 first|done|(cases l.findIdx? (λz=>z.aa==pid)<;>rfl)
theorem SM (g:Γa) (l:List ah) (pid:Int):zm ab g l pid=match l.findIdx? (λz=>z.aa==pid) with|some i=>some (.inl i)|none=>some (.inr (false,(l.length:Int))):=
 ET (by unfold xo;simp) λi z=>rfl
theorem SN (g:Γa) (l:List ah) (pid:Int):zn ab g l pid=match l.findIdx? (λz=>z.aa==pid) with|some i=>some (.inl i)|none=>some (.inr (false,(l.length:Int))):=
 ET (by unfold xp;simp) λi z=>rfl
theorem SO (g:Γa) (l:List ah) (pid:Int):r8 ab g l pid=match l.findIdx? (λz=>z.aa==pid) with|some i=>some (.inl i)|none=>some (.inr (false,(l.length:Int))):=
 ET (by unfold xq;simp) λi z=>rfl
theorem v72 {p:bI} (h:dE p) (pid:Int):Cr ab p pid=some (match ft p.ag pid with|some z=>(z,true)|none=>(⟨0,0,false,0⟩,false)):=by
 show(AA ab p pid).val=_;unfold AA;have b:zl ab p.aM p.ag pid=match p.ag.find? (λz=>z.aa==pid) with|some z=>some (.inl z)|none=>some (.inr (false,(p.ag.length:Int))):=by
  show bV (λi z a=>(sk ab p.aM p.ag pid i z a).val) (λi a=>(q_ ab p.aM p.ag pid i a).val) 0 p.ag ()=_;rw[qL (p:=λz=>z.aa==pid) (e:=λz=>.inl z)]
  ·cases p.ag.find? (λz=>z.aa==pid) with
   |none=>unfold q_;simp
   |some z=>rfl
  ·intro i z _;unfold sk;cases h:z.aa==pid<;>simp
 simp only[T.aS,T.aI,T.bL,T.cN,T.aH,f46 h,δ,b,ft];cases p.ag.find? (λz=>z.aa==pid)<;>rfl
theorem v28 {p:bI} (h:dE p) (pid:Int):pS ab p pid=some (b7 p.ag pid):=by
 show(Bs ab p pid).val=_;unfold Bs b7;simp only[T.aS,v72 h,δ];cases ft p.ag pid<;>rfl
def Gu:bI:=⟨[0,0,0,0,0,0,0,0,0,0,0,0,0,0,0,0],[]⟩
theorem wy (l:List ah) (pid:Int):(l.findIdx? (λz=>z.aa==pid)=none/\b7 l pid=false/\ft l pid=none)\/ ∃i x,l.findIdx? (λz=>z.aa==pid)=some i/\l[i]? =some x/\b7 l pid=(!x.bp)/\ft l pid=some x/\x.aa=pid:=by
 have h:=aaV l pid;cases e:l.findIdx? (λz=>z.aa==pid) with
 |none=>
  rw[e] at h;exact .inl ⟨rfl,by unfold b7;rw[h];rfl,h⟩
 |some i=>
  rw[e] at h;obtain⟨hi,hp,_⟩:=ξQ.1 e;have a:l[i]? =some l[i]:=ε hi;rw[δ,a] at h;exact .inr ⟨i,l[i],rfl,a,by unfold b7;rw[h],h,by simpa using hp⟩
theorem SY (l:List ah) {a:Nat} (d:a<16):zL ab l (a:Int)=match l.findIdx? (λz=>ix z.aa==(a:Int)+1) with|some i=>some (.inl (i:Int))|none=>some (.inr (false,(l.length:Int))):=by
 show bV (λi z b=>(sC ab l a i z b).val) (λi b=>(rq ab l a i b).val) 0 l ()=_;rw[Fu (p:=λz=>ix z.aa==(a:Int)+1) (e:=λi=>.inl (i:Int))]
 ·unfold rq;cases l.findIdx? (λz=>ix z.aa==(a:Int)+1)<;>simp
 ·intro i z c;unfold sC;simp only[T.aS,T.aI,T.aH,θ,c,v93,δ];rw[dy (by omega) (by omega)]
theorem U3 {α:Type} {p:α->Bool} {l:List α}:l.any p=(l.findIdx? p).isSome:=by rw[ξd,ζm,List.findIdx?_isSome,ζm]
theorem S7 {p:bI} (h:dE p) {a:Nat} (c:a<16):(mF ab p.aM p.ag (a:Int)).val=bif !(!(p.ag.any λx=>ix x.aa==(a:Int)+1)&&decide (aE p.aM a<=65535)) then some (.inl ((a+1:Nat):Int)) else some (.inr (.inr (true,aE p.aM a,a,(a:Int),true,false,true))):=by
 unfold mF;have d:decide ((a:Int)<16)=true:=decide_eq_true (by omega);have hw:γ.wrap ((a:Int)+1)=((a+1:Nat):Int):=dy (by omega) (by omega);have hn:c' (a:Int) 16=some a:=by rw[lM (by omega) (by omega),θ]
 simp only[T.aS,T.aI,T.aH,T.bL,T.cN,d,hw,hn,SY p.ag c,U3,μ,cond_false,δ];cases e:p.ag.findIdx? (λz=>ix z.aa==(a:Int)+1) with
 |some i=>
  have:decide ((i:Int)>=0)=true:=decide_eq_true (by omega);simp[this]
 |none=>
  cases b:decide (aE p.aM a<=65535)<;>simp[b]
theorem SU {p:bI} (h:dE p):zz ab p.aM p.ag 0=match h0 p with|some i=>some (.inr (true,aE p.aM i,i,(i:Int),true,false,true))|none=>some (.inl (false,16)):=by
 show cf (λa=>(mF ab p.aM p.ag a).val) 1000000 ((0:Nat):Int)=_;rw[w6 (q:=λa:Nat=>!(!(p.ag.any λx=>ix x.aa==(a:Int)+1)&&decide (aE p.aM a<=65535))) (x:=λa=>.inr (true,aE p.aM a,a,(a:Int),true,false,true)) (y:=.inl (false,16)) (N:=16) (λa b=>S7 h b) (by unfold mF;rfl) (k:=16) (by omega) (by omega)];unfold h0;rw[ζC];simp only[ζx];cases (ηr 0 16).find? (λi:Nat=>!(p.ag.any λx=>ix x.aa==(i:Int)+1)&&decide (aE p.aM i<=65535))<;>rfl
theorem SZ (l:List ah) (a b:Int):zM ab l a b=match l.findIdx? (λz=>decide (ix z.aa>ix a)) with|some i=>some (.inl (i:Int))|none=>some (.inr (false,(l.length:Int))):=by
 show bV (λi z c=>(sD ab l a b i z c).val) (λi c=>(ru ab l a b i c).val) 0 l ()=_;rw[Fu (p:=λz=>decide (ix z.aa>ix a)) (e:=λi=>.inl (i:Int))]
 ·unfold ru;cases l.findIdx? (λz=>decide (ix z.aa>ix a))<;>simp
 ·intro i z d;unfold sD;simp only[T.aS,T.aI,T.aH,θ,d,v93,δ]
theorem Z2 {α:Type} {b:Nat} {l:List α} {p lt:α->Bool} {x:α} (hl:(l.length+1)*b<=1099511627776) (hp: ∀z,lt z=!p z):
  Go.Dc.hE b l (((l.findIdx? p).getD l.length:Nat):Int) [x]=some (b3 lt x l):=by
 obtain rfl:lt=λz=>!p z:=funext hp;obtain⟨h1,a⟩:=findIdx_take (p:=p) (l:=l);have hlen:(l.findIdx? p).getD l.length<=l.length:=by
  cases e:l.findIdx? p with
  |none=>exact ξ3 _
  |some i=>exact Nat.le_of_lt (ξQ.1 e).1
 unfold Go.Dc.hE b3;rw[if_pos ⟨by omega,by omega,by simpa using hl⟩,θ,h1,a];simp
theorem aeY {p:bI} (h:dE p) (parent:Int):tt ab p parent=some (match iV p parent with| .ok (q,v)=>(q,v,0)| .error e=>(Gu,0,e)):=by
 show(AF ab p parent).val=_;unfold AF;have hlen:=h.len;simp only[T.aS,T.aI,T.aH,T.bL,T.cN,T.mj,f46 h,gU (b:=32) (l:=p.ag) (by omega),SM,δ,show(!((0:Int)==0))=false from rfl,cond_false];unfold iV;rcases wy p.ag parent with⟨c,d,_⟩|⟨j,x,c,d,f,_⟩
 ·simp only[c,d,δ,cond_false];rfl
 ·simp only[c,d,f,δ,ζx];cases o:x.bp with
  |true=>rfl
  |false=>
   simp only[SU h,cond_false,cond_true,ξ2,T.aS,T.aI,T.aH,T.bL,T.cN,T.mj];cases hl:h0 p with
   |none=>rfl
   |some i=>
    obtain⟨h1,m,n⟩:=D8 hl;obtain⟨n0,n1,n2,s⟩:=MF h hl;have r:=h.kr i h1;have hn:c' (i:Int) 16=some i:=by rw[lM (by omega) (by omega),θ]
    have hw:ο.wrap (γ.wrap (γ.wrap (γ.wrap (aE p.aM i*64)+i)+1))=dB p i:=by
     unfold dB;rw[dy (x:=aE p.aM i*64) (by omega) (by omega),dy (x:=aE p.aM i*64+i) (by omega) (by omega),dy (by omega) (by omega),kZ (by omega) (by omega)]
    have g:γ.wrap (aE p.aM i+1)=aE p.aM i+1:=dy (by omega) (by omega);have a:=Z2 (b:=32) (l:=p.ag) (p:=λz=>decide (ix z.aa>ix (dB p i))) (lt:=λy=>decide (ix y.aa<=i+1)) (x:=ah.mk (dB p i) parent false 0) (by omega) (λz=>by rw[n2,ξd];simp);simp only[δ,hn,hw,g,SZ,h.gl,ηc,show Nat.beq 16 16=true from rfl,cond_true,lO];cases e:p.ag.findIdx? (λz=>decide (ix z.aa>ix (dB p i))) with
    |none=>
     rw[e,ζn] at a;simp only[δ,a]
    |some k=>
     rw[e,ξK] at a;have hk:decide ((k:Int)<0)=false:=decide_eq_false (by omega);simp only[δ,a,hk,cond_false]
theorem ae0 {p:bI} (h:dE p) (pid child:Int):tA ab p pid child=some (match i_ p pid child with| .ok (q,v)=>(q,v,0)| .error e=>(Gu,0,e)):=by
 show(AK ab p pid child).val=_;unfold AK;have hlen:=h.len;have o:zB ab p.ag child []=some (false,(p.ag.length:Int),p.ag.filter λy=>!(y.aa==child)):=by
  show bV (λi z a=>(sw ab p.ag child i z a).val) (λi a=>(ri ab p.ag child i a).val) 0 p.ag []=_;rw[qM (p:=λy=>!(y.aa==child)) (f:=id)]
  ·unfold ri;simp
  ·intro i z a g r;unfold sw;have hi:=(η.1 g).1;simp only[T.aS,T.aI,T.aH,θ,g,δ,hy (b:=32) (z:=z) r hi (by omega)];cases e:z.aa==child<;>simp[bne,e]
 simp only[T.aS,T.aI,T.aH,T.bL,T.cN,T.mj,f46 h,gU (b:=32) (l:=p.ag) (by omega),SO,δ,show(!((0:Int)==0))=false from rfl,cond_false,o];unfold i_;rcases wy p.ag pid with⟨c,d,_⟩|⟨j,x,c,d,n,_⟩
 ·simp only[c,d,δ,cond_false];rfl
 ·simp only[c,d,n,δ,ζx];cases s:x.bp with
  |true=>rfl
  |false=>
   simp only[cond_false,cond_true,ξ2];rcases wy p.ag child with⟨c1,_,c2⟩|⟨k,y,c1,c2,_,m,_⟩
   ·simp only[c1,c2,δ];rfl
   ·simp only[c1,c2,m,δ];cases y.aW==pid<;>cases y.bp<;>rfl
def vq (pid code:Int) (z:ah):ah:=bif z.aa==pid then⟨z.aa,z.aW,true,code⟩ else z
def qe (pid:Int) (o:Bool) (z:ah):Bool:=(!(z.aa==pid)||!o)&&(!(z.aW==pid)||!z.bp)
def pW (pid:Int) (z:ah):ah:=bif z.aW==pid then⟨z.aa,0,z.bp,z.cg⟩ else z
theorem JJ {α β:Type} {m:α->β} {k:β->Bool} {g:β->β}: ∀l:List α,((l.map m).filter k).map g=l.filterMap λz=>if k (m z) then some (g (m z)) else none
 |[]=>rfl
 |z::r=>by
  rw[ηd,ξw,ξN,<-JJ r];cases k (m z)<;>rfl
theorem JQ {α β:Type} {f g:α->Option β}: ∀ {l:List α},(∀z∈l,f z=g z)->l.filterMap f=l.filterMap g
 |[],_=>rfl
 |z::r,h=>by rw[ξN,ξN,h z ξq,JQ λy a=>h y (ξ9 _ a)]
theorem e' {α:Type} {l:List α} {i:Nat} {z:α} (h:l[i]? =some z):idx l (i:Int)=some z:=by
 unfold idx;rw[if_pos (by omega),θ,h]
theorem YR {p:bI} (h:dE p) {pid code:Int} {i:Nat} {x:ah} (b:p.ag[i]? =some x) (hp:x.aa=pid):
  ((p.ag.set i ⟨x.aa,x.aW,true,code⟩).filter (qe pid (x.aW==0))).map (pW pid)=p.ag.filterMap (gf pid code):=by
 have hm:p.ag.set i ⟨x.aa,x.aW,true,code⟩=p.ag.map (vq pid code):=by
  refine ξG λj=>?_;rw[ξZ,ξH]
  by_cases e:i=j
  ·subst e;rw[if_pos rfl,if_pos (η.1 b).1,b];simp[vq,hp]
  ·rw[if_neg e];cases o:p.ag[j]? with
   |none=>rfl
   |some z=>
    have:z.aa≠pid:=λa=>by
     obtain⟨h1,d⟩:=η.1 b;obtain⟨f,g⟩:=η.1 o;have:=τ.1 h.ord;rcases Nat.lt_or_gt_of_ne e with k|k
     ·have:=this i j h1 f k;rw[d,g,hp,a] at this;omega
     ·have:=this j i f h1 k;rw[d,g,hp,a] at this;omega
    have m:(z.aa==pid)=false:=by simpa using this
    simp[vq,m]
 rw[hm,JJ];refine JQ λz l=>?_;have q:=ξc b;unfold vq gf qe pW;cases c:z.aa==pid with
 |true=>
  have:z=x:=vU h.ord l q ((eq_of_beq c).trans hp.symm);subst this;have:(z.aW==pid)=false:=by have:=(h.one z l).self;rw[<-hp];simpa using this
  cases a:z.aW==0<;>simp[c,this]
 |false=>
  cases a:z.aW==pid<;>cases n:z.bp<;>simp[c,a,n]
theorem aeZ {p:bI} (h:dE p) (pid code:Int):tu ab p pid code=some (match iA p pid code with| .ok q=>(q,0)| .error e=>(Gu,e)):=by
 show(AG ab p pid code).val=_;unfold AG;have hlen:=h.len;have w: ∀(l:List ah) (o:Bool),l.length<=16->zA ab l pid o (l.length:Int) 0 []=some (false,(l.length:Int),l.filter (qe pid o)):=by
  intro l o hl;show cf (λa=>(oW ab l pid o (l.length:Int) a).val) 1000000 (0,[])=_;rw[Gj (p:=qe pid o) (f:=id) (x:=λa=>(false,(l.length:Int),a)) (l:=l) (λi z a s B=>?_) (λa=>?_) (by omega),ζZ]
  ·have hi:=(η.1 s).1;have n:decide ((i:Int)<(l.length:Int))=true:=decide_eq_true (by omega);have hw:γ.wrap ((i:Int)+1)=((i+1:Nat):Int):=dy (by omega) (by omega);unfold oW qe;simp only[T.aS,T.aI,T.aH,n,cond_true,e' s,θ,s,δ,hw,bne,hy (b:=32) (z:=z) B hi (by omega)];cases z.aa==pid<;>cases z.aW==pid<;>cases z.bp<;>cases o<;>rfl
  ·unfold oW;simp
 have A: ∀(a:Γa) (b:List ah) (c d:Int) (l:List ah),l.length<=16->zo ab a b pid d l 0 l=some (false,(l.length:Int),l.map (pW pid)):=by
  intro a b c d l hl;show cf (λx=>(oQ ab a b pid d l x).val) 1000000 (0,l)=_;rw[afg (g:=pW pid) (x:=λa=>(false,(l.length:Int),a)) (l:=l) (λi hi y r D=>?_) (λa=>?_) (by omega)]
  ·have n:decide ((i:Int)<(l.length:Int))=true:=decide_eq_true (by omega);have hw:γ.wrap ((i:Int)+1)=((i+1:Nat):Int):=dy (by omega) (by omega);unfold oQ pW;simp only[T.aS,T.aI,T.aH,n,cond_true,e' r,θ,r,δ,hw];cases e:l[i].aW==pid with
   |true=>rfl
   |false=>
    have:y.set i l[i]=y:=ξG λj=>by
     rw[ξZ]
     by_cases e:i=j
     ·subst e;rw[if_pos rfl,if_pos (by omega),r]
     ·rw[if_neg e]
    simp[this]
  ·unfold oQ;simp
 simp only[T.aS,T.aI,T.aH,T.bL,T.cN,T.mj,f46 h,gU (b:=32) (l:=p.ag) (by omega),SN,δ,show(!((0:Int)==0))=false from rfl,cond_false];unfold iA;rcases wy p.ag pid with⟨m,k,_⟩|⟨i,x,m,k,u,_,v⟩
 ·simp only[m,k,δ,cond_false];rfl
 ·simp only[m,k,u,δ,ζx];have hi:=(η.1 k).1;cases C:x.bp with
  |true=>rfl
  |false=>
   cases t:pid==1 with
   |true=>
    simp only[bne,t,cond_false,cond_true,ξ2,μ];rfl
   |false=>
    simp only[bne,t,cond_false,cond_true,ξ2,μ,List.set_set,List.getElem?_set_self hi,δ];rw[w _ _ (by simpa using hlen)];simp only[δ];rw[A _ _ pid _ _ (ξC (ξf _ _) (by simpa using hlen))];simp only[δ];rw[YR h k v]
theorem f47 {l:List aj} (h:fM l):iB ab l=some 0:=by
 rw[P8 (by have:=h.len;unfold maxLen;omega),N9.2 h];rfl
theorem v29 {l:List aj} (h:fM l) (pid:Int):tw ab l pid=some (pG l pid,(l.length:Int)-(pG l pid).length):=by
 show(AJ ab l pid).val=_;unfold AJ pG;have hlen:=h.len;have c:zC ab l pid []=some (false,(l.length:Int),l.filter λd=>!(d.aa==pid)):=by
  show bV (λi z a=>(sx ab l pid i z a).val) (λi a=>(rj ab l pid i a).val) 0 l []=_;rw[qM (p:=λd=>!(d.aa==pid)) (f:=id)]
  ·unfold rj;simp
  ·intro i z a g e;have hi:=(η.1 g).1;unfold sx;simp only[T.aS,T.aI,T.aH,bne,hy (b:=24) (z:=z) e hi (by omega),δ];cases z.aa==pid<;>rfl
 have:=ξf (λd:aj=>!(d.aa==pid)) l;simp only[T.aS,T.aI,T.bL,T.aH,f47 h,c,δ,show((0:Int) !=0)=false from rfl,cond_false];rw[dy (by omega) (by omega)]
theorem v232 {l:List aj} (h:fM l) (pid fd:Int):km ab l pid fd=some (match dc l pid fd with|some w=>(w,true)|none=>(0,false)):=by
 show(A9 ab l pid fd).val=_;unfold A9 dc;have b:zP ab l fd pid=match l.find? (λd=>d.aa==pid&&d.bF==fd) with|some z=>some (.inl z.cp)|none=>some (.inr (false,(l.length:Int))):=by
  show bV (λi z a=>(sF ab l fd pid i z a).val) (λi a=>(ry ab l fd pid i a).val) 0 l ()=_;rw[qL (p:=λd=>d.aa==pid&&d.bF==fd) (e:=λz=>.inl z.cp)]
  ·unfold ry;cases l.find? (λd=>d.aa==pid&&d.bF==fd)<;>simp
  ·intro i z _;unfold sF;simp only[T.aI,T.aH];cases z.aa==pid<;>cases z.bF==fd<;>rfl
 simp only[T.aS,T.aI,T.bL,T.cN,T.aH,f47 h,b,δ,show((0:Int) !=0)=false from rfl,cond_false];cases l.find? (λd=>d.aa==pid&&d.bF==fd)<;>rfl
theorem ae5 {l:List aj} (h:fM l) (bC:Int):tF ab l bC=some (lC l bC:Int):=by
 show(AR ab l bC).val=_;unfold AR lC;have hlen:=h.len;have c:zE ab l bC []=some (false,(l.length:Int),l.filter λd=>d.cp==bC):=by
  show bV (λi z a=>(sA ab l bC i z a).val) (λi a=>(rl ab l bC i a).val) 0 l []=_;rw[qM (p:=λd=>d.cp==bC) (f:=id)]
  ·unfold rl;simp
  ·intro i z a g e;have hi:=(η.1 g).1;unfold sA;simp only[T.aS,T.aI,T.aH,hy (b:=24) (z:=z) e hi (by omega),δ];cases z.cp==bC<;>rfl
 simp only[T.aS,T.aI,T.bL,T.aH,f47 h,c,δ,show((0:Int) !=0)=false from rfl,cond_false]
theorem PT {α:Type} (p:α->Bool) (l:List α):l.take (l.takeWhile p).length=l.takeWhile p/\l.drop (l.takeWhile p).length=l.dropWhile p:=by
 have h:=take_drop p l;constructor
 ·conv=>lhs;arg 2;rw[<-h]
  exact η5
 ·conv=>lhs;arg 2;rw[<-h]
  exact η6
theorem DL {α:Type} {b:Nat} {l:List α} {lt:α->Bool} {x:α} (hl:(l.length+1)*b<=1099511627776):Go.Dc.hE b l ((l.takeWhile lt).length:Int) [x]=some (b3 lt x l):=by
 obtain⟨h1,a⟩:=PT lt l;have:=(ξV (l:=l) lt).length_le;unfold Go.Dc.hE b3;rw[if_pos ⟨by omega,by omega,by simpa using hl⟩,θ,h1,a];simp
theorem My {α:Type} {b:Nat} {l:List α} {c:Int} {z:α} (d:(l.length:Int)<=c) (a:(b:Int)*c<=281474976710656) (h:c<=281474976710656):h4 b (l.length:Int) c z=some (η7 l.length z)/\c3 (η7 l.length z) l=l:=by
 constructor
 ·unfold h4;rw[if_pos ⟨by omega,d,a,h⟩,θ]
 ·unfold c3;simp
theorem py {α X:Type} {step:Int×Int->Option ((Int×Int)⊕X)} {l:List α} {lt:α->Bool} {x:Nat->X} (j:l.Pairwise λa b=>lt b=true->lt a=true) (hl:l.length<=100)
  (h: ∀lo hi m:Nat,lo<hi->hi<=l.length->m=(lo+hi)/2-> ∀(hm:m<l.length),γ.wrap ((ο.wrap (γ.wrap ((lo:Int)+(hi:Int)))).fdiv 2)=(m:Int)->γ.wrap ((m:Int)+1)=((m+1:Nat):Int)->step ((lo:Int),(hi:Int))=bif lt l[m] then some (.inl (((m+1:Nat):Int),(hi:Int))) else some (.inl ((lo:Int),(m:Int))))
  (k: ∀c:Nat,step ((c:Int),(c:Int))=some (.inr (x c))):cf step 1000000 (0,(l.length:Int))=some (x (l.takeWhile lt).length):=by
 have g:(l.takeWhile lt).length<=l.length:=(ξV (l:=l) lt).length_le;refine BL (q:=λi=>match l[i]? with|some z=>lt z|none=>false) g (λi hi=>?_) (λi hi f=>?_) (λlo hi f hle=>?_) (k _) l.length 0 l.length 1000000 (by omega) (by omega) (by omega) g (ξ3 _)
 ·have d:l[i]? =some l[i]:=ε (by omega);simp only[d];exact(BF j i _ d).2 hi
 ·have d:l[i]? =some l[i]:=ε f;simp only[d];cases e:lt l[i] with
  |false=>rfl
  |true=>have:=(BF j i _ d).1 e;omega
 ·have hm:(lo+hi)/2<l.length:=by omega
  rw[h lo hi _ f hle rfl hm (half (by omega)) (dy (by omega) (by omega)),ε hm];cases n:lt l[(lo+hi)/2]<;>simp[n]
theorem UZ {l:List aj} (h:l.Pairwise λa b=>dH a b=true) (n:aj):l.Pairwise λa b=>dH b n=true->dH a n=true:=h.imp λ{a b} h1 c=>BG a b n h1 c
theorem aeI {l:List aj} (pid:Int): ∀ {a:List Bool} {j:Nat},a.length=8->(∀d∈l,0<=d.bF/\d.bF<=7)->j<8->
  cn (l.foldl (λa z=>bif z.aa==pid then a.set z.bF.toNat true else a) a) j=(cn a j||(dc l pid j).isSome):=by
 unfold dc
 induction l with
 |nil=>intro a j _ _ _;simp
 |cons z r h=>
  intro a j c b g;have m:=b z ξq;rw[ζY,h (by cases z.aa==pid<;>simp[c]) (λd f=>b d (ξ9 _ f)) g,ζ6];cases e:z.aa==pid with
  |false=>rfl
  |true=>
   have:cn (a.set z.bF.toNat true) j=(cn a j||(z.bF==(j:Int))):=by
    unfold cn;rw[ξZ]
    by_cases k:z.bF.toNat=j
    ·rw[if_pos k,if_pos (by omega),show(z.bF==(j:Int))=true by simp;omega];simp
    ·rw[if_neg k,show(z.bF==(j:Int))=false by simp;omega];simp
   rw[cond_true,this];cases i:z.bF==(j:Int)<;>simp
theorem P6 {l:List aj} (h:fM l) {pid:Int} (hp:pid<4294967296) (bC:Int):pM ab l pid bC=some (match hL l pid bC with| .ok (q,v)=>(q,v,0)| .error e=>([],0,e)):=by
 show(AM ab l pid bC).val=_;unfold AM hL;have hlen:=h.len;have t: ∀d∈l,0<=d.bF/\d.bF<=7:=λd f=>by have:=h.is d f;simp[hF] at this;omega
 have A:zO ab l pid bC [false,false,false,false,false,false,false,false]=some (false,(l.length:Int),l.foldl (λa z=>bif z.aa==pid then a.set z.bF.toNat true else a) [false,false,false,false,false,false,false,false]):=by
  show bV (λi z a=>(sE ab l pid bC i z a).val) (λi a=>(oB ab l pid bC i a).val) 0 l _=_;refine(Ft (fin:=λi a=>(oB ab l pid bC i a).val) (Q:=λ_ a=>a.length=8) (g:=λa z=>bif z.aa==pid then a.set z.bF.toNat true else a) (λi z a I u=>?_) l [] _ rfl rfl).trans (by unfold oB;simp);have J:=t z (ξc I);refine⟨?_,by cases z.aa==pid<;>simp[u]⟩;unfold sE;simp only[T.aS,T.aI,T.aH,T.mj,lM (n:=8) J.1 (by omega),δ,u,show Nat.beq 8 8=true from rfl,cond_true];cases z.aa==pid<;>rfl
 have B:zG ab (l.foldl (λa z=>bif z.aa==pid then a.set z.bF.toNat true else a) [false,false,false,false,false,false,false,false]) 0=match hC l pid with|some i=>some (.inl (i:Int))|none=>some (.inr (false,8)):=by
  show cf (λa=>(oX ab _ a).val) 1000000 ((0:Nat):Int)=_;rw[w6 (q:=λi:Nat=>(dc l pid i).isSome) (x:=λi=>.inl (i:Int)) (y:=.inr (false,8)) (N:=8) (λa s=>?_) (by unfold oX;rfl) (k:=8) (by omega) (by omega)]
  ·unfold hC;rw[ζC];simp only[Option.not_isSome];cases (ηr 0 8).find? (λi:Nat=>(dc l pid i).isNone)<;>rfl
  ·unfold oX;have f:decide ((a:Int)<8)=true:=decide_eq_true (by omega);have w:cn [false,false,false,false,false,false,false,false] a=false:=by
    have: ∀b:Nat,b<8->cn [false,false,false,false,false,false,false,false] b=false:=by decide
    exact this a s
   simp only[T.aS,T.aI,T.aH,f,cond_true,lM (j:=(a:Int)) (n:=8) (by omega) (by omega),θ,δ,aeI pid (a:=[false,false,false,false,false,false,false,false]) rfl t s,w,ζ4,show γ.wrap ((a:Int)+1)=((a+1:Nat):Int) from dy (by omega) (by omega)];cases (dc l pid a).isSome<;>rfl
 have G:decide (pid>=4294967296)=false:=decide_eq_false (by omega);obtain⟨D,E⟩:=My (b:=24) (l:=l) (c:=(l.length:Int)) (z:=aj.mk 0 0 0) (by omega) (by omega) (by omega);simp only[T.aS,T.aI,T.bL,T.cN,T.aH,f47 h,A,B,G,δ,show((0:Int) !=0)=false from rfl,cond_false];cases K:hC l pid with
 |none=>rfl
 |some i=>
  have hi:decide ((i:Int)<0)=false:=decide_eq_false (by omega);simp only[δ,hi,cond_false];cases r:l.length==64 with
  |true=>
   have:((l.length:Int)==64)=true:=by simp at r ⊢;omega
   simp only[this,cond_true]
  |false=>
   have:((l.length:Int)==64)=false:=by simp at r ⊢;omega
   simp only[this,cond_false,D,E,δ];have C:zH ab l pid i bC (l.length:Int) (l.length:Int) 0=some (false,((l.takeWhile λy=>dH y ⟨pid,i,bC⟩).length:Int),((l.takeWhile λy=>dH y ⟨pid,i,bC⟩).length:Int)):=by
    show cf (λa=>(oY ab l pid i bC (l.length:Int) a).val) 1000000 (0,(l.length:Int))=_;refine py (lt:=λy=>dH y ⟨pid,i,bC⟩) (x:=λc=>(false,(c:Int),(c:Int))) (UZ h.ord _) (by omega) (λlo hi m L hle hm F hw H=>?_) λc=>?_
    ·unfold oY;have f:decide ((lo:Int)<(hi:Int))=true:=decide_eq_true (by omega);have o:l[m]? =some l[m]:=ε F;have p:decide (pC l[m] ⟨pid,i,bC⟩<0)=dH l[m] ⟨pid,i,bC⟩:=by
      have:=I_ l[m] ⟨pid,i,bC⟩;rw[ξd] at this ⊢;simp at this ⊢;rw[<-Bool.not_eq_false,<-this];omega
     simp only[T.aS,T.aI,T.aH,f,cond_true,hw,H,e' o,θ,o,δ,F_,p]
    ·unfold oY;simp
   rw[C];simp only[δ,nz,DL (b:=24) (l:=l) (lt:=λy=>dH y ⟨pid,i,bC⟩) (x:=aj.mk pid i bC) (by omega)]
   by_cases p:(l.takeWhile λy=>dH y ⟨pid,i,bC⟩).length<l.length
   ·have f:decide (((l.takeWhile λy=>dH y ⟨pid,i,bC⟩).length:Int)<(l.length:Int))=true:=decide_eq_true (by omega);have o:=ε p;simp only[f,cond_true,e' o,θ,o,δ,F_]
   ·have f:decide (((l.takeWhile λy=>dH y ⟨pid,i,bC⟩).length:Int)<(l.length:Int))=false:=decide_eq_false (by omega);simp only[f,cond_false]
theorem ae2 {l:List aj} (h:fM l) {pid:Int} (hp:pid<4294967296) (fd:Int):tC ab l pid fd=some (match hA l pid fd with| .ok (q,v)=>(q,v,0)| .error e=>([],0,e)):=by
 show(AO ab l pid fd).val=_;unfold AO hA;have a:decide (pid>=4294967296)=false:=decide_eq_false (by omega);simp only[T.aS,T.aI,T.aH,f47 h,v232 h,a,δ,show((0:Int) !=0)=false from rfl,cond_false];cases dc l pid fd with
 |none=>rfl
 |some w=>
  simp only[P6 h hp,δ,μ,cond_false]
theorem ae1 {l:List aj} (h:fM l) (pid fd:Int):tB ab l pid [fd]=some (match gW l pid fd with| .ok q=>(q,0)| .error e=>([],e)):=by
 show(AN ab l pid [fd]).val=_;unfold AN gW;have hlen:=h.len;have n: ∀w,dc l pid fd=some w->zD ab l pid fd w []=some (false,(l.length:Int),l.filter λd=>!(d.aa==pid&&d.bF==fd)):=by
  intro w hw;show bV (λi z a=>(sy ab l pid fd w i z a).val) (λi a=>(rk ab l pid fd w i a).val) 0 l []=_;rw[qM (p:=λd=>!(d.aa==pid&&d.bF==fd)) (f:=id)]
  ·unfold rk;simp
  ·intro i z a g r;have hi:=(η.1 g).1;have he:hB z ⟨pid,fd,w⟩=(z.aa==pid&&z.bF==fd):=by
    unfold hB;cases e:z.aa==pid&&z.bF==fd with
    |false=>simp[e]
    |true=>
     obtain⟨d,s,j,k,m⟩:=Kt hw;have c:=e;rw[ι] at c;have:=VZ h (ξc g) s ((eq_of_beq c.1).trans j.symm) ((eq_of_beq c.2).trans k.symm);subst this;simp[m]
   unfold sy;simp only[T.aS,T.aI,T.aH,θ,g,he,hy (b:=24) (z:=z) r hi (by omega),δ];cases z.aa==pid&&z.bF==fd<;>rfl
 have o:zt ab pid [fd] l true=match dc l pid fd with
   |some w=>some (.inr (false,true,1,l.filter λd=>!(d.aa==pid&&d.bF==fd)))
   |none=>some (.inl (true,false,0,fd,true,true,0,l)):=by
  show bV (λi z a=>(so ab pid [fd] i z a).val) (λi a=>(xt ab pid [fd] i a).val) 0 [fd] (true,l)=_;unfold bV so;simp only[T.aS,T.aI,T.bL,T.aH,v232 h,δ];cases t:dc l pid fd with
  |none=>rfl
  |some w=>
   simp only[n w t,δ,μ,cond_false];rfl
 simp only[T.aS,T.aI,T.bL,T.cN,T.aH,f47 h,o,gU (b:=24) (l:=l) (by omega),δ,show((0:Int) !=0)=false from rfl,cond_false];cases dc l pid fd<;>rfl
theorem Kd {m:bR} (h:fY m):Hl cA m:=⟨λz a=>Nh (h.path z a).1,by have:=h.len;unfold maxLen;omega⟩
theorem wY {m:bR} (h:fY m) {w:Int} (hw:dd w):nh ab m w=some (bif cA w then 0 else 310):=by
 show(A7 ab m w).val=_;unfold A7;simp only[T.aS,T.aI,T.aH,P9 (Kd h),(N' λx a=>(h.path x a).1).2 h,Nh hw,δ];rfl
theorem F8 {w:Int} (hw:dd w):lF ab w=some (bif cA w then⟨(c4 w).map bs,w⟩ else⟨[],0⟩,cA w):=by
 obtain⟨n,rfl⟩:=Int.eq_ofNat_of_zero_le hw.1;exact v131 (by have:=hw.2;omega)
theorem vQ {w:Int} (hw:cA w=true):(c4 w).all fl=true/\(∀p∈c4 w,(∀x∈p,x<256)/\p.length<=100)/\(c4 w).length<=4/\(jt (c4 w)).length<=8:=by
 unfold cA at hw;rw[ι] at hw;have c:=Ca w.toNat;have hl:=pF 8 w.toNat;unfold c4 EU;generalize dg 8 w.toNat=d at*
 have a:=hw.2;unfold nB at a
 by_cases e:d=[47]
 ·rw[if_pos e];exact⟨rfl,by simp,by simp,by simp[jt]⟩
 ·rw[if_neg e];rw[decide_eq_false e,ζ4] at a;cases d with
  |nil=>cases a
  |cons x t=>
   split at a
   ·rename_i t' b;rw[ι,decide_eq_true_eq] at a;refine⟨a.1,λp hp=>Mu c hl ⟨_,b⟩ hp,a.2,?_⟩;rw[u0 _ (x::t) (ξ3 _) (.inr ⟨_,b⟩)];exact hl
   ·cases a
theorem aeU {w:Int} (hw:cA w=true) (k:Nat):jy ab (((c4 w).map bs).take k)=some (q3 ((c4 w).take k),(il (bs (tx ((c4 w).take k)))).2==0&&decide (((c4 w).take k).length<=4)):=by
 obtain⟨h1,c,d,e⟩:=vQ hw;rw[<-ζl];have f:(jt ((c4 w).take k)).length<=8:=by
  have:jt (c4 w)=jt ((c4 w).take k)++jt ((c4 w).drop k):=by rw[<-KQ,ξ1]
  have:=congrArg ηs this;rw[ζ] at this;omega
 refine wX (ξe.2 λp hp=>ξe.1 h1 p (ξJ hp)) (λp hp=>c p (ξJ hp)) ?_ (by simp;omega);generalize (c4 w).take k=ps at*
 cases ps with
 |nil=>simp[tx]
 |cons a b=>show(jt (a::b)).length<=500;omega
theorem v226 {w:Int} (hw:dd w) (hp:cA w=true):Cv ab w=some (mi w,0):=by
 show(A8 ab w).val=_;unfold A8;obtain⟨h1,l,o,p⟩:=vQ hp;have f: ∀(k n:Nat) (acc:Γa),k<n->acc.length+k<=20->k<=(c4 w).length+1->cf (λa=>(mG ab ((c4 w).map bs) w a).val) n ((k:Int)-1,acc)=some (false,-1,acc++(List.range k).reverse.map λj=>q3 ((c4 w).take j)):=by
  intro k
  induction k with
  |zero=>
   intro n acc hn _ _;obtain⟨n,rfl⟩: ∃m,n=m+1:=⟨n-1,by omega⟩;rw[eI];unfold mG;simp
  |succ k h=>
   intro n acc hn q hk;obtain⟨n,rfl⟩: ∃m,n=m+1:=⟨n-1,by omega⟩;rw[eI];have e:decide (((k+1:Nat):Int)-1>=0)=true:=decide_eq_true (by omega);have d:ep ((c4 w).map bs) none (some (((k+1:Nat):Int)-1)) (some (((k+1:Nat):Int)-1))=some (((c4 w).map bs).take k):=by
    rw[show((k+1:Nat):Int)-1=(k:Int) by omega];unfold ep;simp only[ζn,ξK];rw[if_pos ⟨by omega,by omega,by simp;omega,by omega,by simp;omega,by simp⟩,θ];rfl
   have g:(mG ab ((c4 w).map bs) w (((k+1:Nat):Int)-1,acc)).val=some (.inl ((k:Int)-1,acc++[q3 ((c4 w).take k)])):=by
    unfold mG;simp only[T.aS,T.aI,T.aH,e,cond_true,d,aeU hp k,δ,hy (b:=8) (i:=20) (n:=21) (a:=acc) (z:=q3 ((c4 w).take k)) (by omega) (by omega) (by omega)];rw[show((k+1:Nat):Int)-1-1=(k:Int)-1 by omega,dy (x:=(k:Int)-1) (by omega) (by omega)]
   simp only[g,δ];rw[h n _ (by omega) (by rw[ζ,ω];omega) (by omega),η0,List.reverse_append,List.reverse_singleton,List.singleton_append,ηd,ν];rfl
 have c:zF ab ((c4 w).map bs) w (((c4 w).map bs).length:Int) []=some (false,-1,mi w):=by
  have:=f ((c4 w).length+1) 1000000 [] (by omega) (by simp;omega) (by omega);rw[show(((c4 w).length+1:Nat):Int)-1=(((c4 w).map bs).length:Int) by simp] at this;exact this
 simp only[T.aS,T.aI,T.bL,T.aH,F8 hw,hp,cond_true,δ,μ,cond_false,c]
theorem Vg {p q:Γ} (hp: ∀x∈p,x<256) (c: ∀x∈q,x<256):((bs p).toList==(bs q).toList)=decide (p=q):=by
 rw[ζD,ζD,ξd,beq_iff_eq,decide_eq_true_eq];constructor
 ·intro e;have e:p.map η1=q.map η1:=by simpa[bs] using e
  have a:=congrArg (List.map ηt) e;have b: ∀l:Γ,(∀x∈l,x<256)->(l.map η1).map ηt=l:=by
   intro l hl;rw[ηh]
   conv=>rhs;rw[<-ζZ l]
   refine List.map_congr_left λx d=>?_;have:=hl x d;simp;omega
  rw[b p hp,b q c] at a;exact a
 ·rintro rfl;rfl
theorem ae8 {a b:Int} (r:dd a) (s:dd b):Cw ab a b=some (mN a b):=by
 show(A_ ab a b).val=_;unfold A_ mN;simp only[T.aS,T.aI,T.bL,T.aH,T.cN,F8 r,F8 s,δ];cases m:cA a with
 |false=>rfl
 |true=>
  cases n:cA b with
  |false=>rfl
  |true=>
   simp only[cond_true,ηc,ξR];obtain⟨_,a2,a3,_⟩:=vQ m;obtain⟨_,l,v,_⟩:=vQ n;generalize c4 a=p at*
   generalize c4 b=q at*
   by_cases hl:p.length<=q.length
   ·have d:decide ((p.length:Int)<=(q.length:Int))=true:=decide_eq_true (by omega);have t:ep (q.map bs) none (some (p.length:Int)) none=some ((q.take p.length).map bs):=by rw[VM (by simpa using hl),ζl]
    have hn:((p.length:Int) !=(((q.take p.length).map bs).length:Int))=false:=by simp;omega
    have o:zW ab (p.map bs) ((q.take p.length).map bs)=bif decide (q.take p.length=p) then some (.inr (false,(p.length:Int))) else some (.inl ()):=by
     show bV (λi z c=>(sI ab (p.map bs) ((q.take p.length).map bs) i z c).val) (λi c=>(rB ab (p.map bs) ((q.take p.length).map bs) i c).val) 0 (p.map bs) ()=_;rw[oc (q:=λi z=>match((q.take p.length).map bs)[i]? with|some y=>z.toList==y.toList|none=>false) (x:=.inl ()) λi z f=>?_]
     ·have:allI (λi z=>match((q.take p.length).map bs)[i]? with|some y=>z.toList==y.toList|none=>false) 0 (p.map bs)=decide (q.take p.length=p):=by
       rw[ξd,lj,decide_eq_true_eq];constructor
       ·intro h;refine List.ext_getElem (by simp;omega) λi h1 g=>?_;have:=h i (bs p[i]) (by rw[ξH,ε g];rfl);rw[ξp,ξH,ε h1,ξD] at this;have:=(Vg (a2 _ (ξ5 g)).1 (l _ (ξJ (ξ5 h1))).1).symm.trans this;exact(of_decide_eq_true this).symm
       ·intro h k z f;rw[ξp,h,f];exact beq_self_eq_true _
      rw[this];unfold rB;simp
     ·unfold sI;have hi:=(η.1 f).1;have u:i<((q.take p.length).map bs).length:=by simp at hi ⊢;omega
      have j:((q.take p.length).map bs)[i]? =some ((q.take p.length).map bs)[i]:=ε u;simp only[T.aS,T.aI,T.aH,e' j,j,δ];cases z.toList==((q.take p.length).map bs)[i].toList<;>rfl
    have e:p.isPrefixOf q=decide (q.take p.length=p):=by
     rw[ξd,ζa,List.prefix_iff_eq_take,decide_eq_true_eq];exact eq_comm
    rw[d,t,e];simp only[cond_true,δ,hn,cond_false,o];cases decide (q.take p.length=p)<;>rfl
   ·have d:decide ((p.length:Int)<=(q.length:Int))=false:=decide_eq_false (by omega);have e:p.isPrefixOf q=false:=by
     rw[<-ζ3,ζa];intro h;exact hl h.length_le
    rw[d,e];rfl
theorem Mk (j:Int): ∀(l:List av) (m:Γc),l.Pairwise (λa b=>a.bl≠b.bl)->bD (mapM m l) j=match l.find? (λx=>x.bl==j) with|some x=>some x.a6|none=>bD m j
 |[],m,_=>rfl
 |z::r,m,h=>by
  rw[φ] at h;show bD (mapM (ck m z.bl z.a6) r) j=_;rw[Mk j r _ h.2,ζ6,nJ];cases e:z.bl==j with
  |true=>
   have e:=eq_of_beq e;rw[lG.2 λy c=>by have:=h.1 y c;rw[e] at this;simpa using λk=>this k.symm];simp[e]
  |false=>
   have: ¬j=z.bl:=λk=>by rw[k] at e;simp at e
   simp only[if_neg this]
theorem uS {m:bR} (h:fY m) (w:Int):bD (m.ag.foldl (λa z=>ck a z.bl z.a6) []) w=di m w:=by
 rw[fold_map,Mk w _ _ h.new];unfold di;cases m.ag.find? (λx=>x.bl==w)<;>rfl
theorem vp {X:Type} {S:Int->av->Γc->T (Γc⊕X)} {F:Int->Γc->T X} {l:List av} (b: ∀i z a,(S i z a).val=some (.inl (ck a z.bl z.a6))):
  bV (λi z a=>(S i z a).val) (λi a=>(F i a).val) 0 l []=(F (l.length:Int) (l.foldl (λa z=>ck a z.bl z.a6) [])).val:=by
 rw[od (g:=λa z=>ck a z.bl z.a6) λi z a _=>b i z a];simp
def Qy:bR:=⟨[],0⟩
theorem ae3 {m:bR} (h:fY m) {w:Int} (hw:dd w):tD ab m w=some (match ih m w with| .ok (q,v)=>(q,v,0)| .error e=>(Qy,0,e)):=by
 show(AP ab m w).val=_;unfold AP ih;have hlen:=h.len;have p:=h.n1;have r:=h.n2;have f:zf ab m.ag []=some (false,(m.ag.length:Int),m.ag.foldl (λa z=>ck a z.bl z.a6) []):=by
  refine(vp λi z a=>rfl).trans ?_;unfold xl;simp
 obtain⟨g,j⟩:=My (b:=16) (l:=m.ag) (c:=γ.wrap ((m.ag.length:Int)+1)) (z:=av.mk 0 0) (by rw[dy (by omega) (by omega)];omega) (by rw[dy (by omega) (by omega)];omega) (by rw[dy (by omega) (by omega)];omega);simp only[T.aS,T.aI,T.bL,T.aH,wY h hw,δ,f,uS h,g,j];cases hp:cA w with
 |false=>rfl
 |true=>
  simp only[cond_true,cond_false,show((0:Int) !=0)=false from rfl];cases hi:di m w with
  |some i=>rfl
  |none=>
   have d:((m.ag.length:Int)==16)=(m.ag.length==16):=by rw[ξd];simp;omega
   simp only[ζJ,cond_false,d];cases o:m.ag.length==16 with
   |true=>rfl
   |false=>
    cases hn:decide (m.bm>1073741824) with
    |true=>rfl
    |false=>
     have:app 16 m.ag [av.mk w m.bm]=some (m.ag++[av.mk w m.bm]):=hy (i:=16) (n:=17) hlen (by omega) (by omega);have k:ο.wrap (m.bm+1)=m.bm+1:=kZ (by omega) (by omega);simp only[cond_false,this,δ,k,ηi]
theorem ae4 {m:bR} (h:fY m) {w:Int} (hw:dd w):tE ab m w=some (match iO m w with| .ok v=>(v,0)| .error e=>(0,e)):=by
 show(AQ ab m w).val=_;unfold AQ iO;have b:zg ab m.ag []=some (false,(m.ag.length:Int),m.ag.foldl (λa z=>ck a z.bl z.a6) []):=by
  refine(vp λi z a=>rfl).trans ?_;unfold xm;simp
 simp only[T.aS,T.aI,T.bL,T.aH,wY h hw,δ,b,uS h];cases cA w with
 |false=>rfl
 |true=>cases di m w<;>rfl
theorem v193 {m:bR} (h:fY m) {w:Int} (hw:dd w):tG ab m w=some (match iY m w with| .ok v=>(v,0)| .error e=>(Qy,e)):=by
 show(AT ab m w).val=_;unfold AT iY;have hlen:=h.len;have j:zh ab m.ag []=some (false,(m.ag.length:Int),m.ag.foldl (λa z=>ck a z.bl z.a6) []):=by
  refine(vp λi z a=>rfl).trans ?_;unfold xn;simp
 have d:zQ ab m.ag m.bm w=bif kd m w then some (.inl ()) else some (.inr (false,(m.ag.length:Int))):=by
  show bV (λi z a=>(sG ab m.ag m.bm w i z a).val) (λi a=>(rz ab m.ag m.bm w i a).val) 0 m.ag ()=_;unfold kd;rw[qL (p:=λx=>!(x.bl==w)&&mN w x.bl) (e:=λ_=>.inl ()),<-YW]
  ·unfold rz;cases m.ag.find? (λx=>!(x.bl==w)&&mN w x.bl)<;>simp
  ·intro i z c;unfold sG;simp only[T.aS,T.aI,T.aH,ae8 hw (h.path z c).1,δ,bne];cases z.bl==w<;>cases mN w z.bl<;>rfl
 have g:zI ab m.ag w []=some (false,(m.ag.length:Int),m.ag.filter λx=>!(x.bl==w)):=by
  show bV (λi z a=>(sB ab m.ag w i z a).val) (λi a=>(rm ab m.ag w i a).val) 0 m.ag []=_;rw[qM (p:=λx=>!(x.bl==w)) (f:=id)]
  ·unfold rm;simp
  ·intro i z a c k;have hi:=(η.1 c).1;unfold sB;simp only[T.aS,T.aI,T.aH,bne,hy (b:=16) (z:=z) k hi (by omega),δ];cases z.bl==w<;>rfl
 simp only[T.aS,T.aI,T.bL,T.cN,T.aH,wY h hw,δ,j,uS h,d,g];cases cA w with
 |false=>rfl
 |true=>
  cases di m w with
  |none=>rfl
  |some i=>cases kd m w<;>rfl
def EH:(Bool×Int×Int×Bool×Int×Int)⊕(Bool×Int×Int)->Int
 | .inl y=>y.2.1
 | .inr y=>y.2.1
theorem v183 {m:bR} (h:fY m) {w:Int} (hw:dd w):nf ab m w=some (match fV m w with| .ok v=>(v,0)| .error e=>(0,e)):=by
 show(AL ab m w).val=_;unfold AL fV wW;have k:ze ab m.ag []=some (false,(m.ag.length:Int),m.ag.foldl (λa z=>ck a z.bl z.a6) []):=by
  refine(vp λi z a=>rfl).trans ?_;unfold xk;simp
 have f: ∀ {u i},di m u=some i->0<i:=λe=>by
  obtain⟨x,q,_,rfl⟩:=DD e;have:=h.id x q;omega
 have n: ∀(l:Γa) (c:Γa) (j:Nat),∃y,bV (λi z a=>(oS ab c (m.ag.foldl (λa z=>ck a z.bl z.a6) []) i z a).val) (λi a=>(xr ab c (m.ag.foldl (λa z=>ck a z.bl z.a6) []) i a).val) j l 0=some y/\EH y=(l.findSome? (di m)).getD 0:=by
  intro l c
  induction l with
  |nil=>intro j;exact⟨_,rfl,rfl⟩
  |cons u r t=>
   intro j;have p:(oS ab c (m.ag.foldl (λa z=>ck a z.bl z.a6) []) j u 0).val=bif decide ((di m u).getD 0>0) then some (.inr (.inl (decide ((di m u).getD 0>0),(di m u).getD 0,u,decide ((j:Int)<(c.length:Int)),0,(j:Int)))) else some (.inl ((di m u).getD 0)):=by
    unfold oS;simp only[T.aI,T.aH,uS h]
   rw[hf,List.findSome?_cons,p];cases e:di m u with
   |some i=>
    have:decide ((some i).getD 0>0)=true:=decide_eq_true (f e);rw[this];exact⟨_,rfl,rfl⟩
   |none=>
    have:decide ((none:Option Int).getD 0>0)=false:=rfl;rw[this];exact t (j+1)
 simp only[T.aS,T.aI,T.bL,T.cN,T.aH,wY h hw,δ,k];cases hp:cA w with
 |false=>rfl
 |true=>
  obtain⟨y,d,o⟩:=n (mi w) (mi w) 0;have d:zr ab (mi w) (m.ag.foldl (λa z=>ck a z.bl z.a6) []) 0=some y:=d;simp only[cond_true,cond_false,show((0:Int) !=0)=false from rfl,v226 hw hp,δ,d];have s: ∀(x:Int),(bif x==0 then some ((0:Int),(4:Int)) else some (x,0))=some (if x=0 then(0,4) else(x,0)):=λx=>by
   by_cases e:x=0
   ·simp[e]
   ·rw[show(x==0)=false by simpa using e,if_neg e];rfl
  refine Eq.trans (b:=some (if EH y=0 then((0:Int),(4:Int)) else(EH y,0))) (by cases y<;>exact s _) ?_;rw[o];cases g:(mi w).findSome? (di m) with
  |none=>rfl
  |some i=>
   obtain⟨u,_,hu⟩:=ξU g;have:=f hu;have: ¬i=0:=by omega
   simp[this]
theorem f49 {s:aO} (h:eL s) (b:s.au.length<=16):jA ab s=some 0:=by
 rw[v49 ⟨λz a=>(h.name z a).1,by have:=h.len;unfold maxLen;omega,by unfold maxLen;omega⟩,(N_ λz a=>(h.name z a).1).2 h];rfl
section
variable {α:Type} {key:α->Int} {l:List α} {n:Int}
theorem aeN (c:l.Pairwise λa b=>key a<key b):l.takeWhile (λz=>decide (key z<n))=l.filter (λz=>decide (key z<n))/\l.dropWhile (λz=>decide (key z<n))=l.filter (λz=>!decide (key z<n)):=by
 induction l with
 |nil=>exact⟨rfl,rfl⟩
 |cons z r i=>
  rw[φ] at c;obtain⟨h1,f⟩:=i c.2;rw[ξv,ζ7,ξw,ξw];cases e:decide (key z<n) with
  |true=>simp only[if_true,h1,f,μ,ξz,if_false];exact⟨trivial,trivial⟩
  |false=>
   have e:=of_decide_eq_false e;have g:r.filter (λz=>decide (key z<n))=[]:=ζp.2 λy d=>by have:=c.1 y d;simp;omega
   have h:r.filter (λz=>!decide (key z<n))=r:=filter_all λy d=>by have:=c.1 y d;simp;omega
   simp[g,h]
theorem qO (e:l.Pairwise λa b=>key a<key b):
  (l.find? (λz=>key z==n)=none/\(∀z,l[(l.takeWhile λz=>decide (key z<n)).length]? =some z->key z≠n)/\l.dropWhile (λz=>decide (key z<n))=l.filter λz=>decide (n<key z))\/
  ∃z,l.find? (λz=>key z==n)=some z/\key z=n/\l[(l.takeWhile λz=>decide (key z<n)).length]? =some z/\l.dropWhile (λz=>decide (key z<n))=z::l.filter λz=>decide (n<key z):=by
 induction l with
 |nil=>exact .inl ⟨rfl,by simp,rfl⟩
 |cons z r j=>
  rw[φ] at e;rw[ζ6,ξv,ζ7,ξw]
  by_cases h1:key z<n
  ·have f:(key z==n)=false:=by simp;omega
   have g:decide (n<key z)=false:=by simp;omega
   simp only[f,g,decide_eq_true h1,if_true,ξg,List.getElem?_cons_succ,ξz,if_false];exact j e.2
  ·have h:decide (key z<n)=false:=decide_eq_false h1;have i:r.filter (λz=>decide (n<key z))=r:=filter_all λy d=>by have:=e.1 y d;simp;omega
   simp only[h,ξz,if_false,ξE,List.getElem?_cons_zero,i]
   by_cases c:key z=n
   ·right;exact⟨z,by simp[c],c,rfl,by simp[c]⟩
   ·left;have f:(key z==n)=false:=by simpa using c
    have g:decide (n<key z)=true:=by simp;omega
    simp only[f,g,if_true];refine⟨lG.2 λy d=>by have:=e.1 y d;simp;omega,λy d=>?_,trivial⟩;cases d;exact c
end
theorem td (x y:Int):decide (f' x y<0)=decide (x<y):=by
 unfold f';rw[ξd,decide_eq_true_eq,decide_eq_true_eq];split
 ·simp[*]
 ·split
  ·simp;omega
  ·simp;omega
theorem cmp_eq (x y:Int):(f' x y==0)=decide (x=y):=by
 unfold f';rw[ξd,decide_eq_true_eq,beq_iff_eq];split
 ·constructor
  ·intro h;omega
  ·intro h;omega
 ·split
  ·constructor
   ·intro h;omega
   ·intro h;omega
  ·constructor
   ·intro _;omega
   ·intro _;rfl
theorem vg {α:Type} {key:α->Int} {l:List α} {n:Int} (d:l.Pairwise λa b=>key a<key b):l.Pairwise λa b=>decide (key b<n)=true->decide (key a<n)=true:=d.imp λ{a b} h1 c=>decide_eq_true (by have:=of_decide_eq_true c;omega)
theorem v31 {s:aO} (h:eL s) (g:s.au.length<=16) (pid:Int):tv ab s pid=some (ku s pid):=by
 show(AI ab s pid).val=_;unfold AI ku;have hlen:=h.len;have d:zN ab s.ax s.au pid (s.ax.length:Int) 0 []=some (false,(s.ax.length:Int),(s.ax.filter λy=>y.aa==pid).map aw.bb):=by
  show cf (λa=>(o2 ab s.ax s.au pid (s.ax.length:Int) a).val) 1000000 (0,[])=_;rw[Gj (p:=λy=>y.aa==pid) (f:=aw.bb) (x:=λa=>(false,(s.ax.length:Int),a)) (l:=s.ax) (λi z a c e=>?_) (λa=>?_) (by omega)]
  ·have hi:=(η.1 c).1;have j:decide ((i:Int)<(s.ax.length:Int))=true:=decide_eq_true (by omega);have hw:γ.wrap ((i:Int)+1)=((i+1:Nat):Int):=dy (by omega) (by omega);unfold o2;simp only[T.aS,T.aI,T.aH,j,cond_true,e' c,δ,hw,hy (b:=8) (z:=z.bb) e hi (by omega)];cases z.aa==pid<;>rfl
  ·unfold o2;simp
 simp only[T.aS,T.aI,T.bL,T.aH,f49 h g,δ,d,show((0:Int) !=0)=false from rfl,cond_false]
theorem v196 {s:aO} (h:eL s) (o:s.au.length<=16) {n:Int} (hn:dd n):ng ab s n=some (match gH s n with| .ok p=>(p,0)| .error e=>(0,e)):=by
 show(AY ab s n).val=_;unfold AY gH fq;have hlen:=h.len;have k:zT ab s.ax n 0 (s.ax.length:Int)=some (false,((s.ax.takeWhile λz=>decide (z.bb<n)).length:Int),((s.ax.takeWhile λz=>decide (z.bb<n)).length:Int)):=by
  show cf (λa=>(o5 ab s.ax n a).val) 1000000 (0,(s.ax.length:Int))=_;refine py (l:=s.ax) (lt:=λz=>decide (z.bb<n)) (x:=λc=>(false,(c:Int),(c:Int))) (vg (key:=aw.bb) h.jJ) (by omega) (λlo hi m u hle hm q hw t=>?_) λc=>?_
  ·unfold o5;have b:decide ((lo:Int)<(hi:Int))=true:=decide_eq_true (by omega);have d:s.ax[m]? =some s.ax[m]:=ε q;simp only[T.aS,T.aI,T.aH,b,cond_true,hw,t,e' d,θ,d,δ,hR,td]
  ·unfold o5;simp
 simp only[T.aS,T.aI,T.bL,T.aH,f49 h o,wZ hn,δ,k,show((0:Int) !=0)=false from rfl,cond_false];cases eD n with
 |false=>rfl
 |true=>
  simp only[μ,cond_true,cond_false];rcases qO (key:=aw.bb) (n:=n) h.jJ with⟨f,g,_⟩|⟨z,f,g,i,_⟩
  ·rw[f]
   by_cases j:(s.ax.takeWhile λz=>decide (z.bb<n)).length<s.ax.length
   ·have d:=ε j;have r:=g _ d;have b:decide (((s.ax.takeWhile λz=>decide (z.bb<n)).length:Int)<(s.ax.length:Int))=true:=decide_eq_true (by omega);simp only[b,cond_true,e' d,δ,hR,cmp_eq,decide_eq_false r];rfl
   ·have b:decide (((s.ax.takeWhile λz=>decide (z.bb<n)).length:Int)<(s.ax.length:Int))=false:=decide_eq_false (by omega);simp only[b,cond_false];rfl
  ·rw[f];have j:=(η.1 i).1;have b:decide (((s.ax.takeWhile λz=>decide (z.bb<n)).length:Int)<(s.ax.length:Int))=true:=decide_eq_true (by omega);simp only[b,cond_true,e' i,δ,hR,cmp_eq,decide_eq_true g];rfl
theorem B0 {S:Int×List aq->T ((Int×List aq)⊕(Bool×Int×List aq))} {s:aO} (h:eL s) (k:s.au.length<=16)
  (d: ∀a,(S a).val=bif decide (a.1<(s.au.length:Int)) then(idx s.au a.1).bind λz0=>(app 8 [] z0.bc).bind λj=>(app 32 a.2 [aq.mk z0.aa j]).bind λz2=>some (.inl (γ.wrap (a.1+1),z2)) else some (.inr (decide (a.1<(s.au.length:Int)),a.1,a.2))):
  cf (λa=>(S a).val) 1000000 (0,[])=some (false,(s.au.length:Int),s.au):=by
 rw[Gj (p:=λ_=>true) (f:=id) (x:=λa=>(false,(s.au.length:Int),a)) (l:=s.au) (λi z a c e=>?_) (λa=>?_) (by omega)]
 ·rw[filter_all λ_ _=>rfl,ζZ]
 ·have hi:=(η.1 c).1;have g:decide ((i:Int)<(s.au.length:Int))=true:=decide_eq_true (by omega);have hw:γ.wrap ((i:Int)+1)=((i+1:Nat):Int):=dy (by omega) (by omega);have m:=(h.box z (ξc c)).2.2;rw[d];simp only[g,cond_true,e' c,δ,gU (b:=8) (l:=z.bc) (by omega),hw,hy (b:=32) (z:=z) e hi (by omega)];rfl
 ·rw[d];simp
theorem v194 {s:aO} (h:eL s) (k:s.au.length<=16) {n:Int} (hn:dd n) (pid:Int):tH ab s n pid=some (match iS s n pid with| .ok q=>(q,0)| .error e=>(⟨[],[]⟩,e)):=by
 show(AU ab s n pid).val=_;unfold AU iS fq;have hlen:=h.len;have r:zJ ab s.au s.ax (s.au.length:Int) 0 []=some (false,(s.au.length:Int),s.au):=B0 h k λa=>rfl;have t:zR ab n s.ax 0 (s.ax.length:Int)=some (false,((s.ax.takeWhile λz=>decide (z.bb<n)).length:Int),((s.ax.takeWhile λz=>decide (z.bb<n)).length:Int)):=by
  show cf (λa=>(o3 ab n s.ax a).val) 1000000 (0,(s.ax.length:Int))=_;refine py (l:=s.ax) (lt:=λz=>decide (z.bb<n)) (x:=λc=>(false,(c:Int),(c:Int))) (vg (key:=aw.bb) h.jJ) (by omega) (λlo hi m B hle hm v hw A=>?_) λc=>?_
  ·unfold o3;have d:decide ((lo:Int)<(hi:Int))=true:=decide_eq_true (by omega);have f:s.ax[m]? =some s.ax[m]:=ε v;simp only[T.aS,T.aI,T.aH,d,cond_true,hw,A,e' f,θ,f,δ,hR,td]
  ·unfold o3;simp
 have u:=DL (b:=16) (l:=s.ax) (lt:=λy=>decide (y.bb<n)) (x:=aw.mk n pid) (by omega);have p:((s.ax.length:Int)==16)=(s.ax.length==16):=by rw[ξd];simp;omega
 simp only[T.aS,T.aI,T.bL,T.aH,T.mj,f49 h k,gU (b:=16) (l:=s.ax) (by omega),wZ hn,Ga,δ,r,t,p,nA,u,show((0:Int) !=0)=false from rfl,cond_false];cases eD n with
 |false=>rfl
 |true=>
  cases ec pid with
  |false=>rfl
  |true=>
   simp only[μ,cond_true,cond_false];rcases qO (key:=aw.bb) (n:=n) h.jJ with⟨g,i,_⟩|⟨z,g,i,j,_⟩
   ·rw[g]
    by_cases o:(s.ax.takeWhile λz=>decide (z.bb<n)).length<s.ax.length
    ·have f:=ε o;have w:=i _ f;have d:decide (((s.ax.takeWhile λz=>decide (z.bb<n)).length:Int)<(s.ax.length:Int))=true:=decide_eq_true (by omega);simp only[d,cond_true,e' f,θ,f,δ,hR,cmp_eq,decide_eq_false w,cond_false];cases s.ax.length==16<;>rfl
    ·have d:decide (((s.ax.takeWhile λz=>decide (z.bb<n)).length:Int)<(s.ax.length:Int))=false:=decide_eq_false (by omega);simp only[d,cond_false];cases s.ax.length==16<;>rfl
   ·rw[g];have o:=(η.1 j).1;have d:decide (((s.ax.takeWhile λz=>decide (z.bb<n)).length:Int)<(s.ax.length:Int))=true:=decide_eq_true (by omega);simp only[d,cond_true,e' j,θ,j,δ,hR,cmp_eq,decide_eq_true i];rfl
theorem ae6 {s:aO} (h:eL s) (o:s.au.length<=16) {n p:Int} (hn:dd n) (h1:eD n=true) (e:fq s.ax n=some p):tI ab s n=some (qY s n,0):=by
 show(AW ab s n).val=_;unfold AW qY;unfold fq at e;have hlen:=h.len;have u:zK ab s.au s.ax (s.au.length:Int) 0 []=some (false,(s.au.length:Int),s.au):=B0 h o λa=>rfl;have v:zS ab n s.ax 0 (s.ax.length:Int)=some (false,((s.ax.takeWhile λz=>decide (z.bb<n)).length:Int),((s.ax.takeWhile λz=>decide (z.bb<n)).length:Int)):=by
  show cf (λa=>(o4 ab n s.ax a).val) 1000000 (0,(s.ax.length:Int))=_;refine py (l:=s.ax) (lt:=λz=>decide (z.bb<n)) (x:=λc=>(false,(c:Int),(c:Int))) (vg (key:=aw.bb) h.jJ) (by omega) (λlo hi m E hle hm B hw C=>?_) λc=>?_
  ·unfold o4;have f:decide ((lo:Int)<(hi:Int))=true:=decide_eq_true (by omega);have q:s.ax[m]? =some s.ax[m]:=ε B;simp only[T.aS,T.aI,T.aH,f,cond_true,hw,C,e' q,θ,q,δ,hR,td]
  ·unfold o4;simp
 rcases qO (key:=aw.bb) (n:=n) h.jJ with⟨i,_,_⟩|⟨z,i,j,d,k⟩
 ·rw[i] at e;cases e
 have D:=(η.1 d).1;have f:decide (((s.ax.takeWhile λz=>decide (z.bb<n)).length:Int)<(s.ax.length:Int))=true:=decide_eq_true (by omega);have hw:γ.wrap (((s.ax.takeWhile λz=>decide (z.bb<n)).length:Int)+1)=(((s.ax.takeWhile λz=>decide (z.bb<n)).length+1:Nat):Int):=dy (by omega) (by omega);have w:s.ax.take (s.ax.takeWhile λz=>decide (z.bb<n)).length++s.ax.drop ((s.ax.takeWhile λz=>decide (z.bb<n)).length+1)=s.ax.filter λy=>!(y.bb==n):=by
  obtain⟨t1,t2⟩:=PT (λz:aw=>decide (z.bb<n)) s.ax;rw[t1,<-η8,t2,k];have hl:=take_drop (λz:aw=>decide (z.bb<n)) s.ax;rw[k] at hl;have A:s.ax.filter (λy=>!(y.bb==n))=(s.ax.takeWhile (λz=>decide (z.bb<n))++z::s.ax.filter λy=>decide (n<y.bb)).filter λy=>!(y.bb==n):=by rw[hl]
  have r:(s.ax.takeWhile λz=>decide (z.bb<n)).filter (λy=>!(y.bb==n))=s.ax.takeWhile λz=>decide (z.bb<n):=filter_all λy g=>by
   have:y.bb<n:=by simpa using Mv g
   simp;omega
  have t:(s.ax.filter λy=>decide (n<y.bb)).filter (λy=>!(y.bb==n))=s.ax.filter λy=>decide (n<y.bb):=filter_all λy g=>by
   have:=of_decide_eq_true (ξ0.1 g).2;simp;omega
  rw[A,ξS,List.filter_cons_of_neg (by simp[j]),r,t];rfl
 simp only[T.aS,T.aI,T.bL,T.aH,f49 h o,gU (b:=16) (l:=s.ax) (by omega),wZ hn,h1,δ,u,v,f,hw,cond_true,μ,e' d,θ,d,hR,cmp_eq,decide_eq_true j,show((0:Int) !=0)=false from rfl,cond_false,pE,wB];rw[if_pos ⟨by omega,by omega,by omega⟩];simp only[δ,θ,w]
theorem v168 (b:aq):tM ab b=some b.aa:=rfl
theorem v167 {s:aO} (h:eL s) (q:s.au.length<=16) (pid:Int):Cx ab s.au pid=some (((s.au.takeWhile λz=>decide (z.aa<pid)).length:Int),(s.au.find? λz=>z.aa==pid).isSome):=by
 show(sV ab s.au pid).val=_;unfold sV;have j:zV ab s.au pid 0 (s.au.length:Int)=some (false,((s.au.takeWhile λz=>decide (z.aa<pid)).length:Int),((s.au.takeWhile λz=>decide (z.aa<pid)).length:Int)):=by
  show cf (λa=>(o6 ab s.au pid a).val) 1000000 (0,(s.au.length:Int))=_;refine py (l:=s.au) (lt:=λz=>decide (z.aa<pid)) (x:=λc=>(false,(c:Int),(c:Int))) (vg (key:=aq.aa) h.kH) (by omega) (λlo hi m r hle hm k hw p=>?_) λc=>?_
  ·unfold o6;have b:decide ((lo:Int)<(hi:Int))=true:=decide_eq_true (by omega);have d:s.au[m]? =some s.au[m]:=ε k;simp only[T.aS,T.aI,T.aH,b,cond_true,hw,p,e' d,θ,d,δ,hR,v168,td]
  ·unfold o6;simp
 simp only[T.aS,T.aI,T.bL,T.aH,δ,j,v168,hR,cmp_eq];rcases qO (key:=aq.aa) (n:=pid) h.kH with⟨e,f,_⟩|⟨z,e,f,g,_⟩
 ·rw[e]
  by_cases i:(s.au.takeWhile λz=>decide (z.aa<pid)).length<s.au.length
  ·have d:=ε i;have o:=f _ d;have b:decide (((s.au.takeWhile λz=>decide (z.aa<pid)).length:Int)<(s.au.length:Int))=true:=decide_eq_true (by omega);simp only[b,cond_true,e' d,δ,decide_eq_false o];rfl
  ·have b:decide (((s.au.takeWhile λz=>decide (z.aa<pid)).length:Int)<(s.au.length:Int))=false:=decide_eq_false (by omega);simp only[b,cond_false];rfl
 ·rw[e];have i:=(η.1 g).1;have b:decide (((s.au.takeWhile λz=>decide (z.aa<pid)).length:Int)<(s.au.length:Int))=true:=decide_eq_true (by omega);simp only[b,cond_true,e' g,δ,decide_eq_true f];rfl
theorem Nf: ∀(l a:List aq),(∀b∈l,b.bc.length<=4)->a.length+l.length<=100->ny l a=some (a++l)
 |[],a,_,_=>by rw[ξ6];rfl
 |z::r,a,h,hl=>by
  have d:=h z ξq;rw[ξg] at hl;unfold ny FK;rw[gU (by omega),δ,hy (i:=100) (n:=101) (by omega) (by omega) (by omega),δ,Nf r _ (λb c=>h b (ξ9 _ c)) (by rw[ζ,ω];omega),ν];rfl
theorem BK {s:aO} (h:eL s) (c:s.au.length<=16) {pid:Int} (hp:ec pid=true):
  lL ab s pid=some (⟨s.ax,(s.au.filter λb=>decide (b.aa<pid))++⟨pid,dq s pid⟩::s.au.filter λb=>decide (pid<b.aa)⟩,((s.au.filter λb=>decide (b.aa<pid)).length:Int),0):=by
 have hlen:=h.len;have g:qa ab s=some (s,0):=by
  unfold qa Dz FL;rw[f49 h c,gU (by omega),Nf _ [] (λb c=>(h.box b c).2.2) (by simp;omega)];rfl
 have i:kv pid=true:=by
  unfold kv;unfold ec at hp;rw[ι] at hp;rw[hp.1,hp.2];rfl
 unfold lL uR DB;rw[g,δ];simp only[show(!((0:Int)==0))=false from rfl,cond_false,i,μ,v167 h c,δ];obtain⟨t1,t2⟩:=aeN (n:=pid) h.kH;have hl:=take_drop (λz:aq=>decide (z.aa<pid)) s.au;rcases qO (key:=aq.aa) (n:=pid) h.kH with⟨a,_,d⟩|⟨z,a,e,d,f⟩
 ·rw[a];have hw:dq s pid=[]:=by unfold dq;rw[a]
  simp only[ζJ,ξ2,cond_true];rw[DL (b:=32) (lt:=λz:aq=>decide (z.aa<pid)) (by omega),hw];unfold b3;rw[d,t1];rfl
 ·rw[a];have hw:dq s pid=z.bc:=by unfold dq;rw[a]
  simp only[Option.isSome_some,μ,cond_false,δ];rw[f,t1] at hl;rw[hw,t1]
  conv=>lhs;arg 1;arg 1;rw[show s=⟨s.ax,s.au⟩ from rfl,<-hl]
  rw[<-e]
theorem EX {s:aO} (h:eL s) {pid:Int} {c ws:Γa}:
  mf (aO.mk s.ax (((s.au.filter λb=>decide (b.aa<pid))++⟨pid,c⟩::s.au.filter λb=>decide (pid<b.aa)).set (s.au.filter λb=>decide (b.aa<pid)).length ⟨pid,ws⟩))=fK s pid ws:=by
 have hk: ∀(p:aq->Bool),(s.au.filter p).filter (λz=>!(z.bc.length==0))=s.au.filter p:=λp=>filter_all λz a=>by
  have:=(h.box z (ξ0.1 a).1).2.1;simp;intro e;rw[e] at this;simp at this
 unfold mf fK;rw[ζw (h:=ξ3 _),ξO,ζI];simp only;rw[ξS,hk,ξw,hk]
 congr 2
 by_cases e:ws=[]
 ·simp[e]
 ·have:(ws.length==0)=false:=by simpa using e
  simp[e,this]
theorem get_at {α:Type} {a b:List α} {z:α}:idx (a++z::b) (a.length:Int)=some z:=e' (by rw[χ (ξ3 _),ξO];rfl)
theorem v30 {s:aO} (h:eL s) (a:s.au.length<=16) {pid:Int} (hp:ec pid=true):tz ab s pid=some (fK s pid [],((dq s pid).length:Int),0):=by
 show p9 ab s pid=_;unfold p9;rw[BK h a hp,δ];simp only[show(!((0:Int)==0))=false from rfl,cond_false,get_at,δ,θ,EX h]
theorem v198 {s:aO} (h:eL s) (a:s.au.length<=16) {pid:Int} (hp:ec pid=true):tK ab s pid=some (match dq s pid with|w::r=>(fK s pid r,w,0)|[]=>(⟨[],[]⟩,0,4)):=by
 show p_ ab s pid=_;unfold p_;rw[BK h a hp,δ];simp only[show(!((0:Int)==0))=false from rfl,cond_false,get_at,δ,θ,EX h];cases dq s pid with
 |nil=>rfl
 |cons w r=>
  have:(((w::r).length:Int)==0)=false:=by simp;omega
  simp only[this,cond_false];rfl
theorem ae7 {s:aO} (h:eL s) (b:s.au.length<=16) {pid:Int} (hp:ec pid=true) (w:Int):tJ ab s pid [w]=some (if(dq s pid).length=4 then(⟨[],[]⟩,6) else(fK s pid (dq s pid++[w]),0)):=by
 show p' ab s pid [w]=_;unfold p';have hw:=Ge h pid;rw[BK h b hp,δ];simp only[show(!((0:Int)==0))=false from rfl,cond_false,get_at,δ,θ,EX h,ω];have a:γ.wrap (((dq s pid).length:Int)+((1:Nat):Int))=((dq s pid).length:Int)+1:=dy (by omega) (by omega);simp only[a]
 by_cases e:(dq s pid).length=4
 ·rw[if_pos e,e];rfl
 ·rw[if_neg e,decide_eq_false (by omega),cond_false,hy (i:=4) (n:=5) hw (by omega) (by omega),δ]
theorem MH {α:Type} [DecidableEq α]: ∀ {l m:List α},l.Pairwise (λa b=>a≠b)->(∀x∈l,x∈m)->l.length<=m.length
 |[],_,_,_=>ξt _
 |x::r,m,hn,h=>by
  rw[φ] at hn;have c:=h x ξq;have:=MH (m:=m.erase x) hn.2 λy d=>(List.mem_erase_of_ne λe=>hn.1 y d e.symm).2 (h y (ξ9 _ d));rw[List.length_erase_of_mem c] at this;have:=List.length_pos_of_mem c;rw[ξg];omega
theorem c8.lb {s:aZ} (h:c8 s):s.aA.au.length<=16:=by
 have h1:=MH (l:=s.aA.au.map aq.aa) (m:=s.az.ag.map ah.aa) (ζ0.2 (h.i.kH.imp λ{a b} k=>by omega)) λx d=>by
  obtain⟨b,c,rfl⟩:=ζv.1 d;obtain⟨y,f,e,_⟩:=h.boxes b c;exact ζv.2 ⟨y,f,e⟩
 rw[ξR,ξR] at h1;exact ξC h1 h.p.len
structure hr (c:cJ):Prop where
 p:dd (aE c.fArgs 0)
 a:dd (aE c.fArgs 1)
theorem v22 (c:cJ):CG ab c=some (lY c):=by
 show(Bt ab c).val=_;unfold Bt lY;simp only[T.aI,T.aH];cases c.bq==9<;>rfl
theorem MK {l:List aj} (h:fM l) {p a:Int} (c:8<=a):dc l p a=none:=by
 unfold dc;rw[lG.2 λd b=>?_]
 ·rfl
 ·have:=h.is d b;simp[hF] at this;simp;omega
theorem v67 {s:aZ} (h:c8 s) {c:cJ} (A:hr c):Cy ab s c=some (hz s c):=by
 show(Bg ab s c).val=_;unfold Bg hz ly
 by_cases h1:1<=c.bq
 ·by_cases z:c.bq<=14
  ·rw[T.aI,decide_eq_true h1,cond_true,T.aI,decide_eq_true z,μ,cond_false,T.aS,v22,δ,if_pos ⟨h1,z⟩];have hp:=A.p;have o:=A.a;have r:=h.lb;generalize aE c.fArgs 0=p at*
   generalize aE c.fArgs 1=a at*
   generalize aE c.fArgs 2=b at*
   have hk:c.bq=1\/c.bq=2\/c.bq=3\/c.bq=4\/c.bq=5\/c.bq=6\/c.bq=7\/c.bq=8\/c.bq=9\/c.bq=10\/c.bq=11\/c.bq=12\/c.bq=13\/c.bq=14:=by omega
   have E:lY c=(c.bq==9||c.bq==12):=rfl;unfold nE;rw[E];rcases hk with e|e|e|e|e|e|e|e|e|e|e|e|e|e<;>
    simp only[e,T.aI,T.aH,T.aS,T.mj,Int.reduceBEq,Int.reduceEq,ηe,ζ4,ηi,Bool.or_true,Bool.true_or,cond_true,cond_false,if_true,if_false,v28 h.p,δ]
   ·cases j:b7 s.az.ag p with
    |false=>rfl
    |true=>
     simp only[μ,cond_true,cond_false,aeY h.p,δ];cases f:iV s.az p with
     |error x=>simp only[gY (PD f),ξ2,cond_true]
     |ok x=>rfl
   ·cases j:b7 s.az.ag p with
    |false=>rfl
    |true=>
     have q:=(hP h.p.ord).1 j;simp only[μ,cond_true,cond_false,aeZ h.p,δ];cases f:iA s.az p a with
     |error x=>simp only[gY (JA f),ξ2,cond_true]
     |ok x=>
      simp only[v31 h.i r,v29 h.d,v30 h.i r (jR h.p q).1,δ,beq_self_eq_true,μ,cond_false]
      by_cases g:ku s.aA p=[]
      ·rw[if_pos g,g];rfl
      ·have:(((ku s.aA p).length:Int)==0)=false:=by
        have:=ξh.2 g;simp;omega
       rw[if_neg g,this];rfl
   ·cases j:b7 s.az.ag p with
    |false=>rfl
    |true=>
     simp only[μ,cond_true,cond_false,ae0 h.p,δ];cases f:i_ s.az p a with
     |error x=>simp only[gY (Qf f),ξ2,cond_true]
     |ok x=>rfl
   ·cases j:b7 s.az.ag p with
    |false=>rfl
    |true=>
     have q:=(hP h.p.ord).1 j;simp only[μ,cond_true,cond_false,v183 h.m o,δ];cases f:fV s.aF a with
     |error x=>simp only[gY (wj f),ξ2,cond_true]
     |ok x=>
      simp only[P6 h.d (jR h.p q).2.1,δ,beq_self_eq_true,μ,cond_false];cases n:hL s.aQ p x with
      |error y=>simp only[gY (EE n),ξ2,cond_true]
      |ok y=>
       obtain⟨l,v⟩:=y;obtain⟨i,t,_,rfl,_⟩:=vJ n;have:=(CQ t).1;simp only[beq_self_eq_true,μ,cond_false,kZ (x:=(i:Int)) (by omega) (by omega)]
   ·cases j:b7 s.az.ag p with
    |false=>rfl
    |true=>
     simp only[μ,cond_true,cond_false]
     by_cases u:a<8
     ·simp only[decide_eq_true u,μ,cond_false,dy (x:=a) (by omega) (by omega),v232 h.d,ae1 h.d,δ];cases f:gW s.aQ p a with
      |error x=>
       cases n:dc s.aQ p a with
       |some w=>unfold gW at f;rw[n] at f;cases f
       |none=>unfold gW at f;rw[n] at f;cases f;rfl
      |ok x=>
       obtain⟨w,n,_⟩:=I7 f;rw[n];rfl
     ·have:dc s.aQ p a=none:=MK h.d (by omega);unfold gW;simp only[decide_eq_false u,ξ2,cond_true,this]
   ·cases j:b7 s.az.ag p with
    |false=>rfl
    |true=>
     have q:=(hP h.p.ord).1 j;simp only[μ,cond_true,cond_false]
     by_cases u:a<8
     ·simp only[decide_eq_true u,μ,cond_false,dy (x:=a) (by omega) (by omega),v232 h.d,ae2 h.d (jR h.p q).2.1,δ];cases f:hA s.aQ p a with
      |error x=>
       cases n:dc s.aQ p a with
       |some w=>simp only[gY (Jm f),ξ2,μ,cond_false,cond_true]
       |none=>unfold hA at f;rw[n] at f;cases f;rfl
      |ok x=>
       obtain⟨l,v⟩:=x;obtain⟨w,n,B⟩:=Jn f;obtain⟨i,t,_,rfl,_⟩:=vJ B;have:=(CQ t).1;simp only[n,beq_self_eq_true,μ,cond_false,kZ (x:=(i:Int)) (by omega) (by omega)]
     ·have:dc s.aQ p a=none:=MK h.d (by omega);unfold hA;simp only[decide_eq_false u,ξ2,cond_true,this]
   ·cases j:b7 s.az.ag p with
    |false=>rfl
    |true=>
     simp only[μ,cond_true,cond_false,ae3 h.m o,δ];cases f:ih s.aF a with
     |error x=>simp only[gY (Iu f),ξ2,cond_true]
     |ok x=>rfl
   ·cases j:b7 s.az.ag p with
    |false=>rfl
    |true=>
     simp only[μ,cond_true,cond_false,ae4 h.m o,δ];cases f:iO s.aF a with
     |error x=>simp only[gY (MT f),ξ2,cond_true]
     |ok x=>
      simp only[ae5 h.d,v193 h.m o,δ,beq_self_eq_true,μ,cond_false]
      by_cases g:lC s.aQ x=0
      ·rw[if_pos g,g];simp only[show(((0:Nat):Int)==0)=true from rfl,μ,cond_false];cases n:iY s.aF a with
       |error y=>simp only[gY (PY n),ξ2,cond_true]
       |ok y=>rfl
      ·have:((lC s.aQ x:Int)==0)=false:=by simp;omega
       rw[if_neg g,this];rfl
   ·simp only[v183 h.m o,δ];cases f:fV s.aF a with
    |error x=>simp only[gY (wj f),ξ2,cond_true]
    |ok x=>rfl
   ·cases j:b7 s.az.ag p with
    |false=>rfl
    |true=>
     simp only[μ,cond_true,cond_false,v194 h.i r o,δ];cases f:iS s.aA a p with
     |error x=>simp only[gY (NU f),ξ2,cond_true]
     |ok x=>rfl
   ·cases j:b7 s.az.ag p with
    |false=>rfl
    |true=>
     simp only[μ,cond_true,cond_false,v196 h.i r o,δ];cases f:gH s.aA a with
     |error x=>simp only[gY (vn f),ξ2,cond_true]
     |ok x=>
      obtain⟨t,C⟩:=qg f;simp only[ae6 h.i r o t C,δ,beq_self_eq_true,μ,cond_false]
      by_cases g:x=p
      ·rw[if_pos g,g];simp
      ·have:(x==p)=false:=by simpa using g
       rw[if_neg g,this];rfl
   ·simp only[v196 h.i r o,δ];cases f:gH s.aA a with
    |error x=>simp only[gY (vn f),ξ2,cond_true]
    |ok x=>rfl
   ·cases j:b7 s.az.ag p with
    |false=>rfl
    |true=>
     simp only[μ,cond_true,cond_false];cases D:b7 s.az.ag a with
     |false=>rfl
     |true=>
      have q:=(hP h.p.ord).1 D;unfold kU;simp only[ae7 h.i r (jR h.p q).1,δ,μ,cond_true,cond_false]
      by_cases g:(dq s.aA a).length=4
      ·rw[if_pos g,g];rfl
      ·have:((dq s.aA a).length==4)=false:=by simpa using g
       rw[if_neg g,this];rfl
   ·cases j:b7 s.az.ag p with
    |false=>rfl
    |true=>
     have q:=(hP h.p.ord).1 j;unfold kQ;simp only[v198 h.i r (jR h.p q).1,δ,μ,cond_true,cond_false];cases dq s.aA p<;>rfl
  ·rw[T.aI,decide_eq_true h1,cond_true,T.aI,decide_eq_false z,if_neg λk=>z k.2];rfl
 ·rw[T.aI,decide_eq_false h1,if_neg λk=>h1 k.1];rfl
theorem v68 {s:aZ} (h:c8 s):Cz ab s=some s:=by
 show(Bh ab s).val=_;unfold Bh;have h1:=h.p.len;have f:=h.d.len;have g:=h.m.len;have j:=h.i.len;have c:=h.lb;have e:z1 ab s.aA.au s.az.aM s.aF.bm s.az.ag s.aQ s.aF.ag s.aA.ax (s.aA.au.length:Int) 0 []=some (false,(s.aA.au.length:Int),s.aA.au):=B0 h.i c λa=>rfl;simp only[T.aS,T.bL,T.aH,gU (b:=32) (l:=s.az.ag) (by omega),gU (b:=24) (l:=s.aQ) (by omega),gU (b:=16) (l:=s.aF.ag) (by omega),gU (b:=16) (l:=s.aA.ax) (by omega),δ,e]
theorem Zz {s:aZ} (h:c8 s):Hm s where
 p:=Kg h.p
 d:=by have:=h.d.len;unfold maxLen;omega
 i:=⟨λz a=>(h.i.name z a).1,by have:=h.i.len;unfold maxLen;omega,by have:=h.lb;unfold maxLen;omega⟩
theorem f11 {s:aZ} (h:c8 s):tN ab s=some 0:=by
 rw[v11 (Zz h) (P9 (Kd h.m))];have:=(I3 (Z5 h)).2 h;unfold BS at this;rw[this];rfl
theorem v19 {s:aZ} (h:c8 s) {c:cJ} (a:hr c):Cu ab s c=some ((hz s c).1,(hz s c).2,0):=by
 show(A5 ab s c).val=_;unfold A5;simp only[T.aS,T.aI,T.aH,f11 h,v68 h,v67 h a,δ];rfl
theorem V2 {s:aZ} (h:c8 s) (c:cJ):((hz s c).2.cb≠0/\(hz s c).1=s)\/((hz s c).2.cb=0/\Step s (aE c.fArgs 0) (aE c.fArgs 1) (aE c.fArgs 2) c.bq (hz s c).1 (hz s c).2.cv/\(c.bq≠9->c.bq≠12->dv s.az.ag (aE c.fArgs 0))):=by
 unfold hz;cases e:ly s c with
 |error x=>exact .inl ⟨Jx (Vk e),rfl⟩
 |ok r=>exact .inr ⟨rfl,Vl h e⟩
end Go.Proofs.YtoggponeookhbaaGreatDoor
end
section
namespace Go.Proofs.YtoggponeookhbaaGreatDoor
open Go.RowKit Go.Dc Go.Vx
variable (sh:Sh)
def Be (sh:Sh) (a b:ae):T Bool:=.bf (a.bj !=0) (.ok (decide (a.bj<b.bz)))<|.ok false
def nm (a b:ae):=sh.s _ (Be sh a b).val
def HK:=bP (db KK 38 42 42 (nm sh) (cH KK 4)) (HF sh)
theorem HL:ak (HK shut) κ:=dp (rs:=[4]) HG (ak.all HG rfl) rfl rfl λa b k=>by kernel_rfl
def pg (sh:Sh) (d:ae):T Bool:=.bf (d.aL==0) (.bf (decide (d.cx>=0)) (.bf (decide (d.cx<8)) (.bf (decide (d.bz>=1)) (.bf (d.bj==0) (.bf (fi d.bZ (cV.mk 0 0)) (.ok true)<|.bf (!d.bj==0) (.ok (decide (d.bj>=d.bz)))<|.ok false)<|.bf (!d.bj==0) (.ok (decide (d.bj>=d.bz)))<|.ok false)<|.ok false)<|.ok false)<|.ok false)<|.bf (decide (d.aL>=d.bz)) (.bf (d.bj==0) (.bf (decide (d.cx>=0)) (.bf (decide (d.cx<8)) (.bf (decide (d.bz>=1)) (.bf (d.bj==0) (.bf (fi d.bZ (cV.mk 0 0)) (.ok true)<|.bf (!d.bj==0) (.ok (decide (d.bj>=d.bz)))<|.ok false)<|.bf (!d.bj==0) (.ok (decide (d.bj>=d.bz)))<|.ok false)<|.ok false)<|.ok false)<|.ok false)<|.bf (decide (d.cx>=0)) (.bf (decide (d.cx<8)) (.bf (decide (d.bz>=1)) (.bf (decide (d.aL<=d.bj)) (.bf (d.bj==0) (.bf (fi d.bZ (cV.mk 0 0)) (.ok true)<|.bf (!d.bj==0) (.ok (decide (d.bj>=d.bz)))<|.ok false)<|.bf (!d.bj==0) (.ok (decide (d.bj>=d.bz)))<|.ok false)<|.ok false)<|.ok false)<|.ok false)<|.ok false)<|.bf (decide (d.cx>=0)) (.bf (decide (d.cx<8)) (.bf (decide (d.bz>=1)) (.ok false)<|.ok false)<|.ok false)<|.ok false
def pQ (d:ae):=sh.s _ (pg sh d).val
def HW:=bP (dS KK 49 42 (pQ sh) (cH KK 4)) (HK sh)
theorem HX:ak (HW shut) κ:=eo (rs:=[4]) HL (ak.all HL rfl) rfl rfl λd k=>by kernel_rfl
def Bo (sh:Sh) (r:cV):T Bool:=.bf (fi r (cV.mk 363 0)) (.ok true)<|.ok (fi r (cV.mk 364 0))
def CF (r:cV):=sh.s _ (Bo sh r).val
def HY:=bP (dS KK 52 40 (CF sh) (cH KK 4)) (HW sh)
theorem HZ:ak (HY shut) κ:=eo (rs:=[4]) HX (ak.all HX rfl) rfl rfl λr k=>by kernel_rfl
def Ba (s:aZ) (d:ae):T (aZ×Bool):=.bd (Cu sh s d.bU) λz0=>.bf (d.bj==0) (.ok (z0.fst,(z0.snd.fst.cb==0)))<|.bd (CF sh d.bZ) λa=>.bf (a) (.bf (z0.snd.fst.cb==0) (.bd (kk sh z0.fst s) λz2=>.ok (s,!z2))<|.ok (s,false))<|.ok (z0.fst,(fi z0.snd.fst d.bZ))
def fF (s:aZ) (d:ae):=sh.s _ (Ba sh s d).val
def yJ:=bP (db KK 27 60 42 (fF sh) (eP KK 60 4)) (HY sh)
theorem rV:ak (yJ shut) κ:=dp (rs:=[60,4]) HZ (ak.all HZ rfl) rfl rfl λs d k=>by kernel_rfl
def tX (a:List ae) (b:Int):AS SS:=⟨[(0,(vd 22 a)),(1,(vc 0)),(7,(vl a)),(8,(vi b))],[(some (.aD 88 [] [(.one (.an 1 0))])),(bX 84 [(.v (.func (.func 49) (.mk []) (.mk [])))])],2,none,false,[],[]⟩
def OJ (a:List ae):AS SS:=tX a 0
def We (a:List ae) (a0:Int):AS SS:= {tX a a0 with env:=[(4,(vi a0))]}
def Wf (b:List ae) (a0:Bool) (a:Int):AS SS:=xe [(9,(vb a0))] (tX b a)
def sg (d:List ae) (b:Int) (z0:ae) (a:Unit):T (Unit⊕Int⊕(Bool×Int)):=.bd (pQ sh z0) λc=>.bf (!c) (.ok (.inr (.inl b)))<|.ok (.inl ())
def q7 (sh:Sh) (c:List ae) (b:Int) (a:Unit):T (Int⊕(Bool×Int)):=.ok (.inr ((decide (b<(↑c.length:Int))),b))
def r5 (a:List ae):=b4 sh (sg sh a) (q7 sh a) a ()
def Tt {R} (k:KX SS R) (a:List ae) (x:Int⊕(Bool×Int)):Option R:=(λx=>η2 (λv=>k .ret (We a v)) (λv=>k (.exit 0) (Wf a v.1 v.2)) x) x
def K_:bh SS:=bt 3 (λst=>((b9 st 0 88).bind λ_=>Kz st 1 49).bind λ_=>(ba 22 (aK st 0 0)).bind λa=>some a) (λp=>OJ p) (λp=>r5 shut p) (λk p=>Tt k p)
theorem ab0:LS KK κ ar ηj 123 3 K_:=
 aX.b_ (π:=List ae) (ak.all rV rfl) (aJ.nil) rfl 60 (λp i a=>tX p i) (λp=>p) (λp=>()) (St:=λp=>sg shut p) (F:=λp=>q7 shut p) (λp=>rfl)
  (λm p i a k=>by kernel_rfl) (by rintro p (x|x)<;>exact⟨_,_,λ_=>rfl⟩) (λp N C A O w a b=>cE b (t:=22) (sl:=0) rfl λv h=>h)
def tY (a:List ae) (b c:Int) (d:Γa) (e f g h i j:Int):AS SS:=⟨[(0,(vd 22 a)),(1,(vc 0)),(7,(vl a)),(8,(vi j))],[(some (.aD 88 [] [(.one (.an 1 0))])),(bX 84 [(.aD 2)]),(some (.aD 50 [] [(.one (.an 3 0))])),(bX 42 [(li b),(lu c),(.bu .u64 4 d),(li e),(lu f),(li g),(li h),(li i)])],4,none,false,[],[]⟩
def OK (a:List ae) (b c:Int) (d:Γa) (e f g h i:Int):AS SS:=tY a b c d e f g h i 0
def Wg (b:List ae) (a c:Int) (d:Γa) (e f g h i a0:Int):AS SS:= {tY b a c d e f g h i a with env:=[(4,(vi a0))]}
def Wh (a:List ae) (b d:Int) (e:Γa) (f g h i j:Int) (a0:Bool) (c:Int):AS SS:= {tY a b d e f g h i j b with env:=[(9,(vb a0)),(0,(vd 22 a)),(1,(vc 0)),(7,(vl a)),(8,(vi c))]}
def sj (m:List ae) (b c:Int) (d:Γa) (e f g h i j:Int) (z0:ae) (a:Unit):T (Unit⊕Int⊕(Bool×Int)):=.bf (z0.cx !=b) (.ok (.inl ()))<|.bd (nm sh z0 (ae.mk b (cJ.mk c d) (cV.mk e f) g h i)) λk=>.bf (k) (.ok (.inl ()))<|.bd (nm sh (ae.mk b (cJ.mk c d) (cV.mk e f) g h i) z0) λl=>.bf (!l) (.ok (.inr (.inl j)))<|.ok (.inl ())
def q8 (sh:Sh) (c:List ae) (d e:Int) (f:Γa) (g h i j k b:Int) (a:Unit):T (Int⊕(Bool×Int)):=.ok (.inr ((decide (b<(↑c.length:Int))),b))
def r6 (a:List ae) (b c:Int) (d:Γa) (e f g h i:Int):=b4 sh (sj sh a b c d e f g h i) (q8 sh a b c d e f g h i) a ()
def Tu {R} (k:KX SS R) (a:List ae) (b c:Int) (d:Γa) (e f g h i:Int) (x:Int⊕(Bool×Int)):Option R:=(λx=>η2 (λv=>k .ret (Wg a b c d e f g h i v)) (λv=>k (.exit 0) (Wh a b c d e f g h i v.1 v.2)) x) x
def K':bh SS:=bt 3 (λst=>((b9 st 0 88).bind λ_=>b9 st 2 50).bind λ_=>(ba 22 (aK st 0 0)).bind λa=>(aU (aN st 3 0)).bind λb=>(aU (aN st 3 1)).bind λc=>(e1 (aN st 3 2)).bind λd=>(aU (aN st 3 3)).bind λe=>(aU (aN st 3 4)).bind λf=>(aU (aN st 3 5)).bind λg=>(aU (aN st 3 6)).bind λh=>(aU (aN st 3 7)).bind λi=>some (a,b,c,d,e,f,g,h,i)) (u9 OK) (u9 (r6 shut)) (λk=>u9 (Tu k))
theorem ab1:LS KK κ ar ηj 123 3 K':=
 aX.b_ (ak.all rV rfl) (aJ.nil) rfl 60 (λp i a=>u9 tY p i) (λp=>p.1) (λp=>()) (St:=u9 (sj shut)) (F:=u9 (q8 shut)) (λp=>rfl)
  (λm p i a k=>by kernel_rfl) (by rintro p (x|x)<;>exact⟨_,_,λ_=>rfl⟩) (λp N C A O w a b=>cE b (t:=22) (sl:=0) rfl λv h=>h)
def De (a:List ae) (b:Int) (c:Γc):AS SS:=⟨[(1,(va 0 0)),(3,(vs (.mp 1))),(19,(vd 22 a)),(20,(vl a)),(21,(vi b))],[(bX 24 [(.ao 22 a)]),(some (.map .i64 .i64 c))],0,none,false,[],[]⟩
def FI (a:List ae) (b:Γc):AS SS:=De a 0 b
def Xa (a:List ae):AS SS:=⟨[(2,(vi 390))],[],0,none,false,[],[]⟩
def Xb (b:List ae) (a0:Bool) (a:Int) (a2:Γc):AS SS:=xe [(22,(vb a0))] (De b a a2)
def oZ (d:List ae) (e:Int) (z0:ae) (a:(Γc)):T (((Γc))⊕Unit⊕(Bool×Int×(Γc))):=.bd (ep d none (some e) none) λc=>.gd (OK c z0.cx z0.bU.bq z0.bU.fArgs z0.bZ.cb z0.bZ.cv z0.bz z0.aL z0.bj)<|.bd (r6 sh c z0.cx z0.bU.bq z0.bU.fArgs z0.bZ.cb z0.bZ.cv z0.bz z0.aL z0.bj) λx4=>.cs x4 (λb=>.bf (!!decide (b>=0)) (.ok (.inr (.inl ())))<|.bf (z0.aL !=0) (.bf (decide ((bD (ck a z0.aL (γ.wrap ((bD a z0.aL).getD 0+1))) z0.aL).getD 0>1)) (.ok (.inr (.inl ())))<|.ok (.inl (ck a z0.aL (γ.wrap ((bD a z0.aL).getD 0+1)))))<|.ok (.inl (ck a z0.aL (γ.wrap ((bD a z0.aL).getD 0+1))))) λb=>.bf (z0.aL !=0) (.bf (decide ((bD (ck a z0.aL (γ.wrap ((bD a z0.aL).getD 0+1))) z0.aL).getD 0>1)) (.ok (.inr (.inl ())))<|.ok (.inl (ck a z0.aL (γ.wrap ((bD a z0.aL).getD 0+1)))))<|.ok (.inl (ck a z0.aL (γ.wrap ((bD a z0.aL).getD 0+1))))
def rn (sh:Sh) (c:List ae) (b:Int) (a:(Γc)):T (Unit⊕(Bool×Int×(Γc))):=.ok (.inr ((decide (b<(↑c.length:Int))),b,a))
def oM (a:List ae) (b:Γc):Option (Unit⊕(Bool×Int×(Γc))):=b4 sh (oZ sh a) (rn sh a) a b
def T6 {R} (k:KX SS R) (a:List ae) (x:Unit⊕(Bool×Int×(Γc))):Option R:=(λx=>η2 (λv=>k .ret (Xa a)) (λv=>k (.exit 0) (Xb a v.1 v.2.1 v.2.2)) x) x
def Lz:bh SS:=bt 6 (λst=>(ba 22 (aK st 19 0)).bind λa=>(gE st 1).bind λb=>some (a,b)) (u2 FI) (u2 (oM shut)) (λk p=>T6 k p.1)
def GV:=bO (yJ shut) ar ηj 123 [mO (λst=>(b9 st 0 88).bind λ_=>Kz st 1 49) K_ (K')]
theorem GW:a_ GV κ:=bQ (ak.all rV rfl) Tryz.func123 rfl a8 (by kernel_rfl) (aX.alt ab0 ab1)
theorem acr:LS KK κ ar Tryz.f23 23 6 Lz:=
 aX.b_ (π:=List ae×(Γc)) (σ:=(Γc)) GW (aJ.nil) rfl 60 (λp i a=>De p.1 i a) (λp=>p.1) (λp=>p.2) (St:=λp=>oZ shut p.1) (F:=λp=>rn shut p.1) (λp=>rfl)
  (λm p i a k=>by kernel_rfl) (by rintro p (x|x)<;>exact⟨_,_,λ_=>rfl⟩) (λp N C A O w a b=>cE b (t:=22) (sl:=19) rfl λv h=>h)
def RE:=bO GV ar Tryz.f23 23 [Lz]
theorem RF:a_ RE κ:=bQ GW Tryz.func23 rfl a8 (by kernel_rfl) acr
def jf (h:cK):T Int:=.bf (decide ((↑h.cC.length:Int)>64)) (.ok 390)<|.gd (OJ h.cC)<|.bd (r5 sh h.cC) λx3=>.cs x3 (λa=>.bf (!!decide (a>=0)) (.ok 390)<|.gd (FI h.cC [])<|.bd (oM sh h.cC []) λx5=>.cs x5 (λ_=>.ok 390) λb=>.ok 0) λa=>.gd (FI h.cC [])<|.bd (oM sh h.cC []) λx5=>.cs x5 (λ_=>.ok 390) λb=>.ok 0
def jz (h:cK):=sh.s _ (jf sh h).val
def yF:=bP (dS KK 23 24 (jz sh) (cH KK 27)) (yJ sh)
theorem yG:ak (yF shut) κ:=eo (rs:=[27]) rV RF rfl rfl λh k=>by kernel_rfl
def Dk (a:Γa) (b:List ae) (c:List aZ) (d:Int):AS SS:=⟨[(2,(va 0 0)),(6,(vo 1)),(14,(vd 31 a)),(15,(vl a)),(16,(vi d))],[(bX 24 [(.ao 22 b)]),(rX 60 c)],0,none,false,[],[]⟩
def O_ (a:Γa) (b:List ae) (c:List aZ):AS SS:=Dk a b c 0
def Xz (a:Γa) (b:List ae):AS SS:=⟨[(4,(vo 0)),(5,(vb false))],[(rX 60 [])],0,none,false,[],[]⟩
def XA (b:Γa) (c:List ae) (a0:Bool) (a:Int) (a2:List aZ):AS SS:=xe [(17,(vb a0))] (Dk b c a2 a)
def sK (e:Γa) (c:List ae) (f z0:Int) (a:List aZ):T (List aZ⊕Unit⊕(Bool×Int×List aZ)):=.bd (idx a (γ.wrap ((↑a.length:Int)-1))) λg=>.bd (a[(γ.wrap ((↑a.length:Int)-1)).toNat]?) λz2=>.bd (idx c z0) λz3=>.bd (fF sh z2 z3) λb=>.bf (!b.2) (.ok (.inr (.inl ())))<|.bd (kk sh b.1 z2) λz5=>.bf (z5) (.ok (.inr (.inl ())))<|.bd (app 256 a [b.1]) λd=>.ok (.inl d)
def xw (sh:Sh) (c:Γa) (d:List ae) (b:Int) (a:List aZ):T (Unit⊕(Bool×Int×List aZ)):=.ok (.inr ((decide (b<(↑c.length:Int))),b,a))
def zY (a:Γa) (b:List ae) (c:List aZ):=b4 sh (sK sh a b) (xw sh a b) a c
def Uk {R} (k:KX SS R) (a:Γa) (b:List ae) (x:Unit⊕(Bool×Int×List aZ)):Option R:=(λx=>η2 (λv=>k .ret (Xz a b)) (λv=>k (.exit 0) (XA a b v.1 v.2.1 v.2.2)) x) x
def LO:bh SS:=bt 4 (λst=>(ba 31 (aK st 14 0)).bind λa=>(ba 22 (aN st 0 0)).bind λb=>(cd st 1 60).bind λc=>some (a,b,c)) (u3 O_) (u3 (zY shut)) (λk p=>Uk k p.1 p.2.1)
theorem acG:LS KK κ ar Tryz.f33 33 4 LO:=
 aX.b_ (π:=Γa×List ae×List aZ) (σ:=List aZ) (ak.all yG rfl) (aJ.nil) rfl 60 (λp i a=>Dk p.1 p.2.1 a i) (λp=>p.1) (λp=>p.2.2) (St:=λp=>sK shut p.1 p.2.1) (F:=λp=>xw shut p.1 p.2.1) (λp=>rfl)
  (λm p i a k=>by kernel_rfl) (by rintro p (x|x)<;>exact⟨_,_,λ_=>rfl⟩) (λp N C A O w a b=>cE b (t:=31) (sl:=14) rfl λv h=>h)
def RO:=bO (yF shut) ar Tryz.f33 33 [LO]
theorem RP:a_ RO κ:=bQ (ak.all yG rfl) Tryz.func33 rfl a8 (by kernel_rfl) acG
def Bc (h:cK) (l:Γa):T (List aZ×Bool):=.bd (pN sh) λz0=>.gd (O_ l h.cC [z0])<|.bd (zY sh l h.cC [z0]) λx4=>.cs x4 (λ_=>.ok ([],false)) λa=>.ok (a.2.2,true)
def pP (h:cK) (l:Γa):=sh.s _ (Bc sh h l).val
def yM:=bP (db KK 33 24 31 (pP sh) (eP KK 89 4)) (yF sh)
theorem yN:ak (yM shut) κ:=dp (rs:=[89,4]) yG RP rfl rfl λh l k=>by kernel_rfl
def uA (a:Γa) (b:List aZ) (f:Int) (g:List ae) (h i:Int) (j:Γa) (k l m c d e:Int):AS SS:=⟨[(1,(vd 31 a)),(2,(vd 89 b)),(4,(va 0 0)),(7,(va 1 0)),(15,(vi f)),(16,(vi e))],[(bX 24 [(.ao 22 g)]),(bX 42 [(li h),(lu i),(.bu .u64 4 j),(li k),(lu l),(li m),(li c),(li d)])],0,none,false,[],[]⟩
def XB (a:Γa) (b:List aZ) (e:Int) (f:List ae) (g h:Int) (i:Γa) (j k l c d a0:Int):AS SS:=⟨[(8,(vi a0)),(9,(vb true))],[],0,none,false,[],[]⟩
def XC (b:Γa) (c:List aZ) (a:Int) (g:List ae) (h i:Int) (j:Γa) (k l m e f:Int) (a0:Bool) (d:Int):AS SS:= {uA b c a g h i j k l m e f a with env:=[(17,(vb a0)),(1,(vd 31 b)),(2,(vd 89 c)),(4,(va 0 0)),(7,(va 1 0)),(15,(vi a)),(16,(vi d))]}
def ie (d:Γa) (b:List aZ) (o:Int) (m:List ae) (h i:Int) (j:Γa) (k l c g e a:Int):T (Int⊕Int⊕(Bool×Int)):=.bf (decide (a<o)) (.bf (decide (a>0)) (.bd (idx d (γ.wrap (a-1))) λz0=>.bd (idx m z0) λn=>.bf (decide (n.aL>e)) (.ok (.inl (γ.wrap (a+1))))<|.bf (decide (a<(↑d.length:Int))) (.bd (idx d a) λz2=>.bd (idx m z2) λz3=>.bf (decide (z3.aL<c)) (.ok (.inl (γ.wrap (a+1))))<|.bd (idx b a) λz4=>.bd (fF sh z4 (ae.mk h (cJ.mk i j) (cV.mk k l) c g e)) λq=>.bf (q.2) (.bd (idx b a) λr=>.bd (kk sh q.1 r) λs=>.bf (s) (.ok (.inr (.inl a)))<|.ok (.inl (γ.wrap (a+1))))<|.ok (.inl (γ.wrap (a+1))))<|.bd (idx b a) λz2=>.bd (fF sh z2 (ae.mk h (cJ.mk i j) (cV.mk k l) c g e)) λf=>.bf (f.2) (.bd (idx b a) λz4=>.bd (kk sh f.1 z4) λz5=>.bf (z5) (.ok (.inr (.inl a)))<|.ok (.inl (γ.wrap (a+1))))<|.ok (.inl (γ.wrap (a+1))))<|.bf (decide (a<(↑d.length:Int))) (.bd (idx d a) λz0=>.bd (idx m z0) λn=>.bf (decide (n.aL<c)) (.ok (.inl (γ.wrap (a+1))))<|.bd (idx b a) λz2=>.bd (fF sh z2 (ae.mk h (cJ.mk i j) (cV.mk k l) c g e)) λf=>.bf (f.2) (.bd (idx b a) λz4=>.bd (kk sh f.1 z4) λz5=>.bf (z5) (.ok (.inr (.inl a)))<|.ok (.inl (γ.wrap (a+1))))<|.ok (.inl (γ.wrap (a+1))))<|.bd (idx b a) λz0=>.bd (fF sh z0 (ae.mk h (cJ.mk i j) (cV.mk k l) c g e)) λp=>.bf (p.2) (.bd (idx b a) λz2=>.bd (kk sh p.1 z2) λz3=>.bf (z3) (.ok (.inr (.inl a)))<|.ok (.inl (γ.wrap (a+1))))<|.ok (.inl (γ.wrap (a+1))))<|.ok (.inr (.inr ((decide (a<o)),a)))
def zZ (a:Γa) (b:List aZ) (f:Int) (g:List ae) (h i:Int) (j:Γa) (k l m c d e:Int):=bM sh (ie sh a b f g h i j k l m c d) 1000000 e
def Ul {R} (k:KX SS R) (a:Γa) (b:List aZ) (e:Int) (f:List ae) (g h:Int) (i:Γa) (j l m c d:Int) (x:Int⊕(Bool×Int)):Option R:=(λx=>η2 (λv=>k .ret (XB a b e f g h i j l m c d v)) (λv=>k (.exit 0) (XC a b e f g h i j l m c d v.1 v.2)) x) x
def LP:bh SS:=bt 3 (λst=>(ba 31 (aK st 1 0)).bind λa=>(ba 89 (aK st 2 0)).bind λb=>(aU (aK st 15 0)).bind λf=>(ba 22 (aN st 0 0)).bind λg=>(aU (aN st 1 0)).bind λh=>(aU (aN st 1 1)).bind λi=>(e1 (aN st 1 2)).bind λj=>(aU (aN st 1 3)).bind λl=>(aU (aN st 1 4)).bind λm=>(aU (aN st 1 5)).bind λn=>(aU (aN st 1 6)).bind λc=>(aU (aN st 1 7)).bind λd=>(aU (aK st 16 0)).bind λe=>some (a,b,f,g,h,i,j,l,m,n,c,d,e)) (λp=>uA p.1 p.2.1 p.2.2.1 p.2.2.2.1 p.2.2.2.2.1 p.2.2.2.2.2.1 p.2.2.2.2.2.2.1 p.2.2.2.2.2.2.2.1 p.2.2.2.2.2.2.2.2.1 p.2.2.2.2.2.2.2.2.2.1 p.2.2.2.2.2.2.2.2.2.2.1 p.2.2.2.2.2.2.2.2.2.2.2.1 p.2.2.2.2.2.2.2.2.2.2.2.2) (λp=>zZ shut p.1 p.2.1 p.2.2.1 p.2.2.2.1 p.2.2.2.2.1 p.2.2.2.2.2.1 p.2.2.2.2.2.2.1 p.2.2.2.2.2.2.2.1 p.2.2.2.2.2.2.2.2.1 p.2.2.2.2.2.2.2.2.2.1 p.2.2.2.2.2.2.2.2.2.2.1 p.2.2.2.2.2.2.2.2.2.2.2.1 p.2.2.2.2.2.2.2.2.2.2.2.2) (λk p=>Ul k p.1 p.2.1 p.2.2.1 p.2.2.2.1 p.2.2.2.2.1 p.2.2.2.2.2.1 p.2.2.2.2.2.2.1 p.2.2.2.2.2.2.2.1 p.2.2.2.2.2.2.2.2.1 p.2.2.2.2.2.2.2.2.2.1 p.2.2.2.2.2.2.2.2.2.2.1 p.2.2.2.2.2.2.2.2.2.2.2.1)
theorem acH:LS KK κ ar Tryz.f34 34 3 LP:=
 aX.bM (π:=Γa×List aZ×Int×List ae×Int×Int×Γa×Int×Int×Int×Int×Int×Int) (σ:=Int) (ak.all yN rfl) (aJ.nil) rfl 60 (λp a=>uA p.1 p.2.1 p.2.2.1 p.2.2.2.1 p.2.2.2.2.1 p.2.2.2.2.2.1 p.2.2.2.2.2.2.1 p.2.2.2.2.2.2.2.1 p.2.2.2.2.2.2.2.2.1 p.2.2.2.2.2.2.2.2.2.1 p.2.2.2.2.2.2.2.2.2.2.1 p.2.2.2.2.2.2.2.2.2.2.2.1 a) (λp=>p.2.2.2.2.2.2.2.2.2.2.2.2) (St:=λp=>ie shut p.1 p.2.1 p.2.2.1 p.2.2.2.1 p.2.2.2.2.1 p.2.2.2.2.2.1 p.2.2.2.2.2.2.1 p.2.2.2.2.2.2.2.1 p.2.2.2.2.2.2.2.2.1 p.2.2.2.2.2.2.2.2.2.1 p.2.2.2.2.2.2.2.2.2.2.1 p.2.2.2.2.2.2.2.2.2.2.2.1) (λp=>1000000) (λp=>rfl)
  (λm p a k=>by kernel_rfl)
def RQ:=bO (yM shut) ar Tryz.f34 34 [LP]
theorem RR:a_ RQ κ:=bQ (ak.all yN rfl) Tryz.func34 rfl a8 (by kernel_rfl) acH
def Bd (h:cK) (l:Γa) (s:List aZ) (d:ae):T (Int×Bool):=.gd (uA l s (γ.wrap ((↑l.length:Int)+1)) h.cC d.cx d.bU.bq d.bU.fArgs d.bZ.cb d.bZ.cv d.bz d.aL d.bj 0)<|.bd (zZ sh l s (γ.wrap ((↑l.length:Int)+1)) h.cC d.cx d.bU.bq d.bU.fArgs d.bZ.cb d.bZ.cv d.bz d.aL d.bj 0) λx3=>.cs x3 (λa=>.ok (a,true)) λa=>.ok (0,false)
def nj (h:cK) (l:Γa) (s:List aZ) (d:ae):=sh.s _ (Bd sh h l s d).val
def yO:=bP (B3 KK 34 24 31 89 42 (nj sh) (eP KK 3 4)) (yM sh)
theorem SG:ak (yO shut) κ:=VE (rs:=[3,4]) yN RR rfl rfl λh l s d k=>by kernel_rfl
end Go.Proofs.YtoggponeookhbaaGreatDoor
end
section
namespace Go.Vx
open Go.RowKit Go.Dc
section
variable {S:bo} {P:Program}
def Du (st:AS S) (j t e:Nat):Option (List (Option (List (S.El e)))):=match aC st.h j with
 |some (.cB t' a bJ)=>bif Nat.beq t' t then(match Nat.decEq a e with| .isTrue p=>some (p▸bJ)| .isFalse _=>none) else none
 |_=>none
theorem ak.JW {G:bw S} (h:ak G P) (F:Γ):ak {G with F:=F} P:=⟨h.K,⟨h.C.C⟩,h.H,h.D,h.M,h.N⟩
end
section
variable {S:bo} {P:Program} {K:Kit S}
structure gv (K:Kit S) (c:dD S) (P:Program):Prop where
 ok: ∀ {R:Type} (vs:List (ay S)) (h:AH S) (k:Rs S->AH S->Γ->Option R) (z:R),c.out vs h k=some z-> ∃r h' dt,k r h' dt=some z/\cU K P c.f vs h r h' dt
theorem cU.aeK {f:Nat} {vs:List (ay S)} {h h':AH S} {r:Rs S} (a:cU K P f vs h r h' []) (hl:0<h.length):cU K P f vs h r h' [0]:=
 ⟨a.1,λA O w xs h1 d e g k l=>(a.2 A O w xs h1 d e g k l).mono λ_ _ ⟨A',O',o,c⟩=>⟨A',O',o,{c with
  lt:=λj n=>by rw[ξ.1 n];exact hl
  cl:=λb m _=>c.cl b m λi hi=>by cases hi}⟩⟩
theorem Dy {G:bw S} (m:a_ G P) {n f:Nat} {vs:List (ay S)} {h:AH S} {X:Type} {t:T (X×Bool)} {rs:Rs S} {hp:X->AH S}
  (heq: ∀ {R:Type} (k:Rs S->AH S->Γ->Option R),dY G n f vs h k=t.run (λr=>k rs (hp r.1) (bif r.2 then[0] else[]))) {F:Option (X×Bool)} (l:F=shut.s _ t.val) (hl:0<h.length)
  {R:Type} {k:Rs S->AH S->Γ->Option R} {z:R} (a:(F.map (·.1)).bind (λr=>k rs (hp r) [0])=some z): ∃r h' dt,k r h' dt=some z/\cU G.K P f vs h r h' dt:=by
 cases d:F with
 |none=>rw[d] at a;cases a
 |some x=>
  rw[d] at a;have p:t.val=some x:=pX (by rw[<-l];exact d);have h1:dY G n f vs h (λr h' dt=>some (ULift.up.{0} (r,h',dt)).down)=some (rs,hp x.1,bif x.2 then[0] else[]):=by
   rw[heq,T.l_,p];rfl
  obtain⟨q,h',dt,c,g⟩:=s4 m h1;injection c with c;injection c with i b;injection b with b e;subst i;subst b;have j:cU G.K P f vs h q (hp x.1) [0]:=by
   cases o:x.2<;>rw[o] at e<;>subst e
   ·exact g.aeK hl
   ·exact g
  exact⟨_,_,_,a,j⟩
end
end Go.Vx
end
section
namespace Go.Proofs.YtoggponeookhbaaGreatDoor
open Go.RowKit
def hU (x y:Int):Int:=bif decide (x<y) then -1 else bif decide (y<x) then 1 else 0
theorem VB (w:World) (x:Int):Calls κ 59 #[.int .i64 x] w λe w'=>e= .returned (.bool false)/\w'=w:=by
 go_enter Tryz.func59,Tryz.ntmps59
 go_wp2
 go_ret
 simp
theorem I9 (w:World) (x y:Int):Calls κ 37 #[.int .i64 x,.int .i64 y] w λe w'=>e= .returned (.int .i64 (hU x y))/\w'=w:=by
 unfold hU;have a:=λx=>VB w x
 by_cases h1:x<y
 ·have d1:decide (x<y)=true:=decide_eq_true h1;rw[d1]
  go_enter η3,ζR
  go_wp2_with (go_at_call 59;refine(a _).mono ?_;rintro e w' ⟨rfl,rfl⟩)
  go_ret
  exact⟨rfl,rfl⟩
 ·have d1:decide (x<y)=false:=decide_eq_false h1;rw[d1]
  by_cases b:y<x
  ·have d2:decide (y<x)=true:=decide_eq_true b;rw[d2]
   go_enter η3,ζR
   go_wp2_with (go_at_call 59;refine(a _).mono ?_;rintro e w' ⟨rfl,rfl⟩)
   go_ret
   exact⟨rfl,rfl⟩
  ·have d2:decide (y<x)=false:=decide_eq_false b;rw[d2]
   go_enter η3,ζR
   go_wp2_with (go_at_call 59;refine(a _).mono ?_;rintro e w' ⟨rfl,rfl⟩)
   go_ret
   exact⟨rfl,rfl⟩
set_option maxHeartbeats 1000000 in
theorem VA (w:World) (b g o n c:Nat) (i j x y:Int) (d:w.cell? ⟨b,0,none⟩=some (.slice (some ⟨g,o,none⟩) n c)) (hi:0<=i) (f:i<n) (h:0<=j) (k:j<n)
  (l:w.cell? ⟨g,o+i.toNat*11+9,none⟩=some (.int .i64 x)) (m:w.cell? ⟨g,o+j.toNat*11+9,none⟩=some (.int .i64 y))
  (a: ∀(u:World),Calls κ 37 #[.int .i64 x,.int .i64 y] u λe w'=>e= .returned (.int .i64 (hU x y))/\w'=u):
  Calls κ 57 #[.int .i64 i,.int .i64 j,.pointer (some ⟨b,0,none⟩)] w λe w'=>e= .returned (.int .i64 (hU x y))/\ ∃q,w'=w.drewN q:=by
 generalize hU x y=r at a ⊢
 go_enter ηu,Tryz.ntmps57
 go_wp2
 go_quiet ((go_at_call 37;exact ζE (a _)))
 go_wp2
 go_ret
 exact⟨rfl,_,rfl⟩
set_option maxHeartbeats 1000000 in
theorem Vz (w:World) (b g o n c:Nat) (i j x y:Int) (d:w.cell? ⟨b,0,none⟩=some (.slice (some ⟨g,o,none⟩) n c)) (hi:0<=i) (f:i<n) (h:0<=j) (k:j<n)
  (l:w.cell? ⟨g,o+i.toNat*11+8,none⟩=some (.int .i64 x)) (m:w.cell? ⟨g,o+j.toNat*11+8,none⟩=some (.int .i64 y))
  (a: ∀(u:World),Calls κ 37 #[.int .i64 x,.int .i64 y] u λe w'=>e= .returned (.int .i64 (hU x y))/\w'=u):
  Calls κ 36 #[.int .i64 i,.int .i64 j,.pointer (some ⟨b,0,none⟩)] w λe w'=>e= .returned (.int .i64 (hU x y))/\ ∃q,w'=w.drewN q:=by
 generalize hU x y=r at a ⊢
 go_enter ηv,Tryz.ntmps36
 go_wp2
 go_quiet ((go_at_call 37;exact ζE (a _)))
 go_wp2
 go_ret
 exact⟨rfl,_,rfl⟩
end Go.Proofs.YtoggponeookhbaaGreatDoor
end
section
namespace Go.Proofs.YtoggponeookhbaaGreatDoor
open Go.RowKit Go.Dc Go.Vx
theorem V3 {O:Γ} {w:World} {es:Γb} {d:ae} (h:e7.rep O w es d):es[9]? =some (.int .i64 d.aL):=by
 obtain⟨c1,s,rfl,h1,c2,t,rfl,l,p,u,rfl,m,q,v,rfl,o,g,x,rfl,a,r⟩:=h;have b:=(Ty.int .i64).len h1;have c:=iX.len l;have e:=jV.len m;have f:=(Ty.int .i64).len o;have i:(Ty.int .i64).n=1:=rfl;have j:iX.n=5:=rfl;have k:jV.n=2:=rfl;rw[i] at b f;rw[j] at c;rw[k] at e;have a:g=[.int .i64 d.aL]:=a;subst a;rw[χ (by omega),χ (by omega),χ (by omega),χ (by omega),b,c,e,f];rfl
theorem Iv {g o n:Nat}:(⟨g,o,none⟩:Addr).add n=⟨g,o+n,none⟩:=by
 unfold Addr.add;split
 ·rename_i h;subst h;rfl
 ·rfl
theorem U9 {O:Γ} {w:World} {es:Γb} {d:ae} (h:e7.rep O w es d):es[8]? =some (.int .i64 d.bz):=by
 obtain⟨c1,o,rfl,h1,c2,p,rfl,k,m,q,rfl,l,f,r,rfl,a,_⟩:=h;have b:=(Ty.int .i64).len h1;have c:=iX.len k;have e:=jV.len l;have g:(Ty.int .i64).n=1:=rfl;have i:iX.n=5:=rfl;have j:jV.n=2:=rfl;rw[g] at b;rw[i] at c;rw[j] at e;have a:f=[.int .i64 d.bz]:=a;subst a;rw[χ (by omega),χ (by omega),χ (by omega),b,c,e];rfl
structure q5 (f off:Nat) (key:ae->Int):Prop where
 pos:off≠0
 at_: ∀ {O:Γ} {w:World} {es:Γb} {d:ae},e7.rep O w es d->es[off]? =some (.int .i64 (key d))
 cmp: ∀(w:World) (b g o n c:Nat) (i j x y:Int),w.cell? ⟨b,0,none⟩=some (.slice (some ⟨g,o,none⟩) n c)->0<=i->i<n->0<=j->j<n->w.cell? ⟨g,o+i.toNat*11+off,none⟩=some (.int .i64 x)->w.cell? ⟨g,o+j.toNat*11+off,none⟩=some (.int .i64 y)->
  Calls κ f #[.int .i64 i,.int .i64 j,.pointer (some ⟨b,0,none⟩)] w λe w'=>e= .returned (.int .i64 (hU x y))/\ ∃q,w'=w.drewN q
 c9: ∀vs u,(callFunc f vs).run κ u= .ok (.enter f vs) u
theorem IY:q5 57 9 ae.aL:=⟨by decide,V3,λw b g o n c i j x y h1 a d e f h k=>VA w b g o n c i j x y h1 a d e f h k (λu=>I9 u _ _),λvs u=>cR a8 ηu rfl vs u⟩
theorem IX:q5 36 8 ae.bz:=⟨by decide,U9,λw b g o n c i j x y h1 a d e f h k=>Vz w b g o n c i j x y h1 a d e f h k (λu=>I9 u _ _),λvs u=>cR a8 ηv rfl vs u⟩
theorem VX {f off:Nat} {key:ae->Int} (x:q5 f off key) {O:Γ} {w:World} {v:Value} {calls:List ae} (h:(Ty.slice e7).is O w v calls) (hn:calls≠[]):
  ∃g o c,v= .slice (some ⟨g,o,none⟩) calls.length c/\ ∀(i:Nat) (d:ae),calls[i]? =some d->w.cell? ⟨g,o+i*11+off,none⟩=some (.int .i64 (key d)):=by
 obtain⟨cs,⟨A,c,rfl,hl,k⟩,a⟩:=h;have a:v=Value.slice A calls.length c:=a;obtain⟨d0,m⟩: ∃d,calls[0]? =some d:=by cases calls with|nil=>exact absurd rfl hn|cons d r=>exact⟨d,rfl⟩
 obtain⟨⟨g,o,s⟩,es,b,_,_,y,p,_⟩:=k 0 d0 m;have B:s=none:=by
  cases s with
  |none=>rfl
  |some s=>
   exfalso;have j:=e7.len y;have l:e7.n=11:=rfl;cases es with
   |nil=>rw[l] at j;cases j
   |cons u r=>
    have h1:=p 0 u rfl;simp only[Nat.zero_mul,Addr.add,if_true,ηw] at h1;split at h1<;>simp at h1
 subst B;refine⟨g,o,c,by rw[a,b],λi d t=>?_⟩;obtain⟨ad,C,e,_,_,z,q,_⟩:=k i d t;rw[b] at e;cases e;have h1:=q off _ (x.at_ z)
 rwa [Iv,Iv] at h1
end Go.Proofs.YtoggponeookhbaaGreatDoor
end
section
namespace Go.Proofs
open Go.Shelf
def Tryz.wH:Go.Shelf.Ren:=⟨λ|6=>56|15=>93|14=>92|28=>138|29=>139|20=>94|21=>131|22=>132|23=>133|24=>134|25=>135|26=>136|27=>137|46=>179|47=>180|48=>181|49=>182|50=>183|57=>247|n=>n,λ|22=>31|24=>3|25=>95|3=>3|39=>34|0=>0|53=>187|55=>35|4=>4|46=>181|45=>180|50=>92|5=>5|9=>9|66=>236|70=>239|76=>295|77=>296|n=>n,λ|n=>n⟩
theorem Tryz.wG:ηq κ Tryz.wH:= {
 mixed:=by kernel_rfl
 f6:=⟨Tryz.f56.name,by decide,ηx.trans (congrArg some (by kernel_rfl))⟩
 f14:=⟨Tryz.f92.name,by decide,Tryz.func92.trans (congrArg some (by kernel_rfl))⟩
 f15:=Tryz.func93.trans (congrArg some (by kernel_rfl))
 f20:=⟨Tryz.f94.name,by decide,ηy.trans (congrArg some (by kernel_rfl))⟩
 f21:=⟨Tryz.f131.name,by decide,Tryz.func131.trans (congrArg some (by kernel_rfl))⟩
 f22:=⟨Tryz.f132.name,by decide,Tryz.func132.trans (congrArg some (by kernel_rfl))⟩
 f23:=⟨Tryz.f133.name,by decide,Tryz.func133.trans (congrArg some (by kernel_rfl))⟩
 f24:=⟨Tryz.f134.name,by decide,Tryz.func134.trans (congrArg some (by kernel_rfl))⟩
 f25:=⟨Tryz.f135.name,by decide,Tryz.func135.trans (congrArg some (by kernel_rfl))⟩
 f26:=⟨Tryz.f136.name,by decide,Tryz.func136.trans (congrArg some (by kernel_rfl))⟩
 f27:=⟨Tryz.f137.name,by decide,Tryz.func137.trans (congrArg some (by kernel_rfl))⟩
 f28:=Tryz.func138.trans (congrArg some (by kernel_rfl))
 f29:=Tryz.func139.trans (congrArg some (by kernel_rfl))
 f46:=⟨Tryz.f179.name,by decide,Tryz.func179.trans (congrArg some (by kernel_rfl))⟩
 f47:=Tryz.func180.trans (congrArg some (by kernel_rfl))
 f48:=Tryz.func181.trans (congrArg some (by kernel_rfl))
 f49:=⟨Tryz.f182.name,by decide,Tryz.func182.trans (congrArg some (by kernel_rfl))⟩
 f50:=⟨Tryz.f183.name,by decide,Tryz.func183.trans (congrArg some (by kernel_rfl))⟩
 f57:=⟨Tryz.f247.name,by decide,Tryz.func247.trans (congrArg some (by kernel_rfl))⟩
 t0:=Tryz.underlying0
 a0:=Tryz.isAgg0
 z0:=Tryz.sizeOf0
 v0:=Tryz.zeroValue0
 t3:=Tryz.underlying3
 a3:=ηz
 z3:=ηk
 v3:=Tryz.zeroValue3
 t4:=Tryz.underlying4
 a4:=Tryz.isAgg4
 z4:=Tryz.sizeOf4
 v4:=Tryz.zeroValue4
 t5:=Tryz.underlying5
 a5:=Tryz.isAgg5
 z5:=Tryz.sizeOf5
 v5:=Tryz.zeroValue5
 t9:=Tryz.underlying9
 a9:=Tryz.isAgg9
 z9:=Tryz.sizeOf9
 v9:=Tryz.zeroValue9
 t22:=Tryz.underlying31
 a22:=Tryz.isAgg31
 z22:=Tryz.sizeOf31
 v22:=Tryz.zeroValue31
 a24:=ηz
 z24:=ηk
 t25:=Tryz.underlying95
 a25:=Tryz.isAgg95
 z25:=Tryz.sizeOf95
 v25:=Tryz.zeroValue95
 t39:=Tryz.underlying34
 a39:=Tryz.isAgg34
 z39:=Tryz.sizeOf34
 v39:=Tryz.zeroValue34
 t45:=Tryz.underlying180
 a45:=Tryz.isAgg180
 z45:=Tryz.sizeOf180
 v45:=Tryz.zeroValue180
 t46:=Tryz.underlying181
 a46:=Tryz.isAgg181
 z46:=Tryz.sizeOf181
 v46:=Tryz.zeroValue181
 t50:=Tryz.underlying92
 a50:=Tryz.isAgg92
 z50:=Tryz.sizeOf92
 v50:=Tryz.zeroValue92
 t53:=Tryz.underlying187
 a53:=Tryz.isAgg187
 z53:=Tryz.sizeOf187
 v53:=Tryz.zeroValue187
 t55:=Tryz.underlying35
 a55:=Tryz.isAgg35
 z55:=Tryz.sizeOf35
 v55:=Tryz.zeroValue35
 t66:=Tryz.underlying236
 a66:=Tryz.isAgg236
 z66:=Tryz.sizeOf236
 v66:=Tryz.zeroValue236
 t70:=Tryz.underlying239
 a70:=Tryz.isAgg239
 z70:=Tryz.sizeOf239
 v70:=Tryz.zeroValue239
 t76:=Tryz.underlying295
 a76:=Tryz.isAgg295
 z76:=Tryz.sizeOf295
 v76:=Tryz.zeroValue295
 t77:=Tryz.underlying296
 a77:=Tryz.isAgg296
 z77:=Tryz.sizeOf296
 v77:=Tryz.zeroValue296}
end Go.Proofs
end
section
namespace Go.Proofs.YtoggponeookhbaaGreatDoor
open Go.RowKit Go.Dc Go.Vx Go.Sort
abbrev dF (calls:List ae):= {i:Int//0<=i/\i<calls.length}
def gk (key:ae->Int) (calls:List ae) (i:dF calls):Int:=key (calls[i.1.toNat]'(by have:=i.2;omega))
def fO (key:ae->Int) (calls:List ae) (i j:dF calls):Int:=hU (gk key calls i) (gk key calls j)
theorem qi (key:ae->Int) (calls:List ae) (i j:dF calls):ltOf (fO key calls) i j=decide (gk key calls i<gk key calls j):=by
 unfold ltOf fO hU
 by_cases h1:gk key calls i<gk key calls j
 ·simp[h1]
 ·by_cases a:gk key calls j<gk key calls i<;>simp[h1,a]
theorem wM (key:ae->Int) (calls:List ae):SWO (ltOf (fO key calls)) where
 irrefl x:=by rw[qi];simp
 trans x y z h1 a:=by rw[qi] at*;simp at*;omega
 ntrans x y z h1 a:=by rw[qi] at*;simp at*;omega
noncomputable def PE (key:ae->Int) (calls:List ae) (xs:List (dF calls)):List (dF calls):=match xs with
 |[]=>[]
 |x::r=>letI:Inhabited (dF calls):=⟨x⟩;(pdq (ltOf (fO key calls)) (x::r).toArray 0 (r.length+1) (ζP (r.length+1)) true true).toList
noncomputable def oq (calls:List ae) (xs:Γa):Option (Γa):=
 if h:(∀x∈xs,0<=x/\x<(calls.length:Int))/\xs.length<4611686018427387904 then some ((PE ae.aL calls (xs.attachWith _ h.1)).map (·.1)) else none
noncomputable def wJ:dD SS:=⟨56,λvs h k=>match vs,h with
 |[.one (.own 0),.one (.aD 1)],[some (.row 3 xs),some (.aD 57 [] [.one (.an 2 0)]),some (.box 24 [.ao 22 calls])]=>
  (oq calls xs).bind λys=>k (.ret (.br [])) [some (.row 3 ys),some (.aD 57 [] [.one (.an 2 0)]),some (.box 24 [.ao 22 calls])] [0]
 |_,_=>none⟩
theorem PC {α:Type} [Inhabited α] {enc:α->Value} {w:World} {g n e:Nat} {d:Array α} {os:Array Obj} {cur:Array Value} (a:w.heap[g]? =some (.cells cur e (0,0))):
  Fr [g] w (sortWorld enc w g 0 n d os)/\(sortWorld enc w g 0 n d os).heap[g]? =some (.cells (ξL enc 0 d cur) e (0,0)):=by
 have b:g<w.heap.size:=(ξI.1 a).1;have key: ∀k,k<w.heap.size->(sortWorld enc w g 0 n d os).heap[k]? =(w.heap.modify g (Go.Sort.onCells (ξL enc 0 d)))[k]? :=λk hk=>by
  show(ηl w.heap g _++os)[k]? =_;rw[Array.getElem?_append_left (by simpa using hk)]
 refine⟨⟨rfl,rfl,rfl,?_,λk hk hn=>?_⟩,?_⟩
 ·show w.heap.size<=(ηl w.heap g _++os).size;simp
 ·rw[key k hk,ζy,if_neg (by simp at hn;omega)]
 ·rw[key g b,ζy,if_pos rfl,a];rfl
theorem abR {α:Type} [Inhabited α] {enc:α->Value} {d:Array α} {cur:Array Value} (h:d.size<=cur.size):(ξL enc 0 d cur).toList.take d.size=d.toList.map enc:=by
 apply ξG;intro k;rw[ξT,ξr]
 by_cases hk:k<d.size
 ·rw[if_pos hk];simp only[ξL,Array.getElem?_mapIdx,ξp,ξt,true_and,Nat.sub_zero,hk,if_true];rw[ξu (by omega),ξH,ξr,ξu hk];simp[getElem!_pos d k hk]
 ·rw[if_neg hk,List.getElem?_eq_none (by simp;omega)]
theorem BQ (O:Γ) (w:World): ∀(ys:Γa) (ds:Γb),bN (Ty.int .i64) O w ds ys->ds=ys.map (ζz .i64)
 |[],ds,h=>h
 |y::ys,ds,⟨c1,d,a,b,c⟩=>by rw[a,BQ O w ys d c,show c1=[.int .i64 y] from b];rfl
theorem N5 (O:Γ) (w:World): ∀(ys:Γa),bN (Ty.int .i64) O w (ys.map (ζz .i64)) ys
 |[]=>rfl
 |y::ys=>⟨[.int .i64 y],_,rfl,rfl,N5 O w ys⟩
noncomputable def DJ (key:ae->Int) (calls:List ae) (xs:List (dF calls)) (a b:Nat):List (dF calls):=match xs with
 |[]=>[]
 |x::r=>letI:Inhabited (dF calls):=⟨x⟩;(insertionSort (ltOf (fO key calls)) (x::r).toArray a b).toList
noncomputable def ins (calls:List ae) (xs:Γa) (a b:Int):Option (Γa):=
 if h:(∀x∈xs,0<=x/\x<(calls.length:Int))/\xs.length<4611686018427387904/\0<=a/\a<=b/\b<=xs.length then some ((DJ ae.bz calls (xs.attachWith _ h.1) a.toNat b.toNat).map (·.1)) else none
noncomputable def uW:dD SS:=⟨94,λvs h k=>match vs,h with
 |[.one (.own 0),.one (.v (.int .i64 a)),.one (.v (.int .i64 b)),.one (.aD 1)],[some (.row 3 xs),some (.aD 36 [] [.one (.an 2 0)]),some (.box 24 [.ao 22 calls])]=>
  (ins calls xs a b).bind λys=>k (.ret (.br [])) [some (.row 3 ys),some (.aD 36 [] [.one (.an 2 0)]),some (.box 24 [.ao 22 calls])] [0]
 |_,_=>none⟩
theorem I' {f off:Nat} {key:ae->Int} (q:q5 f off key) {O:Γ} {w:World} {g b size:Nat} {cur:Array Value} {v:Value} {calls:List ae} [Inhabited (dF calls)] (z:w.heap[g]? =some (.cells cur 3 (0,0))) (hO:g∈O) (u:bE w b 24 [v]) (A:b≠g) (C:(Ty.slice e7).is O w v calls):
  CmpReads κ f #[.pointer (some ⟨b,0,none⟩)] (λi:dF calls=>ζz .i64 i.1) (fO key calls) g 0 size w:=by
 intro m os j D x y;obtain⟨a,_⟩:=PC (enc:=λi:dF calls=>ζz .i64 i.1) (n:=m) (d:=j) (os:=os) z;have B:calls≠[]:=by rintro rfl;have:=x.2;simp at this;omega
 have r:=C.tr (a.tr (O:=O) (by intro k hk;simp at hk;subst hk;exact hO));have p:=u.fr a (by simp;exact A);generalize sortWorld _ w g 0 m j os=W at a r p;obtain⟨g2,o,c,rfl,t⟩:=VX q r B;have l: ∀i:dF calls,W.cell? ⟨g2,o+i.1.toNat*11+off,none⟩=some (.int .i64 (gk key calls i)):=λi=>t _ _ (ε _);refine(q.cmp W b g2 o calls.length c x.1 y.1 _ _ ?_ x.2.1 x.2.2 y.2.1 y.2.2 (l x) (l y)).mono λe w' h=>h;have s:W.heap[b]? =some (.cells #[.slice (some ⟨g2,o,none⟩) calls.length c] 24 (0,0)):=p;simp[ηw,s]
abbrev mU (calls:List ae):dF calls->Value:=λi=>ζz .i64 i.1
theorem Ky {calls:List ae} [Inhabited (dF calls)] {w:World} {g:Nat} {cur:Array Value} {xs:Γa} {ps:List (dF calls)} (d:ps.map (·.1)=xs) (b:w.heap[g]? =some (.cells cur 3 (0,0))) (m:cur.toList.take xs.length=xs.map (ζz .i64)):Go.Sort.Holds (mU calls) w g 0 ps.toArray:=λj n=>by
 have a:j<ps.length:=by simpa using n
 have hlen:ps.length=xs.length:=by rw[<-d];simp
 have c:j<xs.length:=by rw[<-hlen];exact a
 have k:cur[j]? =some (.int .i64 xs[j]):=by
  have:=congrArg (·[j]?) m;rw[ξT,if_pos c,ξr,ξH,ε c] at this;exact this
 refine⟨?_,?_⟩
 ·rw[cell_of_row w g _ cur 3 (0,0) b,ξp,k];have e:xs[j]=(ps[j]).1:=by
   have:=ζT (f:=λi:dF calls=>i.1) (l:=ps) (i:=j) (h:=by simpa using a);rw[<-this]
   congr 1
   exact d.symm
  rw[e];simp[getElem!_pos,ε a]
 ·simp[World.frozen?,b]
theorem Qw {calls:List ae} [Inhabited (dF calls)] {O:Γ} {w:World} {g cap m n:Nat} {cur:Array Value} {D:Array (dF calls)} {os:Array Obj} (hO:OB O w) (j:g∈O) (k:w.heap[g]? =some (.cells cur 3 (0,0))) (c:cur.size=cap) (i:cap<=maxLen) (o:m<=cap) (a:D.size=m):
  dn (Ty.int .i64) 3 0 O w (.slice (some ⟨g,0,none⟩) m cap) (D.toList.map (·.1)) O (sortWorld (mU calls) w g 0 n D os) (.slice (some ⟨g,0,none⟩) m cap):=by
 have b:(Ty.int .i64).n=1:=rfl;have f:(D.toList.map (·.1)).length=m:=by rw[ξR,ζ8,a]
 obtain⟨h,l⟩:=PC (enc:=mU calls) (n:=n) (d:=D) (os:=os) k;have:=xc (T:=Ty.int .i64) (e:=3) (B:=0) (n0:=m) (zs:=D.toList.map (·.1)) (cap:=cap) hO j (ξt _) h l (by rw[b,ζF];simpa[ξL] using c) i (by omega) (N5 O _ _) (by
  rw[b,ζF,f,<-a,ηh];exact abR (by rw[a,c];exact o))
 rw[f] at this;exact this
theorem IP {calls:List ae} {xs:Γa} (a: ∀x∈xs,0<=x/\x<(calls.length:Int)):(xs.attachWith _ a).map (·.1)=xs:=by simp
theorem aei {O:Γ} {w:World} (hO:OB O w) {v0 v:Value} {b:Nat} {xs ys:Γa} {calls:List ae} (c:Go.Dc.Own (Ty.int .i64) 3 0 O w v0 xs) (q:bE w b 24 [v]) (F:(Ty.slice e7).is O w v calls) (A:v0.ownBlock≠some b) (h:oq calls xs=some ys):
  Calls κ 56 #[v0,.func (.func 57) #[] #[.pointer (some ⟨b,0,none⟩)]] w (λe w'=>e= .returned (.tuple #[])/\dn (Ty.int .i64) 3 0 O w v0 ys O w' v0):=by
 unfold oq at h;split at h
 rotate_left
 ·cases h
 rename_i d;obtain⟨d,E⟩:=d;injection h with h;have f:=IP d;generalize xs.attachWith _ d=ps at h f;have hlen:ps.length=xs.length:=by rw[<-f];simp
 obtain⟨cs,⟨J,G⟩,B⟩:=c.ex;rcases ps with _|⟨p,r⟩
 ·have:xs=[]:=by rw[<-f];rfl
  subst this;obtain⟨A0,m,rfl,_⟩:=c.form;have dw:=AnyF.slices_SortFunc_none (P:=κ) (ρ:=Tryz.wH) {Tryz.wG with} A0 m (.func (.func 57) #[] #[.pointer (some ⟨b,0,none⟩)]) w;refine dw.mono λe w' ⟨he,hw⟩=>⟨he,?_⟩;subst hw;rw[<-h];exact⟨c,Tr.refl _ _,hO,Sub.refl _,λ_ _ _=>rfl,λ_ _ h=>h⟩
 rcases G with⟨rfl,y⟩|⟨g,cap,cur,rfl,I,a,z,s,j,k⟩
 ·rw[y] at hlen;cases hlen
 have o:(Ty.int .i64).n=1:=rfl;rw[o,ζF] at j k;have t:=BQ O w xs cs B;subst t;have l:=c.mem g rfl;have u:g<w.heap.size:=(ξI.1 a).1;have x:b≠g:=λe=>A (by rw[e];rfl)
 letI:Inhabited (dF calls):=⟨p⟩
 have dw:=Any.slices_SortFunc_eq Tryz.wG (mU calls) (λ_=>rfl) (fO ae.aL calls) (wM ae.aL calls) 57 #[.pointer (some ⟨b,0,none⟩)] g 0 cap (p::r).toArray w IY.c9 (I' IY a l q x F).lays (Ky f a k) u (by rw[ξb,hlen];exact E);rw[ξb] at dw;rw[hlen] at dw;refine dw.mono λe w' ⟨he,n,os,hw⟩=>⟨he,?_⟩;obtain⟨D,i⟩: ∃D,D=Go.Sort.pdq (ltOf (fO ae.aL calls)) (p::r).toArray 0 xs.length (ηf xs.length) true true:=⟨_,rfl⟩;have C:D.size=xs.length:=by
  have:=(Go.Sort.pdq_sorts (ltOf (fO ae.aL calls)) (wM ae.aL calls) (p::r).toArray 0 xs.length (ηf xs.length) true true (ξt _) (by rw[ξb,hlen];exact ξ3 _) (Or.inl rfl)).1.1;rw[i];exact this.trans (by rw[ξb,hlen])
 have H:ys=D.toList.map (·.1):=by
  rw[i,<-h,<-hlen];rfl
 rw[<-i] at hw;subst hw;rw[H];exact Qw hO l a j s z C
theorem Z1 {O:Γ} {w:World} (hO:OB O w) {v0 v:Value} {b:Nat} {xs ys:Γa} {i j:Int} {calls:List ae} (c:Go.Dc.Own (Ty.int .i64) 3 0 O w v0 xs) (y:bE w b 24 [v]) (K:(Ty.slice e7).is O w v calls) (G:v0.ownBlock≠some b) (h:ins calls xs i j=some ys):
  Calls κ 94 #[v0,.int .i64 i,.int .i64 j,.func (.func 36) #[] #[.pointer (some ⟨b,0,none⟩)]] w (λe w'=>e= .returned (.tuple #[])/\dn (Ty.int .i64) 3 0 O w v0 ys O w' v0):=by
 unfold ins at h;split at h
 rotate_left
 ·cases h
 rename_i d;obtain⟨d,J,C,S,q⟩:=d;injection h with h;have f:=IP d;generalize xs.attachWith _ d=ps at h f;have hlen:ps.length=xs.length:=by rw[<-f];simp
 obtain⟨cs,⟨Q,L⟩,H⟩:=c.ex;rcases ps with _|⟨p,r⟩
 ·have:xs=[]:=by rw[<-f];rfl
  subst this;obtain⟨A0,s,rfl,_⟩:=c.form;have t:i=0:=by simp at q;omega
  have u:j=0:=by simp at q;omega
  subst t;subst u;have dw:=AnyF.insertionSortCmpFunc_none (P:=κ) (ρ:=Tryz.wH) {Tryz.wG with} A0 s (.func (.func 36) #[] #[.pointer (some ⟨b,0,none⟩)]) w;refine dw.mono λe w' ⟨he,hw⟩=>⟨he,?_⟩;subst hw;rw[<-h];exact⟨c,Tr.refl _ _,hO,Sub.refl _,λ_ _ _=>rfl,λ_ _ h=>h⟩
 rcases L with⟨rfl,E⟩|⟨g,cap,cur,rfl,N,a,F,z,l,m⟩
 ·rw[E] at hlen;cases hlen
 have x:(Ty.int .i64).n=1:=rfl;rw[x,ζF] at l m;have A:=BQ O w xs cs H;subst A;have o:=c.mem g rfl;have R:g<w.heap.size:=(ξI.1 a).1;have B:b≠g:=λe=>G (by rw[e];rfl)
 letI:Inhabited (dF calls):=⟨p⟩
 have dw:=Any.insertionSortCmpFunc_one (P:=κ) (ρ:=Tryz.wH) {Tryz.wG with} (mU calls) (λ_=>rfl) (fO ae.bz calls) 36 #[.pointer (some ⟨b,0,none⟩)] g 0 cap i.toNat j.toNat (p::r).toArray w IX.c9 (I' IX a o y B K) (Ky f a m) (by omega) (by rw[ξb,hlen];omega) (by rw[ξb,hlen];exact J);rw[ξb] at dw;rw[hlen,ζG C,ζG (by omega:0<=j)] at dw;refine dw.mono λe w' ⟨he,n,hw⟩=>⟨he,?_⟩;obtain⟨D,k⟩: ∃D,D=Go.Sort.insertionSort (ltOf (fO ae.bz calls)) (p::r).toArray i.toNat j.toNat:=⟨_,rfl⟩;have I:D.size=xs.length:=by
  have:=(Go.Sort.insertionSort_holds (wM ae.bz calls) (p::r).toArray i.toNat j.toNat (by omega) (by rw[ξb,hlen];omega)).1.1;rw[k];exact this.trans (by rw[ξb,hlen])
 have M:ys=D.toList.map (·.1):=by
  rw[k,<-h];rfl
 rw[<-k] at hw;rw[<-sortWorld_none (mU calls) w g 0 n D] at hw;subst hw;rw[M];exact Qw hO o a l z F I
theorem Nn {A:Pl} {O:Γ} {w w':World} {c:Nat} {xs ys:Γa} {calls:List ae} {v0:Value} (l:bK A O w (aC [some (Ob.row 3 xs:Ob SS),some (.aD c [] [.one (.an 2 0)]),some (.box 24 [.ao 22 calls])])) (hO:OB O w) (m:A.pl 0=some v0)
  (g:dn (Ty.int .i64) 3 0 O w v0 ys O w' v0) (G: ∀i,3<=i->A.pl i=none):rQ A O w 3 [some (Ob.row 3 ys:Ob SS),some (.aD c [] [.one (.an 2 0)]),some (.box 24 [.ao 22 calls])] [0] A O w':=by
 have J: ∀b,bS v0=some b->b∈O:=by
  obtain⟨p,h,_,k⟩:=l.al 0 _ rfl;rw[m] at h;cases h;exact k
 have I: ∀(i:Nat) (X:Ob SS),aC [some (Ob.row 3 ys:Ob SS),some (.aD c [] [.one (.an 2 0)]),some (.box 24 [.ao 22 calls])] i=some X-> ∃p,A.pl i=some p/\c6 A O w' X p/\ ∀b,bS p=some b->b∈O:=by
  intro i X f;rcases i with _|_|_|i
  ·cases f;exact⟨v0,m,g.own,J⟩
  ·cases f;obtain⟨p,h,⟨us,t,rfl,K,D⟩,k⟩:=l.al 1 _ rfl;refine⟨_,h,c6.keep (X:=(.aD c [] [.one (.an 2 0)]:Ob SS)) ⟨us,t,rfl,K,D⟩ g.tr (Pl.le.refl A) λd a=>?_,k⟩;rcases a with a|a<;>cases a
  ·cases f;obtain⟨p,h,⟨b,u,rfl,hblk,E⟩,k⟩:=l.al 2 _ rfl;refine⟨_,h,c6.keep (X:=(.box 24 [.ao 22 calls]:Ob SS)) ⟨b,u,rfl,hblk,E⟩ g.tr (Pl.le.refl A) λd a=>?_,k⟩;rcases a with a|a
   ·cases a;exact⟨g.fr b hblk.lt λe=>l.dj 0 2 _ _ _ _ b (by decide) rfl rfl m h (fB e) rfl,k b rfl⟩
   ·cases a
  ·cases f
 exact {
  rel:=bK.qj (λi X f=>by rcases i with _|_|_|i<;>cases f<;>rfl) I (λi j X Y p q d H h1 v x y z=>by
   have n: ∀(i:Nat) (X:Ob SS),aC [some (Ob.row 3 ys:Ob SS),some (.aD c [] [.one (.an 2 0)]),some (.box 24 [.ao 22 calls])] i=some X-> ∃Z:Ob SS,aC [some (Ob.row 3 xs:Ob SS),some (.aD c [] [.one (.an 2 0)]),some (.box 24 [.ao 22 calls])] i=some Z:=λi X f=>by rcases i with _|_|_|i<;>cases f<;>exact⟨_,rfl⟩
   obtain⟨r,B⟩:=n i X h1;obtain⟨s,C⟩:=n j Y v;exact l.dj i j r s p q d H B C x y z)
  ob:=g.ob
  tr:=g.tr
  pl:=λ_ _=>rfl
  lt:=λj o=>by simp at o;subst o;exact(by decide:0<3)
  ls:=rfl
  len:=ξ3 3
  free:=G
  cl:=λd a F=>⟨by
   refine g.fr d (hO d a) λe=>F 0 (by simp) v0 m (fB e),a,λi X p hi f=>by
   rcases i with _|_|_|i
   ·exact absurd hi (by simp)
   ·exact absurd hi (by simp)
   ·exact absurd hi (by simp)
   ·cases f⟩
  nt:=λi X hi f=>by rcases i with _|_|_|i<;>cases f<;>rfl}
theorem Np {A:Pl} {O:Γ} {w:World} {c:Nat} {xs:Γa} {calls:List ae} {v0 v1:Value} (d:bK A O w (aC [some (Ob.row 3 xs:Ob SS),some (.aD c [] [.one (.an 2 0)]),some (.box 24 [.ao 22 calls])])) (l:(ay.one (.own 0):ay SS).rel A O w v0) (h1:(ay.one (.aD 1):ay SS).rel A O w v1):
  A.pl 0=some v0/\Go.Dc.Own (Ty.int .i64) 3 0 O w v0 xs/\ ∃b v,v1= .func (.func c) #[] #[.pointer (some ⟨b,0,none⟩)]/\bE w b 24 [v]/\(Ty.slice e7).is O w v calls/\v0.ownBlock≠some b:=by
 obtain⟨H,f,k,_⟩:=l;obtain⟨f1,I,c1,m,a⟩:=h1;cases k;cases a;obtain⟨E,h,p,C⟩:=d.al 0 _ rfl;rw[f] at h;cases h;obtain⟨F,i,⟨us,z,a,s,n⟩,_⟩:=d.al 1 _ rfl;rw[m] at i;cases i;cases a;obtain⟨G,j,⟨b,B,rfl,hblk,o⟩,D⟩:=d.al 2 _ rfl;rw[show us=[] from s];obtain⟨J,u,rfl,⟨y,g,a⟩,q⟩:=n;rw[show u=[] from q];rw[j] at g;cases g;cases a;obtain⟨K,x,rfl,⟨v,rfl,t,_⟩,r⟩:=o;rw[show x=[] from r] at hblk;exact⟨f,p,b,v,rfl,hblk,t,λe=>d.dj 0 2 _ _ _ _ b (by decide) rfl rfl f j (fB e) rfl⟩
theorem aeh {R:Type} (f:List (ay SS)) (h:AH SS) (k:Rs SS->AH SS->Γ->Option R) (z:R) (a:wJ.out f h k=some z): ∃r h' dt,k r h' dt=some z/\cU KK κ 56 f h r h' dt:=by
 simp only[wJ] at a;split at a
 rotate_left
 ·cases a
 rename_i xs calls;obtain⟨ys,p,hk⟩:=bind_some a;refine⟨_,_,_,hk,cR a8 ηx rfl,λA O w vs c d hO q l s=>?_⟩;obtain⟨v0,_,rfl,g,v1,_,rfl,h1,o⟩:=c;rw[show _=[] from o];obtain⟨i,n,b,v,rfl,hblk,c,m⟩:=Np d g h1;refine(aei hO n hblk c m p).mono ?_;rintro e w' ⟨rfl,j⟩;exact⟨A,O,⟨_,rfl,⟨[],rfl,rfl⟩⟩,Nn d hO i j l⟩
theorem Z0 {R:Type} (f:List (ay SS)) (h:AH SS) (k:Rs SS->AH SS->Γ->Option R) (z:R) (a:uW.out f h k=some z): ∃r h' dt,k r h' dt=some z/\cU KK κ 94 f h r h' dt:=by
 simp only[uW] at a;split at a
 rotate_left
 ·cases a
 rename_i i j xs calls;obtain⟨ys,u,hk⟩:=bind_some a;refine⟨_,_,_,hk,cR a8 ηy rfl,λA O w vs c d hO x p y=>?_⟩;obtain⟨v0,_,rfl,m,B,_,rfl,g1,u2,_,rfl,g2,v1,_,rfl,h1,t⟩:=c;rw[show _=[] from t];obtain⟨g,_⟩:=g1;obtain⟨l,_⟩:=g2;cases g;cases l;obtain⟨n,s,b,v,rfl,hblk,c,q⟩:=Np d m h1;refine(Z1 hO s hblk c q u).mono ?_;rintro e w' ⟨rfl,o⟩;exact⟨A,O,⟨_,rfl,⟨[],rfl,rfl⟩⟩,Nn d hO n o p⟩
end Go.Proofs.YtoggponeookhbaaGreatDoor
end
section
namespace Go.Proofs.YtoggponeookhbaaGreatDoor
open Go.RowKit Go.Dc Go.Vx
variable (sh:Sh)
def Hj:bw SS:= {yO sh with H:=wJ::(yO sh).H}
def r2:bw SS:= {Hj sh with H:=uW::(Hj sh).H}
theorem r3:ak (r2 shut) κ:=ak.dw (c:=uW) (ak.dw (c:=wJ) SG aeh) Z0
def nu (a b c:Int) (d:Γa) (e:List ae) (f:Int):AS SS:=⟨[(0,(vo 0)),(1,(vi a)),(2,(vi b)),(3,(vi c)),(10,(vi f))],[(rX 3 d),(some (.aD 36 [] [(.one (.an 2 0))])),(bX 24 [(.ao 22 e)])],3,none,false,[],[0]⟩
def WT (a d b:Int) (e:List ae) (a0:Bool) (c:Int) (a2:Γa):AS SS:= {nu a d b a2 e a with env:=[(13,(vb a0)),(12,(vi b)),(11,(vi c)),(0,(vo 0)),(1,(vi a)),(2,(vi d)),(3,(vi b)),(10,(vi c))]}
def oU (sh:Sh) (b c e:Int) (f:List ae) (a:Int×Γa):T ((Int×Γa)⊕(Bool×Int×Γa)):=.bf (decide (a.1<e)) (.bd (idx a.2 (γ.wrap (c+a.1))) λz0=>.bd (a.2[(γ.wrap (c+a.1)).toNat]?) λd=>.bd (idx a.2 (γ.wrap (b+a.1))) λz2=>.bd (a.2[(γ.wrap (b+a.1)).toNat]?) λz3=>.bd (idx a.2 (γ.wrap (b+a.1))) λz4=>.bd (a.2[(γ.wrap (b+a.1)).toNat]?) λz5=>.bd (idx (a.2.set (γ.wrap (b+a.1)).toNat d) (γ.wrap (c+a.1))) λg=>.bd ((a.2.set (γ.wrap (b+a.1)).toNat d)[(γ.wrap (c+a.1)).toNat]?) λh=>.ok (.inl ((γ.wrap (a.1+1)),((a.2.set (γ.wrap (b+a.1)).toNat d).set (γ.wrap (c+a.1)).toNat z3))))<|.ok (.inr ((decide (a.1<e)),a.1,a.2))
def oL (a b c:Int) (d:Γa) (e:List ae) (f:Int):=bM sh (oU sh a b c e) 1000000 (f,d)
def TP {R} (k:KX SS R) (a b c:Int) (d:List ae) (x:(Bool×Int×Γa)):Option R:=(λv=>k (.exit 0) (WT a b c d v.1 v.2.1 v.2.2)) x
def Lm:bh SS:=gm (λst=>gc (ar 184 2) (d' [0] (st)))<|bt 2 (λst=>(b9 st 1 36).bind λ_=>(aU (aK st 1 0)).bind λa=>(aU (aK st 2 0)).bind λb=>(aU (aK st 3 0)).bind λc=>(cd st 0 3).bind λd=>(ba 22 (aN st 2 0)).bind λe=>(aU (aK st 10 0)).bind λf=>some (a,b,c,d,e,f)) (u6 nu) (u6 (oL shut)) (λk p=>TP k p.1 p.2.1 p.2.2.1 p.2.2.2.2.1)
theorem Ny:LS KK κ ar Tryz.f184 184 2 Lm:=aX.pre (bT.comp (bT.gc (ar 184 2)) (bT.d' [0]))<|
 aX.bM (π:=Int×Int×Int×Γa×List ae×Int) (σ:=Int×Γa) (ak.all r3 rfl) (aJ.nil) rfl 60 (λp a=>nu p.1 p.2.1 p.2.2.1 a.2 p.2.2.2.2.1 a.1) (λp=>(p.2.2.2.2.2,p.2.2.2.1)) (St:=λp=>oU shut p.1 p.2.1 p.2.2.1 p.2.2.2.2.1) (λp=>1000000) (λp=>rfl)
  (λm p a k=>by kernel_rfl)
def t_ (a b c:Int) (d:Γa) (e:List ae):AS SS:=⟨[(0,(vo 0)),(2,(vi a)),(4,(vc 1)),(10,(vi b)),(11,(vi c))],[(rX 3 d),(some (.aD 36 [] [(.one (.an 2 0))])),(bX 24 [(.ao 22 e)])],3,none,false,[],[0]⟩
def Wl (a:Int) (c:List ae) (a0:Bool) (b a2:Int) (a3:Γa):AS SS:= {t_ a a a a3 c with env:=[(20,(vb a0)),(19,(vi b)),(18,(vi a2)),(0,(vo 0)),(2,(vi a)),(4,(vc 1)),(10,(vi a2)),(11,(vi b))]}
def ho (b:Int) (c:List ae) (a:Int×Γa×Int):T ((Int×Γa×Int)⊕(Bool×Int×Int×Γa)):=.bf (a.1 !=a.2.2) (.bf (decide (a.1>a.2.2)) (.gd (nu (γ.wrap (b-a.1)) b a.2.2 a.2.1 c 0)<|.bd (oL sh (γ.wrap (b-a.1)) b a.2.2 a.2.1 c 0) λd=>.ok (.inl ((γ.wrap (a.1-a.2.2)),d.2.2,a.2.2)))<|.gd (nu (γ.wrap (b-a.1)) (γ.wrap (γ.wrap (b+a.2.2)-a.1)) a.1 a.2.1 c 0)<|.bd (oL sh (γ.wrap (b-a.1)) (γ.wrap (γ.wrap (b+a.2.2)-a.1)) a.1 a.2.1 c 0) λd=>.ok (.inl (a.1,d.2.2,(γ.wrap (a.2.2-a.1)))))<|.ok (.inr ((a.1 !=a.2.2),a.2.2,a.1,a.2.1))
def zj (a b c:Int) (d:Γa) (e:List ae):=bM sh (ho sh a e) 1000000 (b,d,c)
def Tx {R} (k:KX SS R) (a:Int) (b:List ae) (x:(Bool×Int×Int×Γa)):Option R:=(λv=>k (.exit 0) (Wl a b v.1 v.2.1 v.2.2.1 v.2.2.2)) x
def Lc:bh SS:=gm (λst=>gc (ar 140 3) (d' [0] (st)))<|bt 3 (λst=>(b9 st 1 36).bind λ_=>(aU (aK st 2 0)).bind λa=>(aU (aK st 10 0)).bind λb=>(aU (aK st 11 0)).bind λc=>(cd st 0 3).bind λd=>(ba 22 (aN st 2 0)).bind λe=>some (a,b,c,d,e)) (u5 t_) (u5 (zj shut)) (λk p=>Tx k p.1 p.2.2.2.2)
def Gz:=bO (r2 shut) ar Tryz.f184 184 [Lm]
theorem QL:a_ Gz κ:=bQ (ak.all r3 rfl) ηm rfl a8 (by kernel_rfl) Ny
theorem ab4:LS KK κ ar Tryz.f140 140 3 Lc:=aX.pre (bT.comp (bT.gc (ar 140 3)) (bT.d' [0]))<|
 aX.bM (π:=Int×Int×Int×Γa×List ae) (σ:=Int×Γa×Int) QL (aJ.nil) rfl 60 (λp a=>t_ p.1 a.1 a.2.2 a.2.1 p.2.2.2.2) (λp=>(p.2.1,p.2.2.2.1,p.2.2.1)) (St:=λp=>ho shut p.1 p.2.2.2.2) (λp=>1000000) (λp=>rfl)
  (λm p a k=>by kernel_rfl)
def Dw (F:Γa->Int->Int->Int->List ae->Option (Γa)):dD SS:=⟨140,λvs h k=>match vs,h with|[.one (.own 0),.one (.v (.int .i64 a)),.one (.v (.int .i64 m)),.one (.v (.int .i64 b)),.one (.aD 1)],[some (.row 3 xs),some (.aD 36 [] [.one (.an 2 0)]),some (.box 24 [.ao 22 calls])]=>(F xs a m b calls).bind λr=>k (.ret (.br [])) [some (.row 3 r),some (.aD 36 [] [.one (.an 2 0)]),some (.box 24 [.ao 22 calls])] [0]|_,_=>none⟩
def Gy:=bO Gz ar Tryz.f140 140 [Lc]
theorem QM:a_ Gy κ:=bQ (a_.fI (ak.all r3 rfl) ηm rfl a8 λc a=>by cases a;exact aJ.cons (aJ.nil) (by kernel_rfl) Ny) Tryz.func140 rfl a8 (by kernel_rfl) ab4
def sS (xs:Γa) (a m b:Int) (calls:List ae):T (Γa×Bool):=.gd (t_ m (γ.wrap (m-a)) (γ.wrap (b-m)) xs calls)<|.bd (zj sh m (γ.wrap (m-a)) (γ.wrap (b-m)) xs calls) λc=>.gd (nu (γ.wrap (m-c.2.2.1)) m c.2.2.1 c.2.2.2 calls 0)<|.bd (oL sh (γ.wrap (m-c.2.2.1)) m c.2.2.1 c.2.2.2 calls 0) λd=>.ok (d.2.2,true)
def JC (xs:Γa) (a m b:Int) (calls:List ae):=sh.s _ (sS sh xs a m b calls).val
theorem aex {R:Type} (xs:Γa) (a m b:Int) (calls:List ae) (k:Rs SS->AH SS->Γ->Option R):dY Gy 100 140 [.one (.own 0),.one (.v (.int .i64 a)),.one (.v (.int .i64 m)),.one (.v (.int .i64 b)),.one (.aD 1)] [some (.row 3 xs),some (.aD 36 [] [.one (.an 2 0)]),some (.box 24 [.ao 22 calls])] k=(sS shut xs a m b calls).run (λr=>k (.ret (.br [])) [some (.row 3 r.1),some (.aD 36 [] [.one (.an 2 0)]),some (.box 24 [.ao 22 calls])] (bif r.2 then[0] else[])):=by kernel_rfl
theorem ZF:gv KK (Dw (λxs a m b calls=>(JC shut xs a m b calls).map (·.1))) κ:=⟨λ{R} vs h k z c=>by
 simp only[Dw] at c;split at c
 rotate_left
 ·cases c
 rename_i a m b xs calls;exact Dy (hp:=λr=>[some (.row 3 r),some (.aD 36 [] [.one (.an 2 0)]),some (.box 24 [.ao 22 calls])]) QM (λk=>aex xs a m b calls k) rfl (ζS _) c⟩
def wz (xs:Γa) (a m b:Int) (calls:List ae):Option (Γa):=(JC sh xs a m b calls).map (·.1)
def Ku:dD SS:=Dw (wz sh)
def oD:bw SS:= {(r2 sh) with H:=Ku sh::(r2 sh).H}
theorem k7:ak (oD shut) κ:=ak.dw (c:=Ku shut) r3 (ZF).ok
def uP (a b c:Int) (d:Γa) (e:List ae):AS SS:=⟨[(0,(vo 0)),(1,(vi a)),(4,(vc 1)),(10,(vi b)),(11,(vi c))],[(rX 3 d),(some (.aD 36 [] [(.one (.an 2 0))])),(bX 24 [(.ao 22 e)])],3,none,false,[],[]⟩
def Ye (a:Int) (c:Γa) (d:List ae) (a0:Bool) (b a2:Int):AS SS:= {uP a a a c d with env:=[(33,(vb a0)),(32,(vi b)),(31,(vi a2)),(0,(vo 0)),(1,(vi a)),(4,(vc 1)),(10,(vi a2)),(11,(vi b))]}
def pd (c:Int) (b:Γa) (d:List ae) (a:Int×Int):T ((Int×Int)⊕(Bool×Int×Int)):=.bf (decide (a.1<a.2)) (.bd (idx b (γ.wrap ((ο.wrap (γ.wrap (a.1+a.2))).fdiv 2))) λz0=>.bd (b[(γ.wrap ((ο.wrap (γ.wrap (a.1+a.2))).fdiv 2)).toNat]?) λe=>.bd (idx b c) λz2=>.bd (b[c.toNat]?) λz3=>.bd (idx d e) λz4=>.bd (idx d z3) λz5=>.bd (nk sh z4.bz z5.bz) λf=>.bf (decide (f<0)) (.ok (.inl ((γ.wrap (γ.wrap ((ο.wrap (γ.wrap (a.1+a.2))).fdiv 2)+1)),a.2)))<|.ok (.inl (a.1,(γ.wrap ((ο.wrap (γ.wrap (a.1+a.2))).fdiv 2)))))<|.ok (.inr ((decide (a.1<a.2)),a.2,a.1))
def Ai (a b c:Int) (d:Γa) (e:List ae):=bM sh (pd sh a d e) 1000000 (b,c)
def UM {R} (k:KX SS R) (a:Int) (b:Γa) (c:List ae) (x:(Bool×Int×Int)):Option R:=(λv=>k (.exit 0) (Ye a b c v.1 v.2.1 v.2.2)) x
def Md:bh SS:=bt 4 (λst=>(b9 st 1 36).bind λ_=>(aU (aK st 1 0)).bind λa=>(aU (aK st 10 0)).bind λb=>(aU (aK st 11 0)).bind λc=>(cd st 0 3).bind λd=>(ba 22 (aN st 2 0)).bind λe=>some (a,b,c,d,e)) (u5 uP) (u5 (Ai shut)) (λk p=>UM k p.1 p.2.2.2.1 p.2.2.2.2)
theorem ac5:LS KK κ ar ζK 95 4 Md:=
 aX.bM (π:=Int×Int×Int×Γa×List ae) (σ:=Int×Int) (ak.all k7 rfl) (aJ.nil) rfl 60 (λp a=>uP p.1 a.1 a.2 p.2.2.2.1 p.2.2.2.2) (λp=>(p.2.1,p.2.2.1)) (St:=λp=>pd shut p.1 p.2.2.2.1 p.2.2.2.2) (λp=>1000000) (λp=>rfl)
  (λm p a k=>by kernel_rfl)
def uM (a b:Int) (c:Γa) (d:List ae):AS SS:=⟨[(0,(vo 0)),(10,(vi a)),(13,(vi b))],[(rX 3 c),(some (.aD 36 [] [(.one (.an 2 0))])),(bX 24 [(.ao 22 d)])],3,none,false,[],[0]⟩
def Ya (a:Int) (c:List ae) (a0:Bool) (b:Int) (a2:Γa):AS SS:= {uM a a a2 c with env:=[(58,(vb a0)),(57,(vi (γ.wrap (a-1)))),(56,(vi a)),(55,(vi b)),(0,(vo 0)),(10,(vi a)),(13,(vi b))]}
def o9 (sh:Sh) (c:Int) (d:List ae) (a:Int×Γa):T ((Int×Γa)⊕(Bool×Int×Γa)):=.bf (decide (a.1<γ.wrap (c-1))) (.bd (idx a.2 (γ.wrap (a.1+1))) λz0=>.bd (a.2[(γ.wrap (a.1+1)).toNat]?) λb=>.bd (idx a.2 a.1) λz2=>.bd (a.2[a.1.toNat]?) λz3=>.bd (idx a.2 a.1) λz4=>.bd (a.2[a.1.toNat]?) λz5=>.bd (idx (a.2.set a.1.toNat b) (γ.wrap (a.1+1))) λe=>.bd ((a.2.set a.1.toNat b)[(γ.wrap (a.1+1)).toNat]?) λf=>.ok (.inl ((γ.wrap (a.1+1)),((a.2.set a.1.toNat b).set (γ.wrap (a.1+1)).toNat z3))))<|.ok (.inr ((decide (a.1<γ.wrap (c-1))),a.1,a.2))
def Af (a b:Int) (c:Γa) (d:List ae):=bM sh (o9 sh a d) 1000000 (b,c)
def UI {R} (k:KX SS R) (a:Int) (b:List ae) (x:(Bool×Int×Γa)):Option R:=(λv=>k (.exit 2) (Ya a b v.1 v.2.1 v.2.2)) x
def L':bh SS:=gm (λst=>gc (ar 95 10) (d' [0] (st)))<|bt 10 (λst=>(b9 st 1 36).bind λ_=>(aU (aK st 10 0)).bind λa=>(aU (aK st 13 0)).bind λb=>(cd st 0 3).bind λc=>(ba 22 (aN st 2 0)).bind λd=>some (a,b,c,d)) (u4 uM) (u4 (Af shut)) (λk p=>UI k p.1 p.2.2.2)
theorem ac1:LS KK κ ar ζK 95 10 L':=aX.pre (bT.comp (bT.gc (ar 95 10)) (bT.d' [0]))<|
 aX.bM (π:=Int×Int×Γa×List ae) (σ:=Int×Γa) (ak.all k7 rfl) (aJ.nil) rfl 60 (λp a=>uM p.1 a.1 a.2 p.2.2.2) (λp=>(p.2.1,p.2.2.1)) (St:=λp=>o9 shut p.1 p.2.2.2) (λp=>1000000) (λp=>rfl)
  (λm p a k=>by kernel_rfl)
def uN (a b:Int) (c:Γa) (d:List ae) (e:Int):AS SS:=⟨[(0,(vo 0)),(2,(vi a)),(4,(vc 1)),(14,(vi b)),(15,(vi e))],[(rX 3 c),(some (.aD 36 [] [(.one (.an 2 0))])),(bX 24 [(.ao 22 d)])],3,none,false,[],[]⟩
def Yb (a:Int) (c:Γa) (d:List ae) (a0:Bool) (b a2:Int):AS SS:= {uN a a c d a with env:=[(85,(vb a0)),(84,(vi b)),(83,(vi a2)),(0,(vo 0)),(2,(vi a)),(4,(vc 1)),(14,(vi a2)),(15,(vi b))]}
def o_ (c:Int) (b:Γa) (d:List ae) (a:Int×Int):T ((Int×Int)⊕(Bool×Int×Int)):=.bf (decide (a.1<a.2)) (.bd (idx b c) λz0=>.bd (b[c.toNat]?) λe=>.bd (idx b (γ.wrap ((ο.wrap (γ.wrap (a.1+a.2))).fdiv 2))) λz2=>.bd (b[(γ.wrap ((ο.wrap (γ.wrap (a.1+a.2))).fdiv 2)).toNat]?) λz3=>.bd (idx d e) λz4=>.bd (idx d z3) λz5=>.bd (nk sh z4.bz z5.bz) λf=>.bf (!decide (f<0)) (.ok (.inl ((γ.wrap (γ.wrap ((ο.wrap (γ.wrap (a.1+a.2))).fdiv 2)+1)),a.2)))<|.ok (.inl (a.1,(γ.wrap ((ο.wrap (γ.wrap (a.1+a.2))).fdiv 2)))))<|.ok (.inr ((decide (a.1<a.2)),a.2,a.1))
def Ag (a b:Int) (c:Γa) (d:List ae) (e:Int):=bM sh (o_ sh a c d) 1000000 (b,e)
def UJ {R} (k:KX SS R) (a:Int) (b:Γa) (c:List ae) (x:(Bool×Int×Int)):Option R:=(λv=>k (.exit 4) (Yb a b c v.1 v.2.1 v.2.2)) x
def Ma:bh SS:=bt 16 (λst=>(b9 st 1 36).bind λ_=>(aU (aK st 2 0)).bind λa=>(aU (aK st 14 0)).bind λb=>(cd st 0 3).bind λc=>(ba 22 (aN st 2 0)).bind λd=>(aU (aK st 15 0)).bind λe=>some (a,b,c,d,e)) (u5 uN) (u5 (Ag shut)) (λk p=>UJ k p.1 p.2.2.1 p.2.2.2.1)
theorem ac2:LS KK κ ar ζK 95 16 Ma:=
 aX.bM (π:=Int×Int×Γa×List ae×Int) (σ:=Int×Int) (ak.all k7 rfl) (aJ.nil) rfl 60 (λp a=>uN p.1 a.1 p.2.2.1 p.2.2.2.1 a.2) (λp=>(p.2.1,p.2.2.2.2)) (St:=λp=>o_ shut p.1 p.2.2.1 p.2.2.2.1) (λp=>1000000) (λp=>rfl)
  (λm p a k=>by kernel_rfl)
def uO (a b:Int) (c:Γa) (d:List ae):AS SS:=⟨[(0,(vo 0)),(14,(vi a)),(17,(vi b))],[(rX 3 c),(some (.aD 36 [] [(.one (.an 2 0))])),(bX 24 [(.ao 22 d)])],3,none,false,[],[0]⟩
def Yc (a:Int) (c:List ae) (a0:Bool) (b:Int) (a2:Γa):AS SS:= {uO a a a2 c with env:=[(110,(vb a0)),(109,(vi a)),(108,(vi b)),(0,(vo 0)),(14,(vi a)),(17,(vi b))]}
def pa (sh:Sh) (c:Int) (d:List ae) (a:Int×Γa):T ((Int×Γa)⊕(Bool×Int×Γa)):=.bf (decide (a.1>c)) (.bd (idx a.2 (γ.wrap (a.1-1))) λz0=>.bd (a.2[(γ.wrap (a.1-1)).toNat]?) λb=>.bd (idx a.2 a.1) λz2=>.bd (a.2[a.1.toNat]?) λz3=>.bd (idx a.2 a.1) λz4=>.bd (a.2[a.1.toNat]?) λz5=>.bd (idx (a.2.set a.1.toNat b) (γ.wrap (a.1-1))) λe=>.bd ((a.2.set a.1.toNat b)[(γ.wrap (a.1-1)).toNat]?) λf=>.ok (.inl ((γ.wrap (a.1-1)),((a.2.set a.1.toNat b).set (γ.wrap (a.1-1)).toNat z3))))<|.ok (.inr ((decide (a.1>c)),a.1,a.2))
def Ah (a b:Int) (c:Γa) (d:List ae):=bM sh (pa sh a d) 1000000 (b,c)
def UK {R} (k:KX SS R) (a:Int) (b:List ae) (x:(Bool×Int×Γa)):Option R:=(λv=>k (.exit 6) (Yc a b v.1 v.2.1 v.2.2)) x
def Mb:bh SS:=gm (λst=>gc (ar 95 22) (d' [0] (st)))<|bt 22 (λst=>(b9 st 1 36).bind λ_=>(aU (aK st 14 0)).bind λa=>(aU (aK st 17 0)).bind λb=>(cd st 0 3).bind λc=>(ba 22 (aN st 2 0)).bind λd=>some (a,b,c,d)) (u4 uO) (u4 (Ah shut)) (λk p=>UK k p.1 p.2.2.2)
theorem ac3:LS KK κ ar ζK 95 22 Mb:=aX.pre (bT.comp (bT.gc (ar 95 22)) (bT.d' [0]))<|
 aX.bM (π:=Int×Int×Γa×List ae) (σ:=Int×Γa) (ak.all k7 rfl) (aJ.nil) rfl 60 (λp a=>uO p.1 a.1 a.2 p.2.2.2) (λp=>(p.2.1,p.2.2.1)) (St:=λp=>pa shut p.1 p.2.2.2) (λp=>1000000) (λp=>rfl)
  (λm p a k=>by kernel_rfl)
def p8 (a b c d e f g:Int) (h:Γa) (i:List ae) (j:Int):AS SS:=⟨[(0,(vo 0)),(1,(vi a)),(2,(vi b)),(3,(vi c)),(4,(vc 1)),(18,(vi d)),(19,(vi e)),(20,(vi f)),(21,(vi j)),(22,(vi g))],[(rX 3 h),(some (.aD 36 [] [(.one (.an 2 0))])),(bX 24 [(.ao 22 i)])],3,none,false,[],[]⟩
def Yd (a c d e f g:Int) (h:Γa) (i:List ae) (a0:Bool) (b a2:Int):AS SS:= {p8 a c d e f a g h i a with env:=[(151,(vb a0)),(150,(vi b)),(149,(vi a2)),(0,(vo 0)),(1,(vi a)),(2,(vi c)),(3,(vi d)),(4,(vc 1)),(18,(vi e)),(19,(vi f)),(20,(vi a2)),(21,(vi b)),(22,(vi g))]}
def pb (g h i j k c:Int) (b:Γa) (d:List ae) (a:Int×Int):T ((Int×Int)⊕(Bool×Int×Int)):=.bf (decide (a.1<a.2)) (.bd (idx b (γ.wrap (c-γ.wrap ((ο.wrap (γ.wrap (a.1+a.2))).fdiv 2)))) λz0=>.bd (b[(γ.wrap (c-γ.wrap ((ο.wrap (γ.wrap (a.1+a.2))).fdiv 2))).toNat]?) λe=>.bd (idx b (γ.wrap ((ο.wrap (γ.wrap (a.1+a.2))).fdiv 2))) λz2=>.bd (b[(γ.wrap ((ο.wrap (γ.wrap (a.1+a.2))).fdiv 2)).toNat]?) λz3=>.bd (idx d e) λz4=>.bd (idx d z3) λz5=>.bd (nk sh z4.bz z5.bz) λf=>.bf (!decide (f<0)) (.ok (.inl ((γ.wrap (γ.wrap ((ο.wrap (γ.wrap (a.1+a.2))).fdiv 2)+1)),a.2)))<|.ok (.inl (a.1,(γ.wrap ((ο.wrap (γ.wrap (a.1+a.2))).fdiv 2)))))<|.ok (.inr ((decide (a.1<a.2)),a.2,a.1))
def j6 (a b c d e f g:Int) (h:Γa) (i:List ae) (j:Int):=bM sh (pb sh a b c d e g h i) 1000000 (f,j)
def UL {R} (k:KX SS R) (a b c d e f:Int) (g:Γa) (h:List ae) (x:(Bool×Int×Int)):Option R:=(λv=>k (.exit 8) (Yd a b c d e f g h v.1 v.2.1 v.2.2)) x
def Mc:bh SS:=bt 34 (λst=>(b9 st 1 36).bind λ_=>(aU (aK st 1 0)).bind λa=>(aU (aK st 2 0)).bind λb=>(aU (aK st 3 0)).bind λc=>(aU (aK st 18 0)).bind λd=>(aU (aK st 19 0)).bind λe=>(aU (aK st 20 0)).bind λf=>(aU (aK st 22 0)).bind λg=>(cd st 0 3).bind λh=>(ba 22 (aN st 2 0)).bind λi=>(aU (aK st 21 0)).bind λj=>some (a,b,c,d,e,f,g,h,i,j)) (λp=>p8 p.1 p.2.1 p.2.2.1 p.2.2.2.1 p.2.2.2.2.1 p.2.2.2.2.2.1 p.2.2.2.2.2.2.1 p.2.2.2.2.2.2.2.1 p.2.2.2.2.2.2.2.2.1 p.2.2.2.2.2.2.2.2.2) (λp=>j6 shut p.1 p.2.1 p.2.2.1 p.2.2.2.1 p.2.2.2.2.1 p.2.2.2.2.2.1 p.2.2.2.2.2.2.1 p.2.2.2.2.2.2.2.1 p.2.2.2.2.2.2.2.2.1 p.2.2.2.2.2.2.2.2.2) (λk p=>UL k p.1 p.2.1 p.2.2.1 p.2.2.2.1 p.2.2.2.2.1 p.2.2.2.2.2.2.1 p.2.2.2.2.2.2.2.1 p.2.2.2.2.2.2.2.2.1)
theorem ac4:LS KK κ ar ζK 95 34 Mc:=
 aX.bM (π:=Int×Int×Int×Int×Int×Int×Int×Γa×List ae×Int) (σ:=Int×Int) (ak.all k7 rfl) (aJ.nil) rfl 60 (λp a=>p8 p.1 p.2.1 p.2.2.1 p.2.2.2.1 p.2.2.2.2.1 a.1 p.2.2.2.2.2.2.1 p.2.2.2.2.2.2.2.1 p.2.2.2.2.2.2.2.2.1 a.2) (λp=>(p.2.2.2.2.2.1,p.2.2.2.2.2.2.2.2.2)) (St:=λp=>pb shut p.1 p.2.1 p.2.2.1 p.2.2.2.1 p.2.2.2.2.1 p.2.2.2.2.2.2.1 p.2.2.2.2.2.2.2.1 p.2.2.2.2.2.2.2.2.1) (λp=>1000000) (λp=>rfl)
  (λm p a k=>by kernel_rfl)
def iI (F:Γa->Int->Int->Int->List ae->Option (Γa)):dD SS:=⟨95,λvs h k=>match vs,h with|[.one (.own 0),.one (.v (.int .i64 a)),.one (.v (.int .i64 m)),.one (.v (.int .i64 b)),.one (.aD 1)],[some (.row 3 xs),some (.aD 36 [] [.one (.an 2 0)]),some (.box 24 [.ao 22 calls])]=>(F xs a m b calls).bind λr=>k (.ret (.br [])) [some (.row 3 r),some (.aD 36 [] [.one (.an 2 0)]),some (.box 24 [.ao 22 calls])] [0]|_,_=>none⟩
def xJ (a:Γa->Int->Int->Int->List ae->Option (Γa)):bw SS:= {(oD shut) with H:=iI a::(oD shut).H}
theorem SC {a:Γa->Int->Int->Int->List ae->Option (Γa)} (b:gv KK (iI a) κ):ak (xJ a) κ:=ak.dw (c:=iI a) k7 b.ok
def Hf (a:Γa->Int->Int->Int->List ae->Option (Γa)):bw SS:= {(xJ a) with T:=fX ((xJ a).T) 95 ⟨⟨ζK,ar 95⟩,[Md,L',Ma,Mb,Mc]⟩}
theorem Sm {a:Γa->Int->Int->Int->List ae->Option (Γa)} (b:gv KK (iI a) κ):a_ (Hf a) κ:=(a_.fI (ak.all (SC b) rfl) Tryz.func95 rfl a8 λc d=>by cases d;exact aJ.cons (aJ.cons (aJ.cons (aJ.cons (aJ.cons (aJ.nil) (by kernel_rfl) ac4) (by kernel_rfl) ac3) (by kernel_rfl) ac2) (by kernel_rfl) ac1) (by kernel_rfl) ac5)
def wU (d:Γa->Int->Int->Int->List ae->Option (Γa)) (xs:Γa) (a m b:Int) (calls:List ae) (mid e s:Int):T (Γa×Bool):=.bf (decide (s<m)) (.bf (decide (m<e)) (.bd (wz sh xs s m (e) calls) λc=>.bf (decide (a<s)) (.bf (decide (s<mid)) (.bd (d c a s (mid) calls) λz2=>.bf (decide (mid<e)) (.bf (decide (e<b)) (.bd (d z2 (mid) (e) b calls) λz3=>.ok (z3,true))<|.ok (z2,true))<|.ok (z2,true))<|.bf (decide (mid<e)) (.bf (decide (e<b)) (.bd (d c (mid) (e) b calls) λz2=>.ok (z2,true))<|.ok (c,true))<|.ok (c,true))<|.bf (decide (mid<e)) (.bf (decide (e<b)) (.bd (d c (mid) (e) b calls) λz2=>.ok (z2,true))<|.ok (c,true))<|.ok (c,true))<|.bf (decide (a<s)) (.bf (decide (s<mid)) (.bd (d xs a s (mid) calls) λc=>.bf (decide (mid<e)) (.bf (decide (e<b)) (.bd (d c (mid) (e) b calls) λz2=>.ok (z2,true))<|.ok (c,true))<|.ok (c,true))<|.bf (decide (mid<e)) (.bf (decide (e<b)) (.bd (d xs (mid) (e) b calls) λc=>.ok (c,true))<|.ok (xs,false))<|.ok (xs,false))<|.bf (decide (mid<e)) (.bf (decide (e<b)) (.bd (d xs (mid) (e) b calls) λc=>.ok (c,true))<|.ok (xs,false))<|.ok (xs,false))<|.bf (decide (a<s)) (.bf (decide (s<mid)) (.bd (d xs a s (mid) calls) λc=>.bf (decide (mid<e)) (.bf (decide (e<b)) (.bd (d c (mid) (e) b calls) λz2=>.ok (z2,true))<|.ok (c,true))<|.ok (c,true))<|.bf (decide (mid<e)) (.bf (decide (e<b)) (.bd (d xs (mid) (e) b calls) λc=>.ok (c,true))<|.ok (xs,false))<|.ok (xs,false))<|.bf (decide (mid<e)) (.bf (decide (e<b)) (.bd (d xs (mid) (e) b calls) λc=>.ok (c,true))<|.ok (xs,false))<|.ok (xs,false)
def jg (e:Γa->Int->Int->Int->List ae->Option (Γa)) (xs:Γa) (a m b:Int) (calls:List ae):T (Γa×Bool):=.bf (γ.wrap (m-a)==1) (.gd (uP a m b xs calls)<|.bd (Ai sh a m b xs calls) λc=>.gd (uM c.2.2 a xs calls)<|.bd (Af sh c.2.2 a xs calls) λd=>.ok (d.2.2,true))<|.bf (γ.wrap (b-m)==1) (.gd (uN m a xs calls m)<|.bd (Ag sh m a xs calls m) λc=>.gd (uO c.2.2 m xs calls)<|.bd (Ah sh c.2.2 m xs calls) λd=>.ok (d.2.2,true))<|.bf (decide (m>γ.wrap ((ο.wrap (γ.wrap (a+b))).fdiv 2))) (.gd (p8 a m b (γ.wrap ((ο.wrap (γ.wrap (a+b))).fdiv 2)) (γ.wrap (γ.wrap ((ο.wrap (γ.wrap (a+b))).fdiv 2)+m)) (γ.wrap (γ.wrap (γ.wrap ((ο.wrap (γ.wrap (a+b))).fdiv 2)+m)-b)) (γ.wrap (γ.wrap (γ.wrap ((ο.wrap (γ.wrap (a+b))).fdiv 2)+m)-1)) xs calls (γ.wrap ((ο.wrap (γ.wrap (a+b))).fdiv 2)))<|.bd (j6 sh a m b (γ.wrap ((ο.wrap (γ.wrap (a+b))).fdiv 2)) (γ.wrap (γ.wrap ((ο.wrap (γ.wrap (a+b))).fdiv 2)+m)) (γ.wrap (γ.wrap (γ.wrap ((ο.wrap (γ.wrap (a+b))).fdiv 2)+m)-b)) (γ.wrap (γ.wrap (γ.wrap ((ο.wrap (γ.wrap (a+b))).fdiv 2)+m)-1)) xs calls (γ.wrap ((ο.wrap (γ.wrap (a+b))).fdiv 2))) λc=>wU sh e xs a m b calls (γ.wrap ((ο.wrap (γ.wrap (a+b))).fdiv 2)) (γ.wrap (γ.wrap (γ.wrap ((ο.wrap (γ.wrap (a+b))).fdiv 2)+m)-c.2.2)) c.2.2)<|.gd (p8 a m b (γ.wrap ((ο.wrap (γ.wrap (a+b))).fdiv 2)) (γ.wrap (γ.wrap ((ο.wrap (γ.wrap (a+b))).fdiv 2)+m)) a (γ.wrap (γ.wrap (γ.wrap ((ο.wrap (γ.wrap (a+b))).fdiv 2)+m)-1)) xs calls m)<|.bd (j6 sh a m b (γ.wrap ((ο.wrap (γ.wrap (a+b))).fdiv 2)) (γ.wrap (γ.wrap ((ο.wrap (γ.wrap (a+b))).fdiv 2)+m)) a (γ.wrap (γ.wrap (γ.wrap ((ο.wrap (γ.wrap (a+b))).fdiv 2)+m)-1)) xs calls m) λc=>wU sh e xs a m b calls (γ.wrap ((ο.wrap (γ.wrap (a+b))).fdiv 2)) (γ.wrap (γ.wrap (γ.wrap ((ο.wrap (γ.wrap (a+b))).fdiv 2)+m)-c.2.2)) c.2.2
def nn (c:Γa->Int->Int->Int->List ae->Option (Γa)) (xs:Γa) (a m b:Int) (calls:List ae):=sh.s _ (jg sh c xs a m b calls).val
theorem aeD {R:Type} (c:Γa->Int->Int->Int->List ae->Option (Γa)) (xs:Γa) (a m b:Int) (calls:List ae) (k:Rs SS->AH SS->Γ->Option R):dY (Hf c) 100 95 [.one (.own 0),.one (.v (.int .i64 a)),.one (.v (.int .i64 m)),.one (.v (.int .i64 b)),.one (.aD 1)] [some (.row 3 xs),some (.aD 36 [] [.one (.an 2 0)]),some (.box 24 [.ao 22 calls])] k=(jg shut c xs a m b calls).run (λr=>k (.ret (.br [])) [some (.row 3 r.1),some (.aD 36 [] [.one (.an 2 0)]),some (.box 24 [.ao 22 calls])] (bif r.2 then[0] else[])):=by kernel_rfl
theorem ZI {d:Γa->Int->Int->Int->List ae->Option (Γa)} (e:gv KK (iI d) κ):gv KK (iI (λxs a m b calls=>(nn shut d xs a m b calls).map (·.1))) κ:=⟨λ{R} vs h k z c=>by
 simp only[iI] at c;split at c
 rotate_left
 ·cases c
 rename_i a m b xs calls;exact Dy (hp:=λr=>[some (.row 3 r),some (.aD 36 [] [.one (.an 2 0)]),some (.box 24 [.ao 22 calls])]) (Sm e) (λk=>aeD _ xs a m b calls k) rfl (ζS _) c⟩
def pZ (sh:Sh):Nat->Γa->Int->Int->Int->List ae->Option (Γa)
 |0=>λ_ _ _ _ _=>none
 |n+1=>λxs a m b calls=>(nn sh (pZ sh n) xs a m b calls).map (·.1)
theorem JZ: ∀n,gv KK (iI (pZ shut n)) κ
 |0=>⟨λ{R} vs h k z a=>by
  simp only[iI] at a;split at a<;>cases a⟩
 |n+1=>ZI (JZ n)
def wA (xs:Γa) (a m b:Int) (calls:List ae):Option (Γa):=pZ sh 100 xs a m b calls
def Kx:dD SS:=iI (wA sh)
def r1:bw SS:= {(oD sh) with H:=Kx sh::(oD sh).H}
theorem oJ:ak (r1 shut) κ:=ak.dw (c:=Kx shut) k7 (JZ 100).ok
def uE (a:Γa) (b:List ae) (c d:Int) (e:Γa):AS SS:=⟨[(0,(vo 0)),(1,(vl a)),(2,(vc 1)),(6,(vi 20)),(7,(vi c)),(8,(vi d))],[(rX 3 e),(some (.aD 36 [] [(.one (.an 2 0))])),(bX 24 [(.ao 22 b)])],3,none,false,[],[0]⟩
def XM (b:Γa) (c:List ae) (a0:Bool) (a a2:Int) (a3:Γa):AS SS:= {uE b c a a a3 with env:=[(13,(vb a0)),(12,(vl b)),(11,(vi a)),(0,(vo 0)),(1,(vl b)),(2,(vc 1)),(6,(vi 20)),(7,(vi a2)),(8,(vi a))]}
def jd (sh:Sh) (b:Γa) (c:List ae) (a:Int×Int×Γa):T ((Int×Int×Γa)⊕(Bool×Int×Int×Γa)):=.bf (decide (a.2.1<=(↑b.length:Int))) (.bd (ins c a.2.2 a.1 a.2.1) λz0=>.ok (.inl (a.2.1,(γ.wrap (a.2.1+20)),z0)))<|.ok (.inr ((decide (a.2.1<=(↑b.length:Int))),a.2.1,a.1,a.2.2))
def z_ (a:Γa) (b:List ae) (c d:Int) (e:Γa):=bM sh (jd sh a b) 1000000 (c,d,e)
def Uu {R} (k:KX SS R) (a:Γa) (b:List ae) (x:(Bool×Int×Int×Γa)):Option R:=(λv=>k (.exit 0) (XM a b v.1 v.2.1 v.2.2.1 v.2.2.2)) x
def LX:bh SS:=gm (λst=>gc (ar 58 3) (d' [0] (st)))<|bt 3 (λst=>(b9 st 1 36).bind λ_=>(cd st 0 3).bind λa=>(ba 22 (aN st 2 0)).bind λb=>(aU (aK st 7 0)).bind λc=>(aU (aK st 8 0)).bind λd=>(cd st 0 3).bind λe=>some (a,b,c,d,e)) (u5 uE) (u5 (z_ shut)) (λk p=>Uu k p.1 p.2.1)
theorem acN:LS KK κ ar ζX 58 3 LX:=aX.pre (bT.comp (bT.gc (ar 58 3)) (bT.d' [0]))<|
 aX.bM (π:=Γa×List ae×Int×Int×Γa) (σ:=Int×Int×Γa) (ak.all oJ rfl) (aJ.nil) rfl 60 (λp a=>uE p.1 p.2.1 a.1 a.2.1 a.2.2) (λp=>(p.2.2.1,p.2.2.2.1,p.2.2.2.2)) (St:=λp=>jd shut p.1 p.2.1) (λp=>1000000) (λp=>rfl)
  (λm p a k=>by kernel_rfl)
def uD (a b c:Int) (d:Γa) (e:List ae) (f:Int):AS SS:=⟨[(0,(vo 0)),(1,(vi a)),(2,(vc 1)),(6,(vi b)),(7,(vi f)),(8,(vi c))],[(rX 3 d),(some (.aD 36 [] [(.one (.an 2 0))])),(bX 24 [(.ao 22 e)])],3,none,false,[],[0]⟩
def XL (a c:Int) (d:List ae) (a0:Bool) (b a2:Int) (a3:Γa):AS SS:= {uD a c a a3 d a with env:=[(35,(vb a0)),(34,(vi a)),(33,(vi b)),(0,(vo 0)),(1,(vi a)),(2,(vc 1)),(6,(vi c)),(7,(vi a2)),(8,(vi b))]}
def hq (b c:Int) (d:List ae) (a:Int×Int×Γa):T ((Int×Int×Γa)⊕(Bool×Int×Int×Γa)):=.bf (decide (a.2.1<=b)) (.bd (wA sh a.2.2 a.1 (γ.wrap (a.1+c)) a.2.1 d) λz0=>.ok (.inl (a.2.1,(γ.wrap (a.2.1+γ.wrap (2*c))),z0)))<|.ok (.inr ((decide (a.2.1<=b)),a.2.1,a.1,a.2.2))
def z8 (a b c:Int) (d:Γa) (e:List ae) (f:Int):=bM sh (hq sh a b e) 1000000 (f,c,d)
def Ut {R} (k:KX SS R) (a b:Int) (c:List ae) (x:(Bool×Int×Int×Γa)):Option R:=(λv=>k (.exit 4) (XL a b c v.1 v.2.1 v.2.2.1 v.2.2.2)) x
def D7:bh SS:=bt 10 (λst=>(b9 st 1 36).bind λ_=>(aU (aK st 1 0)).bind λa=>(aU (aK st 6 0)).bind λb=>(aU (aK st 8 0)).bind λc=>(cd st 0 3).bind λd=>(ba 22 (aN st 2 0)).bind λe=>(aU (aK st 7 0)).bind λf=>some (a,b,c,d,e,f)) (u6 uD) (u6 (z8 shut)) (λk p=>Ut k p.1 p.2.1 p.2.2.2.2.1)
theorem ND:LS KK κ ar ζX 58 10 D7:=
 aX.bM (π:=Int×Int×Int×Γa×List ae×Int) (σ:=Int×Int×Γa) (ak.all oJ rfl) (aJ.nil) rfl 60 (λp a=>uD p.1 p.2.1 a.2.1 a.2.2 p.2.2.2.2.1 a.1) (λp=>(p.2.2.2.2.2,p.2.2.1,p.2.2.2.1)) (St:=λp=>hq shut p.1 p.2.1 p.2.2.2.2.1) (λp=>1000000) (λp=>rfl)
  (λm p a k=>by kernel_rfl)
def uF (a:Γa) (b:List ae) (c d:Int):AS SS:=⟨[(0,(vo 0)),(1,(vi c)),(2,(vc 1)),(6,(vi d))],[(rX 3 a),(some (.aD 36 [] [(.one (.an 2 0))])),(bX 24 [(.ao 22 b)])],3,none,false,[],[0]⟩
def XN (c:List ae) (a:Int) (a0:Bool) (b:Int) (a2:Γa):AS SS:= {uF a2 c a a with env:=[(30,(vb a0)),(29,(vi a)),(28,(vi b)),(0,(vo 0)),(1,(vi a)),(2,(vc 1)),(6,(vi b))]}
def ig (d:List ae) (b:Int) (a:Int×Γa):T ((Int×Γa)⊕(Bool×Int×Γa)):=.bf (decide (a.1<b)) (.gd (uD b a.1 (γ.wrap (2*a.1)) a.2 d 0)<|.bd (z8 sh b a.1 (γ.wrap (2*a.1)) a.2 d 0) λc=>.bf (decide (γ.wrap (c.2.2.1+a.1)<b)) (.bd (wA sh c.2.2.2 c.2.2.1 (γ.wrap (c.2.2.1+a.1)) b d) λe=>.ok (.inl ((γ.wrap (a.1*2)),e)))<|.ok (.inl ((γ.wrap (a.1*2)),c.2.2.2)))<|.ok (.inr ((decide (a.1<b)),a.1,a.2))
def z' (a:Γa) (b:List ae) (c d:Int):=bM sh (ig sh b c) 1000000 (d,a)
def Uv {R} (k:KX SS R) (a:List ae) (b:Int) (x:(Bool×Int×Γa)):Option R:=(λv=>k (.exit 2) (XN a b v.1 v.2.1 v.2.2)) x
def LY:bh SS:=bt 8 (λst=>(b9 st 1 36).bind λ_=>(cd st 0 3).bind λa=>(ba 22 (aN st 2 0)).bind λb=>(aU (aK st 1 0)).bind λc=>(aU (aK st 6 0)).bind λd=>some (a,b,c,d)) (u4 uF) (u4 (z' shut)) (λk p=>Uv k p.2.1 p.2.2.1)
theorem acO:LS KK κ ar ζX 58 8 LY:=
 aX.bM (I:=⟨⟨ζX,ar 58⟩,[D7]⟩) (π:=Γa×List ae×Int×Int) (σ:=Int×Γa) (ak.all oJ rfl) (aJ.cons (aJ.nil) (by kernel_rfl) ND) rfl 60 (λp a=>uF a.2 p.2.1 p.2.2.1 a.1) (λp=>(p.2.2.2,p.1)) (St:=λp=>ig shut p.2.1 p.2.2.1) (λp=>1000000) (λp=>rfl)
  (λm p a k=>by kernel_rfl)
def Dx (F:Γa->List ae->Option (Γa)):dD SS:=⟨35,λvs h k=>match vs,h with|[.one (.own 0),.one (.aD 1)],[some (.row 3 xs),some (.aD 36 [] [.one (.an 2 0)]),some (.box 24 [.ao 22 calls])]=>(F xs calls).bind λr=>k (.ret (.br [])) [some (.row 3 r),some (.aD 36 [] [.one (.an 2 0)]),some (.box 24 [.ao 22 calls])] [0]|_,_=>none⟩
def G6:=bO (r1 shut) ar ζX 58 [LX,D7,LY]
theorem RS:a_ G6 κ:=(a_.fI (ak.all oJ rfl) Tryz.func58 rfl a8 λc a=>by cases a;exact aJ.cons (aJ.cons (aJ.cons (aJ.nil) (by kernel_rfl) acO) (by kernel_rfl) ND) (by kernel_rfl) acN)
def sW (xs:Γa) (calls:List ae):T (Γa×Bool):=.gd (uE xs calls 0 20 xs)<|.bd (z_ sh xs calls 0 20 xs) λa=>.bd (ins calls a.2.2.2 a.2.2.1 (↑xs.length:Int)) λb=>.gd (uF b calls ((↑xs.length:Int)) 20)<|.bd (z' sh b calls ((↑xs.length:Int)) 20) λc=>.ok (c.2.2,true)
def JE (xs:Γa) (calls:List ae):=sh.s _ (sW sh xs calls).val
theorem aeC {R:Type} (xs:Γa) (calls:List ae) (k:Rs SS->AH SS->Γ->Option R):dY G6 100 35 [.one (.own 0),.one (.aD 1)] [some (.row 3 xs),some (.aD 36 [] [.one (.an 2 0)]),some (.box 24 [.ao 22 calls])] k=(sW shut xs calls).run (λr=>k (.ret (.br [])) [some (.row 3 r.1),some (.aD 36 [] [.one (.an 2 0)]),some (.box 24 [.ao 22 calls])] (bif r.2 then[0] else[])):=by kernel_rfl
theorem ZH:gv KK (Dx (λxs calls=>(JE shut xs calls).map (·.1))) κ:=⟨λ{R} vs h k z a=>by
 simp only[Dx] at a;split at a
 rotate_left
 ·cases a
 rename_i xs calls;exact Dy (hp:=λr=>[some (.row 3 r),some (.aD 36 [] [.one (.an 2 0)]),some (.box 24 [.ao 22 calls])]) RS (λk=>aeC xs calls k) rfl (ζS _) a⟩
def oj (xs:Γa) (calls:List ae):Option (Γa):=(JE sh xs calls).map (·.1)
def Kw:dD SS:=Dx (oj sh)
def yP:bw SS:= {(r1 sh) with H:=Kw sh::(r1 sh).H}
theorem yQ:ak (yP shut) κ:=ak.dw (c:=Kw shut) oJ (ZH).ok
def Di (a:List ae) (b:Int) (c:Γa):AS SS:=⟨[(1,(va 0 0)),(3,(vo 1)),(7,(vd 22 a)),(8,(vl a)),(9,(vi b))],[(bX 24 [(.ao 22 a)]),(rX 3 c)],0,none,false,[],[]⟩
def O9 (a:List ae) (b:Γa):AS SS:=Di a 0 b
def Xy (b:List ae) (a0:Bool) (a:Int) (a2:Γa):AS SS:=xe [(10,(vb a0))] (Di b a a2)
def sJ (sh:Sh) (d:List ae) (b:Int) (z0:ae) (a:Γa):T (Γa⊕(Bool×Int×Γa)):=.bf (z0.aL !=0) (.bd (app 8 a [b]) λc=>.ok (.inl c))<|.ok (.inl a)
def rC (sh:Sh) (c:List ae) (b:Int) (a:Γa):T ((Bool×Int×Γa)):=.ok ((decide (b<(↑c.length:Int))),b,a)
def zX (a:List ae) (b:Γa):=b4 sh (sJ sh a) (rC sh a) a b
def Uj {R} (k:KX SS R) (a:List ae) (x:(Bool×Int×Γa)):Option R:=(λv=>k (.exit 0) (Xy a v.1 v.2.1 v.2.2)) x
def LN:bh SS:=bt 4 (λst=>(ba 22 (aK st 7 0)).bind λa=>(cd st 1 3).bind λb=>some (a,b)) (u2 O9) (u2 (zX shut)) (λk p=>Uj k p.1)
theorem acF:LS KK κ ar Tryz.f32 32 4 LN:=
 aX.b_ (π:=List ae×Γa) (σ:=Γa) (ak.all yQ rfl) (aJ.nil) rfl 60 (λp i a=>Di p.1 i a) (λp=>p.1) (λp=>p.2) (St:=λp=>sJ shut p.1) (F:=λp=>rC shut p.1) (λp=>rfl)
  (λm p i a k=>by kernel_rfl) (λp x=>⟨_,_,λ_=>rfl⟩) (λp N C A O w a b=>cE b (t:=22) (sl:=7) rfl λv h=>h)
def RM:=bO (yP shut) ar Tryz.f32 32 [LN]
theorem RN:a_ RM κ:=bQ (ak.all yQ rfl) Tryz.func32 rfl a8 (by kernel_rfl) acF
def Bb (h:cK):T (Γa):=.gd (O9 h.cC [])<|.bd (zX sh h.cC []) λa=>.bd (oq h.cC a.2.2) λb=>.ok b
def ni (h:cK):=sh.s _ (Bb sh h).val
def yL:=bP (dS KK 32 24 (ni sh) (cH KK 31)) (yP sh)
theorem rY:ak (yL shut) κ:=eo (rs:=[31]) yQ RN rfl rfl λh k=>by kernel_rfl
def C3 (b:Γa) (c:List aZ) (a:List ae) (d:List (Option (Γa))) (e:Int):AS SS:=⟨[(1,(va 0 0)),(5,(vd 31 b)),(6,(vd 89 c)),(8,(vo 1)),(36,(vd 22 a)),(37,(vl a)),(38,(vi e))],[(bX 24 [(.ao 22 a)]),(some (.cB 31 3 d))],0,none,false,[],[]⟩
def OL (a:Γa) (b:List aZ) (c:List ae) (d:List (Option (Γa))):AS SS:=C3 a b c d 0
def Wi (a:Γa) (b:List aZ) (c:List ae):AS SS:=⟨[(2,(vo 0)),(3,(vi 391))],[(rX 3 [])],0,none,false,[],[]⟩
def Wj (b:Γa) (c:List aZ) (d:List ae) (a0:Bool) (a:Int) (a2:List (Option (Γa))):AS SS:=xe [(39,(vb a0))] (C3 b c d a2 a)
def oO (c:Γa) (d:List aZ) (e:List ae) (f:Int) (z0:ae) (a:List (Option (Γa))):T (List (Option (Γa))⊕Unit⊕(Bool×Int×List (Option (Γa)))):=.bf (z0.aL !=0) (.ok (.inl a))<|.bf (z0.bj==0) (.ok (.inl a))<|.bd (nj sh (cK.mk e) c d z0) λb=>.bf (!b.snd) (.ok (.inr (.inl ())))<|.bd (idx a b.fst) λz2=>.bd (jW a b.fst.toNat) λz3=>.bd (app 8 z3 [f]) λz4=>.bd (idx (a.set b.fst.toNat none) b.fst) λz5=>.bd (idx (a.set b.fst.toNat none) (↑b.fst.toNat:Int)) λg=>.ok (.inl ((a.set b.fst.toNat none).set b.fst.toNat (some z4)))
def q9 (sh:Sh) (d:Γa) (e:List aZ) (c:List ae) (b:Int) (a:List (Option (Γa))):T (Unit⊕(Bool×Int×List (Option (Γa)))):=.ok (.inr ((decide (b<(↑c.length:Int))),b,a))
def r7 (b:Γa) (c:List aZ) (a:List ae) (d:List (Option (Γa))):Option (Unit⊕(Bool×Int×List (Option (Γa)))):=b4 sh (oO sh b c a) (q9 sh b c a) a d
def Tv {R} (k:KX SS R) (a:Γa) (b:List aZ) (c:List ae) (x:Unit⊕(Bool×Int×List (Option (Γa)))):Option R:=(λx=>η2 (λv=>k .ret (Wi a b c)) (λv=>k (.exit 0) (Wj a b c v.1 v.2.1 v.2.2)) x) x
def La:bh SS:=bt 11 (λst=>(ba 31 (aK st 5 0)).bind λa=>(ba 89 (aK st 6 0)).bind λb=>(ba 22 (aK st 36 0)).bind λc=>(Du st 1 31 3).bind λd=>some (a,b,c,d)) (u4 OL) (u4 (r7 shut)) (λk p=>Tv k p.1 p.2.1 p.2.2.1)
theorem ab2:LS KK κ ar ηA 12 11 La:=
 aX.b_ (π:=Γa×List aZ×List ae×List (Option (Γa))) (σ:=List (Option (Γa))) (ak.all rY rfl) (aJ.nil) rfl 60 (λp i a=>C3 p.1 p.2.1 p.2.2.1 a i) (λp=>p.2.2.1) (λp=>p.2.2.2) (St:=λp=>oO shut p.1 p.2.1 p.2.2.1) (F:=λp=>q9 shut p.1 p.2.1 p.2.2.1) (λp=>rfl)
  (λm p i a k=>by kernel_rfl) (by rintro p (x|x)<;>exact⟨_,_,λ_=>rfl⟩) (λp N C A O w a b=>cE b (t:=22) (sl:=36) rfl λv h=>h)
def tZ (a:Γa) (b:List ae) (c:List (Option (Γa))) (d:Int) (e:Γa) (f:List (Option (Γa))):AS SS:=⟨[(1,(va 0 0)),(5,(vd 31 a)),(13,(vo 1)),(73,(vo 2)),(74,(vl c)),(75,(vi d))],[(bX 24 [(.ao 22 b)]),(rX 3 e),(some (.cB 31 3 f))],0,none,false,[],[]⟩
def Wk (b:Γa) (c:List ae) (d:List (Option (Γa))) (a0:Bool) (a:Int) (a2:Γa) (a3:List (Option (Γa))):AS SS:=xe [(76,(vb a0))] (tZ b c d a a2 a3)
def oP (b:Γa) (d:List ae) (c:List (Option (Γa))) (a:Int×Γa×List (Option (Γa))):T ((Int×Γa×List (Option (Γa)))⊕(Bool×Int×Γa×List (Option (Γa)))):=.bf (decide (a.1<(↑c.length:Int))) (.bd (idx a.2.2 a.1) λz0=>.bd (jW a.2.2 a.1.toNat) λe=>.bd (oj sh e d) λz2=>.bd (app 8 a.2.1 z2) λz3=>.bf (decide (a.1<(↑b.length:Int))) (.bd (ep b (ηb (λx=>x.snd) (some (γ,a.1))) (ηb (λx=>x.snd) (some (γ,γ.wrap (a.1+1)))) (ηb (λx=>x.snd) (some (γ,γ.wrap (a.1+1))))) λz4=>.bd (app 8 z3 z4) λz5=>.ok (.inl ((γ.wrap (a.1+1)),z5,(a.2.2.set a.1.toNat none))))<|.ok (.inl ((γ.wrap (a.1+1)),z3,(a.2.2.set a.1.toNat none))))<|.ok (.inr ((decide (a.1<(↑c.length:Int))),a.1,a.2.1,a.2.2))
def zi (a:Γa) (b:List ae) (c:List (Option (Γa))) (d:Int) (e:Γa) (f:List (Option (Γa))):Option ((Bool×Int×Γa×List (Option (Γa)))):=bM sh (oP sh a b c) 1000000 (d,e,f)
def Tw {R} (k:KX SS R) (a:Γa) (b:List ae) (c:List (Option (Γa))) (x:(Bool×Int×Γa×List (Option (Γa)))):Option R:=(λv=>k (.exit 2) (Wk a b c v.1 v.2.1 v.2.2.1 v.2.2.2)) x
def Lb:bh SS:=bt 21 (λst=>(ba 31 (aK st 5 0)).bind λa=>(ba 22 (aN st 0 0)).bind λb=>(Du st 2 31 3).bind λc=>(aU (aK st 75 0)).bind λd=>(cd st 1 3).bind λe=>(Du st 2 31 3).bind λf=>some (a,b,c,d,e,f)) (u6 tZ) (u6 (zi shut)) (λk p=>Tw k p.1 p.2.1 p.2.2.1)
theorem ab3:LS KK κ ar ηA 12 21 Lb:=
 aX.bM (π:=Γa×List ae×List (Option (Γa))×Int×Γa×List (Option (Γa))) (σ:=Int×Γa×List (Option (Γa))) (ak.all rY rfl) (aJ.nil) rfl 60 (λp a=>tZ p.1 p.2.1 p.2.2.1 a.1 a.2.1 a.2.2) (λp=>(p.2.2.2.1,p.2.2.2.2.1,p.2.2.2.2.2)) (St:=λp=>oP shut p.1 p.2.1 p.2.2.1) (λp=>1000000) (λp=>rfl)
  (λm p a k=>by kernel_rfl)
def QJ:=bO (yL shut) ar ηA 12 [La,Lb]
theorem QK:a_ QJ κ:=(a_.fI (ak.all rY rfl) Tryz.func12 rfl a8 λc a=>by cases a;exact aJ.cons (aJ.cons (aJ.nil) (by kernel_rfl) ab3) (by kernel_rfl) ab2)
def je (h:cK):T (Γa×Int):=.bd (jz sh h) λz0=>.bf (z0 !=0) (.ok ([],z0))<|.bd (ni sh h) λa=>.bd (pP sh h a) λz2=>.bf (!z2.snd) (.ok ([],391))<|.bd (h4 24 (γ.wrap ((↑a.length:Int)+1)) (γ.wrap ((↑a.length:Int)+1)) (some [])) λz3=>.gd (OL a z2.fst h.cC z3)<|.bd (r7 sh a z2.fst h.cC z3) λc=>.cs c (λ_=>.ok ([],391)) λb=>.gd (tZ a h.cC b.2.2 0 [] b.2.2)<|.bd (zi sh a h.cC b.2.2 0 [] b.2.2) λd=>.ok (d.2.2.1,0)
def na (h:cK):=sh.s _ (je sh h).val
def mv:=bP (dS KK 12 24 (na sh) (eP KK 31 27)) (yL sh)
theorem xT:ak (mv shut) κ:=eo (rs:=[31,27]) rY QK rfl rfl λh k=>by kernel_rfl
end Go.Proofs.YtoggponeookhbaaGreatDoor
end
section
namespace Go.Proofs.YtoggponeookhbaaGreatDoor
open Go.Sort
section
variable {α:Type} [Inhabited α]
theorem IL {d D:Array α} {a b:Nat} (m:a<=b) (n:b<=d.size) (h:PermIn a b d D):
  D.toList=d.toList.take a++(D.toList.drop a).take (b-a)++d.toList.drop b/\((D.toList.drop a).take (b-a)).Perm ((d.toList.drop a).take (b-a)):=by
 obtain⟨h1,l,c⟩:=h;have f: ∀i,i<a\/b<=i->D.toList[i]? =d.toList[i]? :=λi hi=>by
  rw[ξr,ξr]
  by_cases g:i<d.size
  ·have:=l i hi;rw[getElem!_pos D i (by omega),getElem!_pos d i g] at this;rw[ξu (by omega),ξu g,this]
  ·rw[ζq (by omega),ζq (by omega)]
 have j:D.toList.take a=d.toList.take a:=ξG λi=>by
  rw[ξT,ξT];split
  ·exact f i (Or.inl (by assumption))
  ·rfl
 have k:D.toList.drop b=d.toList.drop b:=ξG λi=>by
  rw[ζL,ζL];exact f _ (Or.inr (by omega))
 refine⟨?_,?_⟩
 ·rw[<-j,<-k,ν]
  conv=>lhs;rw[<-ξ1 a D.toList]
  congr 1
  conv=>lhs;rw[<-ξ1 (b-a) (D.toList.drop a)]
  rw[η8]
  congr 2
  omega
 ·have e: ∀A:Array α,(A.extract a b).toList=(A.toList.drop a).take (b-a):=λA=>by simp[List.extract_eq_take_drop]
  rw[e,e] at c;exact c
theorem IM {lt:α->α->Bool} {D:Array α} {a b:Nat} (d:b<=D.size) (h:SortedIn lt a b D):((D.toList.drop a).take (b-a)).Pairwise λx y=>lt y x=false:=by
 rw[τ];intro i j hi c e;simp only[ξM,ξx,ζ8] at hi c;simp only[ζh,ζi,Array.getElem_toList];have:=h (a+i) (a+j) (by omega) (by omega) (by omega)
 rwa [getElem!_pos D (a+j) (by omega),getElem!_pos D (a+i) (by omega)] at this
structure Agree (ky hb:α->α->Bool) (ix:α->Int):Prop where
 eq: ∀x y,ix y<ix x->ky x y=hb x y
variable {ky hb:α->α->Bool} {ix:α->Int}
theorem KI (b:Agree ky hb ix) (a:Nat): ∀(j:Nat) (d:Array α),j<d.size->(∀p,a<=p->p<j->ix d[p]! <ix d[j]!)->insInner ky a j d=insInner hb a j d
 |0,d,_,_=>rfl
 |j+1,d,c,h=>by
  unfold insInner
  by_cases f:j+1>a
  ·have e:=b.eq d[j+1]! d[j]! (h j (by omega) (by omega));rw[e];split
   ·refine KI b a j _ (by rw[swp_size];omega) λp hp g=>?_;rw[swp_get d c (by omega),swp_get d c (by omega),if_neg (by omega),if_neg (by omega),if_pos rfl];exact h p hp (by omega)
   ·rfl
  ·have:decide (j+1>a)=false:=by simpa using f
   simp[this]
theorem Nc (g:SWO hb) (f:Agree ky hb ix) (a b:Nat): ∀(n i:Nat) (d:Array α),b-i=n->a<i->i<=b->b<=d.size->SortedIn hb a i d->(∀p r,a<=p->p<r->i<=r->r<b->ix d[p]! <ix d[r]!)->insOuter ky a b i d=insOuter hb a b i d
 |0,i,d,hn,_,t,_,_,_=>by
  rw[insOuter,if_neg (by omega)]
  conv=>rhs;rw[insOuter,if_neg (by omega)]
 |n+1,i,d,hn,y,t,s,w,h=>by
  have c:i<b:=by omega
  rw[insOuter,if_pos c]
  conv=>rhs;rw[insOuter,if_pos c]
  rw[KI f a i d (by omega) λp h1 e=>h p i h1 e (ξ3 _) c];have m:Ins hb a i i d:=⟨λp q o u D _ C=>w p q o u (by omega),λq h1 e=>by omega⟩;have h1:=insInner_spec g swp_permIn permIn_refl permIn_trans a (i+1) i (by omega) i d (by omega) (ξ3 _) (by omega) m;refine Nc g f a b n (i+1) _ (by omega) (by omega) (by omega) (by rw[h1.1.1];exact s) h1.2 λp r hp v z j=>?_;have l:(insInner hb a i d)[r]! =d[r]! :=h1.1.2.1 r (Or.inr (by omega));rw[l]
  by_cases B:p<=i
  ·exact permIn_all d _ a (i+1) (λx=>ix x<ix d[r]!) (by omega) h1.1 (λk hk A=>h k r hk (by omega) (by omega) j) p hp (by omega)
  ·rw[h1.1.2.1 p (Or.inr (by omega))];exact h p r hp v (by omega) j
theorem aeb (g:SWO hb) (f:Agree ky hb ix) {a b:Nat} {d:Array α} (k:b<=d.size) (h: ∀p r,a<=p->p<r->r<b->ix d[p]! <ix d[r]!):insertionSort ky d a b=insertionSort hb d a b:=by
 unfold insertionSort
 by_cases m:a<b
 ·exact Nc g f a b _ (a+1) d rfl (by omega) (by omega) k (λi j h1 c l=>by omega) λp r h1 c _ e=>h p r h1 c e
 ·rw[insOuter,if_neg (by omega)]
  conv=>rhs;rw[insOuter,if_neg (by omega)]
end
def dk (key:ae->Int) (q:List ae) (x:Int):Int:=match q[x.toNat]? with|some d=>key d|none=>0
def et (key:ae->Int) (q:List ae) (x y:Int):Prop:=dk key q x<dk key q y\/dk key q x=dk key q y/\x<y
section
variable {key:ae->Int} {q:List ae}
theorem et.irrefl {x:Int}: ¬et key q x x:=by unfold et;omega
theorem et.trans {x y z:Int} (h:et key q x y) (k:et key q y z):et key q x z:=by unfold et at*;omega
theorem et.total {x y:Int} (h:x≠y):et key q x y\/et key q y x:=by unfold et;omega
theorem u' (i:dF q):gk key q i=dk key q i.1:=by
 unfold gk dk;rw[ε]
def kz (key:ae->Int) (q:List ae) (x y:dF q):Bool:=decide (gk key q x<gk key q y)||(decide (gk key q x=gk key q y)&&decide (x.1<y.1))
theorem kA {x y:dF q}:kz key q x y=true↔et key q x.1 y.1:=by
 unfold kz et;rw[u',u'];simp
theorem Mm:SWO (kz key q) where
 irrefl x:=by
  cases h:kz key q x x with
  |false=>rfl
  |true=>exact absurd (kA.1 h) et.irrefl
 trans x y z h1 a:=kA.2 ((kA.1 h1).trans (kA.1 a))
 ntrans x y z h1 a:=by
  cases h:kz key q x z with
  |false=>rfl
  |true=>
   have h:=kA.1 h;have h1: ¬et key q x.1 y.1:=λk=>by rw[kA.2 k] at h1;cases h1
   have a: ¬et key q y.1 z.1:=λk=>by rw[kA.2 k] at a;cases a
   unfold et at*
   omega
theorem UW:Agree (ltOf (fO key q)) (kz key q) (λx=>x.1):=⟨λx y h=>by
 rw[qi];unfold kz;have:decide (x.1<y.1)=false:=decide_eq_false (by omega);rw[this,Bool.and_false,ηe]⟩
theorem MI {l:Γa} (h:l.Pairwise (· < ·)):l.Nodup:=h.imp λh=>by omega
theorem abS {l:Γa} (hn:l.Nodup) (h:l.Pairwise λx y=> ¬et key q y x):l.Pairwise (et key q):=(ζQ hn h).imp λ⟨h1,a⟩=>(et.total h1).resolve_right a
def Td (key:ae->Int) (q:List ae) (xs:Γa) (a b:Nat) (ys:Γa):Prop:= ∃W,ys=xs.take a++W++xs.drop b/\W.Perm ((xs.drop a).take (b-a))/\W.Pairwise (et key q)
theorem KL {xs:Γa} {a b:Nat} (n: ∀x∈xs,0<=x/\x<(q.length:Int)) (hl:xs.length<=1000) (t:a<=b) (g:b<=xs.length) (hi:((xs.drop a).take (b-a)).Pairwise (· < ·)): ∃ys,ins q xs (a:Int) (b:Int)=some ys/\Td ae.bz q xs a b ys:=by
 unfold ins;rw[dif_pos ⟨n,by omega,by omega,by omega,by omega⟩];refine⟨_,rfl,?_⟩;simp only[θ];have c:(xs.attachWith _ n).map (·.1)=xs:=by simp
 generalize xs.attachWith _ n=ps at c;have hlen:ps.length=xs.length:=by rw[<-c];simp
 rcases ps with _|⟨p,r⟩
 ·have:xs=[]:=by rw[<-c];rfl
  subst this;exact⟨[],by simp[DJ],by simp,ζ1⟩
 letI:Inhabited (dF q):=⟨p⟩
 have d:(p::r).toArray.size=xs.length:=by rw[ξb,hlen]
 have y: ∀k m,a<=k->k<m->m<b->((p::r).toArray[k]!).1<((p::r).toArray[m]!).1:=λk m h1 o F=>by
  have e: ∀j (u:j<xs.length),((p::r).toArray[j]!).1=xs[j]:=λj u=>by
   have z:j<(p::r).length:=by omega
   rw[getElem!_pos _ j (by rw[d];exact u)];have:=ζT (f:=λi:dF q=>i.1) (l:=p::r) (i:=j) (h:=by simpa using z);simp only[List.getElem_toArray];rw[<-this]
   congr 1
  rw[e k (by omega),e m (by omega)];rw[τ] at hi;have:=hi (k-a) (m-a) (by simp;omega) (by simp;omega) (by omega);simp only[ζh,ζi] at this;simpa[show a+(k-a)=k by omega,show a+(m-a)=m by omega] using this
 have w:=aeb Mm (UW (key:=ae.bz) (q:=q)) (by rw[d];exact g) y;have v:=insertionSort_holds (Mm (key:=ae.bz) (q:=q)) (p::r).toArray a b t (by rw[d];exact g);have A:DJ ae.bz q (p::r) a b=(insertionSort (ltOf (fO ae.bz q)) (p::r).toArray a b).toList:=rfl;rw[A,w];generalize insertionSort (kz ae.bz q) (p::r).toArray a b=D at v;obtain⟨h1,o⟩:=v;obtain⟨B,C⟩:=IL t (by rw[d];exact g) h1;have E:=IM (by rw[h1.1,d];exact g) o;have s:(((D.toList.drop a).take (b-a)).map (·.1)).Perm ((xs.drop a).take (b-a)):=by
  have:=C.map (λi:dF q=>i.1);simpa[ζl,ηg,<-c] using this
 refine⟨((D.toList.drop a).take (b-a)).map (·.1),?_,s,?_⟩
 ·conv=>lhs;rw[B]
  rw[ζ5,ζ5,ζl,ηg (i:=b)]
  congr 1
  ·congr 1
   exact congrArg (List.take a) c
  ·exact congrArg (List.drop b) c
 ·refine abS (s.nodup_iff.2 (MI hi)) ?_;rw[ζ0];exact E.imp λh k=>by rw[kA.2 k] at h;cases h
end
end Go.Proofs.YtoggponeookhbaaGreatDoor
end
section
namespace Go.Proofs.YtoggponeookhbaaGreatDoor
open Go.RowKit Go.Dc Go.Vx
section
variable {α σ X:Type}
theorem Oj {step:Int->α->σ->Option (σ⊕X)} {fin:Int->σ->Option X} {l:List α} {st:Nat->σ} {x:X} (h: ∀(j:Nat) z,l[j]? =some z->step j z (st j)=some (.inl (st (j+1)))) (a:fin (l.length:Int) (st l.length)=some x):
  ∀(r pre:List α),l=pre++r->bV step fin pre.length r (st pre.length)=some x
 |[],pre,e=>by
  rw[ξ6] at e;subst e;exact a
 |z::r,pre,e=>by
  rw[hf,h pre.length z (by rw[e];simp),δ];have:=Oj h a r (pre++[z]) (by rw[e];simp);rw[show(pre++[z]).length=pre.length+1 by simp] at this;exact this
theorem qK {step:Int->α->σ->Option (σ⊕X)} {fin:Int->σ->Option X} {l:List α} {st:Nat->σ} {x:X} (h: ∀(j:Nat) z,l[j]? =some z->step j z (st j)=some (.inl (st (j+1)))) (a:fin (l.length:Int) (st l.length)=some x):bV step fin 0 l (st 0)=some x:=Oj h a l [] rfl
theorem Oi {step:Int->α->σ->Option (σ⊕X)} {fin:Int->σ->Option X} {l:List α} {st:Nat->σ} {x:X} {n:Nat} {z0:α} (hn:l[n]? =some z0) (h: ∀(j:Nat) z,j<n->l[j]? =some z->step j z (st j)=some (.inl (st (j+1)))) (b:step n z0 (st n)=some (.inr x)):
  ∀(r pre:List α),pre.length<=n->l=pre++r->bV step fin pre.length r (st pre.length)=some x
 |[],pre,hp,e=>by
  rw[ξ6] at e;subst e;have:=(η.1 hn).1;omega
 |z::r,pre,hp,e=>by
  have a:l[pre.length]? =some z:=by rw[e];simp
  rcases ξA hp with c|heq
  ·rw[hf,h pre.length z c a,δ];have:=Oi (fin:=fin) hn h b r (pre++[z]) (by simp;omega) (by rw[e];simp);rw[show(pre++[z]).length=pre.length+1 by simp] at this;exact this
  ·rw[heq,hn] at a;cases a;rw[hf,heq,b];rfl
theorem Oh {step:Int->α->σ->Option (σ⊕X)} {fin:Int->σ->Option X} {l:List α} {st:Nat->σ} {x:X} {n:Nat} {z0:α} (hn:l[n]? =some z0) (h: ∀(j:Nat) z,j<n->l[j]? =some z->step j z (st j)=some (.inl (st (j+1)))) (a:step n z0 (st n)=some (.inr x)):bV step fin 0 l (st 0)=some x:=Oi hn h a l [] (ξt _) rfl
theorem Qm {step:σ->Option (σ⊕X)} {st:Nat->σ} {n:Nat} {x:X} (h: ∀j,j<n->step (st j)=some (.inl (st (j+1)))) (b:step (st n)=some (.inr x)): ∀(m f:Nat),m<=n->n-m<f->cf step f (st m)=some x
 |m,0,_,c=>by omega
 |m,f+1,hm,c=>by
  show((step (st m)).bind _)=_;rcases ξA hm with a|heq
  ·rw[h m a];exact Qm h b (m+1) f a (by omega)
  ·rw[heq,b];rfl
theorem w7 {step:σ->Option (σ⊕X)} {st:Nat->σ} {n f:Nat} {x:X} (h: ∀j,j<n->step (st j)=some (.inl (st (j+1)))) (b:step (st n)=some (.inr x)) (a:n<f):cf step f (st 0)=some x:=Qm h b 0 f (ξt _) a
end
theorem afu:Bz dJ:=⟨rfl,λz a=>by revert z;decide,λz a=>(by cases a),λz a=>(by cases a)⟩
theorem KO:c8 dJ:=(I3 afu).1 (by decide)
theorem Z3 {s:aZ} (h:c8 s) {c:cJ} (b:hr c):c8 (hz s c).1:=by
 rcases V2 h c with⟨_,e⟩|⟨_,f,d⟩
 ·rw[e];exact h
 ·exact ael h b.a d f
theorem Gd (a b:ae):nm ab a b=some (a.bj !=0&&decide (a.bj<b.bz)):=by
 show(Be ab a b).val=_;unfold Be;simp only[T.aI,T.aH];cases a.bj !=0<;>rfl
theorem w52 (r:cV):CF ab r=some (fi r ⟨363,0⟩||fi r ⟨364,0⟩):=by
 show(Bo ab r).val=_;unfold Bo;simp only[T.aI,T.aH];cases fi r ⟨363,0⟩<;>rfl
theorem cz {x:Int} (a:0<=x) (h:x<=1000000):γ.wrap x=x:=by
 simp only[ηn,ηo,η9];simp;omega
theorem tU {α:Type} {L R:List α} {x:α} {n:Nat} (h:n=L.length):(L++x::R)[n]? =some x:=by subst h;simp
theorem oo {α:Type} {L R:List α} {x y:α} {n:Nat} (h:n=L.length):(L++x::R).set n y=L++y::R:=by subst h;simp
theorem FY {L M R:Γa} {u v:Int} {i j:Nat} (hi:i=L.length) (b:j=L.length+M.length+1):
  (L++u::(M++v::R))[i]? =some u/\(L++u::(M++v::R))[j]? =some v/\((L++u::(M++v::R)).set i v)[j]? =some v/\((L++u::(M++v::R)).set i v).set j u=L++v::(M++u::R):=by
 have e: ∀w:Int,∀x:Int,L++w::(M++x::R)=(L++w::M)++x::R:=λw x=>by simp
 have a: ∀w:Int,j=(L++w::M).length:=λw=>by simp;omega
 refine⟨tU hi,?_,?_,?_⟩
 ·rw[e u v];exact tU (a u)
 ·rw[oo hi,e v v];exact tU (a v)
 ·rw[oo hi,e v v,oo (a v),<-e v u]
theorem FX {P U M V S:Γa} {q:List ae} (x:U.length=V.length) (hl:(P++U++M++V++S).length<=1000) {a b n:Int} (t:a=P.length) (w:b=((P.length+U.length+M.length:Nat):Int)) (hn:n=U.length):
  oL ab a b n (P++U++M++V++S) q 0=some (false,n,P++V++M++U++S):=by
 subst t w hn;simp only[ζ] at hl;show cf (λa=>(oU ab _ _ _ q a).val) 1000000 (0,P++U++M++V++S)=_;have m:((0:Int),P++U++M++V++S)=(λi:Nat=>((i:Int),P++(V.take i++U.drop i)++M++(U.take i++V.drop i)++S)) 0:=by simp
 rw[m];refine w7 (st:=λi:Nat=>((i:Int),P++(V.take i++U.drop i)++M++(U.take i++V.drop i)++S)) (n:=U.length) (λi hi=>?_) ?_ (by omega)
 ·have g:i<V.length:=by omega
  have o:U.drop i=U[i]::U.drop (i+1):=ξ4 hi;have r:V.drop i=V[i]::V.drop (i+1):=ξ4 g;have p:U.take (i+1)=U.take i++[U[i]]:=by rw[ξl,ε hi];rfl
  have s:V.take (i+1)=V.take i++[V[i]]:=by rw[ξl,ε g];rfl
  obtain⟨c,d,e,h⟩:=FY (L:=P++V.take i) (M:=U.drop (i+1)++M++U.take i) (R:=V.drop (i+1)++S) (u:=U[i]) (v:=V[i]) (i:=P.length+i) (j:=P.length+U.length+M.length+i) (by simp;omega) (by simp;omega);have k:P++(V.take i++U.drop i)++M++(U.take i++V.drop i)++S=(P++V.take i)++U[i]::(U.drop (i+1)++M++U.take i++V[i]::(V.drop (i+1)++S)):=by rw[o,r];simp only[ν,ξk,ξi]
  have l:P++(V.take (i+1)++U.drop (i+1))++M++(U.take (i+1)++V.drop (i+1))++S=(P++V.take i)++V[i]::(U.drop (i+1)++M++U.take i++U[i]::(V.drop (i+1)++S)):=by rw[p,s];simp only[ν,ξk,ξi]
  simp only[k,l];generalize (P++V.take i)++U[i]::(U.drop (i+1)++M++U.take i++V[i]::(V.drop (i+1)++S))=Y at c d e h;have w1:γ.wrap ((P.length:Int)+(i:Int))=((P.length+i:Nat):Int):=cz (by omega) (by omega);have w2:γ.wrap (((P.length+U.length+M.length:Nat):Int)+(i:Int))=((P.length+U.length+M.length+i:Nat):Int):=cz (by omega) (by omega);have f:decide ((i:Int)<(U.length:Int))=true:=decide_eq_true (by omega);unfold oU;simp only[T.aI,T.aS,T.aH,w1,w2,f,cond_true,θ,cW c,cW d,c,d,cW e,e,h,δ];rw[cz (by omega) (by omega)];rfl
 ·unfold oU;have f:decide ((U.length:Int)<(U.length:Int))=false:=decide_eq_false (by omega);have t1:V.take U.length=V:=ξX (by omega);have t4:V.drop U.length=[]:=ξy (by omega);simp only[T.aI,T.aH,f,cond_false,t1,t4,ζU,ζV,ξ6]
theorem Fv {q:List ae}: ∀(k:Nat) {P X Y S:Γa} {f:Nat},X.length+Y.length<=k->0<X.length->0<Y.length->k<=f->(P++X++Y++S).length<=1000-> ∀ {m i j:Int},m=((P.length+X.length:Nat):Int)->i=X.length->j=Y.length->
  ∃v1:Int,∃l h o S',cf (λa=>(ho ab m q a).val) f (i,P++X++Y++S,j)=some (false,v1,v1,l++h++o++S')/\P++Y++X++S=l++o++h++S'/\v1=h.length/\h.length=o.length/\m=((l.length+h.length:Nat):Int)
 |0,P,X,Y,S,f,hk,y,_,_,_,m,i,j,_,_,_=>absurd hk (by omega)
 |k+1,P,X,Y,S,0,_,_,_,z,_,m,i,j,_,_,_=>absurd z (by omega)
 |k+1,P,X,Y,S,f+1,hk,y,A,z,hl,m,i,j,hm,hi,B=>by
  subst hm hi B;simp only[ζ] at hl
  by_cases h1:X.length=Y.length
  ·refine⟨X.length,P,X,Y,S,?_,rfl,rfl,h1,rfl⟩;have r:((X.length:Int) !=(Y.length:Int))=false:=by simp[h1]
   have p:(ho ab ((P.length+X.length:Nat):Int) q ((X.length:Int),P++X++Y++S,(Y.length:Int))).val=some (.inr (false,(X.length:Int),(X.length:Int),P++X++Y++S)):=by
    unfold ho;simp only[T.aI,T.aH,r,cond_false];rw[h1]
   show((ho ab _ q _).val.bind _)=_;rw[p];rfl
  ·have r:((X.length:Int) !=(Y.length:Int))=true:=by simp;omega
   by_cases x:Y.length<X.length
   ·have s:decide ((X.length:Int)>(Y.length:Int))=true:=decide_eq_true (by omega);obtain⟨e,c,rfl,C⟩: ∃e c,X=e++c/\e.length=Y.length:=⟨X.take Y.length,X.drop Y.length,(ξ1 _ _).symm,by simp;omega⟩;simp only[ζ] at hk hl x y;have w1:γ.wrap (((P.length+(e++c).length:Nat):Int)-((e++c).length:Int))=(P.length:Int):=by rw[cz]<;>simp<;>omega
    have w2:γ.wrap (((e++c).length:Int)-(Y.length:Int))=(c.length:Int):=by rw[cz]<;>simp<;>omega
    have p:=FX (P:=P) (U:=e) (M:=c) (V:=Y) (S:=S) (q:=q) C (by simp;omega) (a:=P.length) (b:=((P.length+(e++c).length:Nat):Int)) (n:=Y.length) rfl (by simp;omega) (by omega);obtain⟨v1,l,h,o,S',u,v,w⟩:=Fv (q:=q) k (P:=P++Y) (X:=c) (Y:=e) (S:=S) (f:=f) (by omega) (by omega) (by omega) (by omega) (by simp;omega) (m:=((P.length+(e++c).length:Nat):Int)) (i:=c.length) (j:=Y.length) (by simp;omega) rfl (by omega);refine⟨v1,l,h,o,S',?_,by rw[<-v];simp,w⟩;have t:(ho ab ((P.length+(e++c).length:Nat):Int) q (((e++c).length:Int),P++(e++c)++Y++S,(Y.length:Int))).val=some (.inl ((c.length:Int),P++Y++c++e++S,(Y.length:Int))):=by
     unfold ho;simp only[T.aI,T.aS,T.bL,T.aH,r,s,cond_true,w1,w2];rw[show P++(e++c)++Y++S=P++e++c++Y++S by simp,p];rfl
    show((ho ab _ q _).val.bind _)=_;rw[t];exact u
   ·have s:decide ((X.length:Int)>(Y.length:Int))=false:=decide_eq_false (by omega);obtain⟨d,g,rfl,D⟩: ∃d g,Y=d++g/\g.length=X.length:=⟨Y.take (Y.length-X.length),Y.drop (Y.length-X.length),(ξ1 _ _).symm,by simp;omega⟩;simp only[ζ] at hk hl x A h1;have w1:γ.wrap (((P.length+X.length:Nat):Int)-(X.length:Int))=(P.length:Int):=by rw[cz]<;>simp<;>omega
    have w2:γ.wrap (((P.length+X.length:Nat):Int)+((d++g).length:Int))=((P.length+X.length+(d++g).length:Nat):Int):=by rw[cz]<;>simp<;>omega
    have E:γ.wrap (((P.length+X.length+(d++g).length:Nat):Int)-(X.length:Int))=((P.length+X.length+d.length:Nat):Int):=by rw[cz]<;>simp<;>omega
    have F:γ.wrap (((d++g).length:Int)-(X.length:Int))=(d.length:Int):=by rw[cz]<;>simp<;>omega
    have p:=FX (P:=P) (U:=X) (M:=d) (V:=g) (S:=S) (q:=q) D.symm (by simp;omega) (a:=P.length) (b:=((P.length+X.length+d.length:Nat):Int)) (n:=X.length) rfl rfl rfl;obtain⟨v1,l,h,o,S',u,v,w⟩:=Fv (q:=q) k (P:=P) (X:=g) (Y:=d) (S:=X++S) (f:=f) (by omega) (by omega) (by omega) (by omega) (by simp;omega) (m:=((P.length+X.length:Nat):Int)) (i:=X.length) (j:=d.length) (by simp;omega) (by omega) rfl;refine⟨v1,l,h,o,S',?_,by rw[<-v];simp,w⟩;have t:(ho ab ((P.length+X.length:Nat):Int) q ((X.length:Int),P++X++(d++g)++S,((d++g).length:Int))).val=some (.inl ((X.length:Int),P++g++d++(X++S),(d.length:Int))):=by
     unfold ho;simp only[T.aI,T.aS,T.bL,T.aH,r,s,cond_true,cond_false,w1,w2,E,F];rw[show P++X++(d++g)++S=P++X++d++g++S by simp,p,ν _ X S];rfl
    show((ho ab _ q _).val.bind _)=_;rw[t];exact u
theorem adU {P X Y S:Γa} {q:List ae} (j:0<X.length) (k:0<Y.length) (hl:(P++X++Y++S).length<=1000) {a m b:Int} (l:a=P.length) (hm:m=((P.length+X.length:Nat):Int)) (o:b=((P.length+X.length+Y.length:Nat):Int)):
  wz ab (P++X++Y++S) a m b q=some (P++Y++X++S):=by
 subst l o;have p:=hl;simp only[ζ] at hl;obtain⟨v1,c,d,e,S',r,h,s,t,u⟩:=Fv (q:=q) (X.length+Y.length) (P:=P) (S:=S) (f:=1000000) (ξ3 _) j k (by omega) p hm rfl rfl;have hlen:=congrArg ηs h;simp only[ζ] at hlen;have w1:γ.wrap (m-(P.length:Int))=(X.length:Int):=by rw[cz]<;>omega
 have w2:γ.wrap (((P.length+X.length+Y.length:Nat):Int)-m)=(Y.length:Int):=by rw[cz]<;>omega
 have v:γ.wrap (m-v1)=(c.length:Int):=by rw[cz]<;>omega
 have g:=FX (P:=c) (U:=d) (M:=[]) (V:=e) (S:=S') (q:=q) t (by simp;omega) (a:=c.length) (b:=m) (n:=v1) rfl (by rw[u];simp) s;show((sS ab (P++X++Y++S) _ m _ q).val).map (·.1)=_;have i:zj ab m (X.length:Int) (Y.length:Int) (P++X++Y++S) q=some (false,v1,v1,c++d++e++S'):=r;unfold sS;simp only[ξ6] at g;simp only[T.bL,T.aS,T.aH,w1,w2,i,δ,v,g,ξD];rw[h]
theorem vv {i j:Nat} (hi:i<=1000) (d:j<=1000):γ.wrap ((ο.wrap (γ.wrap ((i:Int)+(j:Int)))).fdiv 2)=(((i+j)/2:Nat):Int):=by
 have a:γ.wrap ((i:Int)+(j:Int))=((i+j:Nat):Int):=cz (by omega) (by omega);have b:ο.wrap (((i+j:Nat):Int))=((i+j:Nat):Int):=by
  simp only[ηn,ηo,η9];simp;omega
 have c:(((i+j:Nat):Int)).fdiv 2=(((i+j)/2:Nat):Int):=by
  rw[ζ9 _ (by omega)];omega
 rw[a,b,c,cz (by omega) (by omega)]
theorem B2 (a b:Int):decide (f' a b<0)=decide (a<b):=by
 unfold f'
 by_cases h1:a<b
 ·simp[h1]
 ·by_cases c:b<a<;>simp[h1,c]
theorem pA {step:Int×Int->Option ((Int×Int)⊕(Bool×Int×Int))} {p:Nat->Bool} {lo hi:Nat} (d: ∀i j:Nat,lo<=i->i<j->j<=hi->step (i,j)=some (.inl (bif p ((i+j)/2) then((((i+j)/2+1:Nat):Int),(j:Int)) else((i:Int),(((i+j)/2:Nat):Int)))))
  (b: ∀i:Nat,lo<=i->i<=hi->step (i,i)=some (.inr (false,(i:Int),(i:Int)))):
  ∀(f i j:Nat),lo<=i->i<=j->j<=hi->j-i<f->(i=lo\/p (i-1)=true)->(j=hi\/p j=false)-> ∃s:Nat,i<=s/\s<=j/\cf step f (i,j)=some (false,(s:Int),(s:Int))/\(s=lo\/p (s-1)=true)/\(s=hi\/p s=false)
 |0,i,j,_,_,_,o,_,_=>by omega
 |f+1,i,j,h1,n,a,o,h,k=>by
  rcases ξA n with q|heq
  ·have c:=d i j h1 q a;have r:i<=(i+j)/2:=by omega
   have t:(i+j)/2<j:=by omega
   cases hp:p ((i+j)/2)<;>rw[hp] at c
   ·obtain⟨s,l,m,e,g⟩:=pA d b f i ((i+j)/2) h1 r (by omega) (by omega) h (.inr hp);refine⟨s,l,by omega,?_,g⟩;show((step _).bind _)=_;rw[c];exact e
   ·obtain⟨s,l,m,e,g⟩:=pA d b f ((i+j)/2+1) j (by omega) (by omega) a (by omega) (.inr (by simpa using hp)) k;refine⟨s,by omega,m,?_,g⟩;show((step _).bind _)=_;rw[c];exact e
  ·subst heq;refine⟨i,ξ3 _,ξ3 _,?_,h,k⟩;show((step _).bind _)=_;rw[b i h1 a];rfl
section
variable {q:List ae}
abbrev kB (q:List ae) (x:Int):Int:=dk ae.bz q x
abbrev cS (q:List ae):Int->Int->Prop:=et ae.bz q
def dz (q:List ae) (l:Γa):Prop:= ∀x∈l,0<=x/\x<(q.length:Int)
theorem jE {x:Int} (h:0<=x/\x<(q.length:Int)): ∃d,idx q x=some d/\d.bz=kB q x:=by
 obtain⟨n,rfl⟩: ∃n:Nat,x=n:=⟨x.toNat,by omega⟩;have hn:n<q.length:=by omega
 refine⟨q[n],cW (ε hn),?_⟩;unfold kB dk;rw[θ,ε hn]
def k3 (q:List ae) (U V:Γa):Prop:= ∀u∈U,∀v∈V,kB q u=kB q v->u<v
theorem k3.lt {U V:Γa} (h:k3 q U V) {u v:Int} (hu:u∈U) (a:v∈V) (hk:kB q v<kB q u):cS q v u:=.inl hk
theorem k3.ge {U V:Γa} (h:k3 q U V) {u v:Int} (hu:u∈U) (a:v∈V) (hk: ¬kB q v<kB q u):cS q u v:=by
 by_cases e:kB q u=kB q v
 ·exact .inr ⟨e,h u hu v a e⟩
 ·exact .inl (by unfold kB at*;omega)
theorem abT {l:Γa} (h:l.Pairwise (cS q)) {k:Nat} (hk:k<l.length): ∀x∈l.take k,cS q x l[k]:=by
 intro x a;obtain⟨i,hi,rfl⟩:=ξm a;rw[ξM] at hi;rw[ζh];exact τ.1 h i k (by omega) hk (by omega)
theorem E0 {l:Γa} (h:l.Pairwise (cS q)) {k:Nat} (hk:k<l.length): ∀x∈l.drop (k+1),cS q l[k] x:=by
 intro x a;obtain⟨i,hi,rfl⟩:=ξm a;rw[ξx] at hi;rw[ζi];exact τ.1 h k (k+1+i) hk (by omega) (by omega)
theorem s5 {l:Γa} (h:l.Pairwise (cS q)) {s:Nat} (d:s<=l.length) {v:Int} (h1:s=0\/ ∃h:s-1<l.length,cS q l[s-1] v): ∀x∈l.take s,cS q x v:=by
 intro x a;rcases h1 with rfl|⟨b,c⟩
 ·simp at a
 ·by_cases e:s=0
  ·subst e;simp at a
  ·rw[show s=(s-1)+1 by omega,ξl,ε b] at a;rcases ψ.1 a with a|a
   ·exact(abT h b x a).trans c
   ·simp at a;rw[a];exact c
theorem IB {l:Γa} (h:l.Pairwise (cS q)) {s:Nat} {v:Int} (h1:s=l.length\/ ∃h:s<l.length,cS q v l[s]): ∀x∈l.drop s,cS q v x:=by
 intro x a;rcases h1 with rfl|⟨b,c⟩
 ·simp at a
 ·rw[ξ4 b] at a;rcases ξa.1 a with a|a
  ·rw[a];exact c
  ·exact c.trans (E0 h b x a)
theorem aeq {L M R:Γa} {u v:Int} {i j:Nat} (hi:i=L.length) (b:j=L.length+M.length+1):
  ((L++u::(M++v::R)).set j u)[i]? =some u/\((L++u::(M++v::R)).set j u).set i v=L++v::(M++u::R):=by
 have e: ∀w:Int,∀x:Int,L++w::(M++x::R)=(L++w::M)++x::R:=λw x=>by simp
 have a: ∀w:Int,j=(L++w::M).length:=λw=>by simp;omega
 refine⟨?_,?_⟩
 ·rw[e u v,oo (a u),<-e u u];exact tU hi
 ·rw[e u v,oo (a u),<-e u u,oo hi]
theorem aeT {P V R:Γa} {u:Int} (hl:(P++u::V++R).length<=1000) {a s:Int} (o:a=P.length) (p:s=((P.length+V.length+1:Nat):Int)): ∃r t,Af ab s a (P++u::V++R) q=some (r,t,P++V++u::R):=by
 subst o p;simp only[ζ,ξg] at hl;refine⟨false,((P.length+V.length:Nat):Int),?_⟩;have w0:γ.wrap (((P.length+V.length+1:Nat):Int)-1)=((P.length+V.length:Nat):Int):=by rw[cz]<;>omega
 show cf (λa=>(o9 ab _ q a).val) 1000000 ((P.length:Int),P++u::V++R)=_;have k:((P.length:Int),P++u::V++R)=(λi:Nat=>(((P.length+i:Nat):Int),P++V.take i++u::V.drop i++R)) 0:=by simp
 rw[k];refine w7 (st:=λi:Nat=>(((P.length+i:Nat):Int),P++V.take i++u::V.drop i++R)) (n:=V.length) (λi hi=>?_) ?_ (by omega)
 ·have l:V.drop i=V[i]::V.drop (i+1):=ξ4 hi;have m:V.take (i+1)=V.take i++[V[i]]:=by rw[ξl,ε hi];rfl
  obtain⟨b,c,d,e⟩:=FY (L:=P++V.take i) (M:=[]) (R:=V.drop (i+1)++R) (u:=u) (v:=V[i]) (i:=P.length+i) (j:=P.length+i+1) (by simp;omega) (by simp;omega);simp only[ξi] at b c d e;have g:P++V.take i++u::V.drop i++R=(P++V.take i)++u::V[i]::(V.drop (i+1)++R):=by rw[l];simp only[ν,ξk]
  have h:P++V.take (i+1)++u::V.drop (i+1)++R=(P++V.take i)++V[i]::u::(V.drop (i+1)++R):=by rw[m];simp only[ν,ξk,ξi]
  simp only[g,h];generalize (P++V.take i)++u::V[i]::(V.drop (i+1)++R)=Y at b c d e;have w1:γ.wrap (((P.length+i:Nat):Int)+1)=((P.length+i+1:Nat):Int):=by rw[cz]<;>omega
  have f:decide (((P.length+i:Nat):Int)<((P.length+V.length:Nat):Int))=true:=decide_eq_true (by omega);unfold o9;simp only[T.aI,T.aS,T.aH,w0,w1,f,cond_true,θ,cW b,cW c,b,c,cW d,d,e,δ];rfl
 ·unfold o9;have f:decide (((P.length+V.length:Nat):Int)<((P.length+V.length:Nat):Int))=false:=decide_eq_false (by omega);simp only[T.aI,T.aH,w0,f,cond_false,ζV,ζU];simp
theorem V1 {P U R:Γa} {v:Int} (hl:(P++U++v::R).length<=1000) {s m:Int} (w:s=P.length) (hm:m=((P.length+U.length:Nat):Int)): ∃x y,Ah ab s m (P++U++v::R) q=some (x,y,P++v::U++R):=by
 subst w hm;simp only[ζ,ξg] at hl;refine⟨false,(P.length:Int),?_⟩;show cf (λa=>(pa ab _ q a).val) 1000000 (((P.length+U.length:Nat):Int),P++U++v::R)=_;have o:(((P.length+U.length:Nat):Int),P++U++v::R)=(λi:Nat=>(((P.length+(U.length-i):Nat):Int),P++U.take (U.length-i)++v::U.drop (U.length-i)++R)) 0:=by simp
 rw[o];refine w7 (st:=λi:Nat=>(((P.length+(U.length-i):Nat):Int),P++U.take (U.length-i)++v::U.drop (U.length-i)++R)) (n:=U.length) (λi hi=>?_) ?_ (by omega)
 ·obtain⟨k,hk⟩: ∃k,U.length-i=k+1:=⟨U.length-i-1,by omega⟩;have t:U.length-(i+1)=k:=by omega
  have g:k<U.length:=by omega
  have p:U.drop k=U[k]::U.drop (k+1):=ξ4 g;have r:U.take (k+1)=U.take k++[U[k]]:=by rw[ξl,ε g];rfl
  obtain⟨b,c,_,_⟩:=FY (L:=P++U.take k) (M:=[]) (R:=U.drop (k+1)++R) (u:=U[k]) (v:=v) (i:=P.length+k) (j:=P.length+k+1) (by simp;omega) (by simp;omega);obtain⟨d,f⟩:=aeq (L:=P++U.take k) (M:=[]) (R:=U.drop (k+1)++R) (u:=U[k]) (v:=v) (i:=P.length+k) (j:=P.length+k+1) (by simp;omega) (by simp;omega);simp only[ξi] at b c d f;have h:P++U.take (k+1)++v::U.drop (k+1)++R=(P++U.take k)++U[k]::v::(U.drop (k+1)++R):=by rw[r];simp only[ν,ξk,ξi]
  have l:P++U.take k++v::U.drop k++R=(P++U.take k)++v::U[k]::(U.drop (k+1)++R):=by rw[p];simp only[ν,ξk]
  simp only[hk,t,h,l];generalize (P++U.take k)++U[k]::v::(U.drop (k+1)++R)=Y at b c d f;have w1:γ.wrap (((P.length+(k+1):Nat):Int)-1)=((P.length+k:Nat):Int):=by rw[cz]<;>omega
  have e:decide (((P.length+(k+1):Nat):Int)>(P.length:Int))=true:=decide_eq_true (by omega);rw[<-ζM] at w1 e;unfold pa;simp only[T.aI,T.aS,T.aH,<-ζM,w1,e,cond_true,θ,cW b,cW c,b,c,cW d,d,f,δ]
 ·unfold pa;have e:decide ((P.length:Int)>(P.length:Int))=false:=decide_eq_false (by omega);simp only[T.aI,T.aH,ξO,ζA,e,cond_false,List.take_zero,ηa];simp
end
section
variable {q:List ae}
theorem CS {P U V S:Γa} {c:Nat} (h:c<U.length):(P++U++V++S)[P.length+c]? =some U[c]:=by
 rw[ν,ν,χ (by omega),show P.length+c-P.length=c by omega,ζf h,ε h]
theorem CT {P U V S:Γa} {c:Nat} (h:c<V.length):(P++U++V++S)[P.length+U.length+c]? =some V[c]:=by
 rw[ν,χ (by simp only[ζ];omega),show P.length+U.length+c-(P++U).length=c by simp,ζf h,ε h]
theorem Ve {P V S:Γa} {u:Int} (hu:dz q [u]) (r:dz q V) (hl:(P++[u]++V++S).length<=1000) {a m b:Int} (t:a=P.length) (hm:m=((P.length+1:Nat):Int)) (w:b=((P.length+1+V.length:Nat):Int)):
  ∃s:Nat,s<=V.length/\Ai ab a m b (P++[u]++V++S) q=some (false,((P.length+1+s:Nat):Int),((P.length+1+s:Nat):Int))/\(s=0\/ ∃h:s-1<V.length,kB q V[s-1]<kB q u)/\(s=V.length\/ ∃h:s<V.length,¬kB q V[s]<kB q u):=by
 subst t hm w;simp only[ζ,ω] at hl;obtain⟨F,y,A⟩:=jE (hu u (ξ.2 rfl));have g:=CS (P:=P) (U:=[u]) (V:=V) (S:=S) (c:=0) (by simp);simp only[ζA,ζr] at g;obtain⟨s,I,J,D,d,f⟩:=pA (step:=λa=>(pd ab (P.length:Int) (P++[u]++V++S) q a).val) (p:=λc=>match V[c-(P.length+1)]? with|some v=>decide (kB q v<kB q u)|none=>false) (lo:=P.length+1) (hi:=P.length+1+V.length) (λi j h1 o H=>by
  have l:(i+j)/2-(P.length+1)<V.length:=by omega
  have k:=CT (P:=P) (U:=[u]) (V:=V) (S:=S) l;have x:P.length+[u].length+((i+j)/2-(P.length+1))=(i+j)/2:=by simp;omega
  rw[x] at k;obtain⟨G,z,B⟩:=jE (r V[(i+j)/2-(P.length+1)] (ξ5 l));have n:decide ((i:Int)<(j:Int))=true:=decide_eq_true (by omega);have E:γ.wrap ((((i+j)/2:Nat):Int)+1)=(((i+j)/2+1:Nat):Int):=by rw[cz]<;>omega
  simp only[ε l];unfold pd;simp only[T.aI,T.aS,T.aH,n,cond_true,vv (show i<=1000 by omega) (show j<=1000 by omega),cW k,θ,k,cW g,g,z,y,v130,B2,B,A,δ,E];cases decide (kB q V[(i+j)/2-(P.length+1)]<kB q u)<;>rfl) (λi h1 o=>by
  have n:decide ((i:Int)<(i:Int))=false:=decide_eq_false (by omega);unfold pd;simp only[T.aI,T.aH,n,cond_false]) 1000000 (P.length+1) (P.length+1+V.length) (ξ3 _) (by omega) (ξ3 _) (by omega) (.inl rfl) (.inl rfl)
 refine⟨s-(P.length+1),by omega,?_,?_,?_⟩
 ·rw[show P.length+1+(s-(P.length+1))=s by omega];exact D
 ·rcases d with d|d
  ·exact .inl (by omega)
  ·have e:s-1-(P.length+1)=s-(P.length+1)-1:=by omega
   rw[e] at d;split at d
   ·rename_i v C;obtain⟨h,rfl⟩:=η.1 C;exact .inr ⟨h,of_decide_eq_true d⟩
   ·cases d
 ·rcases f with f|f
  ·exact .inl (by omega)
  ·by_cases h:s-(P.length+1)<V.length
   ·rw[ε h] at f;exact .inr ⟨h,of_decide_eq_false f⟩
   ·exact .inl (by omega)
theorem Vd {P U S:Γa} {v:Int} (A:dz q [v]) (o:dz q U) (hl:(P++U++[v]++S).length<=1000) {a m:Int} (r:a=P.length) (hm:m=((P.length+U.length:Nat):Int)):
  ∃s:Nat,s<=U.length/\Ag ab m a (P++U++[v]++S) q m=some (false,((P.length+s:Nat):Int),((P.length+s:Nat):Int))/\(s=0\/ ∃h:s-1<U.length,¬kB q v<kB q U[s-1])/\(s=U.length\/ ∃h:s<U.length,kB q v<kB q U[s]):=by
 subst r hm;simp only[ζ,ω] at hl;obtain⟨E,x,z⟩:=jE (A v (ξ.2 rfl));have g:=CT (P:=P) (U:=U) (V:=[v]) (S:=S) (c:=0) (by simp);simp only[ζA,ζr] at g;obtain⟨s,G,H,B,b,d⟩:=pA (step:=λa=>(o_ ab ((P.length+U.length:Nat):Int) (P++U++[v]++S) q a).val) (p:=λc=>match U[c-P.length]? with|some u=>!decide (kB q v<kB q u)|none=>false) (lo:=P.length) (hi:=P.length+U.length) (λi j h1 n F=>by
  have k:(i+j)/2-P.length<U.length:=by omega
  have f:=CS (P:=P) (U:=U) (V:=[v]) (S:=S) k;have t:P.length+((i+j)/2-P.length)=(i+j)/2:=by omega
  rw[t] at f;obtain⟨D,w,y⟩:=jE (o U[(i+j)/2-P.length] (ξ5 k));have l:decide ((i:Int)<(j:Int))=true:=decide_eq_true (by omega);have C:γ.wrap ((((i+j)/2:Nat):Int)+1)=(((i+j)/2+1:Nat):Int):=by rw[cz]<;>omega
  simp only[ε k];unfold o_;simp only[T.aI,T.aS,T.aH,l,cond_true,vv (show i<=1000 by omega) (show j<=1000 by omega),cW f,θ,f,cW g,g,x,w,v130,B2,z,y,δ,C];cases decide (kB q v<kB q U[(i+j)/2-P.length])<;>rfl) (λi h1 n=>by
  have l:decide ((i:Int)<(i:Int))=false:=decide_eq_false (by omega);unfold o_;simp only[T.aI,T.aH,l,cond_false]) 1000000 P.length (P.length+U.length) (ξ3 _) (by omega) (ξ3 _) (by omega) (.inl rfl) (.inl rfl)
 refine⟨s-P.length,by omega,?_,?_,?_⟩
 ·rw[show P.length+(s-P.length)=s by omega];exact B
 ·rcases b with b|b
  ·exact .inl (by omega)
  ·have e:s-1-P.length=s-P.length-1:=by omega
   rw[e] at b;split at b
   ·rename_i u hu;obtain⟨h,rfl⟩:=η.1 hu;refine .inr ⟨h,?_⟩;simpa using b
   ·cases b
 ·rcases d with d|d
  ·exact .inl (by omega)
  ·by_cases h:s-P.length<U.length
   ·rw[ε h] at d;refine .inr ⟨h,?_⟩;simpa using d
   ·exact .inl (by omega)
def k_ (q:List ae) (F:Γa->Int->Int->Int->List ae->Option (Γa)) (P U V S:Γa):Prop:= ∃W,F (P++U++V++S) (P.length:Int) ((P.length+U.length:Nat):Int) ((P.length+U.length+V.length:Nat):Int) q=some (P++W++S)/\W.Perm (U++V)/\W.Pairwise (cS q)
structure j' (q:List ae) (P U V S:Γa):Prop where
 u:U≠[]
 v:V≠[]
 iu:dz q U
 iv:dz q V
 su:U.Pairwise (cS q)
 sv:V.Pairwise (cS q)
 c:k3 q U V
 l:(P++U++V++S).length<=1000
theorem EZ {A B:Γa} (h1:A.Pairwise (cS q)) (a:B.Pairwise (cS q)) (h: ∀x∈A,∀y∈B,cS q x y):(A++B).Pairwise (cS q):=υ.2 ⟨h1,a,h⟩
theorem aet {F:Γa->Int->Int->Int->List ae->Option (Γa)} {P V S:Γa} {u:Int} (h:j' q P [u] V S):k_ q (λxs a m b q=>(nn ab F xs a m b q).map (·.1)) P [u] V S:=by
 have hl:=h.l;simp only[ζ,ω] at hl;obtain⟨s,j,k,n,o⟩:=Ve (P:=P) (S:=S) h.iu h.iv h.l (a:=P.length) (m:=((P.length+1:Nat):Int)) (b:=((P.length+1+V.length:Nat):Int)) rfl rfl rfl;have hu:u∈[u]:=ξ.2 rfl;have f: ∀x∈V.take s,cS q x u:=s5 h.sv j (n.imp id λ⟨h1,d⟩=>⟨h1,h.c.lt hu (ξ5 h1) d⟩);have g: ∀x∈V.drop s,cS q u x:=IB h.sv (o.imp id λ⟨h1,d⟩=>⟨h1,h.c.ge hu (ξ5 h1) d⟩);obtain⟨p,r,hm⟩:=aeT (q:=q) (P:=P) (V:=V.take s) (R:=V.drop s++S) (u:=u) (by simp;omega) (a:=P.length) (s:=((P.length+1+s:Nat):Int)) rfl (by simp;omega);refine⟨V.take s++u::V.drop s,?_,?_,?_⟩
 ·show((jg ab F _ _ _ _ q).val).map (·.1)=_;have w1:(γ.wrap (((P.length+[u].length:Nat):Int)-(P.length:Int))==1)=true:=by rw[cz]<;>simp<;>omega
  unfold jg;rw[show P++u::V.take s++(V.drop s++S)=P++[u]++V++S by simp only[ν,ξk,ξi];rw[<-ν (V.take s),ξ1]] at hm;simp only[ω] at w1 ⊢;simp only[T.aI,T.bL,T.aS,T.aH,w1,cond_true,k,hm,δ,ξD];simp
 ·refine(ζW).trans ?_;rw[ξ1];exact ζ2 _
 ·refine EZ (h.sv.sublist (ζj _ _)) (φ.2 ⟨g,h.sv.sublist (ζk _ _)⟩) λx i y e=>?_;rcases ξa.1 e with rfl|e
  ·exact f x i
  ·exact(f x i).trans (g y e)
theorem aes {F:Γa->Int->Int->Int->List ae->Option (Γa)} {P U S:Γa} {v:Int} (h:j' q P U [v] S) (o:U.length≠1):k_ q (λxs a m b q=>(nn ab F xs a m b q).map (·.1)) P U [v] S:=by
 have hl:=h.l;simp only[ζ,ω] at hl;obtain⟨s,p,r,t,u⟩:=Vd (P:=P) (S:=S) h.iv h.iu h.l (a:=P.length) (m:=((P.length+U.length:Nat):Int)) rfl rfl;have j:v∈[v]:=ξ.2 rfl;have g: ∀x∈U.take s,cS q x v:=s5 h.su p (t.imp id λ⟨h1,d⟩=>⟨h1,h.c.ge (ξ5 h1) j d⟩);have i: ∀x∈U.drop s,cS q v x:=IB h.su (u.imp id λ⟨h1,d⟩=>⟨h1,h.c.lt (ξ5 h1) j d⟩);obtain⟨w,z,hm⟩:=V1 (q:=q) (P:=P++U.take s) (U:=U.drop s) (R:=S) (v:=v) (by simp;omega) (s:=((P.length+s:Nat):Int)) (m:=((P.length+U.length:Nat):Int)) (by simp;omega) (by simp;omega);refine⟨U.take s++v::U.drop s,?_,?_,?_⟩
 ·show((jg ab F _ _ _ _ q).val).map (·.1)=_;have w1:(γ.wrap (((P.length+U.length:Nat):Int)-(P.length:Int))==1)=false:=by
   have e:γ.wrap (((P.length+U.length:Nat):Int)-(P.length:Int))=(U.length:Int):=by rw[cz]<;>omega
   rw[e];exact beq_eq_false_iff_ne.2 λn=>o (ζN n)
  have w2:(γ.wrap (((P.length+U.length+[v].length:Nat):Int)-((P.length+U.length:Nat):Int))==1)=true:=by rw[cz]<;>simp<;>omega
  unfold jg;rw[show P++U.take s++U.drop s++v::S=P++U++[v]++S by rw[ν P,ξ1];simp] at hm;simp only[T.aI,T.bL,T.aS,T.aH,w1,w2,cond_true,cond_false,r,hm,δ,ξD];simp
 ·refine(ζW).trans ?_;rw[ξ1];exact(ζB (l₁:=[v]) (l₂:=U))
 ·refine EZ (h.su.sublist (ζj _ _)) (φ.2 ⟨i,h.su.sublist (ζk _ _)⟩) λx k y f=>?_;rcases ξa.1 f with rfl|f
  ·exact g x k
  ·exact(g x k).trans (i y f)
end
section
variable {q:List ae}
theorem IV {P U V S:Γa} {mid lo hi:Nat} (w:dz q U) (x:dz q V) (hl:(P++U++V++S).length<=1000) (h1:P.length<=lo) (t:lo<=hi) (I:hi<=P.length+U.length) (J:hi<=mid) (K:mid-lo<=V.length) {x1 x2 x3 x4 x5:Int}:
  ∃s:Nat,lo<=s/\s<=hi/\j6 ab x1 x2 x3 x4 x5 (lo:Int) ((mid+(P.length+U.length)-1:Nat):Int) (P++U++V++S) q (hi:Int)=some (false,(s:Int),(s:Int))/\
   (s=lo\/ ∃u v,0<s-P.length/\U[s-P.length-1]? =some u/\V[mid-s]? =some v/\ ¬kB q v<kB q u)/\(s=hi\/ ∃u v,0<mid-s/\U[s-P.length]? =some u/\V[mid-s-1]? =some v/\kB q v<kB q u):=by
 simp only[ζ] at hl;have key: ∀c,lo<=c->c<hi-> ∃(b:c-P.length<U.length) (d:mid-c-1<V.length),(P++U++V++S)[c]? =some U[c-P.length]/\(P++U++V++S)[mid+(P.length+U.length)-1-c]? =some V[mid-c-1]:=λc k l=>by
  have b:c-P.length<U.length:=by omega
  have d:mid-c-1<V.length:=by omega
  have f:=CS (P:=P) (V:=V) (S:=S) b;have g:=CT (P:=P) (U:=U) (S:=S) d;rw[show P.length+(c-P.length)=c by omega] at f;rw[show P.length+U.length+(mid-c-1)=mid+(P.length+U.length)-1-c by omega] at g;exact⟨b,d,f,g⟩
 obtain⟨s,k,l,D,e,h⟩:=pA (step:=λa=>(pb ab x1 x2 x3 x4 x5 ((mid+(P.length+U.length)-1:Nat):Int) (P++U++V++S) q a).val) (p:=λc=>match U[c-P.length]?,V[mid-c-1]? with|some u,some v=>!decide (kB q v<kB q u)|_,_=>false) (lo:=lo) (hi:=hi) (λi j o r H=>by
  obtain⟨b,d,f,g⟩:=key ((i+j)/2) (by omega) (by omega);obtain⟨F,y,A⟩:=jE (w U[(i+j)/2-P.length] (ξ5 b));obtain⟨G,z,B⟩:=jE (x V[mid-(i+j)/2-1] (ξ5 d));have m:decide ((i:Int)<(j:Int))=true:=decide_eq_true (by omega);have E:γ.wrap ((((i+j)/2:Nat):Int)+1)=(((i+j)/2+1:Nat):Int):=by rw[cz]<;>omega
  have w5:γ.wrap (((mid+(P.length+U.length)-1:Nat):Int)-(((i+j)/2:Nat):Int))=((mid+(P.length+U.length)-1-(i+j)/2:Nat):Int):=by rw[cz]<;>omega
  simp only[ε b,ε d];unfold pb;simp only[T.aI,T.aS,T.aH,m,cond_true,vv (show i<=1000 by omega) (show j<=1000 by omega),w5,cW f,cW g,θ,f,g,z,y,v130,B2,B,A,δ,E];cases decide (kB q V[mid-(i+j)/2-1]<kB q U[(i+j)/2-P.length])<;>rfl) (λi o r=>by
  have m:decide ((i:Int)<(i:Int))=false:=decide_eq_false (by omega);unfold pb;simp only[T.aI,T.aH,m,cond_false]) 1000000 lo hi (ξ3 _) t (ξ3 _) (by omega) (.inl rfl) (.inl rfl)
 refine⟨s,k,l,D,?_,?_⟩
 ·rcases ξA k with n|heq
  ·right;rcases e with e|e
   ·omega
   ·split at e
    ·rename_i u v hu C;refine⟨u,v,by omega,?_,?_,by simpa using e⟩
     ·rw[<-hu]
      congr 1
      omega
     ·rw[<-C]
      congr 1
      omega
    ·cases e
  ·exact .inl heq.symm
 ·rcases ξA l with n|heq
  ·right;rcases h with h|h
   ·omega
   ·obtain⟨b,d,_,_⟩:=key s k n;simp only[ε b,ε d] at h;exact⟨_,_,by omega,ε b,ε d,by simpa using h⟩
  ·exact .inl heq
theorem aeH (c1 c2 d e b c:Bool) {R:Option (Γa)} {F1 F2:Γa->Option (Γa)} {X f g Y3:Γa} (h1:(bif c1&&c2 then R else some X)=some f) (h:(bif d&&e then F1 f else some f)=some g) (i:(bif b&&c then F2 g else some g)=some Y3):
  ((T.bf c1 (T.bf c2 (T.bd R λa=>T.bf d (T.bf e (T.bd (F1 a) λz2=>T.bf b (T.bf c (T.bd (F2 z2) λz3=>.ok (z3,true)) (.ok (z2,true))) (.ok (z2,true))) (T.bf b (T.bf c (T.bd (F2 a) λz2=>.ok (z2,true)) (.ok (a,true))) (.ok (a,true)))) (T.bf b (T.bf c (T.bd (F2 a) λz2=>.ok (z2,true)) (.ok (a,true))) (.ok (a,true))))
    (T.bf d (T.bf e (T.bd (F1 X) λa=>T.bf b (T.bf c (T.bd (F2 a) λz2=>.ok (z2,true)) (.ok (a,true))) (.ok (a,true))) (T.bf b (T.bf c (T.bd (F2 X) λa=>.ok (a,true)) (.ok (X,false))) (.ok (X,false)))) (T.bf b (T.bf c (T.bd (F2 X) λa=>.ok (a,true)) (.ok (X,false))) (.ok (X,false)))))
    (T.bf d (T.bf e (T.bd (F1 X) λa=>T.bf b (T.bf c (T.bd (F2 a) λz2=>.ok (z2,true)) (.ok (a,true))) (.ok (a,true))) (T.bf b (T.bf c (T.bd (F2 X) λa=>.ok (a,true)) (.ok (X,false))) (.ok (X,false)))) (T.bf b (T.bf c (T.bd (F2 X) λa=>.ok (a,true)) (.ok (X,false))) (.ok (X,false))))).val).map (·.1)=some Y3:=by
 simp only[T.aI,T.aS,T.aH];cases c1<;>cases c2<;>cases d<;>cases e<;>cases b<;>cases c<;>simp_all
end
section
variable {q:List ae}
theorem MB {F:Γa->Int->Int->Int->List ae->Option (Γa)} {P U V S:Γa} {n:Nat} (b: ∀ {P U V S:Γa},j' q P U V S->U.length+V.length<=n->k_ q F P U V S) {c:Bool} (h1:c=true->j' q P U V S/\U.length+V.length<=n) (a:c=false->U=[]\/V=[]) (su:U.Pairwise (cS q)) (sv:V.Pairwise (cS q)):
  ∃W,(bif c then F (P++U++V++S) (P.length:Int) ((P.length+U.length:Nat):Int) ((P.length+U.length+V.length:Nat):Int) q else some (P++U++V++S))=some (P++W++S)/\W.Perm (U++V)/\W.Pairwise (cS q):=by
 cases c
 ·refine⟨U++V,by simp,ζ2 _,?_⟩;rcases a rfl with rfl|rfl
  ·exact sv
  ·simpa using su
 ·obtain⟨h,hn⟩:=h1 rfl;exact b h hn
theorem DF {l l':Γa} (h:dz q l) (hp:l'.Perm l):dz q l':=λx a=>h x (hp.mem_iff.1 a)
theorem vt {l:Γa} {k:Nat} {x:Int} (h:x∈l.take k):x∈l:=ξJ h
theorem vr {l:Γa} {k:Nat} {x:Int} (h:x∈l.drop k):x∈l:=List.mem_of_mem_drop h
set_option maxHeartbeats 2000000 in
theorem aer {F:Γa->Int->Int->Int->List ae->Option (Γa)} {P U V S:Γa} {n:Nat} (h:j' q P U V S) (aO:U.length≠1) (aP:V.length≠1) (hn:U.length+V.length<=n+1) (an: ∀ {P U V S:Γa},j' q P U V S->U.length+V.length<=n->k_ q F P U V S):
  k_ q (λxs a m b q=>(nn ab F xs a m b q).map (·.1)) P U V S:=by
 have hl:=h.l;simp only[ζ] at hl;have aZ:0<U.length:=ξh.2 h.u;have a1:0<V.length:=ξh.2 h.v;obtain⟨M,aN⟩: ∃M,M=(P.length+(P.length+U.length+V.length))/2:=⟨_,rfl⟩;obtain⟨s,s1,s2,ba,bb,D,aL,aM⟩: ∃s:Nat,P.length<=s/\s<=P.length+U.length/\s<=M/\M-s<=V.length/\
   (bif decide (P.length+U.length>M) then j6 ab (P.length:Int) ((P.length+U.length:Nat):Int) ((P.length+U.length+V.length:Nat):Int) (M:Int) ((M+(P.length+U.length):Nat):Int) ((M+(P.length+U.length)-(P.length+U.length+V.length):Nat):Int) ((M+(P.length+U.length)-1:Nat):Int) (P++U++V++S) q (M:Int)
    else j6 ab (P.length:Int) ((P.length+U.length:Nat):Int) ((P.length+U.length+V.length:Nat):Int) (M:Int) ((M+(P.length+U.length):Nat):Int) (P.length:Int) ((M+(P.length+U.length)-1:Nat):Int) (P++U++V++S) q ((P.length+U.length:Nat):Int))=some (false,(s:Int),(s:Int))/\
   (U.take (s-P.length)=[]\/V.drop (M-s)=[]\/ ∃u v,0<s-P.length/\U[s-P.length-1]? =some u/\V[M-s]? =some v/\ ¬kB q v<kB q u)/\
   (V.take (M-s)=[]\/U.drop (s-P.length)=[]\/ ∃u v,0<M-s/\U[s-P.length]? =some u/\V[M-s-1]? =some v/\kB q v<kB q u):=by
  by_cases r:P.length+U.length>M
  ·obtain⟨s,aR,aT,af,t,w⟩:=IV (P:=P) (S:=S) (mid:=M) (lo:=M+(P.length+U.length)-(P.length+U.length+V.length)) (hi:=M) h.iu h.iv h.l (by omega) (by omega) (by omega) (ξ3 _) (by omega) (x1:=(P.length:Int)) (x2:=((P.length+U.length:Nat):Int)) (x3:=((P.length+U.length+V.length:Nat):Int)) (x4:=(M:Int)) (x5:=((M+(P.length+U.length):Nat):Int));refine⟨s,by omega,by omega,by omega,by omega,?_,?_,?_⟩
   ·rw[decide_eq_true r];exact af
   ·rcases t with t|t
    ·exact .inr (.inl (ξy (by omega)))
    ·exact .inr (.inr t)
   ·rcases w with w|w
    ·exact .inl (by rw[w,ξO];rfl)
    ·exact .inr (.inr w)
  ·obtain⟨s,aR,aT,af,t,w⟩:=IV (P:=P) (S:=S) (mid:=M) (lo:=P.length) (hi:=P.length+U.length) h.iu h.iv h.l (by omega) (by omega) (by omega) (by omega) (by omega) (x1:=(P.length:Int)) (x2:=((P.length+U.length:Nat):Int)) (x3:=((P.length+U.length+V.length:Nat):Int)) (x4:=(M:Int)) (x5:=((M+(P.length+U.length):Nat):Int));refine⟨s,by omega,by omega,by omega,by omega,?_,?_,?_⟩
   ·rw[decide_eq_false r];exact af
   ·rcases t with t|t
    ·exact .inl (by rw[t,ξO];rfl)
    ·exact .inr (.inr t)
   ·rcases w with w|w
    ·exact .inr (.inl (ξy (by omega)))
    ·exact .inr (.inr w)
 obtain⟨o,H⟩: ∃o,o=U.take (s-P.length):=⟨_,rfl⟩;obtain⟨g,I⟩: ∃g,g=U.drop (s-P.length):=⟨_,rfl⟩;obtain⟨p,J⟩: ∃p,p=V.take (M-s):=⟨_,rfl⟩;obtain⟨k,K⟩: ∃k,k=V.drop (M-s):=⟨_,rfl⟩;have N:U=o++g:=by rw[H,I,ξ1]
 have O:V=p++k:=by rw[J,K,ξ1]
 have a6:o.length=s-P.length:=by rw[H,ξM];omega
 have a7:g.length=U.length-(s-P.length):=by rw[I,ξx]
 have a8:p.length=M-s:=by rw[J,ξM];omega
 have a_:k.length=V.length-(M-s):=by rw[K,ξx]
 have ao: ∀x∈o,x∈U:=λx d=>by rw[H] at d;exact vt d
 have aq: ∀x∈g,x∈U:=λx d=>by rw[I] at d;exact vr d
 have ar: ∀x∈p,x∈V:=λx d=>by rw[J] at d;exact vt d
 have au: ∀x∈k,x∈V:=λx d=>by rw[K] at d;exact vr d
 have av:=h.su;have ay:=h.sv;rw[N] at av;rw[O] at ay;obtain⟨aw,ax,aU⟩:=υ.1 av;obtain⟨az,aA,aV⟩:=υ.1 ay;have A: ∀x∈o,∀y∈k,cS q x y:=by
  intro x d y f;rcases aL with e|e|⟨u,v,aK,aa,ev,e⟩
  ·rw[H,e] at d;cases d
  ·rw[K,e] at f;cases f
  ·obtain⟨hu,rfl⟩:=η.1 aa;obtain⟨C,rfl⟩:=η.1 ev;have L:=h.c.ge (ξ5 hu) (ξ5 C) e;rw[K,ξ4 C] at f;have ad:cS q U[s-P.length-1] y:=by
    rcases ξa.1 f with rfl|f
    ·exact L
    ·exact L.trans (E0 h.sv C y f)
   rw[H] at d;exact s5 h.su (by omega) (.inr ⟨hu,ad⟩) x d
 have B: ∀x∈p,∀y∈g,cS q x y:=by
  intro x d y f;rcases aM with e|e|⟨u,v,aK,aa,ev,e⟩
  ·rw[J,e] at d;cases d
  ·rw[I,e] at f;cases f
  ·obtain⟨hu,rfl⟩:=η.1 aa;obtain⟨C,rfl⟩:=η.1 ev;have L:=h.c.lt (ξ5 hu) (ξ5 C) e;rw[I,ξ4 hu] at f;have ad:cS q V[M-s-1] y:=by
    rcases ξa.1 f with rfl|f
    ·exact L
    ·exact L.trans (E0 h.su hu y f)
   rw[J] at d;exact s5 h.sv (by omega) (.inr ⟨C,ad⟩) x d
 have aj: ∀ {A B:Γa},(∀x∈A,x∈U)->(∀x∈B,x∈V)->k3 q A B:=λaQ D u hu v C=>h.c u (aQ u hu) v (D v C);obtain⟨e,he⟩: ∃e,e=M+(P.length+U.length)-s:=⟨_,rfl⟩;have E: ∀ {l:Γa},l.length=0->l=[]:=λh=>ξj h;have R: ∀ {l:Γa},0<l.length->l≠[]:=λh=>ξh.1 h;have h1:(bif decide ((s:Int)<((P.length+U.length:Nat):Int))&&decide (((P.length+U.length:Nat):Int)<(e:Int)) then wz ab (P++U++V++S) (s:Int) ((P.length+U.length:Nat):Int) (e:Int) q else some (P++U++V++S))=some (P++o++p++(g++k++S)):=by
  by_cases c:s<P.length+U.length/\P.length+U.length<e
  ·have c1:decide ((s:Int)<((P.length+U.length:Nat):Int))=true:=decide_eq_true (by omega);have c2:decide (((P.length+U.length:Nat):Int)<(e:Int))=true:=decide_eq_true (by omega);have:=adU (P:=P++o) (X:=g) (Y:=p) (S:=k++S) (q:=q) (by omega) (by omega) (by simp only[ζ];omega) (a:=(s:Int)) (m:=((P.length+U.length:Nat):Int)) (b:=(e:Int)) (by simp only[ζ];omega) (by simp only[ζ];omega) (by simp only[ζ];omega);rw[c1,c2];rw[show P++o++g++p++(k++S)=P++U++V++S by rw[N,O];simp only[ν]] at this;simpa using this
  ·have Q:g=[]\/p=[]:=by
    by_cases c1:s<P.length+U.length
    ·exact .inr (E (by omega))
    ·exact .inl (E (by omega))
   have aJ:(decide ((s:Int)<((P.length+U.length:Nat):Int))&&decide (((P.length+U.length:Nat):Int)<(e:Int)))=false:=by
    rw[<-ζ3,ι,decide_eq_true_eq,decide_eq_true_eq];omega
   rw[aJ,N,O];rcases Q with Q|Q<;>simp[Q]
 obtain⟨G,ak,ah,aX⟩:=MB (P:=P) (U:=o) (V:=p) (S:=g++k++S) (c:=decide ((P.length:Int)<(s:Int))&&decide ((s:Int)<(M:Int))) an (λr=>by
  rw[ι,decide_eq_true_eq,decide_eq_true_eq] at r;exact⟨⟨R (by omega),R (by omega),λx d=>h.iu x (ao x d),λx d=>h.iv x (ar x d),aw,az,aj ao ar,by simp only[ζ];omega⟩,by omega⟩) (λr=>by
  rw[<-ζ3,ι,decide_eq_true_eq,decide_eq_true_eq] at r
  by_cases c1:P.length<s
  ·exact .inr (E (by omega))
  ·exact .inl (E (by omega))) aw az
 have a':G.length=M-P.length:=by rw[ah.length_eq,ζ];omega
 obtain⟨ai,al,aH,aY⟩:=MB (P:=P++G) (U:=g) (V:=k) (S:=S) (c:=decide ((M:Int)<(e:Int))&&decide ((e:Int)<((P.length+U.length+V.length:Nat):Int))) an (λr=>by
  rw[ι,decide_eq_true_eq,decide_eq_true_eq] at r;exact⟨⟨R (by omega),R (by omega),λx d=>h.iu x (aq x d),λx d=>h.iv x (au x d),ax,aA,aj aq au,by simp only[ζ];omega⟩,by omega⟩) (λr=>by
  rw[<-ζ3,ι,decide_eq_true_eq,decide_eq_true_eq] at r
  by_cases c1:M<e
  ·exact .inr (E (by omega))
  ·exact .inl (E (by omega))) ax aA
 rw[show P.length+o.length=s by omega,show s+p.length=M by omega] at ak;rw[show(P++G).length=M by simp only[ζ];omega,show M+g.length=e by omega,show e+k.length=P.length+U.length+V.length by omega] at al;refine⟨G++ai,?_,?_,?_⟩
 ·show((jg ab F _ _ _ _ q).val).map (·.1)=_;have aB:(γ.wrap (((P.length+U.length:Nat):Int)-(P.length:Int))==1)=false:=by
   have e:γ.wrap (((P.length+U.length:Nat):Int)-(P.length:Int))=(U.length:Int):=by rw[cz]<;>omega
   rw[e];exact beq_eq_false_iff_ne.2 λZ=>aO (ζN Z)
  have aC:(γ.wrap (((P.length+U.length+V.length:Nat):Int)-((P.length+U.length:Nat):Int))==1)=false:=by
   have e:γ.wrap (((P.length+U.length+V.length:Nat):Int)-((P.length+U.length:Nat):Int))=(V.length:Int):=by rw[cz]<;>omega
   rw[e];exact beq_eq_false_iff_ne.2 λZ=>aP (ζN Z)
  have ag:=vv (i:=P.length) (j:=P.length+U.length+V.length) (by omega) (by omega);rw[<-aN] at ag;have aD:γ.wrap ((M:Int)+((P.length+U.length:Nat):Int))=((M+(P.length+U.length):Nat):Int):=by rw[cz]<;>omega
  have aE:γ.wrap (((M+(P.length+U.length):Nat):Int)-1)=((M+(P.length+U.length)-1:Nat):Int):=by rw[cz]<;>omega
  have aF:γ.wrap (((M+(P.length+U.length):Nat):Int)-(s:Int))=(e:Int):=by rw[cz]<;>omega
  have aG:=aeH _ _ _ _ _ _ (Y3:=P++(G++ai)++S) (F1:=λz=>F z (P.length:Int) (s:Int) (M:Int) q) (F2:=λz=>F z (M:Int) (e:Int) ((P.length+U.length+V.length:Nat):Int) q) h1 ak (by simpa only[ν] using al)
  by_cases r:P.length+U.length>M
  ·have W:decide (((P.length+U.length:Nat):Int)>(M:Int))=true:=decide_eq_true (by omega);have aW:γ.wrap (((M+(P.length+U.length):Nat):Int)-((P.length+U.length+V.length:Nat):Int))=((M+(P.length+U.length)-(P.length+U.length+V.length):Nat):Int):=by rw[cz]<;>omega
   rw[decide_eq_true r] at D;unfold jg;rw[T.aI,aB,cond_false,T.aI,aC,cond_false,T.aI,ag,W,cond_true,T.bL,T.aS,aD,aE,aW];rw[show j6 ab _ _ _ _ _ _ _ _ _ _=_ from D];simp only[δ,aF];unfold wU;exact aG
  ·have W:decide (((P.length+U.length:Nat):Int)>(M:Int))=false:=decide_eq_false (by omega);rw[decide_eq_false r] at D;unfold jg;rw[T.aI,aB,cond_false,T.aI,aC,cond_false,T.aI,ag,W,cond_false,T.bL,T.aS,aD,aE];rw[show j6 ab _ _ _ _ _ _ _ _ _ _=_ from D];simp only[δ,aF];unfold wU;exact aG
 ·refine(ah.append aH).trans ?_;rw[N,O];have:(o++p++(g++k)).Perm (o++(g++(p++k))):=by
   rw[ν];refine ξF o ?_;rw[<-ν,<-ν];exact ζs k ζB
  simpa only[ν] using this
 ·refine EZ aX aY λx d y f=>?_;have d:=ah.mem_iff.1 d;have f:=aH.mem_iff.1 f;rcases ψ.1 d with d|d<;>rcases ψ.1 f with f|f
  ·exact aU x d y f
  ·exact A x d y f
  ·exact B x d y f
  ·exact aV x d y f
theorem PJ: ∀(n:Nat) {P U V S:Γa},j' q P U V S->U.length+V.length<=n->k_ q (pZ ab n) P U V S
 |0,P,U,V,S,h,hn=>absurd (ξj (by omega)) h.u
 |n+1,P,U,V,S,h,hn=>by
  show k_ q (λxs a m b q=>(nn ab (pZ ab n) xs a m b q).map (·.1)) P U V S
  by_cases c:U.length=1
  ·obtain⟨u,rfl⟩:=ζt.1 c;exact aet h
  ·by_cases d:V.length=1
   ·obtain⟨v,rfl⟩:=ζt.1 d;exact aes h c
   ·exact aer h c d hn λh hn=>PJ n h hn
end
section
variable {q:List ae}
def mq (U V:Γa):Prop:= ∀u∈U,∀v∈V,u<v
theorem mq.VJ {U V:Γa} (h:mq U V):k3 q U V:=λu hu v a _=>h u hu v a
def Bl (bs:Nat):List (Γa)->Prop
 |[]=>True
 |[B]=>0<B.length/\B.length<=bs
 |B::C::r=>B.length=bs/\Bl bs (C::r)
structure Good (q:List ae) (a:List (Γa)):Prop where
 s: ∀B∈a,B.Pairwise (cS q)
 i: ∀B∈a,dz q B
 b:a.Pairwise mq
theorem Bl.tail {bs:Nat} {B:Γa} {r:List (Γa)} (h:Bl bs (B::r)):Bl bs r:=by
 cases r with
 |nil=>trivial
 |cons C r=>exact h.2
theorem Bl.pos {bs:Nat} (c:0<bs): ∀ {b:List (Γa)},Bl bs b-> ∀B∈b,0<B.length
 |[B],h,X,a=>by rw[ξ.1 a];exact h.1
 |B::C::r,h,X,a=>by
  rcases ξa.1 a with rfl|a
  ·rw[h.1];exact c
  ·exact Bl.pos c h.2 X a
theorem Good.tail {B:Γa} {r:List (Γa)} (h:Good q (B::r)):Good q r:=
 ⟨λX a=>h.s X (ξ9 _ a),λX a=>h.i X (ξ9 _ a),(φ.1 h.b).2⟩
theorem aeO {P B C S:Γa} {r:List (Γa)} (h:Good q (B::C::r)) (a:0<B.length) (c:0<C.length) (hl:(P++B++C++S).length<=1000):j' q P B C S:=
 ⟨ξh.1 a,ξh.1 c,h.i B (by simp),h.i C (by simp),h.s B (by simp),h.s C (by simp),((φ.1 h.b).1 C (by simp)).VJ,hl⟩
theorem Mw {P B C S:Γa} {r:List (Γa)} (h:Good q (B::C::r)) (a:0<B.length) (b:0<C.length) (h1:B.length<=50) (c:C.length<=50) (hl:(P++B++C++S).length<=1000):
  ∃W,wA ab (P++B++C++S) (P.length:Int) ((P.length+B.length:Nat):Int) ((P.length+B.length+C.length:Nat):Int) q=some (P++W++S)/\W.Perm (B++C)/\W.Pairwise (cS q):=
 PJ 100 (aeO h a b hl) (by omega)
theorem Good.merged {B C W:Γa} {r:List (Γa)} (h:Good q (B::C::r)) (hp:W.Perm (B++C)) (k:W.Pairwise (cS q)):Good q (W::r):=by
 obtain⟨e,f⟩:=φ.1 h.b;obtain⟨g,j⟩:=φ.1 f;refine⟨λX a=>?_,λX a=>?_,φ.2 ⟨λX a u hu v d=>?_,j⟩⟩
 ·rcases ξa.1 a with rfl|a
  ·exact k
  ·exact h.s X (by simp[a])
 ·rcases ξa.1 a with rfl|a
  ·intro x c;rcases ψ.1 (hp.mem_iff.1 c) with c|c
   ·exact h.i B (by simp) x c
   ·exact h.i C (by simp) x c
  ·exact h.i X (by simp[a])
 ·rcases ψ.1 (hp.mem_iff.1 hu) with hu|hu
  ·exact e X (by simp[a]) u hu v d
  ·exact g X a u hu v d
theorem inner {bs n:Nat} (F:0<bs) (G:bs<=50) (hn:n<=900): ∀(k:Nat) (c:List (Γa)) (P:Γa) (f:Nat),c.length<=k->k<f->Bl bs c->Good q c->n=P.length+c.flatten.length->
  ∃e j,cf (λa=>(hq ab (n:Int) (bs:Int) q a).val) f ((P.length:Int),((P.length+2*bs:Nat):Int),P++c.flatten)=some (false,((P.length+e.flatten.length+2*bs:Nat):Int),((P.length+e.flatten.length:Nat):Int),P++e.flatten++j.flatten)/\
   (∀B∈e,B.length=2*bs)/\j.flatten.length<2*bs/\Bl bs j/\Good q (e++j)/\(e++j).flatten.Perm c.flatten
 |k,c,P,0,_,x,_,_,_=>by omega
 |0,c,P,f+1,hk,x,h1,l,p=>by
  have:c=[]:=ξj (by omega);subst this;refine⟨[],[],?_,by simp,by simp;omega,trivial,l,by simp⟩;have m:decide (((P.length+2*bs:Nat):Int)<=(n:Int))=false:=decide_eq_false (by simp at p;omega);have o:(hq ab (n:Int) (bs:Int) q ((P.length:Int),((P.length+2*bs:Nat):Int),P++ηp [])).val=some (.inr (false,((P.length+2*bs:Nat):Int),(P.length:Int),P++ηp [])):=by
   unfold hq;simp only[T.aI,T.aH,m,cond_false]
  show((hq ab _ _ q _).val.bind _)=_;rw[o];simp
 |k+1,c,P,f+1,hk,x,h1,l,p=>by
  by_cases g:2*bs<=c.flatten.length
  ·
   obtain⟨B,C,r,rfl⟩: ∃B C r,c=B::C::r:=by
    match c,h1,g with
    |[],_,g=>simp at g;omega
    |[B],h1,g=>simp at g;have:=h1.2;omega
    |B::C::r,_,_=>exact⟨B,C,r,rfl⟩
   have V:B.length=bs:=h1.1;have Z:C.length=bs:=by
    match r,h1.2,g with
    |[],h,g=>simp at g;have:=h.2;omega
    |D::r,h,_=>exact h.1
   simp only[ξ7,ζ] at p g;have A:P++(B::C::r).flatten=P++B++C++r.flatten:=by simp
   obtain⟨W,w1,w2,m⟩:=Mw (P:=P) (S:=r.flatten) l (by omega) (by omega) (by omega) (by omega) (by simp only[ζ];omega);have N:W.length=2*bs:=by rw[w2.length_eq,ζ];omega
   obtain⟨e,j,J,K,L,M,w,z⟩:=inner F G hn k r (P++W) f (by simp at hk;omega) (by omega) h1.tail.tail (l.tail.tail) (by simp only[ζ];omega);have y:=l.merged w2 m;refine⟨W::e,j,?_,?_,L,M,?_,?_⟩
   ·have O:decide (((P.length+2*bs:Nat):Int)<=(n:Int))=true:=decide_eq_true (by omega);have Q:γ.wrap ((P.length:Int)+(bs:Int))=((P.length+B.length:Nat):Int):=by rw[cz]<;>omega
    have R:γ.wrap (2*(bs:Int))=((2*bs:Nat):Int):=by rw[cz]<;>omega
    have U:γ.wrap (((P.length+2*bs:Nat):Int)+((2*bs:Nat):Int))=(((P++W).length+2*bs:Nat):Int):=by
     rw[show(P++W).length=P.length+2*bs by simp only[ζ];omega,cz]<;>omega
    rw[show P.length+B.length+C.length=P.length+2*bs by omega] at w1;have o:(hq ab (n:Int) (bs:Int) q ((P.length:Int),((P.length+2*bs:Nat):Int),P++(B::C::r).flatten)).val=some (.inl (((P++W).length:Int),(((P++W).length+2*bs:Nat):Int),(P++W)++r.flatten)):=by
     rw[A];unfold hq;simp only[T.aI,T.aS,T.aH,O,cond_true,Q,w1,δ,R,U];rw[show((P++W).length:Int)=((P.length+2*bs:Nat):Int) by simp only[ζ];omega]
    show((hq ab _ _ q _).val.bind _)=_;rw[o];refine J.trans ?_;simp only[ζ,ξ7,ν,ζM]
   ·intro X d;rcases ξa.1 d with rfl|d
    ·exact N
    ·exact K X d
   ·have H: ∀X∈e++j,mq W X:=λX d u hu v I=>by
     have t:v∈r.flatten:=z.mem_iff.1 (ζo.2 ⟨X,d,I⟩);obtain⟨Y,E,t⟩:=ζo.1 t;exact(φ.1 y.b).1 Y E u hu v t
    exact⟨λX d=>by
     rcases ξa.1 d with rfl|d
     ·exact m
     ·exact w.s X d,λX d=>by
     rcases ξa.1 d with rfl|d
     ·exact y.i X (by simp)
     ·exact w.i X d,φ.2 ⟨H,w.b⟩⟩
   ·simp only[ξk,ξ7];rw[<-ν B];exact w2.append z
  ·refine⟨[],c,?_,by simp,by omega,h1,l,by simp⟩;have m:decide (((P.length+2*bs:Nat):Int)<=(n:Int))=false:=decide_eq_false (by omega);have o:(hq ab (n:Int) (bs:Int) q ((P.length:Int),((P.length+2*bs:Nat):Int),P++c.flatten)).val=some (.inr (false,((P.length+2*bs:Nat):Int),(P.length:Int),P++c.flatten)):=by
    unfold hq;simp only[T.aI,T.aH,m,cond_false]
   show((hq ab _ _ q _).val.bind _)=_;rw[o];simp
end
section
variable {q:List ae}
theorem Bl.app {bs:Nat} {a:List (Γa)} (c:a=[]\/ ∃B:Γa,a=[B]/\0<B.length/\B.length<=bs) (g:0<bs): ∀ {d:List (Γa)},(∀B∈d,B.length=bs)->Bl bs (d++a)
 |[],_=>by
  rcases c with rfl|⟨B,rfl,h1,b⟩
  ·trivial
  ·exact⟨h1,b⟩
 |[D],h=>by
  have f:=h D (by simp);rcases c with rfl|⟨B,rfl,h1,b⟩
  ·exact⟨by omega,by omega⟩
  ·exact⟨f,h1,b⟩
 |D::E::r,h=>⟨h D (by simp),Bl.app c g λB e=>h B (ξ9 _ e)⟩
theorem Good.aak {e:List (Γa)} {B C W:Γa} (h:Good q (e++[B,C])) (hp:W.Perm (B++C)) (k:W.Pairwise (cS q)):Good q (e++[W]):=by
 obtain⟨g,l,f⟩:=υ.1 h.b;refine⟨λX a=>?_,λX a=>?_,υ.2 ⟨g,by simp,λX a Y j u hu v c=>?_⟩⟩
 ·rcases ψ.1 a with a|a
  ·exact h.s X (by simp[a])
  ·rw[ξ.1 a];exact k
 ·rcases ψ.1 a with a|a
  ·exact h.i X (by simp[a])
  ·rw[ξ.1 a];intro x d;rcases ψ.1 (hp.mem_iff.1 d) with d|d
   ·exact h.i B (by simp) x d
   ·exact h.i C (by simp) x d
 ·rw[ξ.1 j] at c;rcases ψ.1 (hp.mem_iff.1 c) with c|c
  ·exact f X a B (by simp) u hu v c
  ·exact f X a C (by simp) u hu v c
theorem pass {bs n:Nat} {c:List (Γa)} (k:0<bs) (I:bs<=50) (hn:n<=900) (Q:bs<n) (h1:Bl bs c) (G:Good q c) (p:n=c.flatten.length):
  ∃g,(ig ab q (n:Int) ((bs:Int),c.flatten)).val=some (.inl (((2*bs:Nat):Int),g.flatten))/\Bl (2*bs) g/\Good q g/\g.flatten.Perm c.flatten:=by
 have hk:c.length<1000000:=by
  have: ∀ {l:List (Γa)},(∀B∈l,0<B.length)->l.length<=l.flatten.length:=by
   intro l
   induction l with
   |nil=>intro;simp
   |cons B r K=>
    intro h;have:=K λX e=>h X (ξ9 _ e);have:=h B (by simp);simp only[ξ7,ζ,ξg];omega
  have:=this (Bl.pos k h1);omega
 obtain⟨a,d,u,v,j,w,f,m⟩:=inner (q:=q) k I hn c.length c [] 1000000 (ξ3 _) hk h1 G (by simpa using p);simp only[ξE,ξp,ξi] at u;have hlen:=m.length_eq;rw[<-p] at hlen;simp only[ξn,ζ] at hlen;have x:decide ((bs:Int)<(n:Int))=true:=decide_eq_true (by omega);have y:γ.wrap (2*(bs:Int))=((2*bs:Nat):Int):=by rw[cz]<;>omega
 have z:γ.wrap ((bs:Int)*2)=((2*bs:Nat):Int):=by rw[cz]<;>omega
 have A:γ.wrap ((a.flatten.length:Int)+(bs:Int))=((a.flatten.length+bs:Nat):Int):=by rw[cz]<;>omega
 have t:z8 ab (n:Int) (bs:Int) ((2*bs:Nat):Int) c.flatten q 0=some (false,((a.flatten.length+2*bs:Nat):Int),(a.flatten.length:Int),a.flatten++d.flatten):=u
 by_cases O:a.flatten.length+bs<n
 ·obtain⟨B,C,rfl,L,M⟩: ∃B C,d=[B,C]/\B.length=bs/\0<C.length:=by
   match d,w,j,hlen with
   |[],_,_,hlen=>simp only[ξo,ξE] at hlen;omega
   |[B],h,_,hlen=>simp only[ξ7,ξo,ξ6] at hlen;have:=h.2;omega
   |[B,C],h,_,_=>exact⟨B,C,rfl,h.1,h.2.1⟩
   |B::C::D::r,h,j,_=>
    have E:=h.1;have F:=h.2.1;simp only[ξ7,ζ] at j;omega
  simp only[ξ7,ξo,ζ,ξ6] at j hlen;have J:Good q [B,C]:=⟨λX e=>f.s X (by simp at e ⊢;exact .inr e),λX e=>f.i X (by simp at e ⊢;exact .inr e),(υ.1 f.b).2.1⟩;obtain⟨W,w1,w2,N⟩:=Mw (P:=a.flatten) (S:=[]) J (by omega) M (by omega) (by omega) (by simp only[ζ,ξE];omega);rw[show a.flatten.length+B.length+C.length=n by omega,L] at w1;have R:W.length=B.length+C.length:=by rw[w2.length_eq,ζ]
  refine⟨a++[W],?_,Bl.app (.inr ⟨W,rfl,by omega,by omega⟩) (by omega) v,f.aak w2 N,?_⟩
  ·have o:decide (((a.flatten.length+bs:Nat):Int)<(n:Int))=true:=decide_eq_true (by omega);rw[show a.flatten++B++C++[]=a.flatten++[B,C].flatten by simp] at w1;unfold ig;simp only[T.aI,T.aS,T.bL,T.aH,x,cond_true,y,t,δ,A,o,w1,z];simp
  ·refine η4 ?_ m;simp only[ξn,ξ7,ξo,ξ6];exact ξF _ w2
 ·have H:d=[]\/ ∃B:Γa,d=[B]/\0<B.length/\B.length<=2*bs:=by
   match d,w,hlen with
   |[],_,_=>exact .inl rfl
   |[B],h,_=>exact .inr ⟨B,rfl,h.1,by have:=h.2;omega⟩
   |B::C::r,h,hlen=>
    have E:=h.1;have F:=Bl.pos k h.2 C (by simp);simp only[ξ7,ζ] at hlen;omega
  refine⟨a++d,?_,Bl.app H (by omega) v,f,m⟩;have o:decide (((a.flatten.length+bs:Nat):Int)<(n:Int))=false:=decide_eq_false (by omega);unfold ig;simp only[T.aI,T.aS,T.bL,T.aH,x,cond_true,cond_false,y,t,δ,A,o,z];simp
theorem Ng {n:Nat} (hn:n<=80): ∀(f bs:Nat) (b:List (Γa)),(bs=20\/bs=40\/80<=bs)->n-bs<f->Bl bs b->Good q b->n=b.flatten.length-> ∃(e:Bool) (g:Int) (ys:Γa),cf (λa=>(ig ab q (n:Int) a).val) f ((bs:Int),b.flatten)=some (e,g,ys)/\ys.Perm b.flatten/\ys.Pairwise (cS q)
 |0,bs,b,_,j,_,_,_=>by omega
 |f+1,bs,b,z,j,h1,d,c=>by
  by_cases k:bs<n
  ·obtain⟨i,m,o,p,h⟩:=pass (by omega) (by omega) (by omega) k h1 d c;obtain⟨e,g,ys,t,u,v⟩:=Ng hn f (2*bs) i (by omega) (by omega) o p (by rw[h.length_eq];exact c);refine⟨e,g,ys,?_,u.trans h,v⟩;show((ig ab q _ _).val.bind _)=_;rw[m];exact t
  ·refine⟨false,bs,b.flatten,?_,ζ2 _,?_⟩
   ·have l:(ig ab q (n:Int) ((bs:Int),b.flatten)).val=some (.inr (false,(bs:Int),b.flatten)):=by
     have w:decide ((bs:Int)<(n:Int))=false:=decide_eq_false (by omega);unfold ig;simp only[T.aI,T.aH,w,cond_false]
    show((ig ab q _ _).val.bind _)=_;rw[l];rfl
   ·match b,h1,d,c with
    |[],_,_,_=>exact ζ1
    |[B],_,d,_=>simpa using d.s B (by simp)
    |B::C::r,h1,_,c=>
     have x:=h1.1;have y:=Bl.pos (by omega) h1.2 C (by simp);simp only[ξ7,ζ] at c;omega
theorem first {xs:Γa} (hn:xs.length<=900): ∀(k:Nat) (rest:Γa) (c:List (Γa)) (f:Nat),rest.length<=k->k<f->(∀B∈c,B.length=20)->Good q c->(∀B∈c,mq B rest)->rest.Pairwise (· < ·)->dz q rest->xs.length=c.flatten.length+rest.length->
  ∃(g:List (Γa)) (h:Γa) (D:Bool) (E:Int),cf (λa=>(jd ab xs q a).val) f ((c.flatten.length:Int),((c.flatten.length+20:Nat):Int),c.flatten++rest)=some (D,E,(g.flatten.length:Int),g.flatten++h)/\
   (∀B∈g,B.length=20)/\Good q g/\(∀B∈g,mq B h)/\h.Pairwise (· < ·)/\dz q h/\h.length<20/\(g.flatten++h).Perm (c.flatten++rest)
 |k,rest,c,0,_,I,_,_,_,_,_,_=>by omega
 |k,rest,c,f+1,hk,I,h1,j,o,m,n,U=>by
  by_cases V:20<=rest.length
  ·obtain⟨r,rfl⟩: ∃r,k=r+1:=⟨k-1,by omega⟩;have J:dz q (c.flatten++rest):=λx e=>by
    rcases ψ.1 e with e|e
    ·obtain⟨B,d,e⟩:=ζo.1 e;exact j.i B d x e
    ·exact n x e
   have G:((c.flatten++rest).drop c.flatten.length).take (c.flatten.length+20-c.flatten.length)=rest.take 20:=by simp
   obtain⟨ys,i1,W,i2,i3,i4⟩:=KL (q:=q) (xs:=c.flatten++rest) (a:=c.flatten.length) (b:=c.flatten.length+20) J (by simp only[ζ];omega) (by omega) (by simp only[ζ];omega) (by rw[G];exact m.sublist (ζj _ _));rw[G] at i3;have i2:ys=(c++[W]).flatten++rest.drop 20:=by
    rw[i2];simp[List.drop_append]
   have w:W.length=20:=by rw[i3.length_eq,ξM];omega
   have z: ∀x∈W,x∈rest.take 20:=λx e=>i3.mem_iff.1 e;have K: ∀x∈rest.take 20,∀y∈rest.drop 20,x<y:=by
    have:=m;rw[<-ξ1 20 rest] at this;exact(υ.1 this).2.2
   obtain⟨g,h,D,E,L,t⟩:=first (xs:=xs) hn r (rest.drop 20) (c++[W]) f (by rw[ξx];omega) (by omega) (λB d=>by
    rcases ψ.1 d with d|d
    ·exact h1 B d
    ·rw[ξ.1 d];exact w) ⟨λB d=>by
    rcases ψ.1 d with d|d
    ·exact j.s B d
    ·rw[ξ.1 d];exact i4,λB d=>by
    rcases ψ.1 d with d|d
    ·exact j.i B d
    ·rw[ξ.1 d];exact λx e=>n x (vt (z x e)),υ.2 ⟨j.b,by simp,λB d C H u hu v l=>by
     rw[ξ.1 H] at l;exact o B d u hu v (vt (z v l))⟩⟩ (λB d u hu v l=>by
    rcases ψ.1 d with d|d
    ·exact o B d u hu v (vr l)
    ·rw[ξ.1 d] at hu;exact K u (z u hu) v l) (m.sublist (ζk _ _)) (λx e=>n x (vr e)) (by simp only[ξn,ξ7,ξo,ξ6,ζ,ξx,w];omega)
   obtain⟨t,M,N,O,P,Q,R⟩:=t;refine⟨g,h,D,E,?_,t,M,N,O,P,Q,R.trans ?_⟩
   ·have A:decide (((c.flatten.length+20:Nat):Int)<=(xs.length:Int))=true:=decide_eq_true (by omega);have F:(c++[W]).flatten.length=c.flatten.length+20:=by simp[w]
    have S:γ.wrap (((c.flatten.length+20:Nat):Int)+20)=(((c++[W]).flatten.length+20:Nat):Int):=by rw[F,cz]<;>omega
    have p:(jd ab xs q ((c.flatten.length:Int),((c.flatten.length+20:Nat):Int),c.flatten++rest)).val=some (.inl (((c++[W]).flatten.length:Int),(((c++[W]).flatten.length+20:Nat):Int),(c++[W]).flatten++rest.drop 20)):=by
     unfold jd;simp only[T.aI,T.aS,T.aH,A,cond_true,i1,δ,S];rw[i2,F]
    show((jd ab xs q _).val.bind _)=_;rw[p];exact L
   ·simp only[ξn,ξ7,ξo,ξ6,ν];refine ξF _ ((ζs _ i3).trans ?_);rw[ξ1]
  ·refine⟨c,rest,false,((c.flatten.length+20:Nat):Int),?_,h1,j,o,m,n,by omega,ζ2 _⟩;have A:decide (((c.flatten.length+20:Nat):Int)<=(xs.length:Int))=false:=decide_eq_false (by omega);have p:(jd ab xs q ((c.flatten.length:Int),((c.flatten.length+20:Nat):Int),c.flatten++rest)).val=some (.inr (false,((c.flatten.length+20:Nat):Int),(c.flatten.length:Int),c.flatten++rest)):=by
    unfold jd;simp only[T.aI,T.aH,A,cond_false]
   show((jd ab xs q _).val.bind _)=_;rw[p];rfl
theorem w35 {xs:Γa} (hn:xs.length<=80) (A:xs.Pairwise (· < ·)) (hi:dz q xs): ∃ys,oj ab xs q=some ys/\ys.Perm xs/\ys.Pairwise (cS q):=by
 obtain⟨d,rest,I,J,m,D,e,E,F,G,L,f⟩:=first (q:=q) (xs:=xs) (by omega) xs.length xs [] 1000000 (ξ3 _) (by omega) (by simp) ⟨by simp,by simp,ζ1⟩ (by simp) A hi (by simp)
 simp only[ξo,ξE,ξi,ξp] at m f;have hlen:=f.length_eq;rw[ζ] at hlen;have z:dz q (d.flatten++rest):=DF hi f;have j:((d.flatten++rest).drop d.flatten.length).take (xs.length-d.flatten.length)=rest:=by
  rw[η6,ξX (by omega)]
 obtain⟨zs,i1,W,i2,i3,i4⟩:=KL (q:=q) (xs:=d.flatten++rest) (a:=d.flatten.length) (b:=xs.length) z (by rw[ζ];omega) (by omega) (by rw[ζ];omega) (by rw[j];exact F);rw[j] at i3;have M:=i3.length_eq;have i2:zs=(d++if W=[] then[] else[W]).flatten:=by
  rw[i2,η5,ξy (by rw[ζ];omega),ξ6,ξn]
  congr 1
  split
  ·rename_i h;rw[h];rfl
  ·simp
 have y:(if W=[] then[] else[W])=([]:List (Γa))\/ ∃B:Γa,(if W=[] then[] else[W])=[B]/\0<B.length/\B.length<=20:=by
  split
  ·exact .inl rfl
  ·rename_i h;exact .inr ⟨W,rfl,ξh.2 h,by omega⟩
 have g:Good q (d++if W=[] then[] else[W]):=by
  split
  ·rw[ξ6];exact e
  ·refine⟨λB c=>?_,λB c=>?_,υ.2 ⟨e.b,by simp,λB c C t u hu v k=>?_⟩⟩
   ·rcases ψ.1 c with c|c
    ·exact e.s B c
    ·rw[ξ.1 c];exact i4
   ·rcases ψ.1 c with c|c
    ·exact e.i B c
    ·rw[ξ.1 c];exact DF G i3
   ·rw[ξ.1 t] at k;exact E B c u hu v (i3.mem_iff.1 k)
 have l:zs.Perm xs:=by
  rw[i2,ξn];refine η4 ?_ f;refine ξF _ ?_;split
  ·rename_i h;rw[h] at i3;simpa using i3
  ·simpa using i3
 have c:=Bl.app y (by omega) D;generalize (d++if W=[] then[] else[W])=r at i2 g c;obtain⟨K,z2,ys,o,p,H⟩:=Ng (q:=q) (n:=xs.length) hn 1000000 20 r (.inl rfl) (by omega) c g (by rw[<-i2];exact l.length_eq.symm);rw[<-i2] at o p;refine⟨ys,?_,p.trans l,H⟩;show((sW ab xs q).val).map (·.1)=_;have w:z_ ab xs q 0 20 xs=some (I,J,(d.flatten.length:Int),d.flatten++rest):=m;have x:z' ab zs q (xs.length:Int) 20=some (K,z2,ys):=o;unfold sW;simp only[T.bL,T.aS,T.aH,w,δ,i1,x,ξD]
end
section
variable {α σ X:Type}
theorem Me {P:Nat->Prop} (h: ∃n,P n): ∃n,P n/\ ∀m,m<n-> ¬P m:=by
 obtain⟨n,hn⟩:=h
 induction n using Nat.strongRecOn with
 |_ n b=>
  by_cases hm: ∃m,m<n/\P m
  ·obtain⟨m,h1,a⟩:=hm;exact b m h1 a
  ·exact⟨n,hn,λm h1 a=>hm ⟨m,h1,a⟩⟩
theorem wm {step:Int->α->σ->Option (σ⊕X)} {fin:Int->σ->Option X} {l:List α} {st:Nat->σ} {ok:Nat->α->Bool} {x0:Nat->X} {x1:X} (h: ∀(j:Nat) z,l[j]? =some z->(∀(i:Nat) z,i<j->l[i]? =some z->ok i z=true)->step j z (st j)=some (bif ok j z then .inl (st (j+1)) else .inr (x0 j))) (e:(∀(j:Nat) z,l[j]? =some z->ok j z=true)->fin (l.length:Int) (st l.length)=some x1):
  ((∀(j:Nat) z,l[j]? =some z->ok j z=true)/\bV step fin 0 l (st 0)=some x1)\/ ∃(j:Nat) (z:α),l[j]? =some z/\ok j z=false/\(∀(i:Nat) z,i<j->l[i]? =some z->ok i z=true)/\bV step fin 0 l (st 0)=some (x0 j):=by
 by_cases b: ∃j:Nat,∃z,l[j]? =some z/\ok j z=false
 ·obtain⟨n,⟨z0,h1,d⟩,c⟩:=Me b;have c: ∀(i:Nat) z,i<n->l[i]? =some z->ok i z=true:=λi z hi a=>by
   cases hk:ok i z with
   |true=>rfl
   |false=>exact absurd ⟨z,a,hk⟩ (c i hi)
  refine .inr ⟨n,z0,h1,d,c,Oh h1 (λj z f a=>?_) ?_⟩
  ·rw[h j z a (λi z hi=>c i z (by omega)),c j z f a];rfl
  ·rw[h n z0 h1 c,d];rfl
 ·have b: ∀(j:Nat) z,l[j]? =some z->ok j z=true:=λj z a=>by
   cases hk:ok j z with
   |true=>rfl
   |false=>exact absurd ⟨j,z,a,hk⟩ b
  refine .inl ⟨b,qK (λj z a=>?_) (e b)⟩;rw[h j z a (λi z _ a=>b i z a),b j z a];rfl
end
theorem ae' (d:ae): ∃b,pQ ab d=some b:=by
 show ∃b,(pg ab d).val=some b;unfold pg;simp only[T.aI,T.aH];generalize (d.aL==0)=a;generalize decide (d.cx>=0)=c;generalize decide (d.cx<8)=e;generalize decide (d.bz>=1)=f;generalize (d.bj==0)=g;generalize fi d.bZ (cV.mk 0 0)=h;generalize decide (d.aL>=d.bz)=i;generalize decide (d.aL<=d.bj)=j;cases a<;>cases c<;>cases e<;>cases f<;>cases g<;>cases h<;>cases i<;>cases j<;>exact⟨_,rfl⟩
noncomputable def jU (d:ae):Bool:=(pQ ab d).getD false
theorem Qe (d:ae):pQ ab d=some (jU d):=by
 obtain⟨b,h⟩:=ae' d;unfold jU;rw[h];rfl
def hv (a b:ae):Bool:=a.bj !=0&&decide (a.bj<b.bz)
def lk (x d:ae):Bool:=(x.cx !=d.cx)||(hv x d||hv d x)
def im (x d:ae):Bool:=lk x d&&(d.aL==0||x.aL !=d.aL)
def k1 (q:List ae):Prop:=q.length<=64/\(∀d∈q,jU d=true)/\q.Pairwise λx d=>im x d=true
section
variable {q:List ae}
def fh (q:List ae) (j:Nat) (k:Int):Nat:=((q.take j).filter λx=>x.aL==k).length
def gn (q:List ae):Nat->Γc
 |0=>[]
 |j+1=>match q[j]? with
  |some d=>ck (gn q j) d.aL (γ.wrap ((bD (gn q j) d.aL).getD 0+1))
  |none=>gn q j
theorem Jb {j:Nat} {k:Int}:fh q j k<=j:=ξC (ξf _ _) (by simp;omega)
theorem VC {j:Nat} {k:Int} {d:ae} (h:q[j]? =some d):fh q (j+1) k=fh q j k+if d.aL=k then 1 else 0:=by
 unfold fh;rw[ξl,h,ξS,ζ]
 congr 1
 by_cases e:d.aL=k<;>simp[e]
theorem vw: ∀ {j:Nat} {k:Int},j<=1000->(bD (gn q j) k).getD 0=(fh q j k:Int)
 |0,k,_=>by simp[gn,bD,fh]
 |j+1,k,h=>by
  unfold gn;cases a:q[j]? with
  |none=>
   have:fh q (j+1) k=fh q j k:=by
    unfold fh;rw[ξl,a];simp
   rw[this];exact vw (by omega)
  |some d=>
   rw[VC a];simp only;rw[nJ]
   by_cases e:d.aL=k
   ·subst e;have h1:=vw (j:=j) (k:=d.aL) (by omega);have c:=Jb (q:=q) (j:=j) (k:=d.aL);simp only[if_true,ξK,h1];rw[cz]<;>omega
   ·simp only[e,if_false,ζA];have h1:=vw (j:=j) (k:=k) (by omega)
    first
     |exact h1
     |(rw[if_neg (λb=>e b.symm)];exact h1)
theorem ad2 (q:List ae):((∀d∈q,jU d=true)/\ ∃y,r5 ab q=some (.inr y))\/(¬(∀d∈q,jU d=true)/\ ∃j:Nat,r5 ab q=some (.inl (j:Int))):=by
 have h:=wm (step:=λi z a=>(sg ab q i z a).val) (fin:=λi a=>(q7 ab q i a).val) (l:=q) (st:=λ_=>()) (ok:=λ_ z=>jU z) (x0:=λj=>.inl (j:Int)) (x1:=.inr (false,(q.length:Int))) (λj z f _=>by
  unfold sg;simp only[T.aS,T.aI,T.aH,Qe,δ];cases jU z<;>rfl) (λ_=>by
  unfold q7;simp only[T.aH];simp)
 rcases h with⟨h1,b⟩|⟨j,z,h1,b,_,c⟩
 ·refine .inl ⟨λd e=>?_,_,b⟩;obtain⟨i,hi,rfl⟩:=ξm e;exact h1 i _ (ε hi)
 ·refine .inr ⟨λh=>?_,j,c⟩;rw[h z (ξc h1)] at b;cases b
theorem ad3 (l:List ae) (d:ae):(l.all (λx=>lk x d)=true/\ ∃y,r6 ab l d.cx d.bU.bq d.bU.fArgs d.bZ.cb d.bZ.cv d.bz d.aL d.bj=some (.inr y))\/(l.all (λx=>lk x d)=false/\ ∃j:Nat,r6 ab l d.cx d.bU.bq d.bU.fArgs d.bZ.cb d.bZ.cv d.bz d.aL d.bj=some (.inl (j:Int))):=by
 have h:=wm (step:=λi z a=>(sj ab l d.cx d.bU.bq d.bU.fArgs d.bZ.cb d.bZ.cv d.bz d.aL d.bj i z a).val) (fin:=λi a=>(q8 ab l d.cx d.bU.bq d.bU.fArgs d.bZ.cb d.bZ.cv d.bz d.aL d.bj i a).val) (l:=l) (st:=λ_=>()) (ok:=λ_ z=>lk z d) (x0:=λj=>.inl (j:Int)) (x1:=.inr (false,(l.length:Int))) (λj z k _=>by
  unfold sj;have e:(ae.mk d.cx (cJ.mk d.bU.bq d.bU.fArgs) (cV.mk d.bZ.cb d.bZ.cv) d.bz d.aL d.bj)=d:=rfl;rw[e];simp only[T.aS,T.aI,T.aH,Gd,δ];unfold lk hv;cases (z.cx !=d.cx)<;>cases (z.bj !=0&&decide (z.bj<d.bz))<;>cases (d.bj !=0&&decide (d.bj<z.bz))<;>rfl) (λ_=>by
  unfold q8;simp only[T.aH];simp)
 rcases h with⟨h1,b⟩|⟨j,z,h1,b,_,c⟩
 ·refine .inl ⟨ξe.2 λx g=>?_,_,b⟩;obtain⟨i,hi,rfl⟩:=ξm g;exact h1 i _ (ε hi)
 ·refine .inr ⟨?_,j,c⟩;cases f:l.all (λx=>lk x d) with
  |false=>rfl
  |true=>
   rw[ξe.1 f z (ξc h1)] at b;cases b
theorem U1 {j:Nat} {d:ae}:(q.take j).all (λx=>im x d)=((q.take j).all (λx=>lk x d)&&(d.aL==0||decide (fh q j d.aL=0))):=by
 rw[ξd];unfold im fh;simp only[ξe,ι,ζu,beq_iff_eq,bne_iff_ne,ne_eq,decide_eq_true_eq,List.length_eq_zero_iff,ζp];constructor
 ·intro h;refine⟨λx a=>(h x a).1,?_⟩
  by_cases e:d.aL=0
  ·exact .inl e
  ·exact .inr λx a=>(h x a).2.resolve_left e
 ·rintro ⟨h1,b⟩ x a;exact⟨h1 x a,b.imp id λh=>h x a⟩
theorem w3 (H:q.length<=100):(jz ab ⟨q⟩=some 0/\k1 q)\/(jz ab ⟨q⟩=some 390/\ ¬k1 q):=by
 by_cases hl:q.length<=64
 rotate_left
 ·refine .inr ⟨?_,λh=>hl h.1⟩;show(jf ab ⟨q⟩).val=_;unfold jf;have c:decide ((q.length:Int)>64)=true:=decide_eq_true (by omega);simp only[T.aI,T.aH,c,cond_true]
 have c:decide ((q.length:Int)>64)=false:=decide_eq_false (by omega);have D: ∀(j:Nat) z,q[j]? =some z->(oZ ab q j z (gn q j)).val=some (bif (q.take j).all (λx=>im x z) then .inl (gn q (j+1)) else .inr (.inl ())):=λj z b=>by
  have g:j<q.length:=(η.1 b).1;have t:ep q none (some (j:Int)) none=some (q.take j):=by
   unfold ep;simp only[ζn,ξK];rw[if_pos ⟨by omega,by omega,by omega,by omega,by omega,by simp⟩];simp
  have hm:gn q (j+1)=ck (gn q j) z.aL (γ.wrap ((bD (gn q j) z.aL).getD 0+1)):=by
   conv=>lhs;unfold gn
   rw[b]
  have s:=vw (q:=q) (j:=j) (k:=z.aL) (by omega);have F:=Jb (q:=q) (j:=j) (k:=z.aL);have C:(bD (ck (gn q j) z.aL (γ.wrap ((fh q j z.aL:Int)+1))) z.aL).getD 0=(fh q j z.aL:Int)+1:=by
   rw[nJ,if_pos rfl,ξK,cz]<;>omega
  have B:decide ((fh q j z.aL:Int)+1>1)=!decide (fh q j z.aL=0):=by
   by_cases e:fh q j z.aL=0
   ·simp[e]
   ·have:(fh q j z.aL:Int)+1>1:=by omega
    simp[e,this]
  rw[U1,hm,s];unfold oZ;rcases ad3 (q.take j) z with⟨n,y,o⟩|⟨n,i,o⟩
  ·simp only[T.aS,T.bL,T.cN,T.aI,T.aH,t,o,δ,s,C,B,n];rw[show(z.aL !=0)=!(z.aL==0) from rfl];cases (z.aL==0)<;>cases decide (fh q j z.aL=0)<;>rfl
  ·have m:decide ((i:Int)>=0)=true:=decide_eq_true (by omega);simp only[T.aS,T.bL,T.cN,T.aI,T.aH,t,o,δ,m,n];rfl
 have w:=wm (step:=λi z a=>(oZ ab q i z a).val) (fin:=λi a=>(rn ab q i a).val) (l:=q) (st:=gn q) (ok:=λj z=>(q.take j).all (λx=>im x z)) (x0:=λ_=>.inl ()) (x1:=.inr (false,(q.length:Int),gn q q.length)) (λj z b _=>D j z b) (λ_=>by
  unfold rn;simp only[T.aH];simp)
 have u:(∀(j:Nat) z,q[j]? =some z->(q.take j).all (λx=>im x z)=true)↔q.Pairwise λx d=>im x d=true:=by
  rw[τ];constructor
  ·intro h i j hi g G;exact ξe.1 (h j q[j] (ε g)) q[i] (ξs.2 ⟨i,by omega,rfl⟩)
  ·intro h j z b;obtain⟨g,rfl⟩:=η.1 b;refine ξe.2 λx E=>?_;obtain⟨i,hi,rfl⟩:=ξs.1 E;exact h i j (by omega) g (by omega)
 have A:(q.Pairwise (λx d=>im x d=true)/\ ∃y,oM ab q []=some (.inr y))\/(¬q.Pairwise (λx d=>im x d=true)/\oM ab q []=some (.inl ())):=by
  rcases w with⟨h1,f⟩|⟨j,z,h1,f,_,v⟩
  ·exact .inl ⟨u.1 h1,_,f⟩
  ·refine .inr ⟨λh=>?_,v⟩;rw[u.2 h j z h1] at f;cases f
 rcases ad2 q with⟨s1,y,s2⟩|⟨s1,j,s2⟩
 ·rcases A with⟨p,x,r⟩|⟨p,r⟩
  ·refine .inl ⟨?_,hl,s1,p⟩;show(jf ab ⟨q⟩).val=_;unfold jf;simp only[T.aI,T.bL,T.aS,T.cN,T.aH,c,cond_false,s2,r,δ]
  ·refine .inr ⟨?_,λh=>p h.2.2⟩;show(jf ab ⟨q⟩).val=_;unfold jf;simp only[T.aI,T.bL,T.aS,T.cN,T.aH,c,cond_false,s2,r,δ]
 ·refine .inr ⟨?_,λh=>s1 h.2.1⟩;have m:decide ((j:Int)>=0)=true:=decide_eq_true (by omega);show(jf ab ⟨q⟩).val=_;unfold jf;simp only[T.aI,T.bL,T.aS,T.cN,T.aH,c,cond_false,s2,m,δ,μ,ξ2,cond_true]
end
end Go.Proofs.YtoggponeookhbaaGreatDoor
end
section
namespace Go.Proofs.YtoggponeookhbaaGreatDoor
open Go.RowKit Go.Dc Go.Vx Go.Sort
theorem aej {q:List ae} {xs:Γa} (a: ∀x∈xs,0<=x/\x<(q.length:Int)) (hl:xs.length<=1000): ∃ys,oq q xs=some ys/\ys.Perm xs/\ys.Pairwise λx y=> ¬dk ae.aL q y<dk ae.aL q x:=by
 unfold oq;rw[dif_pos ⟨a,by omega⟩];refine⟨_,rfl,?_⟩;have b:(xs.attachWith _ a).map (·.1)=xs:=by simp
 generalize xs.attachWith _ a=ps at b;rcases ps with _|⟨p,r⟩
 ·have:xs=[]:=by rw[<-b];rfl
  subst this;exact⟨ζ2 _,ζ1⟩
 letI:Inhabited (dF q):=⟨p⟩
 have e:=pdq_sorts (ltOf (fO ae.aL q)) (wM ae.aL q) (p::r).toArray 0 (r.length+1) (ζP (r.length+1)) true true (ξt _) (by simp) (Or.inl rfl);have l:PE ae.aL q (p::r)=(pdq (ltOf (fO ae.aL q)) (p::r).toArray 0 (r.length+1) (ζP (r.length+1)) true true).toList:=rfl;rw[l];generalize pdq (ltOf (fO ae.aL q)) (p::r).toArray 0 (r.length+1) (ζP (r.length+1)) true true=D at e;obtain⟨h1,j⟩:=e;obtain⟨m,c⟩:=IL (ξt _) (by simp) h1;have d:D.size=r.length+1:=by rw[h1.1];simp
 have f:=IM (by rw[d];exact ξ3 _) j;have g:(D.toList.drop 0).take (r.length+1-0)=D.toList:=by
  rw[ηa,ξX];rw[ζ8,d];exact ξ3 _
 rw[g] at c f;have i:(((p::r).toArray.toList.drop 0).take (r.length+1-0))=p::r:=by simp
 rw[i] at c;refine⟨?_,?_⟩
 ·rw[<-b];exact c.map _
 ·rw[ζ0];refine f.imp λh k=>?_;rw[qi,u',u'] at h;exact absurd k (of_decide_eq_false h)
section
variable {q:List ae}
def g_ (q:List ae) (i:Nat):Bool:=match q[i]? with|some d=>d.aL !=0|none=>false
def fD (q:List ae) (j:Nat):Γa:=((List.range j).filter (g_ q)).map λ(i:Nat)=>(i:Int)
theorem Vp (j:Nat):fD q (j+1)=fD q j++if g_ q j then[(j:Int)] else[]:=by
 unfold fD;rw[η0,ξS,ζ5]
 congr 1
 cases h:g_ q j<;>simp[h]
theorem BR (j:Nat):(fD q j).length<=j:=by
 unfold fD;rw[ξR];exact ξC (ξf _ _) (by simp)
theorem pB {j:Nat} {x:Int}:x∈fD q j↔ ∃i:Nat,x=i/\i<j/\g_ q i=true:=by
 unfold fD;simp only[ζv,ξ0,ζe];constructor
 ·rintro ⟨i,⟨h1,a⟩,rfl⟩;exact⟨i,rfl,h1,a⟩
 ·rintro ⟨i,rfl,h1,a⟩;exact⟨i,⟨h1,a⟩,rfl⟩
theorem DR {i:Nat} (h:g_ q i=true):i<q.length:=by
 unfold g_ at h;split at h
 ·rename_i d a;exact(η.1 a).1
 ·cases h
theorem Vo (j:Nat):(fD q j).Pairwise (· < ·):=by
 unfold fD;rw[ζ0];exact((List.pairwise_lt_range (n:=j)).sublist List.filter_sublist).imp λh=>by omega
theorem I2 (j:Nat):dz q (fD q j):=λx b=>by
 obtain⟨i,rfl,h1,a⟩:=pB.1 b;have:=DR a;omega
theorem S0 (e:q.length<=100):zX ab q []=some (false,(q.length:Int),fD q q.length):=by
 show bV (λi z a=>(sJ ab q i z a).val) (λi a=>(rC ab q i a).val) 0 q (fD q 0)=_;refine qK (st:=fD q) (λj z b=>?_) ?_
 ·have d:=(η.1 b).1;unfold sJ;rw[Vp];have c:g_ q j=(z.aL !=0):=by unfold g_;rw[b]
  rw[c];cases h:(z.aL !=0) with
  |false=>
   simp only[T.aI,T.aH,h,cond_false];simp
  |true=>
   simp only[T.aI,T.aS,T.aH,h,cond_true];rw[lq (n:=1000) (by have:=BR (q:=q) j;simp;omega) (by decide),δ];rfl
 ·unfold rC;simp only[T.aH];simp
theorem Qc (c:q.length<=100): ∃l,ni ab ⟨q⟩=some l/\l.Perm (fD q q.length)/\l.Pairwise λx y=> ¬dk ae.aL q y<dk ae.aL q x:=by
 obtain⟨l,h1,a,b⟩:=aej (q:=q) (I2 q.length) (by have:=BR (q:=q) q.length;omega);refine⟨l,?_,a,b⟩;show(Bb ab ⟨q⟩).val=_;unfold Bb;simp only[T.bL,T.aS,T.aH,S0 c,δ,h1]
theorem ve {key:ae->Int} {i:Nat} {d:ae} (h:q[i]? =some d):dk key q (i:Int)=key d:=by
 unfold dk;rw[θ,h]
theorem U8 (c:k1 q) {x y:Int} (f:x∈fD q q.length) (k:y∈fD q q.length) (g:x≠y):dk ae.aL q x≠dk ae.aL q y:=by
 have key: ∀ {i j:Nat},i<j->g_ q i=true->g_ q j=true->dk ae.aL q (i:Int)≠dk ae.aL q (j:Int):=λ{i j} d hi a=>by
  have li:=DR hi;have b:=DR a;have:=τ.1 c.2.2 i j li b d;rw[ve (ε li),ve (ε b)];unfold g_ at a;rw[ε b] at a;unfold im at this;simp only[ι,ζu,beq_iff_eq,bne_iff_ne,ne_eq] at this a;exact this.2.resolve_left a
 obtain⟨i,rfl,_,hi⟩:=pB.1 f;obtain⟨j,rfl,_,a⟩:=pB.1 k;rcases ζO i j with h|h|h
 ·exact key h hi a
 ·exact absurd (by rw[h]) g
 ·exact λe=>key h a hi e.symm
theorem Gc (b:k1 q): ∃l,ni ab ⟨q⟩=some l/\l.Perm (fD q q.length)/\l.Pairwise λx y=>dk ae.aL q x<dk ae.aL q y:=by
 obtain⟨l,h1,a,d⟩:=Qc (q:=q) (by have:=b.1;omega);refine⟨l,h1,a,?_⟩;have hn:l.Nodup:=a.nodup_iff.2 (MI (Vo _));have e:l.Pairwise λx y=>x≠y/\ ¬dk ae.aL q y<dk ae.aL q x:=ζQ hn d;refine e.imp_of_mem λ{x y} f g ⟨c,h⟩=>?_;have:=U8 b (a.mem_iff.1 f) (a.mem_iff.1 g) c;omega
end
end Go.Proofs.YtoggponeookhbaaGreatDoor
end
