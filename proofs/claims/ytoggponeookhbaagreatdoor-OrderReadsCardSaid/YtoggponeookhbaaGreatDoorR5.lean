/- A part of the proof that OrderReads returns true for every input: the machine of values, its soundness, the program as plain functions, the law. Conditions: those of the given rows. -/
import Derived.Test.YtoggponeookhbaaGreatDoorR4
import Derived.Deep.QuietTactic
import Derived.BigQuiet
import Derived.Shelf.SlSortCmp.Whole1
import Derived.Shelf.SlSortCmp.NoneTotal
set_option linter.unusedVariables false
set_option linter.unusedSimpArgs false
noncomputable section
set_option maxRecDepth 1000000
set_option maxHeartbeats 12000000
open Array renaming getElem?_toList→ξr,getElem?_eq_getElem→ξt,getElem?_eq_some_iff→ξI,getElem?_eq_none→ζl,getElem?_modify→ζt,length_toList→ζB,modify→ηg
open Bool renaming and_eq_true→ι,not_true→μ,not_false→ξ1,eq_iff_iff→ξd,false_eq_true→ξy,not_eq_true'→ξV,not_eq_true→ξX,false_or→ξY,false_ne_true→ζ4,not_not→ζs,or_eq_true→ζU,true_and→η7,or_false→η9,or_self→ηd
open Go.ByteArray renaming toList_eq→ζz
open Go.Calls renaming quiet_of_same→ζA
open Go.IntKind renaming i64→γ,u64→ο,signed→η5,wrap→ηi,bits→ηj
open Go.Lib renaming bitLen→ηa
open Go.Proofs.SlLaysF renaming n6→ηl
open Go.Proofs.Tryz renaming prog→κ,f95→ζH,ntmps37→ζN,f58→ζT,func37→ζZ,f123→ηe,sizeOf3→ηf,func184→ηh,func57→ηp,func36→ηq,func56→ηs,func94→ηt,isAgg3→ηu,f12→ηv
open Go.Sort renaming putCells→ξL
open Go.Value renaming int→ζu
open Go.World renaming cell?→ηr
open Int renaming toNat_natCast→θ,fdiv_eq_ediv_of_nonneg→ζ2,toNat_of_nonneg→ζD
open Int.ofNat renaming inj→ζK
open List renaming getElem?_eq_getElem→ε,length_append→ζ,getElem?_eq_some_iff→η,append_assoc→ν,mem_singleton→ξ,pairwise_append→τ,pairwise_cons→υ,getElem?_append_right→φ,mem_append→χ,length_singleton→ψ,pairwise_iff_getElem→ω,take_append_drop→ξ0,mem_filter→ξ2,drop_eq_getElem_cons→ξ3,getElem_mem→ξ5,append_nil→ξ6,flatten_cons→ξ7,mem_of_find?_eq_some→ξ8,mem_cons_of_mem→ξ9,mem_cons→ξa,size_toArray→ξb,mem_of_getElem?→ξc,all_eq_true→ξe,length_cons→ξf,length_pos_iff→ξg,length_filter_le→ξh,nil_append→ξi,eq_nil_of_length_eq_zero→ξj,cons_append→ξk,take_add_one→ξl,getElem_of_mem→ξm,flatten_append→ξn,flatten_nil→ξo,mem_cons_self→ξq,mem_take_iff_getElem→ξs,takeWhile_cons→ξu,filter_cons→ξv,length_drop→ξw,drop_eq_nil_of_le→ξx,find?_some→ξA,length_nil→ξE,ext_getElem?→ξG,getElem?_map→ξH,mem_of_mem_take→ξJ,length_take→ξM,filterMap_cons→ξN,pairwise_singleton→ξP,findIdx?_eq_some_iff_getElem→ξQ,getElem?_take→ξR,exists_of_findSome?_eq_some→ξS,takeWhile_sublist→ξT,getElem?_set→ξW,find?_cons→ξZ,dropWhile_cons→ζ0,length_map→ζ1,isPrefixOf_iff_prefix→ζ3,mem_filterMap→ζ5,findIdx?_cons→ζ6,filter_append→ζ7,getElem?_append_left→ζ8,any_eq_false→ζa,getElem_take→ζb,getElem_drop→ζc,take_sublist→ζe,drop_sublist→ζf,map_take→ζg,any_eq_true→ζh,mem_flatten→ζj,filter_eq_nil_iff→ζk,take_of_length_le→ζm,getElem_singleton→ζn,length_eq_one_iff→ζp,set_append_right→ζq,map_append→ζr,perm_append_comm→ζw,range_eq_range'→ζx,mem_range→ζy,set_cons_zero→ζF,getElem?_drop→ζI,pairwise_map→ζL,mem_map→ζM,getElem_map→ζP,drop_length→ζQ,take_length→ζR,perm_middle→ζS,foldl_cons→ζV,map_id→ζW,take_left→η1,drop_left→η2,replicate→η3,drop_drop→η4,map_cons→η8,map_drop→ηb,map_map→ηc,flatten→ηk,range'→ηm,length→ηn
open List.Pairwise renaming nil→ζd,and→ηw
open List.Perm renaming append_left→ξF,refl→ζ9,append_right→ζo,trans→η0
open Nat renaming le_refl→ξ4,zero_add→ξp,lt_or_eq_of_le→ξz,le_trans→ξB,zero_le→ξC,sub_self→ξO,add_zero→ζv,mul_one→ζC,add_sub_cancel→ζE,add_assoc→ζJ,succ_pos→ζO
open Option renaming bind_some→δ,map_some→ξD,getD_some→ξK,map_eq_none_iff→ξU,getD_none→ζi,isSome_none→ζG,map→η6
open Sum renaming rec→ζY
open UInt8 renaming ofNat→ζX,toNat→ηo
section
namespace Go.Proofs.YtoggponeookhbaaGreatDoor
open Go.RowKit Go.Dc Go.Vx
theorem Xv {a b:ai} (h:fJ a b=true):a=b:=by
 obtain⟨c,a2,a3,a4⟩:=a;obtain⟨d,e,f,g⟩:=b;simp[fJ] at h;simp[h]
section
variable {α:Type} {q:α->α->Bool} {A:α->Bool} {l:List α}
theorem qq (m: ∀a b c,q a b=true->q b c=true->q a c=true):
  allI (λi z=>A z&&fD q l i z) 0 l=true↔(∀z∈l,A z=true)/\l.Pairwise λa b=>q a b=true:=by
 rw[kZ];constructor
 ·intro h;have h1: ∀z∈l,A z=true:=λz n=>by
   obtain⟨k,hk⟩:=List.getElem?_of_mem n;have:=h k z hk;rw[ι] at this;exact this.1
  have e: ∀k (hk:k+1<l.length),q l[k] l[k+1]=true:=λk hk=>by
   have:=h (k+1) l[k+1] (ε hk);rw[ι] at this;have:=this.2;unfold fD at this;rw[ξp,show(k+1==0)=false from rfl,ξY,ζE,ε (by omega)] at this;exact this
  refine⟨h1,ω.2 λi j hi f p=>?_⟩;obtain⟨d,rfl⟩: ∃d,j=i+1+d:=⟨j-(i+1),by omega⟩
  induction d with
  |zero=>exact e i f
  |succ d o=>exact m _ _ _ (o (by omega) (by omega)) (e (i+1+d) f)
 ·rintro ⟨h1,e⟩ k z hk;rw[ι];refine⟨h1 z (ξc hk),?_⟩;unfold fD;rw[ξp];cases k with
  |zero=>rfl
  |succ k=>
   have g:=(η.1 hk).1;rw[show(k+1==0)=false from rfl,ξY,ζE,ε (by omega)];have:=ω.1 e k (k+1) (by omega) g (by omega);obtain⟨_,rfl⟩:=η.1 hk;exact this
theorem take_drop (p:α->Bool) (l:List α):l.takeWhile p++l.dropWhile p=l:=List.takeWhile_append_dropWhile
theorem km {lt:α->Bool} {x z:α}:z∈bW lt x l↔z=x\/z∈l:=by
 unfold bW
 conv=>rhs;rw[<-take_drop lt l]
 simp only[χ,ξa];constructor
 ·rintro (h|h|h)
  ·exact .inr (.inl h)
  ·exact .inl h
  ·exact .inr (.inr h)
 ·rintro (h|h|h)
  ·exact .inr (.inl h)
  ·exact .inl h
  ·exact .inr (.inr h)
theorem Ln {lt:α->Bool} {x:α}:(bW lt x l).length=l.length+1:=by
 unfold bW
 conv=>rhs;rw[<-take_drop lt l]
 simp only[ζ,ξf];omega
theorem LD {p:α->Bool} {z:α} (h:z∈l.takeWhile p):p z=true:=by
 have:=List.all_takeWhile (p:=p) (l:=l);rw[ξe] at this;exact this z h
theorem U2 {p:α->Bool} {z:α} {r:List α} (h:l.dropWhile p=z::r):p z=false:=by
 have:=List.head?_dropWhile_not p l;rw[h] at this;simpa using this
theorem Eb {R:α->α->Prop} {lt:α->Bool} {x:α} (q:l.Pairwise R) (j: ∀a b c,R a b->R b c->R a c) (h1: ∀z∈l,lt z=true->R z x) (n: ∀z∈l,lt z=false->R x z):(bW lt x l).Pairwise R:=by
 unfold bW;have o: ∀z,z∈l.takeWhile lt->z∈l:=λz d=>(ξT lt).mem d;have p: ∀z,z∈l.dropWhile lt->z∈l:=λz d=>(List.dropWhile_sublist lt).mem d;have f:=q;rw[<-take_drop lt l,τ] at f;have k: ∀z∈l.dropWhile lt,R x z:=by
  intro z d;cases e:l.dropWhile lt with
  |nil=>rw[e] at d;cases d
  |cons y r=>
   have m:=n y (p y (by rw[e];exact ξq)) (U2 e);rw[e] at d;rcases ξa.1 d with rfl|d
   ·exact m
   ·have:=f.2.1;rw[e,υ] at this;exact j _ _ _ m (this.1 z d)
 rw[τ,υ];refine⟨f.1,⟨k,f.2.1⟩,λa h b g=>?_⟩;have i:=h1 a (o a h) (LD h);rcases ξa.1 g with rfl|g
 ·exact i
 ·exact j _ _ _ i (k b g)
theorem lh {p:α->Bool}:l.find? p=none↔ ∀z∈l,p z=false:=by
 rw[List.find?_eq_none];constructor
 ·intro h z a;have:=h z a;cases e:p z with
  |true=>exact absurd e this
  |false=>rfl
 ·intro h z a;rw[h z a];exact ζ4
theorem XO {p:α->Bool} {z:α} (hu: ∀a∈l,∀b∈l,p a=true->p b=true->a=b):l.find? p=some z↔z∈l/\p z=true:=by
 constructor
 ·intro h;exact⟨ξ8 h,ξA h⟩
 ·rintro ⟨h1,c⟩;cases e:l.find? p with
  |none=>rw[lh.1 e z h1] at c;cases c
  |some y=>rw[hu y (ξ8 e) z h1 (ξA e) c]
theorem Ed {R:α->α->Prop} (d:l.Pairwise R) {a b:α} (e:a∈l) (f:b∈l):a=b\/R a b\/R b a:=by
 obtain⟨i,hi,rfl⟩:=ξm e;obtain⟨j,c,rfl⟩:=ξm f;rcases Nat.lt_trichotomy i j with h|h|h
 ·exact .inr (.inl (ω.1 d i j hi c h))
 ·subst h;exact .inl rfl
 ·exact .inr (.inr (ω.1 d j i c hi h))
theorem Ox {key:α->Int} {n:Nat}: ∀ {l:List α} {a:Int},l.Pairwise (λx y=>key x<key y)->(∀z∈l,a<key z/\key z<=a+n)->l.length<=n
 |[],_,_,_=>by simp
 |z::r,a,b,h=>by
  rw[υ] at b;obtain⟨e,f⟩:=h z ξq;have hn:0<n:=by omega
  obtain⟨m,hm⟩: ∃m:Nat,(m:Int)=a+n-key z:=⟨(a+n-key z).toNat,by omega⟩;have:=Ox (n:=m) (a:=key z) b.2 λy c=>by
   have h1:=b.1 y c;have d:=h y (ξ9 _ c);omega
  simp only[ξf];omega
end
def dp (l:List ai) (pid:Int):Prop:= ∃x∈l,x.aa=pid/\x.bl=false
structure Hx (p:bF) (x:ai):Prop where
 i1:1<=ix x.aa
 i2:ix x.aa<=16
 gen:x.aa/64+1=ay p.aS (ix x.aa-1).toNat
 self:x.aW≠x.aa
 par:x.aW=0\/dp p.ae x.aW
 dead:x.bl=true->x.aW≠0
 live:x.bl=false->x.b_=0
structure dC (p:bF):Prop where
 gl:p.aS.length=16
 kb: ∀i,i<16->0<=ay p.aS i/\ay p.aS i<=65536
 u: ∀x∈p.ae,c9 x.aa
 one: ∀x∈p.ae,Hx p x
 ord:p.ae.Pairwise λa b=>ix a.aa<ix b.aa
 head:p.ae.head? =some ⟨1,0,false,0⟩
theorem vD {l:List ai} (e:l.Pairwise λa b=>ix a.aa<ix b.aa) {a b:ai} (c:a∈l) (d:b∈l) (h:a.aa=b.aa):a=b:=by
 rcases Ed e c d with h1|h1|h1
 ·exact h1
 ·rw[h] at h1;omega
 ·rw[h] at h1;omega
theorem D3 {l:List ai} (f:l.Pairwise λa b=>ix a.aa<ix b.aa) {pid:Int} {x:ai}:ft l pid=some x↔x∈l/\x.aa=pid:=by
 unfold ft;rw[XO λa d b e h1 c=>vD f d e ((eq_of_beq h1).trans (eq_of_beq c).symm),beq_iff_eq]
theorem hE {l:List ai} (c:l.Pairwise λa b=>ix a.aa<ix b.aa) {pid:Int}:b1 l pid=true↔dp l pid:=by
 unfold b1;constructor
 ·intro h;cases e:ft l pid with
  |none=>rw[e] at h;cases h
  |some x=>
   rw[e] at h;have:=(D3 c).1 e;exact⟨x,this.1,this.2,by simpa using h⟩
 ·rintro ⟨x,f,hp,d⟩;rw[(D3 c).2 ⟨f,hp⟩];simp[d]
theorem aal (l:List ai):gY l=fD (λa b=>decide (ix a.aa<ix b.aa)) l:=by funext i x;unfold gY fD;cases l[i-1]? <;>rfl
theorem Mk {p:bF}:allI (λi x=>hB p x&&gY p.ae i x) 0 p.ae=true↔(∀x∈p.ae,hB p x=true)/\p.ae.Pairwise λa b=>ix a.aa<ix b.aa:=by
 rw[aal];have:=qq (q:=λa b:ai=>decide (ix a.aa<ix b.aa)) (A:=hB p) (l:=p.ae) (λa b c h1 d=>decide_eq_true (by have:=of_decide_eq_true h1;have:=of_decide_eq_true d;omega));rw[this];simp only[decide_eq_true_eq]
theorem L7 {p:bF} (j:p.ae.Pairwise λa b=>ix a.aa<ix b.aa) {x:ai}:hB p x=true↔Hx p x:=by
 unfold hB;simp only[ι,decide_eq_true_eq,beq_iff_eq,ξV,beq_eq_false_iff_ne,ne_eq,ζU,hE j];constructor
 ·rintro ⟨h1,e,f,g,h,c⟩;refine⟨h1,e,f,g,h,λd=>?_,λd=>?_⟩
  ·rw[d] at c;simpa using c
  ·rw[d] at c;simpa using c
 ·rintro ⟨h1,e,f,g,h,c,i⟩;refine⟨h1,e,f,g,h,?_⟩;cases d:x.bl with
  |true=>simpa using c d
  |false=>simpa using i d
theorem Jc {g:Γa}:kc g=true↔ ∀i,i<16->0<=ay g i/\ay g i<=65536:=by
 unfold kc;simp only[ξe,ζy,ι,decide_eq_true_eq]
theorem YT {p:bF} (gl:p.aS.length=16) (u: ∀x∈p.ae,c9 x.aa) (h:iL p=true):dC p:=by
 unfold iL at h;rw[ι,ι,Jc,Mk] at h;obtain⟨h1,⟨c,b⟩,a⟩:=h;refine⟨gl,h1,u,λx d=>(L7 b).1 (c x d),b,?_⟩;cases e:p.ae with
 |nil=>rw[e] at a;cases a
 |cons z r=>
  rw[e] at a;have:z=⟨1,0,false,0⟩:=Xv a;rw[this];rfl
theorem Nh {p:bF} (h:dC p):iL p=true:=by
 unfold iL;rw[ι,ι,Jc,Mk];refine⟨h.kb,⟨λx a=>(L7 h.ord).2 (h.one x a),h.ord⟩,?_⟩;have:=h.head;cases e:p.ae with
 |nil=>rw[e] at this;cases this
 |cons z r=>
  rw[e] at this;cases this;rfl
theorem dC.len {p:bF} (h:dC p):p.ae.length<=16:=
 Ox (a:=0) h.ord λz b=>by have:=h.one z b;have:=this.i1;have:=(h.one z b).i2;omega
theorem dC.pid {p:bF} (h:dC p) {x:ai} (a:x∈p.ae):1<=x.aa/\x.aa<4194304:=by
 have h1:=h.one x a;have b:=h.u x a;have e:=p6 b.1;have c:=h1.i1;have d:=h1.i2;have f:=h1.gen;have g:=h.kb (ix x.aa-1).toNat (by omega);omega
theorem XQ {p:bF} (h:dC p):⟨1,0,false,0⟩∈p.ae:=List.mem_of_mem_head? h.head
theorem DL {g:Γa} {i j:Nat} {v:Int} (hi:i<g.length):ay (g.set i v) j=if j=i then v else ay g j:=by
 unfold ay;rw[ξW]
 by_cases h:i=j
 ·subst h;simp[hi]
 ·rw[if_neg h,if_neg (λe=>h e.symm)]
theorem DA {p:bF} {i:Nat} (h:hT p=some i):i<16/\(∀x∈p.ae,ix x.aa≠(i:Int)+1)/\ay p.aS i<=65535:=by
 have h1:=ξ8 h;have a:=ξA h;simp only[ι,ξV,ζa,decide_eq_true_eq,beq_iff_eq] at a;exact⟨ζy.1 h1,a.1,a.2⟩
theorem LO {p:bF} (hp:dC p) {i:Nat} (h:hT p=some i):0<=dz p i/\dz p i<4194304/\ix (dz p i)=i+1/\dz p i/64=ay p.aS i:=by
 obtain⟨h1,b,c⟩:=DA h;have d:=hp.kb i h1;have a:0<=dz p i:=by unfold dz;omega
 rw[p6 a];unfold dz;omega
theorem NC {l l':List ai} {q:Int} (h: ∀x∈l,x.aa=q->x.bl=false-> ∃y∈l',y.aa=q/\y.bl=false):dp l q->dp l' q:=λ⟨x,b,hp,a⟩=>h x b hp a
theorem ac1 {p:bF} {parent:Int} {q:bF} {v:Int} (h:iN p parent= .ok (q,v)): ∃i,b1 p.ae parent=true/\hT p=some i/\v=dz p i/\q=⟨p.aS.set i (ay p.aS i+1),bW (λy=>decide (ix y.aa<=i+1)) ⟨dz p i,parent,false,0⟩ p.ae⟩:=by
 unfold iN at h;cases h1:b1 p.ae parent with
 |false=>rw[h1] at h;cases h
 |true=>
  rw[h1] at h;cases a:hT p with
  |none=>rw[a] at h;cases h
  |some i=>
   rw[a] at h;cases h;exact⟨i,rfl,rfl,rfl,rfl⟩
theorem ac0 {p:bF} (hp:dC p) {parent:Int} {i:Nat} (t:b1 p.ae parent=true) (h:hT p=some i):dC ⟨p.aS.set i (ay p.aS i+1),bW (λy=>decide (ix y.aa<=i+1)) ⟨dz p i,parent,false,0⟩ p.ae⟩:=by
 obtain⟨h1,k,w⟩:=DA h;obtain⟨n0,n1,n2,v⟩:=LO hp h;have m:=(hE hp.ord).1 t;have l:i<p.aS.length:=by rw[hp.gl];exact h1
 have hm: ∀q,dp p.ae q->dp (bW (λy=>decide (ix y.aa<=i+1)) ⟨dz p i,parent,false,0⟩ p.ae) q:=λq=>NC λx f e d=>⟨x,km.2 (.inr f),e,d⟩;refine⟨?_,?_,?_,?_,?_,?_⟩
 ·simp[hp.gl]
 ·intro j o;show 0<=ay (p.aS.set i _) j/\ay (p.aS.set i _) j<=65536;rw[DL l];have:=hp.kb j o;have:=hp.kb i h1;split<;>omega
 ·intro x f;rcases km.1 f with rfl|f
  ·exact⟨n0,by show dz p i<_;omega⟩
  ·exact hp.u x f
 ·intro x f;rcases km.1 f with rfl|f
  ·refine⟨?_,?_,?_,?_,.inr (hm _ m),λe=>(ζ4 e).elim,λ_=>rfl⟩
   ·show 1<=ix (dz p i);omega
   ·show ix (dz p i)<=16;omega
   ·show dz p i/64+1=ay (p.aS.set i _) (ix (dz p i)-1).toNat;rw[n2,v,show((i:Int)+1-1).toNat=i by omega,DL l,if_pos rfl]
   ·show parent≠dz p i;intro e;obtain⟨x,f,s,_⟩:=m;apply k x f;rw[s,e,n2]
  ·have g:=hp.one x f;refine⟨g.i1,g.i2,?_,g.self,g.par.imp_right (hm _),g.dead,g.live⟩;show x.aa/64+1=ay (p.aS.set i _) (ix x.aa-1).toNat;rw[DL l,if_neg,g.gen];intro e;apply k x f;have:=g.i1;omega
 ·refine Eb hp.ord (λa b c h1 k=>by omega) (λz n e=>?_) λz n e=>?_
  ·have e:=of_decide_eq_true e;have:=k z n;show ix z.aa<ix (dz p i);omega
  ·have e:=of_decide_eq_false e;show ix (dz p i)<ix z.aa;omega
 ·have:=hp.head;show(bW _ _ p.ae).head? =_;cases e:p.ae with
  |nil=>rw[e] at this;cases this
  |cons z r=>
   rw[e] at this;cases this;have:ix 1=1:=by rw[p6 (by omega)];rfl
   unfold bW;rw[ξu];have:decide (ix (ai.mk 1 0 false 0).aa<=(i:Int)+1)=true:=decide_eq_true (by show ix 1<=_;omega);simp only[this,if_true];rfl
theorem XH {p:bF} {pid code:Int} {q:bF} (h:ij p pid code= .ok q):b1 p.ae pid=true/\pid≠1/\q=⟨p.aS,p.ae.filterMap (fY pid code)⟩:=by
 unfold ij at h;cases h1:b1 p.ae pid with
 |false=>rw[h1] at h;cases h
 |true=>
  rw[h1] at h;cases a:pid==1 with
  |true=>rw[a] at h;cases h
  |false=>
   rw[a] at h;cases h;exact⟨rfl,by simpa using a,rfl⟩
theorem s8 {pid code:Int} {x y:ai} (h:fY pid code x=some y):y.aa=x.aa/\((x.aa=pid/\x.aW≠0/\y=⟨x.aa,x.aW,true,code⟩)\/(x.aa≠pid/\x.aW=pid/\x.bl=false/\y=⟨x.aa,0,x.bl,x.b_⟩)\/(x.aa≠pid/\x.aW≠pid/\y=x)):=by
 unfold fY at h;cases h1:x.aa==pid with
 |true=>
  rw[h1] at h;cases a:x.aW==0 with
  |true=>rw[a] at h;cases h
  |false=>
   rw[a] at h;cases h;exact⟨rfl,.inl ⟨by simpa using h1,by simpa using a,rfl⟩⟩
 |false=>
  rw[h1] at h;cases a:x.aW==pid with
  |true=>
   rw[a] at h;cases b:x.bl with
   |true=>rw[b] at h;cases h
   |false=>
    rw[b] at h;cases h;exact⟨rfl,.inr (.inl ⟨by simpa using h1,by simpa using a,rfl,rfl⟩)⟩
  |false=>
   rw[a] at h;cases h;exact⟨rfl,.inr (.inr ⟨by simpa using h1,by simpa using a,rfl⟩)⟩
theorem XG {pid code:Int} {x:ai} (h1:x.aa≠pid) (a:x.bl=false): ∃y,fY pid code x=some y/\y.aa=x.aa/\y.bl=false:=by
 unfold fY;rw[show(x.aa==pid)=false by simpa using h1,a];cases x.aW==pid
 ·exact⟨_,rfl,rfl,a⟩
 ·exact⟨_,rfl,rfl,rfl⟩
theorem s9 {l:List ai} {pid code q:Int} (c:q≠pid) (h:dp l q):dp (l.filterMap (fY pid code)) q:=by
 obtain⟨x,d,rfl,a⟩:=h;obtain⟨y,e,hp,b⟩:=XG (code:=code) c a;exact⟨y,ζ5.2 ⟨x,d,e⟩,hp,b⟩
theorem XF {p:bF} (hp:dC p) {pid code:Int} (g:dp p.ae pid) (h1:pid≠1):dC ⟨p.aS,p.ae.filterMap (fY pid code)⟩:=by
 refine⟨hp.gl,hp.kb,?_,?_,?_,?_⟩
 ·intro y i;obtain⟨x,f,h⟩:=ζ5.1 i;rw[(s8 h).1];exact hp.u x f
 ·intro y i;obtain⟨x,f,h⟩:=ζ5.1 i;obtain⟨e,h'⟩:=s8 h;have c:=hp.one x f;have j:x.aW≠pid->x.aW=0\/dp (p.ae.filterMap (fY pid code)) x.aW:=λhn=>c.par.imp_right λg=>s9 hn g;refine⟨by rw[e];exact c.i1,by rw[e];exact c.i2,by rw[e];exact c.gen,?_,?_,?_,?_⟩
  ·rcases h' with⟨_,_,rfl⟩|⟨_,_,_,rfl⟩|⟨_,_,rfl⟩
   ·exact c.self
   ·have:=(hp.pid f).1;show(0:Int)≠x.aa;omega
   ·exact c.self
  ·rcases h' with⟨k,_,rfl⟩|⟨_,_,_,rfl⟩|⟨_,k,rfl⟩
   ·exact j (λe=>c.self (e.trans k.symm))
   ·exact .inl rfl
   ·exact j k
  ·intro d;rcases h' with⟨_,k,rfl⟩|⟨_,_,k,rfl⟩|⟨_,k,rfl⟩
   ·exact k
   ·rw[show(ai.mk x.aa 0 x.bl x.b_).bl=x.bl from rfl,k] at d;cases d
   ·exact c.dead d
  ·intro d;rcases h' with⟨_,k,rfl⟩|⟨_,_,k,rfl⟩|⟨_,k,rfl⟩
   ·cases d
   ·exact c.live k
   ·exact c.live d
 ·refine hp.ord.filterMap _ λa b n a' m q o=>?_;rw[(s8 m).1,(s8 o).1];exact n
 ·have:=hp.head;show(p.ae.filterMap (fY pid code)).head? =_;cases e:p.ae with
  |nil=>rw[e] at this;cases this
  |cons z r=>
   rw[e] at this;cases this;have l:(0:Int)≠pid:=by
    obtain⟨x,f,rfl,_⟩:=g;have:=(hp.pid f).1;omega
   rw[ξN];have:fY pid code ⟨1,0,false,0⟩=some ⟨1,0,false,0⟩:=by
    unfold fY;rw[show((ai.mk 1 0 false 0).aa==pid)=false by simpa using λe=>h1 (Eq.symm e),show((ai.mk 1 0 false 0).aW==pid)=false by simpa using l];rfl
   rw[this];rfl
theorem ad0 {p:bF} (hp:dC p) {pid child:Int} {q:bF} {v:Int} (h:iS p pid child= .ok (q,v)): ∃x∈p.ae,x.aa=child/\x.aW=pid/\x.bl=true/\v=x.b_/\dp p.ae pid/\q=⟨p.aS,p.ae.filter λy=>!(y.aa==child)⟩:=by
 unfold iS at h;cases h1:b1 p.ae pid with
 |false=>rw[h1] at h;cases h
 |true=>
  rw[h1] at h;cases b:ft p.ae child with
  |none=>rw[b] at h;cases h
  |some x=>
   rw[b] at h;obtain⟨e,d⟩:=(D3 hp.ord).1 b;cases a:x.aW==pid with
   |false=>simp only[a,cond_true,cond_false] at h;cases h
   |true=>
    cases c:x.bl with
    |false=>simp only[a,c,cond_true,cond_false] at h;cases h
    |true=>
     simp only[a,c,cond_true] at h;cases h;exact⟨x,e,d,by simpa using a,c,rfl,(hE hp.ord).1 h1,rfl⟩
theorem Pk {p:bF} (hp:dC p) {x:ai} (c:x∈p.ae) (b:x.bl=true) {q:Int} (h:dp p.ae q):dp (p.ae.filter λy=>!(y.aa==x.aa)) q:=by
 obtain⟨y,a,rfl,hl⟩:=h;refine⟨y,ξ2.2 ⟨a,?_⟩,rfl,hl⟩;have:y.aa≠x.aa:=λe=>by
  rw[vD hp.ord a c e,b] at hl;cases hl
 simpa using this
theorem adZ {p:bF} (hp:dC p) {x:ai} (d:x∈p.ae) (b:x.bl=true):dC ⟨p.aS,p.ae.filter λy=>!(y.aa==x.aa)⟩:=by
 refine⟨hp.gl,hp.kb,λy c=>hp.u y (ξ2.1 c).1,λy c=>?_,hp.ord.filter _,?_⟩
 ·have a:=hp.one y (ξ2.1 c).1;exact⟨a.i1,a.i2,a.gen,a.self,a.par.imp_right λh=>Pk hp d b h,a.dead,a.live⟩
 ·have:=hp.head;show(p.ae.filter λy=>!(y.aa==x.aa)).head? =_;cases e:p.ae with
  |nil=>rw[e] at this;cases this
  |cons z r=>
   rw[e] at this;cases this;have h1:(1:Int)≠x.aa:=λh=>by
    have:=vD hp.ord (XQ hp) d h;rw[<-this] at b;cases b
   rw[ξv,show(!((ai.mk 1 0 false 0).aa==x.aa))=true by simpa using h1];rfl
structure fG (l:List ak):Prop where
 is: ∀d∈l,hx d=true
 ord:l.Pairwise λa b=>dF a b=true
 len:l.length<=64
theorem o9 {a b:ak}:dF a b=true↔a.aa<b.aa\/a.aa=b.aa/\a.bA<b.bA:=by simp[dF]
theorem A_ (a b c:ak) (h1:dF a b=true) (d:dF b c=true):dF a c=true:=by rw[o9] at*;omega
theorem Nd {l:List ak}:lO l=true↔fG l:=by
 unfold lO;rw[ι,decide_eq_true_eq];have:=qq (q:=dF) (A:=hx) (l:=l) A_;constructor
 ·rintro ⟨h1,a⟩;have:=this.1 h1;exact⟨this.1,this.2,a⟩
 ·rintro ⟨h1,a,b⟩;exact⟨this.2 ⟨h1,a⟩,b⟩
theorem UX {l:List ak} (h:fG l) {a b:ak} (c:a∈l) (d:b∈l) (h1:a.aa=b.aa) (f:a.bA=b.bA):a=b:=by
 rcases Ed h.ord c d with e|e|e
 ·exact e
 ·rw[o9] at e;omega
 ·rw[o9] at e;omega
theorem JA {l:List ak} {pid fd w:Int} (h:c7 l pid fd=some w): ∃d∈l,d.aa=pid/\d.bA=fd/\d.cf=w:=by
 unfold c7 at h;cases e:l.find? (λd=>d.aa==pid&&d.bA==fd) with
 |none=>rw[e] at h;cases h
 |some d=>
  rw[e] at h;have:=ξA e;simp only[ι,beq_iff_eq] at this;exact⟨d,ξ8 e,this.1,this.2,by simpa using h⟩
theorem Yr {l:List ak} {pid fd:Int} (h:c7 l pid fd=none): ∀d∈l,¬(d.aa=pid/\d.bA=fd):=by
 unfold c7 at h;rw[ξU] at h;intro d a;have:=lh.1 h d a;simpa using this
theorem vr {l:List ak} {pid bu:Int} {l':List ak} {v:Int} (h:hC l pid bu= .ok (l',v)): ∃i:Nat,ht l pid=some i/\l.length≠64/\v=i/\l'=bW (λy=>dF y ⟨pid,i,bu⟩) ⟨pid,i,bu⟩ l:=by
 unfold hC at h;cases h1:ht l pid with
 |none=>rw[h1] at h;cases h
 |some i=>
  rw[h1] at h;cases a:l.length==64 with
  |true=>simp only[a,cond_true] at h;cases h
  |false=>
   simp only[a,cond_false] at h;cases h;exact⟨i,rfl,by simpa using a,rfl,rfl⟩
theorem Cl {l:List ak} {pid:Int} {i:Nat} (h:ht l pid=some i):i<8/\ ∀d∈l,¬(d.aa=pid/\d.bA=i):=by
 have h1:=ξ8 h;have a:=ξA h;exact⟨ζy.1 h1,Yr (Option.isNone_iff_eq_none.1 a)⟩
theorem Z4 {l:List ak} (h:fG l) {pid bu:Int} {i:Nat} (hp:pid<4294967296) (c:ht l pid=some i) (hl:l.length≠64):fG (bW (λy=>dF y ⟨pid,i,bu⟩) ⟨pid,i,bu⟩ l):=by
 obtain⟨h1,b⟩:=Cl c;refine⟨λd a=>?_,Eb h.ord A_ (λ_ _ e=>e) λz f e=>?_,?_⟩
 ·rcases km.1 a with rfl|a
  ·simp only[hx,ι,decide_eq_true_eq];omega
  ·exact h.is d a
 ·have:=b z f;rw[o9];have e: ¬_:=λk=>ζ4 (e.symm.trans (o9.2 k));simp only at e ⊢;omega
 ·rw[Ln];have:=h.len;omega
theorem fG.filter {l:List ak} (h:fG l) (p:ak->Bool):fG (l.filter p):=
 ⟨λd a=>h.is d (ξ2.1 a).1,h.ord.filter _,ξB (ξh _ _) h.len⟩
theorem IA {l:List ak} {pid fd:Int} {r:List ak×Int} (h:hr l pid fd= .ok r): ∃w,c7 l pid fd=some w/\hC l pid w= .ok r:=by
 unfold hr at h;cases e:c7 l pid fd with
 |none=>rw[e] at h;cases h
 |some w=>rw[e] at h;exact⟨w,rfl,h⟩
theorem Ij {l:List ak} {pid fd:Int} {r:List ak} (h:gP l pid fd= .ok r): ∃w,c7 l pid fd=some w/\r=l.filter λd=>!(d.aa==pid&&d.bA==fd):=by
 unfold gP at h;cases e:c7 l pid fd with
 |none=>rw[e] at h;cases h
 |some w=>rw[e] at h;cases h;exact⟨w,rfl,rfl⟩
structure fR (m:bT):Prop where
 path: ∀x∈m.ae,c9 x.ba/\ct x.ba=true
 id: ∀x∈m.ae,1<=x.aX/\x.aX<m.bp
 ord:m.ae.Pairwise λa b=>a.aX<b.aX
 new:m.ae.Pairwise λa b=>a.ba≠b.ba
 len:m.ae.length<=16
 n1:1<=m.bp
 n2:m.bp<=1073741825
theorem TS {α:Type} {p q:Nat->α->Bool} {l:List α} {i:Nat}:allI (λi z=>p i z&&q i z) i l=true↔allI p i l=true/\allI q i l=true:=by
 simp only[kZ,ι];exact⟨λh=>⟨λk z hk=>(h k z hk).1,λk z hk=>(h k z hk).2⟩,λh k z hk=>⟨h.1 k z hk,h.2 k z hk⟩⟩
theorem Zz {l:List aA}:allI (λi z=>nu l i z) 0 l=true↔l.Pairwise λa b=>a.ba≠b.ba:=by
 rw[kZ,ω];constructor
 ·intro h i j hi c g e;have:=h j l[j] (ε c);unfold nu at this;rw[ξV,ζa,ξp] at this;apply this l[i] (ξs.2 ⟨i,by omega,rfl⟩);simpa using e
 ·intro h k z hk;obtain⟨d,rfl⟩:=η.1 hk;unfold nu;rw[ξV,ζa,ξp];intro y f e;obtain⟨i,hi,rfl⟩:=ξs.1 f;exact h i k (by omega) d (by omega) (by simpa using e)
theorem Ng {m:bT} (hu: ∀x∈m.ae,c9 x.ba):qC ct m=true↔fR m:=by
 unfold qC uU;rw[ι,ι,ι,TS,Zz,decide_eq_true_eq,decide_eq_true_eq,decide_eq_true_eq];have:=qq (q:=λy z:aA=>decide (y.aX<z.aX)) (A:=qi ct m.bp) (l:=m.ae) (λa b c h1 e=>decide_eq_true (by have:=of_decide_eq_true h1;have:=of_decide_eq_true e;omega));simp only[decide_eq_true_eq] at this;rw[this];simp only[qi,ι,decide_eq_true_eq];constructor
 ·rintro ⟨⟨⟨h1,e⟩,f⟩,g,h,i⟩;exact⟨λx d=>⟨hu x d,(h1 x d).1⟩,λx d=>(h1 x d).2,e,f,g,h,i⟩
 ·rintro ⟨h1,e,f,g,h,i,j⟩;exact⟨⟨⟨λx d=>⟨(h1 x d).2,e x d⟩,f⟩,g⟩,h,i,j⟩
theorem Zo {m:bT} (h:fR m) {a b:aA} (c:a∈m.ae) (d:b∈m.ae) (e:a.ba=b.ba):a=b:=by
 rcases Ed h.new c d with k|k|k
 ·exact k
 ·exact(k e).elim
 ·exact(k e.symm).elim
theorem C8 {m:bT} {w i:Int} (h:da m w=some i): ∃x∈m.ae,x.ba=w/\x.aX=i:=by
 unfold da at h;cases e:m.ae.find? (λx=>x.ba==w) with
 |none=>rw[e] at h;cases h
 |some x=>
  rw[e] at h;exact⟨x,ξ8 e,by simpa using ξA e,by simpa using h⟩
theorem YE {m:bT} {w:Int} (h:da m w=none): ∀x∈m.ae,x.ba≠w:=by
 unfold da at h;rw[ξU] at h;intro x a;simpa using lh.1 h x a
theorem TL {m:bT} {w:Int} {n:bT} {v:Int} (h:h9 m w= .ok (n,v)):ct w=true/\da m w=none/\m.ae.length≠16/\m.bp<=1073741824/\v=m.bp/\n=⟨m.ae++[⟨w,m.bp⟩],m.bp+1⟩:=by
 unfold h9 at h;cases h1:ct w with
 |false=>rw[h1] at h;cases h
 |true=>
  rw[h1] at h;cases b:da m w with
  |some _=>rw[b] at h;cases h
  |none=>
   rw[b] at h;cases a:(m.ae.length==16||decide (m.bp>1073741824)) with
   |true=>simp only[a,cond_true] at h;cases h
   |false=>
    simp only[a,cond_true,cond_false] at h;cases h;simp only[Bool.or_eq_false_iff,beq_eq_false_iff_ne,decide_eq_false_iff_not] at a;exact⟨rfl,rfl,a.1,by omega,rfl,rfl⟩
theorem TJ {m:bT} (h:fR m) {w:Int} (hu:c9 w) (hw:ct w=true) (hi:da m w=none) (hl:m.ae.length≠16) (hn:m.bp<=1073741824):fR ⟨m.ae++[⟨w,m.bp⟩],m.bp+1⟩:=by
 refine⟨λx c=>?_,λx c=>?_,?_,?_,?_,?_,?_⟩
 ·rcases χ.1 c with c|c
  ·exact h.path x c
  ·cases ξ.1 c;exact⟨hu,hw⟩
 ·rcases χ.1 c with c|c
  ·have:=h.id x c;show 1<=x.aX/\x.aX<m.bp+1;omega
  ·cases ξ.1 c;have:=h.n1;show 1<=m.bp/\m.bp<m.bp+1;omega
 ·refine τ.2 ⟨h.ord,ξP _ _,λa d b e=>?_⟩;cases ξ.1 e;exact(h.id a d).2
 ·refine τ.2 ⟨h.new,ξP _ _,λa d b e=>?_⟩;cases ξ.1 e;exact YE hi a d
 ·have:=h.len;show(m.ae++_).length<=16;rw[ζ,ψ];omega
 ·have:=h.n1;show 1<=m.bp+1;omega
 ·show m.bp+1<=_;omega
theorem adA {m:bT} {w:Int} {n:bT} (h:iQ m w= .ok n):ct w=true/\(∃i,da m w=some i)/\j3 m w=false/\n=⟨m.ae.filter λx=>!(x.ba==w),m.bp⟩:=by
 unfold iQ at h;cases h1:ct w with
 |false=>rw[h1] at h;cases h
 |true=>
  rw[h1] at h;cases a:da m w with
  |none=>rw[a] at h;cases h
  |some i=>
   rw[a] at h;cases b:j3 m w with
   |true=>simp only[b,cond_true] at h;cases h
   |false=>
    simp only[b,cond_true,cond_false] at h;cases h;exact⟨rfl,⟨i,rfl⟩,rfl,rfl⟩
theorem fR.filter {m:bT} (h:fR m) (p:aA->Bool):fR ⟨m.ae.filter p,m.bp⟩:=
 ⟨λx a=>h.path x (ξ2.1 a).1,λx a=>h.id x (ξ2.1 a).1,h.ord.filter _,h.new.filter _,ξB (ξh _ _) h.len,h.n1,h.n2⟩
theorem ZN {m:bT} {w i:Int} (h:iG m w= .ok i):ct w=true/\da m w=some i:=by
 unfold iG at h;cases h1:ct w with
 |false=>rw[h1] at h;cases h
 |true=>
  rw[h1] at h;cases a:da m w with
  |none=>rw[a] at h;cases h
  |some j=>rw[a] at h;cases h;exact⟨rfl,rfl⟩
theorem ab9 {m:bT} {w i:Int} (h:fP m w= .ok i): ∃x∈m.ae,x.aX=i:=by
 unfold fP at h;cases h1:ct w with
 |false=>rw[h1] at h;cases h
 |true=>
  rw[h1] at h;cases a:wE m w with
  |none=>rw[a] at h;cases h
  |some j=>
   rw[a] at h;cases h;obtain⟨u,_,a⟩:=ξS a;obtain⟨x,b,_,e⟩:=C8 a;exact⟨x,b,e⟩
structure eJ (s:aL):Prop where
 name: ∀z∈s.au,c9 z.a1/\eD z.a1=true/\dZ z.aa=true
 jz:s.au.Pairwise λa b=>a.a1<b.a1
 len:s.au.length<=16
 box: ∀b∈s.ao,dZ b.aa=true/\1<=b.a6.length/\b.a6.length<=4
 kr:s.ao.Pairwise λa b=>a.aa<b.aa
theorem Lv {α:Type} {f:α->Int} (a b c:α) (h1:decide (f a<f b)=true) (d:decide (f b<f c)=true):decide (f a<f c)=true:=decide_eq_true (by have:=of_decide_eq_true h1;have:=of_decide_eq_true d;omega)
theorem Nf {s:aL} (hu: ∀z∈s.au,c9 z.a1):lP s=true↔eJ s:=by
 unfold lP nq mC;rw[ι,ι,decide_eq_true_eq];have h1:=qq (q:=λy z:aD=>decide (y.a1<z.a1)) (A:=nF) (l:=s.au) Lv;have c:=qq (q:=λy z:aw=>decide (y.aa<z.aa)) (A:=okB) (l:=s.ao) Lv;simp only[decide_eq_true_eq] at h1 c;rw[h1,c];simp only[nF,okB,ι,decide_eq_true_eq];constructor
 ·rintro ⟨⟨b,a2⟩,⟨a3,a4⟩,a5⟩;exact⟨λz a=>⟨hu z a,b z a⟩,a2,a5,a3,a4⟩
 ·rintro ⟨b,a2,a3,a4,a5⟩;exact⟨⟨λz a=>(b z a).2,a2⟩,⟨a4,a5⟩,a3⟩
theorem Ze {l:List aD} {n:Int} (h:fq l n=none): ∀z∈l,z.a1≠n:=by
 unfold fq at h;rw[ξU] at h;intro z a;simpa using lh.1 h z a
theorem ab4 {s:aL} {n pid:Int} {r:aL} (h:iK s n pid= .ok r):eD n=true/\dZ pid=true/\fq s.au n=none/\s.au.length≠16/\r=⟨bW (λy=>decide (y.a1<n)) ⟨n,pid⟩ s.au,s.ao⟩:=by
 unfold iK at h;cases h1:eD n with
 |false=>rw[h1] at h;cases h
 |true=>
  cases b:dZ pid with
  |false=>rw[h1,b] at h;cases h
  |true=>
   rw[h1,b] at h;cases c:fq s.au n with
   |some _=>rw[c] at h;cases h
   |none=>
    rw[c] at h;cases a:s.au.length==16 with
    |true=>simp only[a,cond_true] at h;cases h
    |false=>
     simp only[a,cond_true,cond_false] at h;cases h;exact⟨rfl,rfl,rfl,by simpa using a,rfl⟩
theorem ab3 {s:aL} (h:eJ s) {n pid:Int} (hu:c9 n) (h1:eD n=true) (f:dZ pid=true) (g:fq s.au n=none) (i:s.au.length≠16):eJ ⟨bW (λy=>decide (y.a1<n)) ⟨n,pid⟩ s.au,s.ao⟩:=by
 refine⟨λz d=>?_,Eb h.jz (λa b c h1 f=>by omega) (λz d e=>of_decide_eq_true e) λz d e=>?_,?_,h.box,h.kr⟩
 ·rcases km.1 d with rfl|d
  ·exact⟨hu,h1,f⟩
  ·exact h.name z d
 ·have:=Ze g z d;have e:=of_decide_eq_false e;show n<z.a1;omega
 ·show(bW _ _ _).length<=16;rw[Ln];have:=h.len;omega
theorem p_ {s:aL} {n p:Int} (h:gz s n= .ok p):eD n=true/\fq s.au n=some p:=by
 unfold gz at h;cases h1:eD n with
 |false=>rw[h1] at h;cases h
 |true=>
  rw[h1] at h;cases a:fq s.au n with
  |none=>rw[a] at h;cases h
  |some q=>rw[a] at h;cases h;exact⟨rfl,rfl⟩
theorem adD {s:aL} (h:eJ s) (n:Int):eJ (qS s n):=
 ⟨λz a=>h.name z (ξ2.1 a).1,h.jz.filter _,ξB (ξh _ _) h.len,h.box,h.kr⟩
theorem wL {s:aL} {pid:Int} {ws:Γa} {b:aw}:b∈(fF s pid ws).ao↔(b∈s.ao/\b.aa≠pid)\/(ws≠[]/\b=⟨pid,ws⟩):=by
 unfold fF;simp only[χ,ξ2,decide_eq_true_eq];have h:b∈(if ws=[] then[] else[aw.mk pid ws])↔ws≠[]/\b=⟨pid,ws⟩:=by
  split
  ·rename_i e;simp[e]
  ·rename_i e;simp[e]
 rw[h];constructor
 ·rintro (⟨h1,a⟩|h|⟨h1,a⟩)
  ·exact .inl ⟨h1,by omega⟩
  ·exact .inr h
  ·exact .inl ⟨h1,by omega⟩
 ·rintro (⟨h1,a⟩|h)
  ·rcases Int.lt_or_gt_of_ne a with k|k
   ·exact .inl ⟨h1,k⟩
   ·exact .inr (.inr ⟨h1,k⟩)
  ·exact .inr (.inl h)
theorem ad6 {s:aL} (h:s.ao.Pairwise λa b=>a.aa<b.aa) {pid:Int} {ws:Γa}:(fF s pid ws).ao.Pairwise λa b=>a.aa<b.aa:=by
 have e:(if ws=[] then[] else[aw.mk pid ws]).Pairwise λa b=>a.aa<b.aa:=by
  split
  ·exact .nil
  ·exact ξP _ _
 have hm: ∀b∈(if ws=[] then[] else[aw.mk pid ws]),b.aa=pid:=by
  intro b c;split at c
  ·cases c
  ·cases ξ.1 c;rfl
 refine τ.2 ⟨h.filter _,τ.2 ⟨e,h.filter _,λa d b c=>?_⟩,λa d b c=>?_⟩
 ·have:=of_decide_eq_true (ξ2.1 c).2;rw[hm a d];exact this
 ·have d:=of_decide_eq_true (ξ2.1 d).2;rcases χ.1 c with c|c
  ·rw[hm b c];exact d
  ·have:=of_decide_eq_true (ξ2.1 c).2;omega
theorem FC {s:aL} (h:eJ s) {pid:Int} {ws:Γa} (hp:dZ pid=true) (hl:ws.length<=4):eJ (fF s pid ws):=by
 refine⟨h.name,h.jz,h.len,λb a=>?_,ad6 h.kr⟩;rcases wL.1 a with⟨a,_⟩|⟨hn,rfl⟩
 ·exact h.box b a
 ·refine⟨hp,?_,hl⟩;cases ws with
  |nil=>exact(hn rfl).elim
  |cons _ _=>exact Nat.succ_le_succ (ξC _)
theorem Fx {s:aL} (h:eJ s) (pid:Int):(di s pid).length<=4:=by
 unfold di;cases e:s.ao.find? (λb=>b.aa==pid) with
 |none=>exact ξC _
 |some b=>exact(h.box b (ξ8 e)).2.2
theorem acT {s:aL} {pid w:Int} {r:aL} (h:kG s pid w= .ok r):(di s pid).length≠4/\r=fF s pid (di s pid++[w]):=by
 unfold kG at h;cases h1:(di s pid).length==4 with
 |true=>rw[h1] at h;cases h
 |false=>rw[h1] at h;cases h;exact⟨by simpa using h1,rfl⟩
theorem ab1 {s:aL} {pid v:Int} {r:aL} (h:kC s pid= .ok (r,v)): ∃ws,di s pid=v::ws/\r=fF s pid ws:=by
 unfold kC at h;cases h1:di s pid with
 |nil=>rw[h1] at h;cases h
 |cons w ws=>rw[h1] at h;cases h;exact⟨ws,rfl,rfl⟩
structure c5 (s:bb):Prop where
 p:dC s.az
 d:fG s.aV
 m:fR s.aI
 i:eJ s.aB
 bu: ∀d∈s.aV,dp s.az.ae d.aa/\ ∃x∈s.aI.ae,x.aX=d.cf
 names: ∀n∈s.aB.au,dp s.az.ae n.aa
 boxes: ∀b∈s.aB.ao,dp s.az.ae b.aa
def Bq (s:bb):Bool:=iL s.az&&(lO s.aV&&(qC ct s.aI&&(lP s.aB&&qA s)))
structure AY (s:bb):Prop where
 gl:s.az.aS.length=16
 pid: ∀z∈s.az.ae,c9 z.aa
 path: ∀z∈s.aI.ae,c9 z.ba
 name: ∀z∈s.aB.au,c9 z.a1
theorem YU {s:bb} (h:c5 s):AY s:=⟨h.p.gl,h.p.u,λz a=>(h.m.path z a).1,λz a=>(h.i.name z a).1⟩
theorem Nb {s:bb} (h:s.az.ae.Pairwise λa b=>ix a.aa<ix b.aa):qA s=true↔(∀d∈s.aV,dp s.az.ae d.aa/\ ∃x∈s.aI.ae,x.aX=d.cf)/\(∀n∈s.aB.au,dp s.az.ae n.aa)/\ ∀b∈s.aB.ao,dp s.az.ae b.aa:=by
 unfold qA;simp only[ι,ξe,ζh,hE h,beq_iff_eq]
theorem Ig {s:bb} (h:AY s):Bq s=true↔c5 s:=by
 unfold Bq;rw[ι,ι,ι,ι,Nd,Ng h.path,Nf h.name];constructor
 ·rintro ⟨h1,b,c,e,a⟩;have h1:=YT h.gl h.pid h1;obtain⟨a,f,g⟩:=(Nb h1.ord).1 a;exact⟨h1,b,c,e,a,f,g⟩
 ·intro h;exact⟨Nh h.p,h.d,h.m,h.i,(Nb h.p.ord).2 ⟨h.bu,h.names,h.boxes⟩⟩
theorem jH {p:bF} (h:dC p) {q:Int} (a:dp p.ae q):dZ q=true/\q<4294967296/\1<=q:=by
 obtain⟨x,b,rfl,_⟩:=a;have:=h.pid b;unfold dZ;simp only[ι,decide_eq_true_eq];omega
inductive Step (s:bb) (p a b:Int):Int->bb->Int->Prop
 |spawn (i:Nat):b1 s.az.ae p=true->hT s.az=some i->Step s p a b 1 ⟨⟨s.az.aS.set i (ay s.az.aS i+1),bW (λy=>decide (ix y.aa<=i+1)) ⟨dz s.az i,p,false,0⟩ s.az.ae⟩,s.aV,s.aI,s.aB⟩ (dz s.az i)
 |exit:dp s.az.ae p->p≠1->(∀n∈s.aB.au,n.aa≠p)->Step s p a b 2 ⟨⟨s.az.aS,s.az.ae.filterMap (fY p a)⟩,pw s.aV p,s.aI,fF s.aB p []⟩ 0
 |wait (x:ai):x∈s.az.ae->x.aa=a->x.aW=p->x.bl=true->Step s p a b 3 ⟨⟨s.az.aS,s.az.ae.filter λy=>!(y.aa==x.aa)⟩,s.aV,s.aI,s.aB⟩ x.b_
 |a_ (x:aA) (i:Nat):fP s.aI a= .ok x.aX->x∈s.aI.ae->ht s.aV p=some i->s.aV.length≠64->Step s p a b 4 ⟨s.az,bW (λy=>dF y ⟨p,i,x.aX⟩) ⟨p,i,x.aX⟩ s.aV,s.aI,s.aB⟩ i
 |close (w:Int):c7 s.aV p a=some w->Step s p a b 5 ⟨s.az,s.aV.filter λd=>!(d.aa==p&&d.bA==a),s.aI,s.aB⟩ 0
 |dup (w:Int) (i:Nat):c7 s.aV p a=some w->ht s.aV p=some i->s.aV.length≠64->Step s p a b 6 ⟨s.az,bW (λy=>dF y ⟨p,i,w⟩) ⟨p,i,w⟩ s.aV,s.aI,s.aB⟩ i
 |LJ:ct a=true->da s.aI a=none->s.aI.ae.length≠16->s.aI.bp<=1073741824->Step s p a b 7 ⟨s.az,s.aV,⟨s.aI.ae++[⟨a,s.aI.bp⟩],s.aI.bp+1⟩,s.aB⟩ s.aI.bp
 |OX (x:aA):x∈s.aI.ae->x.ba=a->(∀d∈s.aV,d.cf≠x.aX)->j3 s.aI a=false->Step s p a b 8 ⟨s.az,s.aV,⟨s.aI.ae.filter λx=>!(x.ba==a),s.aI.bp⟩,s.aB⟩ 0
 |resolve (i:Int):fP s.aI a= .ok i->Step s p a b 9 s i
 |register:eD a=true->dZ p=true->fq s.aB.au a=none->s.aB.au.length≠16->Step s p a b 10 ⟨s.az,s.aV,s.aI,⟨bW (λy=>decide (y.a1<a)) ⟨a,p⟩ s.aB.au,s.aB.ao⟩⟩ 0
 |unregister:eD a=true->fq s.aB.au a=some p->Step s p a b 11 ⟨s.az,s.aV,s.aI,qS s.aB a⟩ 0
 |lookup (q:Int):eD a=true->fq s.aB.au a=some q->Step s p a b 12 s q
 |send:dp s.az.ae a->(di s.aB a).length≠4->Step s p a b 13 ⟨s.az,s.aV,s.aI,fF s.aB a (di s.aB a++[b])⟩ 0
 |MX (v:Int) (ws:Γa):di s.aB p=v::ws->Step s p a b 14 ⟨s.az,s.aV,s.aI,fF s.aB p ws⟩ v
theorem Y5 {s:bb} (h:c5 s) {k p a b:Int} (R:1<=k/\k<=14) {n:bb} {v:Int} (hk:nh s k p a b= .ok (n,v)):Step s p a b k n v:=by
 unfold nh at hk
 by_cases B:k=1
 ·rw[if_pos B] at hk;subst B;cases e:iN s.az p with
  |error _=>rw[e] at hk;cases hk
  |ok r=>
   obtain⟨q,w⟩:=r;rw[e] at hk;cases hk;obtain⟨i,h1,c,rfl,rfl⟩:=ac1 e;exact .spawn i h1 c
 rw[if_neg B] at hk
 by_cases G:k=2
 ·rw[if_pos G] at hk;subst G;cases e:ij s.az p a with
  |error _=>rw[e] at hk;cases hk
  |ok q=>
   rw[e] at hk;obtain⟨h1,c,rfl⟩:=XH e
   by_cases y:ke s.aB p=[]
   ·simp only[y,if_true] at hk;cases hk;refine .exit ((hE h.p.ord).1 h1) c λn hn e=>?_;have:n.a1∈ke s.aB p:=ζM.2 ⟨n,ξ2.2 ⟨hn,by simpa using e⟩,rfl⟩;rw[y] at this;cases this
   ·simp only[y,if_false] at hk;cases hk
 rw[if_neg G] at hk
 by_cases H:k=3
 ·rw[if_pos H] at hk;subst H;cases e:iS s.az p a with
  |error _=>rw[e] at hk;cases hk
  |ok r=>
   obtain⟨q,w⟩:=r;rw[e] at hk;cases hk;obtain⟨x,A,rfl,h1,u,rfl,_,rfl⟩:=ad0 h.p e;exact .wait x A rfl h1 u
 rw[if_neg H] at hk
 by_cases I:k=4
 ·rw[if_pos I] at hk;subst I;cases e:fP s.aI a with
  |error _=>rw[e] at hk;cases hk
  |ok i=>
   rw[e] at hk;cases f:hC s.aV p i with
   |error _=>simp only[f] at hk;cases hk
   |ok r=>
    obtain⟨l,w⟩:=r;simp only[f] at hk;cases hk;obtain⟨x,A,rfl⟩:=ab9 e;obtain⟨j,h1,c,rfl,rfl⟩:=vr f;exact .a_ x j e A h1 c
 rw[if_neg I] at hk
 by_cases J:k=5
 ·rw[if_pos J] at hk;subst J;cases e:gP s.aV p a with
  |error _=>rw[e] at hk;cases hk
  |ok l=>
   rw[e] at hk;cases hk;obtain⟨w,hw,rfl⟩:=Ij e;exact .close w hw
 rw[if_neg J] at hk
 by_cases K:k=6
 ·rw[if_pos K] at hk;subst K;cases e:hr s.aV p a with
  |error _=>rw[e] at hk;cases hk
  |ok r=>
   obtain⟨l,w⟩:=r;rw[e] at hk;cases hk;obtain⟨bu,h1,c⟩:=IA e;obtain⟨j,g,o,rfl,rfl⟩:=vr c;exact .dup bu j h1 g o
 rw[if_neg K] at hk
 by_cases L:k=7
 ·rw[if_pos L] at hk;subst L;cases e:h9 s.aI a with
  |error _=>rw[e] at hk;cases hk
  |ok r=>
   obtain⟨m,w⟩:=r;rw[e] at hk;cases hk;obtain⟨h1,c,g,o,rfl,rfl⟩:=TL e;exact .LJ h1 c g o
 rw[if_neg L] at hk
 by_cases M:k=8
 ·rw[if_pos M] at hk;subst M;cases e:iG s.aI a with
  |error _=>rw[e] at hk;cases hk
  |ok i=>
   rw[e] at hk
   by_cases t:k7 s.aV i=0
   ·simp only[t,if_true] at hk;cases f:iQ s.aI a with
    |error _=>simp only[f] at hk;cases hk
    |ok m=>
     simp only[f] at hk;cases hk;obtain⟨h1,_,c,rfl⟩:=adA f;obtain⟨x0,Q,P,rfl⟩:=C8 (ZN e).2;refine .OX x0 Q P (λd u hw=>?_) c;have:d∈s.aV.filter λd=>d.cf==x0.aX:=ξ2.2 ⟨u,by simpa using hw⟩;rw[ξj t] at this;cases this
   ·simp only[t,if_false] at hk;cases hk
 rw[if_neg M] at hk
 by_cases N:k=9
 ·rw[if_pos N] at hk;subst N;cases e:fP s.aI a with
  |error _=>rw[e] at hk;cases hk
  |ok i=>rw[e] at hk;cases hk;exact .resolve _ e
 rw[if_neg N] at hk
 by_cases C:k=10
 ·rw[if_pos C] at hk;subst C;cases e:iK s.aB a p with
  |error _=>rw[e] at hk;cases hk
  |ok r=>
   rw[e] at hk;cases hk;obtain⟨h1,c,g,o,rfl⟩:=ab4 e;exact .register h1 c g o
 rw[if_neg C] at hk
 by_cases D:k=11
 ·rw[if_pos D] at hk;subst D;cases e:gz s.aB a with
  |error _=>rw[e] at hk;cases hk
  |ok q=>
   rw[e] at hk
   by_cases O:q=p
   ·subst O;simp only[if_true] at hk;cases hk;exact .unregister (p_ e).1 (p_ e).2
   ·simp only[O,if_false] at hk;cases hk
 rw[if_neg D] at hk
 by_cases E:k=12
 ·rw[if_pos E] at hk;subst E;cases e:gz s.aB a with
  |error _=>rw[e] at hk;cases hk
  |ok i=>rw[e] at hk;cases hk;exact .lookup _ (p_ e).1 (p_ e).2
 rw[if_neg E] at hk
 by_cases F:k=13
 ·rw[if_pos F] at hk;subst F;cases z:b1 s.az.ae a with
  |false=>rw[z] at hk;cases hk
  |true=>
   rw[z] at hk;cases e:kG s.aB a b with
   |error _=>rw[e] at hk;cases hk
   |ok r=>
    rw[e] at hk;cases hk;obtain⟨h1,rfl⟩:=acT e;exact .send ((hE h.p.ord).1 z) h1
 rw[if_neg F] at hk;obtain rfl:k=14:=by omega
 cases e:kC s.aB p with
 |error _=>rw[e] at hk;cases hk
 |ok r=>
  obtain⟨r,w⟩:=r;rw[e] at hk;cases hk;obtain⟨ws,h1,rfl⟩:=ab1 e;exact .MX _ ws h1
theorem Mf {s:bb} (h:c5 s) {p bu:Int} {i:Nat} (b:dp s.az.ae p) (hw: ∃x∈s.aI.ae,x.aX=bu) (h1:ht s.aV p=some i) (c:s.aV.length≠64):c5 ⟨s.az,bW (λy=>dF y ⟨p,i,bu⟩) ⟨p,i,bu⟩ s.aV,s.aI,s.aB⟩:=by
 refine⟨h.p,Z4 h.d (jH h.p b).2.1 h1 c,h.m,h.i,λd a=>?_,h.names,h.boxes⟩;rcases km.1 a with rfl|a
 ·exact⟨b,hw⟩
 ·exact h.bu d a
theorem ac9 {s:bb} (h:c5 s) {k p a b:Int} (hu:c9 a) (q:k≠9->k≠12->dp s.az.ae p) {n:bb} {v:Int} (hk:Step s p a b k n v):c5 n:=by
 cases hk with
 |spawn i h1 g=>
  have hm: ∀ {y},dp s.az.ae y->dp (bW (λy=>decide (ix y.aa<=i+1)) ⟨dz s.az i,p,false,0⟩ s.az.ae) y:=λ{y}=>NC λx j e d=>⟨x,km.2 (.inr j),e,d⟩;exact⟨ac0 h.p h1 g,h.d,h.m,h.i,λd c=>(h.bu d c).imp_left hm,λn hn=>hm (h.names n hn),λb f=>hm (h.boxes b f)⟩
 |exit l g A=>
  refine⟨XF h.p l g,h.d.filter _,h.m,FC h.i (jH h.p l).1 (ξC _),λd c=>?_,λn hn=>s9 (A n hn) (h.names n hn),λb f=>?_⟩
  ·obtain⟨c,o⟩:=ξ2.1 c;have o:d.aa≠p:=by simpa using o
   exact(h.bu d c).imp_left (s9 o)
  ·rcases wL.1 f with⟨f,o⟩|⟨hn,_⟩
   ·exact s9 o (h.boxes b f)
   ·exact(hn rfl).elim
 |wait x j _ _ c=>
  have hm: ∀ {y},dp s.az.ae y->dp (s.az.ae.filter λy=>!(y.aa==x.aa)) y:=λ{y}=>Pk h.p j c;exact⟨adZ h.p j c,h.d,h.m,h.i,λd c=>(h.bu d c).imp_left hm,λn hn=>hm (h.names n hn),λb f=>hm (h.boxes b f)⟩
 |a_ x i u j h1 g=>exact Mf h (q (by omega) (by omega)) ⟨x,j,rfl⟩ h1 g
 |close=>exact⟨h.p,h.d.filter _,h.m,h.i,λd c=>h.bu d (ξ2.1 c).1,h.names,h.boxes⟩
 |dup w i u h1 g=>
  obtain⟨d,c,_,_,rfl⟩:=JA u;exact Mf h (q (by omega) (by omega)) (h.bu d c).2 h1 g
 |LJ h1 g r t=>exact⟨h.p,h.d,TJ h.m hu h1 g r t,h.i,λd c=>⟨(h.bu d c).1,(h.bu d c).2.imp λx j=>⟨List.mem_append_left _ j.1,j.2⟩⟩,h.names,h.boxes⟩
 |OX x0 C B z g=>
  refine⟨h.p,h.d,h.m.filter _,h.i,λd c=>⟨(h.bu d c).1,?_⟩,h.names,h.boxes⟩;obtain⟨x,j,hw⟩:=(h.bu d c).2;refine⟨x,ξ2.2 ⟨j,?_⟩,hw⟩;have o:x.ba≠a:=λe=>by
   have:=Zo h.m j C (e.trans B.symm);subst this;exact z d c hw.symm
  simpa using o
 |resolve=>exact h
 |register h1 g r t=>
  refine⟨h.p,h.d,h.m,ab3 h.i hu h1 g r t,h.bu,λn hn=>?_,h.boxes⟩;rcases km.1 hn with rfl|hn
  ·exact q (by omega) (by omega)
  ·exact h.names n hn
 |unregister=>exact⟨h.p,h.d,h.m,adD h.i a,h.bu,λn hn=>h.names n (ξ2.1 hn).1,h.boxes⟩
 |lookup=>exact h
 |send l h1=>
  have:=Fx h.i a;refine⟨h.p,h.d,h.m,FC h.i (jH h.p l).1 (by rw[ζ,ψ];omega),h.bu,h.names,λb f=>?_⟩;rcases wL.1 f with⟨f,_⟩|⟨_,rfl⟩
  ·exact h.boxes b f
  ·exact l
 |MX v ws h1=>
  have l:=q (by omega) (by omega);have:=Fx h.i p;rw[h1,ξf] at this;refine⟨h.p,h.d,h.m,FC h.i (jH h.p l).1 (by omega),h.bu,h.names,λb f=>?_⟩;rcases wL.1 f with⟨f,_⟩|⟨_,rfl⟩
  ·exact h.boxes b f
  ·exact l
theorem Ue {s:bb} (h:c5 s) {c:cN} {n:bb} {v:Int} (hk:k2 s c= .ok (n,v)):Step s (ay c.fArgs 0) (ay c.fArgs 1) (ay c.fArgs 2) c.bm n v/\(c.bm≠9->c.bm≠12->dp s.az.ae (ay c.fArgs 0)):=by
 unfold k2 at hk;split at hk
 ·rename_i a;cases e:lH c||b1 s.az.ae (ay c.fArgs 0) with
  |false=>rw[e] at hk;cases hk
  |true=>
   rw[e] at hk;refine⟨Y5 h a hk,λb d=>?_⟩;rw[<-hE h.p.ord];simpa[lH,b,d] using e
 ·cases hk
def fj:Γa:=[2,4,5,6,310,321,322,323,324,341,351,361,362]
theorem IK {e:Int} (h:e∈fj):e≠0:=by
 intro a;subst a
 revert h
 decide
theorem gR {e:Int} (h:e∈fj):(e==0)=false:=by simpa using IK h
theorem OD {x:bF} {y e:Int} (h:iN x y= .error e):e∈fj:=by
 unfold iN at h;cases h1:b1 x.ae y with
 |false=>rw[h1] at h;cases h;decide
 |true=>
  rw[h1] at h;cases a:hT x<;>(rw[a] at h;cases h);decide
theorem IP {x:bF} {y z e:Int} (h:ij x y z= .error e):e∈fj:=by
 unfold ij at h;cases h1:b1 x.ae y with
 |false=>rw[h1] at h;cases h;decide
 |true=>
  rw[h1] at h;cases a:y==1<;>(rw[a] at h;cases h);decide
theorem Pj {x:bF} {y z e:Int} (h:iS x y z= .error e):e∈fj:=by
 unfold iS at h;cases h1:b1 x.ae y with
 |false=>rw[h1] at h;cases h;decide
 |true=>
  rw[h1] at h;cases a:ft x.ae z with
  |none=>rw[a] at h;cases h;decide
  |some u=>
   rw[a] at h;cases b:u.aW==y with
   |false=>simp only[b,cond_true,cond_false] at h;cases h;decide
   |true=>cases c:u.bl<;>(simp only[b,c,cond_true,cond_false] at h;cases h);decide
theorem D5 {x:List ak} {y z e:Int} (h:hC x y z= .error e):e∈fj:=by
 unfold hC at h;cases h1:ht x y with
 |none=>rw[h1] at h;cases h;decide
 |some i=>
  rw[h1] at h;cases a:x.length==64<;>(simp only[a,cond_true,cond_false] at h;cases h);decide
theorem Uq {x:List ak} {y z e:Int} (h:gP x y z= .error e):e∈fj:=by
 unfold gP at h;cases e:c7 x y z<;>(rw[e] at h;cases h);decide
theorem Iz {x:List ak} {y z e:Int} (h:hr x y z= .error e):e∈fj:=by
 unfold hr at h;cases e:c7 x y z with
 |none=>rw[e] at h;cases h;decide
 |some w=>rw[e] at h;exact D5 h
theorem vU {x:bT} {y e:Int} (h:fP x y= .error e):e∈fj:=by
 unfold fP at h;cases h1:ct y with
 |false=>rw[h1] at h;cases h;decide
 |true=>
  rw[h1] at h;cases a:wE x y<;>(rw[a] at h;cases h);decide
theorem L4 {x:bT} {y e:Int} (h:iG x y= .error e):e∈fj:=by
 unfold iG at h;cases h1:ct y with
 |false=>rw[h1] at h;cases h;decide
 |true=>
  rw[h1] at h;cases a:da x y<;>(rw[a] at h;cases h);decide
theorem HK {x:bT} {y e:Int} (h:h9 x y= .error e):e∈fj:=by
 unfold h9 at h;cases h1:ct y with
 |false=>rw[h1] at h;cases h;decide
 |true=>
  rw[h1] at h;cases a:da x y with
  |some _=>rw[a] at h;cases h;decide
  |none=>
   rw[a] at h;cases b:(x.ae.length==16||decide (x.bp>1073741824))<;>(simp only[b,cond_true,cond_false] at h;cases h);decide
theorem OY {x:bT} {y e:Int} (h:iQ x y= .error e):e∈fj:=by
 unfold iQ at h;cases h1:ct y with
 |false=>rw[h1] at h;cases h;decide
 |true=>
  rw[h1] at h;cases a:da x y with
  |none=>rw[a] at h;cases h;decide
  |some i=>
   rw[a] at h;cases b:j3 x y<;>(simp only[b,cond_true,cond_false] at h;cases h);decide
theorem uV {x:aL} {y e:Int} (h:gz x y= .error e):e∈fj:=by
 unfold gz at h;cases h1:eD y with
 |false=>rw[h1] at h;cases h;decide
 |true=>
  rw[h1] at h;cases a:fq x.au y<;>(rw[a] at h;cases h);decide
theorem MZ {x:aL} {y z e:Int} (h:iK x y z= .error e):e∈fj:=by
 unfold iK at h;cases h1:eD y with
 |false=>rw[h1] at h;cases h;decide
 |true=>
  cases a:dZ z with
  |false=>rw[h1,a] at h;cases h;decide
  |true=>
   rw[h1,a] at h;cases b:fq x.au y with
   |some _=>rw[b] at h;cases h;decide
   |none=>
    rw[b] at h;cases c:x.au.length==16<;>(simp only[c,cond_true,cond_false] at h;cases h);decide
theorem acS {x:aL} {y z e:Int} (h:kG x y z= .error e):e∈fj:=by
 unfold kG at h;cases e:(di x y).length==4<;>(rw[e] at h;cases h);decide
theorem ab0 {x:aL} {y e:Int} (h:kC x y= .error e):e∈fj:=by
 unfold kC at h;cases e:di x y<;>(rw[e] at h;cases h);decide
theorem Y4 {s:bb} {k p a b e:Int} (hk:nh s k p a b= .error e):e∈fj:=by
 unfold nh at hk
 by_cases j:k=1
 ·rw[if_pos j] at hk;cases e:iN s.az p with
  |error _=>rw[e] at hk;cases hk;exact OD e
  |ok r=>rw[e] at hk;cases hk
 rw[if_neg j] at hk
 by_cases u:k=2
 ·rw[if_pos u] at hk;cases e:ij s.az p a with
  |error _=>rw[e] at hk;cases hk;exact IP e
  |ok r=>
   rw[e] at hk
   by_cases f:ke s.aB p=[]
   ·simp only[f,if_true] at hk;cases hk
   ·simp only[f,if_false] at hk;cases hk;decide
 rw[if_neg u] at hk
 by_cases v:k=3
 ·rw[if_pos v] at hk;cases e:iS s.az p a with
  |error _=>rw[e] at hk;cases hk;exact Pj e
  |ok r=>rw[e] at hk;cases hk
 rw[if_neg v] at hk
 by_cases w:k=4
 ·rw[if_pos w] at hk;cases e:fP s.aI a with
  |error _=>rw[e] at hk;cases hk;exact vU e
  |ok i=>
   rw[e] at hk;cases c:hC s.aV p i with
   |error _=>simp only[c] at hk;cases hk;exact D5 c
   |ok r=>simp only[c] at hk;cases hk
 rw[if_neg w] at hk
 by_cases x:k=5
 ·rw[if_pos x] at hk;cases e:gP s.aV p a with
  |error _=>rw[e] at hk;cases hk;exact Uq e
  |ok r=>rw[e] at hk;cases hk
 rw[if_neg x] at hk
 by_cases y:k=6
 ·rw[if_pos y] at hk;cases e:hr s.aV p a with
  |error _=>rw[e] at hk;cases hk;exact Iz e
  |ok r=>rw[e] at hk;cases hk
 rw[if_neg y] at hk
 by_cases z:k=7
 ·rw[if_pos z] at hk;cases e:h9 s.aI a with
  |error _=>rw[e] at hk;cases hk;exact HK e
  |ok r=>rw[e] at hk;cases hk
 rw[if_neg z] at hk
 by_cases A:k=8
 ·rw[if_pos A] at hk;cases e:iG s.aI a with
  |error _=>rw[e] at hk;cases hk;exact L4 e
  |ok i=>
   rw[e] at hk
   by_cases d:k7 s.aV i=0
   ·simp only[d,if_true] at hk;cases c:iQ s.aI a with
    |error _=>simp only[c] at hk;cases hk;exact OY c
    |ok m=>simp only[c] at hk;cases hk
   ·simp only[d,if_false] at hk;cases hk;decide
 rw[if_neg A] at hk
 by_cases B:k=9
 ·rw[if_pos B] at hk;cases e:fP s.aI a with
  |error _=>rw[e] at hk;cases hk;exact vU e
  |ok r=>rw[e] at hk;cases hk
 rw[if_neg B] at hk
 by_cases l:k=10
 ·rw[if_pos l] at hk;cases e:iK s.aB a p with
  |error _=>rw[e] at hk;cases hk;exact MZ e
  |ok r=>rw[e] at hk;cases hk
 rw[if_neg l] at hk
 by_cases n:k=11
 ·rw[if_pos n] at hk;cases e:gz s.aB a with
  |error _=>rw[e] at hk;cases hk;exact uV e
  |ok q=>
   rw[e] at hk
   by_cases g:q=p
   ·simp only[g,if_true] at hk;cases hk
   ·simp only[g,if_false] at hk;cases hk;decide
 rw[if_neg n] at hk
 by_cases o:k=12
 ·rw[if_pos o] at hk;cases e:gz s.aB a with
  |error _=>rw[e] at hk;cases hk;exact uV e
  |ok r=>rw[e] at hk;cases hk
 rw[if_neg o] at hk
 by_cases t:k=13
 ·rw[if_pos t] at hk;cases h:b1 s.az.ae a with
  |false=>rw[h] at hk;cases hk;decide
  |true=>
   rw[h] at hk;cases e:kG s.aB a b with
   |error _=>rw[e] at hk;cases hk;exact acS e
   |ok r=>rw[e] at hk;cases hk
 rw[if_neg t] at hk;cases e:kC s.aB p with
 |error _=>rw[e] at hk;cases hk;exact ab0 e
 |ok r=>rw[e] at hk;cases hk
theorem Ud {s:bb} {c:cN} {e:Int} (hk:k2 s c= .error e):e∈fj:=by
 unfold k2 at hk;split at hk
 ·cases h1:lH c||b1 s.az.ae (ay c.fArgs 0) with
  |false=>rw[h1] at hk;cases hk;decide
  |true=>rw[h1] at hk;exact Y4 hk
 ·cases hk;decide
theorem filter_all {α:Type} {l:List α} {p:α->Bool} (h: ∀z∈l,p z=true):l.filter p=l:=List.filter_eq_self.2 h
section
variable {α σ X β:Type}
theorem ER {step:Int->α->Unit->Option (Unit⊕X)} {fin:Int->Unit->Option X} {p:α->Bool} {e:Nat->X} {l:List α} (h: ∀(i:Nat) z,l[i]? =some z->step i z ()=bif p z then some (.inr (e i)) else some (.inl ())):
  bS step fin 0 l ()=match l.findIdx? p with|some i=>some (e i)|none=>fin (l.length:Int) ():=by
 suffices H: ∀(r pre:List α),l=pre++r->bS step fin pre.length r ()=match r.findIdx? p with|some i=>some (e (pre.length+i))|none=>fin (l.length:Int) () by
  have:=H l [] rfl;simpa using this
 intro r
 induction r with
 |nil=>intro pre e;rw[e,ξ6];rfl
 |cons z r b=>
  intro pre a;rw[gG,h pre.length z (by rw[a];simp),ζ6];cases hp:p z with
  |true=>simp
  |false=>
   simp only[cond_false,δ];have:=b (pre++[z]) (by rw[a];simp);rw[show(pre++[z]).length=pre.length+1 by simp] at this;rw[this];cases c:r.findIdx? p with
   |none=>rfl
   |some i=>simp only[ξD,ξy,if_false];rw[show pre.length+1+i=pre.length+(i+1) by omega]
theorem EP {step:Int->α->σ->Option (σ⊕X)} {fin:Int->σ->Option X} {g:σ->α->σ} {Q:Nat->σ->Prop} {l:List α} (h: ∀(i:Nat) z a,l[i]? =some z->Q i a->step i z a=some (.inl (g a z))/\Q (i+1) (g a z)):
  ∀(r pre:List α) (a:σ),l=pre++r->Q pre.length a->bS step fin pre.length r a=fin (l.length:Int) (r.foldl g a)
 |[],pre,a,e,_=>by rw[e,ξ6];rfl
 |z::r,pre,a,e,c=>by
  obtain⟨h1,b⟩:=h pre.length z a (by rw[e];simp) c;rw[gG,h1];have:=EP (fin:=fin) h r (pre++[z]) (g a z) (by rw[e];simp) (by rw[ζ,ψ];exact b);rw[ζ,ψ] at this;exact this
theorem Ck {p:α->Bool} {f:α->β}: ∀(l:List α) (a:List β),l.foldl (λa z=>if p z then a++[f z] else a) a=a++(l.filter p).map f
 |[],a=>by simp
 |z::r,a=>by
  rw[ζV,Ck r];cases hp:p z<;>simp[hp]
theorem JY {p:Bool} {a:List β} {y:β} {i:Nat} (h:a.length<=i):(if p then a++[y] else a).length<=i+1:=by
 split
 ·simp;omega
 ·omega
theorem qE {step:Int->α->List β->Option (List β⊕X)} {fin:Int->List β->Option X} {p:α->Bool} {f:α->β} {l:List α} (h: ∀(i:Nat) z a,l[i]? =some z->a.length<=i->step i z a=some (.inl (if p z then a++[f z] else a))):
  bS step fin 0 l []=fin (l.length:Int) ((l.filter p).map f):=by
 have:=EP (fin:=fin) (Q:=λi a=>a.length<=i) (g:=λa z=>if p z then a++[f z] else a) (λi z a c b=>⟨h i z a c b,JY b⟩) l [] [] rfl (ξ4 0);rw[Ck] at this;exact this
theorem Pp {step:Int×σ->Option ((Int×σ)⊕X)} {g:σ->α->σ} {Q:Nat->σ->Prop} {x:σ->X} {l:List α} (h: ∀(i:Nat) z a,l[i]? =some z->Q i a->step ((i:Int),a)=some (.inl (((i+1:Nat):Int),g a z))/\Q (i+1) (g a z)) (d: ∀a,Q l.length a->step ((l.length:Int),a)=some (.inr (x a))):
  ∀(r pre:List α) (a:σ) (n:Nat),l=pre++r->Q pre.length a->r.length<n->b4 step n ((pre.length:Int),a)=some (x (r.foldl g a))
 |[],pre,a,n+1,e,b,_=>by
  have c:l=pre:=by rw[e,ξ6]
  rw[eI,<-c,d a (c▸b)];rfl
 |z::r,pre,a,n+1,e,b,hn=>by
  obtain⟨h1,f⟩:=h pre.length z a (by rw[e];simp) b;rw[eI,h1];have:=Pp h d r (pre++[z]) (g a z) n (by rw[e];simp) (by rw[ζ,ψ];exact f) (by simpa using hn);rw[ζ,ψ] at this;exact this
theorem FB {step:Int×List β->Option ((Int×List β)⊕X)} {p:α->Bool} {f:α->β} {x:List β->X} {l:List α} {n:Nat} (h: ∀(i:Nat) z a,l[i]? =some z->a.length<=i->step ((i:Int),a)=some (.inl (((i+1:Nat):Int),if p z then a++[f z] else a))) (c: ∀a,step ((l.length:Int),a)=some (.inr (x a))) (hn:l.length<n):
  b4 step n (0,[])=some (x ((l.filter p).map f)):=by
 have:=Pp (Q:=λi a=>a.length<=i) (g:=λa z=>if p z then a++[f z] else a) (λi z a d b=>⟨h i z a d b,JY b⟩) (λa _=>c a) l [] [] n rfl (ξ4 0) hn;rw[Ck] at this;exact this
theorem n_ {g:α->α} {l:List α} {i:Nat} (h:i<l.length):((l.take i).map g++l.drop i).set i (g l[i])=(l.take (i+1)).map g++l.drop (i+1):=by
 have e:((l.take i).map g).length=i:=by simp;omega
 rw[ζq (h:=by omega),e,ξO,ξ3 h,ζF,List.take_succ_eq_append_getElem h,ζr,ν];rfl
theorem get_map {g:α->α} {l:List α} {i:Nat} (h:i<l.length):((l.take i).map g++l.drop i)[i]? =some l[i]:=by
 have e:((l.take i).map g).length=i:=by simp;omega
 rw[φ (by omega),e,ξO,ξ3 h];rfl
theorem ad5 {step:Int×List α->Option ((Int×List α)⊕X)} {g:α->α} {x:List α->X} {l:List α} {n:Nat} (h: ∀(i:Nat) (hi:i<l.length) (a:List α),a[i]? =some l[i]->a.length=l.length->step ((i:Int),a)=some (.inl (((i+1:Nat):Int),a.set i (g l[i])))) (b: ∀a,step ((l.length:Int),a)=some (.inr (x a))) (hn:l.length<n):
  b4 step n (0,l)=some (x (l.map g)):=by
 suffices H: ∀(k i n:Nat),i+k=l.length->k<n->b4 step n ((i:Int),(l.take i).map g++l.drop i)=some (x (l.map g)) by
  have:=H l.length 0 n (by omega) hn;simpa using this
 intro k
 induction k with
 |zero=>
  intro i n e hn;obtain⟨m,rfl⟩: ∃m,n=m+1:=⟨n-1,by omega⟩;obtain rfl:i=l.length:=by omega
  rw[eI,b];simp
 |succ k c=>
  intro i n e hn;obtain⟨m,rfl⟩: ∃m,n=m+1:=⟨n-1,by omega⟩;have hi:i<l.length:=by omega
  rw[eI,h i hi _ (get_map hi) (by simp;omega),n_ hi];exact c (i+1) m (by omega) (by omega)
theorem I0 {p:α->Bool}: ∀ {l:List α},l.find? p=(l.findIdx? p).bind λi=>l[i]?
 |[]=>rfl
 |z::r=>by
  rw[ξZ,ζ6];cases hp:p z with
  |true=>rfl
  |false=>
   rw[I0];cases r.findIdx? p<;>rfl
theorem findIdx_take {p:α->Bool}: ∀ {l:List α},l.take ((l.findIdx? p).getD l.length)=l.takeWhile (λz=>!p z)/\l.drop ((l.findIdx? p).getD l.length)=l.dropWhile (λz=>!p z)
 |[]=>⟨rfl,rfl⟩
 |z::r=>by
  rw[ζ6,ξu,ζ0];cases hp:p z with
  |true=>exact⟨rfl,rfl⟩
  |false=>
   have:=findIdx_take (p:=p) (l:=r);cases e:r.findIdx? p with
   |none=>
    rw[e] at this;simpa using this
   |some i=>
    rw[e] at this;simpa using this
end
theorem Be {X:Type} {step:Int×Int->Option ((Int×Int)⊕X)} {q:Nat->Bool} {N c:Nat} {x:X} (g:c<=N) (h1: ∀i,i<c->q i=true) (b: ∀i,c<=i->i<N->q i=false)
  (h: ∀lo hi:Nat,lo<hi->hi<=N->step ((lo:Int),(hi:Int))=some (.inl (if q ((lo+hi)/2) then((((lo+hi)/2+1:Nat):Int),(hi:Int)) else((lo:Int),(((lo+hi)/2:Nat):Int)))))
  (f:step ((c:Int),(c:Int))=some (.inr x)): ∀(d lo hi n:Nat),hi-lo<=d->d<n->lo<=c->c<=hi->hi<=N->b4 step n ((lo:Int),(hi:Int))=some x
 |d,lo,hi,0,_,hn,_,_,_=>by omega
 |d,lo,hi,n+1,l,hn,hl,j,hm=>by
  rw[eI]
  by_cases e:lo=hi
  ·obtain rfl:lo=c:=by omega
   obtain rfl:lo=hi:=e;rw[f];rfl
  ·rw[h lo hi (by omega) hm,δ];cases a:q ((lo+hi)/2) with
   |true=>
    have:(lo+hi)/2<c:=Nat.lt_of_not_le λhle=>by rw[b _ hle (by omega)] at a;cases a
    exact Be g h1 b h f (d-1) _ hi n (by omega) (by omega) (by omega) j hm
   |false=>
    have:c<=(lo+hi)/2:=Nat.le_of_not_lt λk=>by rw[h1 _ k] at a;cases a
    exact Be g h1 b h f (d-1) lo _ n (by omega) (by omega) hl this (by omega)
theorem half {lo hi:Nat} (h:lo+hi<4611686018427387904):γ.wrap ((ο.wrap (γ.wrap ((lo:Int)+(hi:Int)))).fdiv 2)=(((lo+hi)/2:Nat):Int):=by
 rw[du (x:=(lo:Int)+hi) (by omega) (by omega),jN (x:=(lo:Int)+hi) (by omega) (by omega),ζ2 _ (by omega),du (by omega) (by omega)];omega
theorem A9 {α:Type} {lt:α->Bool}: ∀ {l:List α},l.Pairwise (λa b=>lt b=true->lt a=true)-> ∀(i:Nat) z,l[i]? =some z->(lt z=true↔i<(l.takeWhile lt).length)
 |[],_,i,z,h=>by simp at h
 |y::r,c,i,z,h=>by
  rw[υ] at c;rw[ξu];cases d:lt y with
  |true=>
   cases i with
   |zero=>simp at h;subst h;simp[d]
   |succ i=>simpa using A9 c.2 i z (by simpa using h)
  |false=>
   simp only[ξy,if_false,ξE,Nat.not_lt_zero,iff_false];intro e;cases i with
   |zero=>simp at h;subst h;rw[d] at e;cases e
   |succ i=>
    have:=c.1 z (ξc (by simpa using h:r[i]? =some z)) e;rw[d] at this;cases this
theorem gN {α:Type} {b:Nat} {l:List α} (h:l.length*b<=140737488355328):app b [] l=some l:=by
 rw[sN (by simpa using h)];rfl
theorem hj {α:Type} {b i n:Nat} {a:List α} {z:α} (h1:a.length<=i) (d:i<n) (c:(n+1)*b<=140737488355328):app b a [z]=some (a++[z]):=
 sN (ξB (Nat.mul_le_mul_right b (by simp;omega)) c)
theorem Jt {p:bF} (h:dC p):xl p:=⟨h.u,by have:=h.len;unfold maxLen;omega⟩
theorem f46 {p:bF} (h:dC p):j_ ab p=some 0:=by rw[v46 (Jt h),Nh h];rfl
theorem ZL (l:List ai) (pid:Int):ft l pid=(l.findIdx? λz=>z.aa==pid).bind λi=>l[i]? :=I0
theorem Eh {S:Int->ai->Unit->T (Unit⊕Nat⊕(Bool×Int))} {F:Int->Unit->T (Nat⊕(Bool×Int))} {l:List ai} {pid:Int}
  (b:(F (l.length:Int) ()).val=some (.inr (false,(l.length:Int))))
  (c: ∀(i:Int) z,(S i z ()).val=(l[i.toNat]?).bind λf=>bif f.aa==pid then some (.inr (.inl i.toNat)) else some (.inl ())):
  bS (λi z a=>(S i z a).val) (λi a=>(F i a).val) 0 l ()=match l.findIdx? (λz=>z.aa==pid) with|some i=>some (.inl i)|none=>some (.inr (false,(l.length:Int))):=by
 rw[ER (p:=λz=>z.aa==pid) (e:=λi=>.inl i) λi z d=>by rw[c,θ,d];rfl,b]
 first|done|(cases l.findIdx? (λz=>z.aa==pid)<;>rfl)
theorem RE (g:Γa) (l:List ai) (pid:Int):yX ab g l pid=match l.findIdx? (λz=>z.aa==pid) with|some i=>some (.inl i)|none=>some (.inr (false,(l.length:Int))):=
 Eh (by unfold w3;simp) λi z=>rfl
theorem RF (g:Γa) (l:List ai) (pid:Int):yY ab g l pid=match l.findIdx? (λz=>z.aa==pid) with|some i=>some (.inl i)|none=>some (.inr (false,(l.length:Int))):=
 Eh (by unfold w5;simp) λi z=>rfl
theorem RG (g:Γa) (l:List ai) (pid:Int):r0 ab g l pid=match l.findIdx? (λz=>z.aa==pid) with|some i=>some (.inl i)|none=>some (.inr (false,(l.length:Int))):=
 Eh (by unfold w6;simp) λi z=>rfl
theorem v72 {p:bF} (h:dC p) (pid:Int):B0 ab p pid=some (match ft p.ae pid with|some z=>(z,true)|none=>(⟨0,0,false,0⟩,false)):=by
 show(zZ ab p pid).val=_;unfold zZ;have b:yW ab p.aS p.ae pid=match p.ae.find? (λz=>z.aa==pid) with|some z=>some (.inl z)|none=>some (.inr (false,(p.ae.length:Int))):=by
  show bS (λi z a=>(r' ab p.aS p.ae pid i z a).val) (λi a=>(q5 ab p.aS p.ae pid i a).val) 0 p.ae ()=_;rw[qD (p:=λz=>z.aa==pid) (e:=λz=>.inl z)]
  ·cases p.ae.find? (λz=>z.aa==pid) with
   |none=>unfold q5;simp
   |some z=>rfl
  ·intro i z _;unfold r';cases h:z.aa==pid<;>simp
 simp only[T.aN,T.aE,T.bM,T.cM,T.aC,f46 h,δ,b,ft];cases p.ae.find? (λz=>z.aa==pid)<;>rfl
theorem v28 {p:bF} (h:dC p) (pid:Int):pI ab p pid=some (b1 p.ae pid):=by
 show(AO ab p pid).val=_;unfold AO b1;simp only[T.aN,v72 h,δ];cases ft p.ae pid<;>rfl
def FL:bF:=⟨[0,0,0,0,0,0,0,0,0,0,0,0,0,0,0,0],[]⟩
theorem v' (l:List ai) (pid:Int):(l.findIdx? (λz=>z.aa==pid)=none/\b1 l pid=false/\ft l pid=none)\/ ∃i x,l.findIdx? (λz=>z.aa==pid)=some i/\l[i]? =some x/\b1 l pid=(!x.bl)/\ft l pid=some x/\x.aa=pid:=by
 have h:=ZL l pid;cases e:l.findIdx? (λz=>z.aa==pid) with
 |none=>
  rw[e] at h;exact .inl ⟨rfl,by unfold b1;rw[h];rfl,h⟩
 |some i=>
  rw[e] at h;obtain⟨hi,hp,_⟩:=ξQ.1 e;have a:l[i]? =some l[i]:=ε hi;rw[δ,a] at h;exact .inr ⟨i,l[i],rfl,a,by unfold b1;rw[h],h,by simpa using hp⟩
theorem RK (l:List ai) {a:Nat} (d:a<16):zh ab l (a:Int)=match l.findIdx? (λz=>ix z.aa==(a:Int)+1) with|some i=>some (.inl (i:Int))|none=>some (.inr (false,(l.length:Int))):=by
 show bS (λi z b=>(sm ab l a i z b).val) (λi b=>(ri ab l a i b).val) 0 l ()=_;rw[ER (p:=λz=>ix z.aa==(a:Int)+1) (e:=λi=>.inl (i:Int))]
 ·unfold ri;cases l.findIdx? (λz=>ix z.aa==(a:Int)+1)<;>simp
 ·intro i z c;unfold sm;simp only[T.aN,T.aE,T.aC,θ,c,v93,δ];rw[du (by omega) (by omega)]
theorem TV {α:Type} {p:α->Bool} {l:List α}:l.any p=(l.findIdx? p).isSome:=by rw[ξd,ζh,List.findIdx?_isSome,ζh]
theorem RU {p:bF} (h:dC p) {a:Nat} (c:a<16):(mj ab p.aS p.ae (a:Int)).val=bif !(!(p.ae.any λx=>ix x.aa==(a:Int)+1)&&decide (ay p.aS a<=65535)) then some (.inl ((a+1:Nat):Int)) else some (.inr (.inr (true,ay p.aS a,a,(a:Int),true,false,true))):=by
 unfold mj;have d:decide ((a:Int)<16)=true:=decide_eq_true (by omega);have hw:γ.wrap ((a:Int)+1)=((a+1:Nat):Int):=du (by omega) (by omega);have hn:ew (a:Int) 16=some a:=by rw[ly (by omega) (by omega),θ]
 simp only[T.aN,T.aE,T.aC,T.bM,T.cM,d,hw,hn,RK p.ae c,TV,μ,cond_false,δ];cases e:p.ae.findIdx? (λz=>ix z.aa==(a:Int)+1) with
 |some i=>
  have:decide ((i:Int)>=0)=true:=decide_eq_true (by omega);simp[this]
 |none=>
  cases b:decide (ay p.aS a<=65535)<;>simp[b]
theorem RJ {p:bF} (h:dC p):y7 ab p.aS p.ae 0=match hT p with|some i=>some (.inr (true,ay p.aS i,i,(i:Int),true,false,true))|none=>some (.inl (false,16)):=by
 show b4 (λa=>(mj ab p.aS p.ae a).val) 1000000 ((0:Nat):Int)=_;rw[wJ (q:=λa:Nat=>!(!(p.ae.any λx=>ix x.aa==(a:Int)+1)&&decide (ay p.aS a<=65535))) (x:=λa=>.inr (true,ay p.aS a,a,(a:Int),true,false,true)) (y:=.inl (false,16)) (N:=16) (λa b=>RU h b) (by unfold mj;rfl) (k:=16) (by omega) (by omega)];unfold hT;rw[ζx];simp only[ζs];cases (ηm 0 16).find? (λi:Nat=>!(p.ae.any λx=>ix x.aa==(i:Int)+1)&&decide (ay p.aS i<=65535))<;>rfl
theorem RL (l:List ai) (a b:Int):zi ab l a b=match l.findIdx? (λz=>decide (ix z.aa>ix a)) with|some i=>some (.inl (i:Int))|none=>some (.inr (false,(l.length:Int))):=by
 show bS (λi z c=>(sn ab l a b i z c).val) (λi c=>(rj ab l a b i c).val) 0 l ()=_;rw[ER (p:=λz=>decide (ix z.aa>ix a)) (e:=λi=>.inl (i:Int))]
 ·unfold rj;cases l.findIdx? (λz=>decide (ix z.aa>ix a))<;>simp
 ·intro i z d;unfold sn;simp only[T.aN,T.aE,T.aC,θ,d,v93,δ]
theorem YQ {α:Type} {b:Nat} {l:List α} {p lt:α->Bool} {x:α} (hl:(l.length+1)*b<=1099511627776) (hp: ∀z,lt z=!p z):
  Go.Dc.hv b l (((l.findIdx? p).getD l.length:Nat):Int) [x]=some (bW lt x l):=by
 obtain rfl:lt=λz=>!p z:=funext hp;obtain⟨h1,a⟩:=findIdx_take (p:=p) (l:=l);have hlen:(l.findIdx? p).getD l.length<=l.length:=by
  cases e:l.findIdx? p with
  |none=>exact ξ4 _
  |some i=>exact Nat.le_of_lt (ξQ.1 e).1
 unfold Go.Dc.hv bW;rw[if_pos ⟨by omega,by omega,by simpa using hl⟩,θ,h1,a];simp
theorem adJ {p:bF} (h:dC p) (parent:Int):s' ab p parent=some (match iN p parent with| .ok (q,v)=>(q,v,0)| .error e=>(FL,0,e)):=by
 show(z8 ab p parent).val=_;unfold z8;have hlen:=h.len;simp only[T.aN,T.aE,T.aC,T.bM,T.cM,T.l1,f46 h,gN (b:=32) (l:=p.ae) (by omega),RE,δ,show(!((0:Int)==0))=false from rfl,cond_false];unfold iN;rcases v' p.ae parent with⟨c,d,_⟩|⟨j,x,c,d,f,_⟩
 ·simp only[c,d,δ,cond_false];rfl
 ·simp only[c,d,f,δ,ζs];cases o:x.bl with
  |true=>rfl
  |false=>
   simp only[RJ h,cond_false,cond_true,ξ1,T.aN,T.aE,T.aC,T.bM,T.cM,T.l1];cases hl:hT p with
   |none=>rfl
   |some i=>
    obtain⟨h1,m,n⟩:=DA hl;obtain⟨n0,n1,n2,s⟩:=LO h hl;have r:=h.kb i h1;have hn:ew (i:Int) 16=some i:=by rw[ly (by omega) (by omega),θ]
    have hw:ο.wrap (γ.wrap (γ.wrap (γ.wrap (ay p.aS i*64)+i)+1))=dz p i:=by
     unfold dz;rw[du (x:=ay p.aS i*64) (by omega) (by omega),du (x:=ay p.aS i*64+i) (by omega) (by omega),du (by omega) (by omega),jN (by omega) (by omega)]
    have g:γ.wrap (ay p.aS i+1)=ay p.aS i+1:=du (by omega) (by omega);have a:=YQ (b:=32) (l:=p.ae) (p:=λz=>decide (ix z.aa>ix (dz p i))) (lt:=λy=>decide (ix y.aa<=i+1)) (x:=ai.mk (dz p i) parent false 0) (by omega) (λz=>by rw[n2,ξd];simp);simp only[δ,hn,hw,g,RL,h.gl,η7,show Nat.beq 16 16=true from rfl,cond_true,lz];cases e:p.ae.findIdx? (λz=>decide (ix z.aa>ix (dz p i))) with
    |none=>
     rw[e,ζi] at a;simp only[δ,a]
    |some k=>
     rw[e,ξK] at a;have hk:decide ((k:Int)<0)=false:=decide_eq_false (by omega);simp only[δ,a,hk,cond_false]
theorem adL {p:bF} (h:dC p) (pid child:Int):te ab p pid child=some (match iS p pid child with| .ok (q,v)=>(q,v,0)| .error e=>(FL,0,e)):=by
 show(Ab ab p pid child).val=_;unfold Ab;have hlen:=h.len;have o:y9 ab p.ae child []=some (false,(p.ae.length:Int),p.ae.filter λy=>!(y.aa==child)):=by
  show bS (λi z a=>(se ab p.ae child i z a).val) (λi a=>(q9 ab p.ae child i a).val) 0 p.ae []=_;rw[qE (p:=λy=>!(y.aa==child)) (f:=id)]
  ·unfold q9;simp
  ·intro i z a g r;unfold se;have hi:=(η.1 g).1;simp only[T.aN,T.aE,T.aC,θ,g,δ,hj (b:=32) (z:=z) r hi (by omega)];cases e:z.aa==child<;>simp[bne,e]
 simp only[T.aN,T.aE,T.aC,T.bM,T.cM,T.l1,f46 h,gN (b:=32) (l:=p.ae) (by omega),RG,δ,show(!((0:Int)==0))=false from rfl,cond_false,o];unfold iS;rcases v' p.ae pid with⟨c,d,_⟩|⟨j,x,c,d,n,_⟩
 ·simp only[c,d,δ,cond_false];rfl
 ·simp only[c,d,n,δ,ζs];cases s:x.bl with
  |true=>rfl
  |false=>
   simp only[cond_false,cond_true,ξ1];rcases v' p.ae child with⟨c1,_,c2⟩|⟨k,y,c1,c2,_,m,_⟩
   ·simp only[c1,c2,δ];rfl
   ·simp only[c1,c2,m,δ];cases y.aW==pid<;>cases y.bl<;>rfl
def uX (pid code:Int) (z:ai):ai:=bif z.aa==pid then⟨z.aa,z.aW,true,code⟩ else z
def p8 (pid:Int) (o:Bool) (z:ai):Bool:=(!(z.aa==pid)||!o)&&(!(z.aW==pid)||!z.bl)
def pM (pid:Int) (z:ai):ai:=bif z.aW==pid then⟨z.aa,0,z.bl,z.b_⟩ else z
theorem IY {α β:Type} {m:α->β} {k:β->Bool} {g:β->β}: ∀l:List α,((l.map m).filter k).map g=l.filterMap λz=>if k (m z) then some (g (m z)) else none
 |[]=>rfl
 |z::r=>by
  rw[η8,ξv,ξN,<-IY r];cases k (m z)<;>rfl
theorem I5 {α β:Type} {f g:α->Option β}: ∀ {l:List α},(∀z∈l,f z=g z)->l.filterMap f=l.filterMap g
 |[],_=>rfl
 |z::r,h=>by rw[ξN,ξN,h z ξq,I5 λy a=>h y (ξ9 _ a)]
theorem e9 {α:Type} {l:List α} {i:Nat} {z:α} (h:l[i]? =some z):idx l (i:Int)=some z:=by
 unfold idx;rw[if_pos (by omega),θ,h]
theorem XI {p:bF} (h:dC p) {pid code:Int} {i:Nat} {x:ai} (b:p.ae[i]? =some x) (hp:x.aa=pid):
  ((p.ae.set i ⟨x.aa,x.aW,true,code⟩).filter (p8 pid (x.aW==0))).map (pM pid)=p.ae.filterMap (fY pid code):=by
 have hm:p.ae.set i ⟨x.aa,x.aW,true,code⟩=p.ae.map (uX pid code):=by
  refine ξG λj=>?_;rw[ξW,ξH]
  by_cases e:i=j
  ·subst e;rw[if_pos rfl,if_pos (η.1 b).1,b];simp[uX,hp]
  ·rw[if_neg e];cases o:p.ae[j]? with
   |none=>rfl
   |some z=>
    have:z.aa≠pid:=λa=>by
     obtain⟨h1,d⟩:=η.1 b;obtain⟨f,g⟩:=η.1 o;have:=ω.1 h.ord;rcases Nat.lt_or_gt_of_ne e with k|k
     ·have:=this i j h1 f k;rw[d,g,hp,a] at this;omega
     ·have:=this j i f h1 k;rw[d,g,hp,a] at this;omega
    have m:(z.aa==pid)=false:=by simpa using this
    simp[uX,m]
 rw[hm,IY];refine I5 λz l=>?_;have q:=ξc b;unfold uX fY p8 pM;cases c:z.aa==pid with
 |true=>
  have:z=x:=vD h.ord l q ((eq_of_beq c).trans hp.symm);subst this;have:(z.aW==pid)=false:=by have:=(h.one z l).self;rw[<-hp];simpa using this
  cases a:z.aW==0<;>simp[c,this]
 |false=>
  cases a:z.aW==pid<;>cases n:z.bl<;>simp[c,a,n]
theorem adK {p:bF} (h:dC p) (pid code:Int):ta ab p pid code=some (match ij p pid code with| .ok q=>(q,0)| .error e=>(FL,e)):=by
 show(z_ ab p pid code).val=_;unfold z_;have hlen:=h.len;have w: ∀(l:List ai) (o:Bool),l.length<=16->y8 ab l pid o (l.length:Int) 0 []=some (false,(l.length:Int),l.filter (p8 pid o)):=by
  intro l o hl;show b4 (λa=>(oP ab l pid o (l.length:Int) a).val) 1000000 (0,[])=_;rw[FB (p:=p8 pid o) (f:=id) (x:=λa=>(false,(l.length:Int),a)) (l:=l) (λi z a s B=>?_) (λa=>?_) (by omega),ζW]
  ·have hi:=(η.1 s).1;have n:decide ((i:Int)<(l.length:Int))=true:=decide_eq_true (by omega);have hw:γ.wrap ((i:Int)+1)=((i+1:Nat):Int):=du (by omega) (by omega);unfold oP p8;simp only[T.aN,T.aE,T.aC,n,cond_true,e9 s,θ,s,δ,hw,bne,hj (b:=32) (z:=z) B hi (by omega)];cases z.aa==pid<;>cases z.aW==pid<;>cases z.bl<;>cases o<;>rfl
  ·unfold oP;simp
 have A: ∀(a:Γa) (b:List ai) (c d:Int) (l:List ai),l.length<=16->yZ ab a b pid d l 0 l=some (false,(l.length:Int),l.map (pM pid)):=by
  intro a b c d l hl;show b4 (λx=>(oK ab a b pid d l x).val) 1000000 (0,l)=_;rw[ad5 (g:=pM pid) (x:=λa=>(false,(l.length:Int),a)) (l:=l) (λi hi y r D=>?_) (λa=>?_) (by omega)]
  ·have n:decide ((i:Int)<(l.length:Int))=true:=decide_eq_true (by omega);have hw:γ.wrap ((i:Int)+1)=((i+1:Nat):Int):=du (by omega) (by omega);unfold oK pM;simp only[T.aN,T.aE,T.aC,n,cond_true,e9 r,θ,r,δ,hw];cases e:l[i].aW==pid with
   |true=>rfl
   |false=>
    have:y.set i l[i]=y:=ξG λj=>by
     rw[ξW]
     by_cases e:i=j
     ·subst e;rw[if_pos rfl,if_pos (by omega),r]
     ·rw[if_neg e]
    simp[this]
  ·unfold oK;simp
 simp only[T.aN,T.aE,T.aC,T.bM,T.cM,T.l1,f46 h,gN (b:=32) (l:=p.ae) (by omega),RF,δ,show(!((0:Int)==0))=false from rfl,cond_false];unfold ij;rcases v' p.ae pid with⟨m,k,_⟩|⟨i,x,m,k,u,_,v⟩
 ·simp only[m,k,δ,cond_false];rfl
 ·simp only[m,k,u,δ,ζs];have hi:=(η.1 k).1;cases C:x.bl with
  |true=>rfl
  |false=>
   cases t:pid==1 with
   |true=>
    simp only[bne,t,cond_false,cond_true,ξ1,μ];rfl
   |false=>
    simp only[bne,t,cond_false,cond_true,ξ1,μ,List.set_set,List.getElem?_set_self hi,δ];rw[w _ _ (by simpa using hlen)];simp only[δ];rw[A _ _ pid _ _ (ξB (ξh _ _) (by simpa using hlen))];simp only[δ];rw[XI h k v]
theorem f47 {l:List ak} (h:fG l):il ab l=some 0:=by
 rw[O_ (by have:=h.len;unfold maxLen;omega),Nd.2 h];rfl
theorem v29 {l:List ak} (h:fG l) (pid:Int):tc ab l pid=some (pw l pid,(l.length:Int)-(pw l pid).length):=by
 show(Aa ab l pid).val=_;unfold Aa pw;have hlen:=h.len;have c:y_ ab l pid []=some (false,(l.length:Int),l.filter λd=>!(d.aa==pid)):=by
  show bS (λi z a=>(sf ab l pid i z a).val) (λi a=>(q_ ab l pid i a).val) 0 l []=_;rw[qE (p:=λd=>!(d.aa==pid)) (f:=id)]
  ·unfold q_;simp
  ·intro i z a g e;have hi:=(η.1 g).1;unfold sf;simp only[T.aN,T.aE,T.aC,bne,hj (b:=24) (z:=z) e hi (by omega),δ];cases z.aa==pid<;>rfl
 have:=ξh (λd:ak=>!(d.aa==pid)) l;simp only[T.aN,T.aE,T.bM,T.aC,f47 h,c,δ,show((0:Int) !=0)=false from rfl,cond_false];rw[du (by omega) (by omega)]
theorem v232 {l:List ak} (h:fG l) (pid fd:Int):j8 ab l pid fd=some (match c7 l pid fd with|some w=>(w,true)|none=>(0,false)):=by
 show(Av ab l pid fd).val=_;unfold Av c7;have b:zl ab l fd pid=match l.find? (λd=>d.aa==pid&&d.bA==fd) with|some z=>some (.inl z.cf)|none=>some (.inr (false,(l.length:Int))):=by
  show bS (λi z a=>(sq ab l fd pid i z a).val) (λi a=>(rk ab l fd pid i a).val) 0 l ()=_;rw[qD (p:=λd=>d.aa==pid&&d.bA==fd) (e:=λz=>.inl z.cf)]
  ·unfold rk;cases l.find? (λd=>d.aa==pid&&d.bA==fd)<;>simp
  ·intro i z _;unfold sq;simp only[T.aE,T.aC];cases z.aa==pid<;>cases z.bA==fd<;>rfl
 simp only[T.aN,T.aE,T.bM,T.cM,T.aC,f47 h,b,δ,show((0:Int) !=0)=false from rfl,cond_false];cases l.find? (λd=>d.aa==pid&&d.bA==fd)<;>rfl
theorem adQ {l:List ak} (h:fG l) (bu:Int):tj ab l bu=some (k7 l bu:Int):=by
 show(Ai ab l bu).val=_;unfold Ai k7;have hlen:=h.len;have c:za ab l bu []=some (false,(l.length:Int),l.filter λd=>d.cf==bu):=by
  show bS (λi z a=>(sj ab l bu i z a).val) (λi a=>(re ab l bu i a).val) 0 l []=_;rw[qE (p:=λd=>d.cf==bu) (f:=id)]
  ·unfold re;simp
  ·intro i z a g e;have hi:=(η.1 g).1;unfold sj;simp only[T.aN,T.aE,T.aC,hj (b:=24) (z:=z) e hi (by omega),δ];cases z.cf==bu<;>rfl
 simp only[T.aN,T.aE,T.bM,T.aC,f47 h,c,δ,show((0:Int) !=0)=false from rfl,cond_false]
theorem OS {α:Type} (p:α->Bool) (l:List α):l.take (l.takeWhile p).length=l.takeWhile p/\l.drop (l.takeWhile p).length=l.dropWhile p:=by
 have h:=take_drop p l;constructor
 ·conv=>lhs;arg 2;rw[<-h]
  exact η1
 ·conv=>lhs;arg 2;rw[<-h]
  exact η2
theorem De {α:Type} {b:Nat} {l:List α} {lt:α->Bool} {x:α} (hl:(l.length+1)*b<=1099511627776):Go.Dc.hv b l ((l.takeWhile lt).length:Int) [x]=some (bW lt x l):=by
 obtain⟨h1,a⟩:=OS lt l;have:=(ξT (l:=l) lt).length_le;unfold Go.Dc.hv bW;rw[if_pos ⟨by omega,by omega,by simpa using hl⟩,θ,h1,a];simp
theorem LH {α:Type} {b:Nat} {l:List α} {c:Int} {z:α} (d:(l.length:Int)<=c) (a:(b:Int)*c<=281474976710656) (h:c<=281474976710656):hV b (l.length:Int) c z=some (η3 l.length z)/\cT (η3 l.length z) l=l:=by
 constructor
 ·unfold hV;rw[if_pos ⟨by omega,d,a,h⟩,θ]
 ·unfold cT;simp
theorem pg {α X:Type} {step:Int×Int->Option ((Int×Int)⊕X)} {l:List α} {lt:α->Bool} {x:Nat->X} (j:l.Pairwise λa b=>lt b=true->lt a=true) (hl:l.length<=100)
  (h: ∀lo hi m:Nat,lo<hi->hi<=l.length->m=(lo+hi)/2-> ∀(hm:m<l.length),γ.wrap ((ο.wrap (γ.wrap ((lo:Int)+(hi:Int)))).fdiv 2)=(m:Int)->γ.wrap ((m:Int)+1)=((m+1:Nat):Int)->step ((lo:Int),(hi:Int))=bif lt l[m] then some (.inl (((m+1:Nat):Int),(hi:Int))) else some (.inl ((lo:Int),(m:Int))))
  (k: ∀c:Nat,step ((c:Int),(c:Int))=some (.inr (x c))):b4 step 1000000 (0,(l.length:Int))=some (x (l.takeWhile lt).length):=by
 have g:(l.takeWhile lt).length<=l.length:=(ξT (l:=l) lt).length_le;refine Be (q:=λi=>match l[i]? with|some z=>lt z|none=>false) g (λi hi=>?_) (λi hi f=>?_) (λlo hi f hle=>?_) (k _) l.length 0 l.length 1000000 (by omega) (by omega) (by omega) g (ξ4 _)
 ·have d:l[i]? =some l[i]:=ε (by omega);simp only[d];exact(A9 j i _ d).2 hi
 ·have d:l[i]? =some l[i]:=ε f;simp only[d];cases e:lt l[i] with
  |false=>rfl
  |true=>have:=(A9 j i _ d).1 e;omega
 ·have hm:(lo+hi)/2<l.length:=by omega
  rw[h lo hi _ f hle rfl hm (half (by omega)) (du (by omega) (by omega)),ε hm];cases n:lt l[(lo+hi)/2]<;>simp[n]
theorem TQ {l:List ak} (h:l.Pairwise λa b=>dF a b=true) (n:ak):l.Pairwise λa b=>dF b n=true->dF a n=true:=h.imp λ{a b} h1 c=>A_ a b n h1 c
theorem adu {l:List ak} (pid:Int): ∀ {a:List Bool} {j:Nat},a.length=8->(∀d∈l,0<=d.bA/\d.bA<=7)->j<8->
  gf (l.foldl (λa z=>bif z.aa==pid then a.set z.bA.toNat true else a) a) j=(gf a j||(c7 l pid j).isSome):=by
 unfold c7
 induction l with
 |nil=>intro a j _ _ _;simp
 |cons z r h=>
  intro a j c b g;have m:=b z ξq;rw[ζV,h (by cases z.aa==pid<;>simp[c]) (λd f=>b d (ξ9 _ f)) g,ξZ];cases e:z.aa==pid with
  |false=>rfl
  |true=>
   have:gf (a.set z.bA.toNat true) j=(gf a j||(z.bA==(j:Int))):=by
    unfold gf;rw[ξW]
    by_cases k:z.bA.toNat=j
    ·rw[if_pos k,if_pos (by omega),show(z.bA==(j:Int))=true by simp;omega];simp
    ·rw[if_neg k,show(z.bA==(j:Int))=false by simp;omega];simp
   rw[cond_true,this];cases i:z.bA==(j:Int)<;>simp
theorem O8 {l:List ak} (h:fG l) {pid:Int} (hp:pid<4294967296) (bu:Int):pD ab l pid bu=some (match hC l pid bu with| .ok (q,v)=>(q,v,0)| .error e=>([],0,e)):=by
 show(Ad ab l pid bu).val=_;unfold Ad hC;have hlen:=h.len;have t: ∀d∈l,0<=d.bA/\d.bA<=7:=λd f=>by have:=h.is d f;simp[hx] at this;omega
 have A:zk ab l pid bu [false,false,false,false,false,false,false,false]=some (false,(l.length:Int),l.foldl (λa z=>bif z.aa==pid then a.set z.bA.toNat true else a) [false,false,false,false,false,false,false,false]):=by
  show bS (λi z a=>(so ab l pid bu i z a).val) (λi a=>(oq ab l pid bu i a).val) 0 l _=_;refine(EP (fin:=λi a=>(oq ab l pid bu i a).val) (Q:=λ_ a=>a.length=8) (g:=λa z=>bif z.aa==pid then a.set z.bA.toNat true else a) (λi z a I u=>?_) l [] _ rfl rfl).trans (by unfold oq;simp);have J:=t z (ξc I);refine⟨?_,by cases z.aa==pid<;>simp[u]⟩;unfold so;simp only[T.aN,T.aE,T.aC,T.l1,ly (n:=8) J.1 (by omega),δ,u,show Nat.beq 8 8=true from rfl,cond_true];cases z.aa==pid<;>rfl
 have B:zc ab (l.foldl (λa z=>bif z.aa==pid then a.set z.bA.toNat true else a) [false,false,false,false,false,false,false,false]) 0=match ht l pid with|some i=>some (.inl (i:Int))|none=>some (.inr (false,8)):=by
  show b4 (λa=>(oQ ab _ a).val) 1000000 ((0:Nat):Int)=_;rw[wJ (q:=λi:Nat=>(c7 l pid i).isSome) (x:=λi=>.inl (i:Int)) (y:=.inr (false,8)) (N:=8) (λa s=>?_) (by unfold oQ;rfl) (k:=8) (by omega) (by omega)]
  ·unfold ht;rw[ζx];simp only[Option.not_isSome];cases (ηm 0 8).find? (λi:Nat=>(c7 l pid i).isNone)<;>rfl
  ·unfold oQ;have f:decide ((a:Int)<8)=true:=decide_eq_true (by omega);have w:gf [false,false,false,false,false,false,false,false] a=false:=by
    have: ∀b:Nat,b<8->gf [false,false,false,false,false,false,false,false] b=false:=by decide
    exact this a s
   simp only[T.aN,T.aE,T.aC,f,cond_true,ly (j:=(a:Int)) (n:=8) (by omega) (by omega),θ,δ,adu pid (a:=[false,false,false,false,false,false,false,false]) rfl t s,w,ξY,show γ.wrap ((a:Int)+1)=((a+1:Nat):Int) from du (by omega) (by omega)];cases (c7 l pid a).isSome<;>rfl
 have G:decide (pid>=4294967296)=false:=decide_eq_false (by omega);obtain⟨D,E⟩:=LH (b:=24) (l:=l) (c:=(l.length:Int)) (z:=ak.mk 0 0 0) (by omega) (by omega) (by omega);simp only[T.aN,T.aE,T.bM,T.cM,T.aC,f47 h,A,B,G,δ,show((0:Int) !=0)=false from rfl,cond_false];cases K:ht l pid with
 |none=>rfl
 |some i=>
  have hi:decide ((i:Int)<0)=false:=decide_eq_false (by omega);simp only[δ,hi,cond_false];cases r:l.length==64 with
  |true=>
   have:((l.length:Int)==64)=true:=by simp at r ⊢;omega
   simp only[this,cond_true]
  |false=>
   have:((l.length:Int)==64)=false:=by simp at r ⊢;omega
   simp only[this,cond_false,D,E,δ];have C:zd ab l pid i bu (l.length:Int) (l.length:Int) 0=some (false,((l.takeWhile λy=>dF y ⟨pid,i,bu⟩).length:Int),((l.takeWhile λy=>dF y ⟨pid,i,bu⟩).length:Int)):=by
    show b4 (λa=>(oR ab l pid i bu (l.length:Int) a).val) 1000000 (0,(l.length:Int))=_;refine pg (lt:=λy=>dF y ⟨pid,i,bu⟩) (x:=λc=>(false,(c:Int),(c:Int))) (TQ h.ord _) (by omega) (λlo hi m L hle hm F hw H=>?_) λc=>?_
    ·unfold oR;have f:decide ((lo:Int)<(hi:Int))=true:=decide_eq_true (by omega);have o:l[m]? =some l[m]:=ε F;have p:decide (po l[m] ⟨pid,i,bu⟩<0)=dF l[m] ⟨pid,i,bu⟩:=by
      have:=Im l[m] ⟨pid,i,bu⟩;rw[ξd] at this ⊢;simp at this ⊢;rw[<-Bool.not_eq_false,<-this];omega
     simp only[T.aN,T.aE,T.aC,f,cond_true,hw,H,e9 o,θ,o,δ,Fu,p]
    ·unfold oR;simp
   rw[C];simp only[δ,mZ,De (b:=24) (l:=l) (lt:=λy=>dF y ⟨pid,i,bu⟩) (x:=ak.mk pid i bu) (by omega)]
   by_cases p:(l.takeWhile λy=>dF y ⟨pid,i,bu⟩).length<l.length
   ·have f:decide (((l.takeWhile λy=>dF y ⟨pid,i,bu⟩).length:Int)<(l.length:Int))=true:=decide_eq_true (by omega);have o:=ε p;simp only[f,cond_true,e9 o,θ,o,δ,Fu]
   ·have f:decide (((l.takeWhile λy=>dF y ⟨pid,i,bu⟩).length:Int)<(l.length:Int))=false:=decide_eq_false (by omega);simp only[f,cond_false]
theorem adN {l:List ak} (h:fG l) {pid:Int} (hp:pid<4294967296) (fd:Int):tg ab l pid fd=some (match hr l pid fd with| .ok (q,v)=>(q,v,0)| .error e=>([],0,e)):=by
 show(Af ab l pid fd).val=_;unfold Af hr;have a:decide (pid>=4294967296)=false:=decide_eq_false (by omega);simp only[T.aN,T.aE,T.aC,f47 h,v232 h,a,δ,show((0:Int) !=0)=false from rfl,cond_false];cases c7 l pid fd with
 |none=>rfl
 |some w=>
  simp only[O8 h hp,δ,μ,cond_false]
theorem adM {l:List ak} (h:fG l) (pid fd:Int):tf ab l pid [fd]=some (match gP l pid fd with| .ok q=>(q,0)| .error e=>([],e)):=by
 show(Ae ab l pid [fd]).val=_;unfold Ae gP;have hlen:=h.len;have n: ∀w,c7 l pid fd=some w->y' ab l pid fd w []=some (false,(l.length:Int),l.filter λd=>!(d.aa==pid&&d.bA==fd)):=by
  intro w hw;show bS (λi z a=>(sg ab l pid fd w i z a).val) (λi a=>(q' ab l pid fd w i a).val) 0 l []=_;rw[qE (p:=λd=>!(d.aa==pid&&d.bA==fd)) (f:=id)]
  ·unfold q';simp
  ·intro i z a g r;have hi:=(η.1 g).1;have he:hs z ⟨pid,fd,w⟩=(z.aa==pid&&z.bA==fd):=by
    unfold hs;cases e:z.aa==pid&&z.bA==fd with
    |false=>simp[e]
    |true=>
     obtain⟨d,s,j,k,m⟩:=JA hw;have c:=e;rw[ι] at c;have:=UX h (ξc g) s ((eq_of_beq c.1).trans j.symm) ((eq_of_beq c.2).trans k.symm);subst this;simp[m]
   unfold sg;simp only[T.aN,T.aE,T.aC,θ,g,he,hj (b:=24) (z:=z) r hi (by omega),δ];cases z.aa==pid&&z.bA==fd<;>rfl
 have o:y3 ab pid [fd] l true=match c7 l pid fd with
   |some w=>some (.inr (false,true,1,l.filter λd=>!(d.aa==pid&&d.bA==fd)))
   |none=>some (.inl (true,false,0,fd,true,true,0,l)):=by
  show bS (λi z a=>(sc ab pid [fd] i z a).val) (λi a=>(w8 ab pid [fd] i a).val) 0 [fd] (true,l)=_;unfold bS sc;simp only[T.aN,T.aE,T.bM,T.aC,v232 h,δ];cases t:c7 l pid fd with
  |none=>rfl
  |some w=>
   simp only[n w t,δ,μ,cond_false];rfl
 simp only[T.aN,T.aE,T.bM,T.cM,T.aC,f47 h,o,gN (b:=24) (l:=l) (by omega),δ,show((0:Int) !=0)=false from rfl,cond_false];cases c7 l pid fd<;>rfl
theorem Jq {m:bT} (h:fR m):Gx ct m:=⟨λz a=>Mq (h.path z a).1,by have:=h.len;unfold maxLen;omega⟩
theorem wG {m:bT} (h:fR m) {w:Int} (hw:c9 w):mQ ab m w=some (bif ct w then 0 else 310):=by
 show(As ab m w).val=_;unfold As;simp only[T.aN,T.aE,T.aC,Pa (Jq h),(Ng λx a=>(h.path x a).1).2 h,Mq hw,δ];rfl
theorem Ft {w:Int} (hw:c9 w):la ab w=some (bif ct w then⟨(cU w).map bs,w⟩ else⟨[],0⟩,ct w):=by
 obtain⟨n,rfl⟩:=Int.eq_ofNat_of_zero_le hw.1;exact v131 (by have:=hw.2;omega)
theorem vz {w:Int} (hw:ct w=true):(cU w).all fl=true/\(∀p∈cU w,(∀x∈p,x<256)/\p.length<=100)/\(cU w).length<=4/\(jt (cU w)).length<=8:=by
 unfold ct at hw;rw[ι] at hw;have c:=BL w.toNat;have hl:=pv 8 w.toNat;unfold cU Ei;generalize dg 8 w.toNat=d at*
 have a:=hw.2;unfold na at a
 by_cases e:d=[47]
 ·rw[if_pos e];exact⟨rfl,by simp,by simp,by simp[jt]⟩
 ·rw[if_neg e];rw[decide_eq_false e,ξY] at a;cases d with
  |nil=>cases a
  |cons x t=>
   split at a
   ·rename_i t' b;rw[ι,decide_eq_true_eq] at a;refine⟨a.1,λp hp=>LC c hl ⟨_,b⟩ hp,a.2,?_⟩;rw[uN _ (x::t) (ξ4 _) (.inr ⟨_,b⟩)];exact hl
   ·cases a
theorem adF {w:Int} (hw:ct w=true) (k:Nat):jq ab (((cU w).map bs).take k)=some (qX ((cU w).take k),(ia (bs (tx ((cU w).take k)))).2==0&&decide (((cU w).take k).length<=4)):=by
 obtain⟨h1,c,d,e⟩:=vz hw;rw[<-ζg];have f:(jt ((cU w).take k)).length<=8:=by
  have:jt (cU w)=jt ((cU w).take k)++jt ((cU w).drop k):=by rw[<-JW,ξ0]
  have:=congrArg ηn this;rw[ζ] at this;omega
 refine wF (ξe.2 λp hp=>ξe.1 h1 p (ξJ hp)) (λp hp=>c p (ξJ hp)) ?_ (by simp;omega);generalize (cU w).take k=ps at*
 cases ps with
 |nil=>simp[tx]
 |cons a b=>show(jt (a::b)).length<=500;omega
theorem v226 {w:Int} (hw:c9 w) (hp:ct w=true):B3 ab w=some (lZ w,0):=by
 show(Au ab w).val=_;unfold Au;obtain⟨h1,l,o,p⟩:=vz hp;have f: ∀(k n:Nat) (acc:Γa),k<n->acc.length+k<=20->k<=(cU w).length+1->b4 (λa=>(ml ab ((cU w).map bs) w a).val) n ((k:Int)-1,acc)=some (false,-1,acc++(List.range k).reverse.map λj=>qX ((cU w).take j)):=by
  intro k
  induction k with
  |zero=>
   intro n acc hn _ _;obtain⟨n,rfl⟩: ∃m,n=m+1:=⟨n-1,by omega⟩;rw[eI];unfold ml;simp
  |succ k h=>
   intro n acc hn q hk;obtain⟨n,rfl⟩: ∃m,n=m+1:=⟨n-1,by omega⟩;rw[eI];have e:decide (((k+1:Nat):Int)-1>=0)=true:=decide_eq_true (by omega);have d:dL ((cU w).map bs) none (some (((k+1:Nat):Int)-1)) (some (((k+1:Nat):Int)-1))=some (((cU w).map bs).take k):=by
    rw[show((k+1:Nat):Int)-1=(k:Int) by omega];unfold dL;simp only[ζi,ξK];rw[if_pos ⟨by omega,by omega,by simp;omega,by omega,by simp;omega,by simp⟩,θ];rfl
   have g:(ml ab ((cU w).map bs) w (((k+1:Nat):Int)-1,acc)).val=some (.inl ((k:Int)-1,acc++[qX ((cU w).take k)])):=by
    unfold ml;simp only[T.aN,T.aE,T.aC,e,cond_true,d,adF hp k,δ,hj (b:=8) (i:=20) (n:=21) (a:=acc) (z:=qX ((cU w).take k)) (by omega) (by omega) (by omega)];rw[show((k+1:Nat):Int)-1-1=(k:Int)-1 by omega,du (x:=(k:Int)-1) (by omega) (by omega)]
   simp only[g,δ];rw[h n _ (by omega) (by rw[ζ,ψ];omega) (by omega),List.range_succ,List.reverse_append,List.reverse_singleton,List.singleton_append,η8,ν];rfl
 have c:zb ab ((cU w).map bs) w (((cU w).map bs).length:Int) []=some (false,-1,lZ w):=by
  have:=f ((cU w).length+1) 1000000 [] (by omega) (by simp;omega) (by omega);rw[show(((cU w).length+1:Nat):Int)-1=(((cU w).map bs).length:Int) by simp] at this;exact this
 simp only[T.aN,T.aE,T.bM,T.aC,Ft hw,hp,cond_true,δ,μ,cond_false,c]
theorem T' {p q:Γ} (hp: ∀x∈p,x<256) (c: ∀x∈q,x<256):((bs p).toList==(bs q).toList)=decide (p=q):=by
 rw[ζz,ζz,ξd,beq_iff_eq,decide_eq_true_eq];constructor
 ·intro e;have e:p.map ζX=q.map ζX:=by simpa[bs] using e
  have a:=congrArg (List.map ηo) e;have b: ∀l:Γ,(∀x∈l,x<256)->(l.map ζX).map ηo=l:=by
   intro l hl;rw[ηc]
   conv=>rhs;rw[<-ζW l]
   refine List.map_congr_left λx d=>?_;have:=hl x d;simp;omega
  rw[b p hp,b q c] at a;exact a
 ·rintro rfl;rfl
theorem adT {a b:Int} (r:c9 a) (s:c9 b):B4 ab a b=some (mz a b):=by
 show(Aw ab a b).val=_;unfold Aw mz;simp only[T.aN,T.aE,T.bM,T.aC,T.cM,Ft r,Ft s,δ];cases m:ct a with
 |false=>rfl
 |true=>
  cases n:ct b with
  |false=>rfl
  |true=>
   simp only[cond_true,η7,ζ1];obtain⟨_,a2,a3,_⟩:=vz m;obtain⟨_,l,v,_⟩:=vz n;generalize cU a=p at*
   generalize cU b=q at*
   by_cases hl:p.length<=q.length
   ·have d:decide ((p.length:Int)<=(q.length:Int))=true:=decide_eq_true (by omega);have t:dL (q.map bs) none (some (p.length:Int)) none=some ((q.take p.length).map bs):=by rw[UH (by simpa using hl),ζg]
    have hn:((p.length:Int) !=(((q.take p.length).map bs).length:Int))=false:=by simp;omega
    have o:zt ab (p.map bs) ((q.take p.length).map bs)=bif decide (q.take p.length=p) then some (.inr (false,(p.length:Int))) else some (.inl ()):=by
     show bS (λi z c=>(sx ab (p.map bs) ((q.take p.length).map bs) i z c).val) (λi c=>(rn ab (p.map bs) ((q.take p.length).map bs) i c).val) 0 (p.map bs) ()=_;rw[nX (q:=λi z=>match((q.take p.length).map bs)[i]? with|some y=>z.toList==y.toList|none=>false) (x:=.inl ()) λi z f=>?_]
     ·have:allI (λi z=>match((q.take p.length).map bs)[i]? with|some y=>z.toList==y.toList|none=>false) 0 (p.map bs)=decide (q.take p.length=p):=by
       rw[ξd,kZ,decide_eq_true_eq];constructor
       ·intro h;refine List.ext_getElem (by simp;omega) λi h1 g=>?_;have:=h i (bs p[i]) (by rw[ξH,ε g];rfl);rw[ξp,ξH,ε h1,ξD] at this;have:=(T' (a2 _ (ξ5 g)).1 (l _ (ξJ (ξ5 h1))).1).symm.trans this;exact(of_decide_eq_true this).symm
       ·intro h k z f;rw[ξp,h,f];exact beq_self_eq_true _
      rw[this];unfold rn;simp
     ·unfold sx;have hi:=(η.1 f).1;have u:i<((q.take p.length).map bs).length:=by simp at hi ⊢;omega
      have j:((q.take p.length).map bs)[i]? =some ((q.take p.length).map bs)[i]:=ε u;simp only[T.aN,T.aE,T.aC,e9 j,j,δ];cases z.toList==((q.take p.length).map bs)[i].toList<;>rfl
    have e:p.isPrefixOf q=decide (q.take p.length=p):=by
     rw[ξd,ζ3,List.prefix_iff_eq_take,decide_eq_true_eq];exact eq_comm
    rw[d,t,e];simp only[cond_true,δ,hn,cond_false,o];cases decide (q.take p.length=p)<;>rfl
   ·have d:decide ((p.length:Int)<=(q.length:Int))=false:=decide_eq_false (by omega);have e:p.isPrefixOf q=false:=by
     rw[<-ξX,ζ3];intro h;exact hl h.length_le
    rw[d,e];rfl
theorem Ls (j:Int): ∀(l:List aA) (m:Γc),l.Pairwise (λa b=>a.ba≠b.ba)->bw (mapM m l) j=match l.find? (λx=>x.ba==j) with|some x=>some x.aX|none=>bw m j
 |[],m,_=>rfl
 |z::r,m,h=>by
  rw[υ] at h;show bw (mapM (cb m z.ba z.aX) r) j=_;rw[Ls j r _ h.2,ξZ,nn];cases e:z.ba==j with
  |true=>
   have e:=eq_of_beq e;rw[lh.2 λy c=>by have:=h.1 y c;rw[e] at this;simpa using λk=>this k.symm];simp[e]
  |false=>
   have: ¬j=z.ba:=λk=>by rw[k] at e;simp at e
   simp only[if_neg this]
theorem uE {m:bT} (h:fR m) (w:Int):bw (m.ae.foldl (λa z=>cb a z.ba z.aX) []) w=da m w:=by
 rw[fold_map,Ls w _ _ h.new];unfold da;cases m.ae.find? (λx=>x.ba==w)<;>rfl
theorem uW {X:Type} {S:Int->aA->Γc->T (Γc⊕X)} {F:Int->Γc->T X} {l:List aA} (b: ∀i z a,(S i z a).val=some (.inl (cb a z.ba z.aX))):
  bS (λi z a=>(S i z a).val) (λi a=>(F i a).val) 0 l []=(F (l.length:Int) (l.foldl (λa z=>cb a z.ba z.aX) [])).val:=by
 rw[nY (g:=λa z=>cb a z.ba z.aX) λi z a _=>b i z a];simp
def PE:bT:=⟨[],0⟩
theorem adO {m:bT} (h:fR m) {w:Int} (hw:c9 w):th ab m w=some (match h9 m w with| .ok (q,v)=>(q,v,0)| .error e=>(PE,0,e)):=by
 show(Ag ab m w).val=_;unfold Ag h9;have hlen:=h.len;have p:=h.n1;have r:=h.n2;have f:yQ ab m.ae []=some (false,(m.ae.length:Int),m.ae.foldl (λa z=>cb a z.ba z.aX) []):=by
  refine(uW λi z a=>rfl).trans ?_;unfold wX;simp
 obtain⟨g,j⟩:=LH (b:=16) (l:=m.ae) (c:=γ.wrap ((m.ae.length:Int)+1)) (z:=aA.mk 0 0) (by rw[du (by omega) (by omega)];omega) (by rw[du (by omega) (by omega)];omega) (by rw[du (by omega) (by omega)];omega);simp only[T.aN,T.aE,T.bM,T.aC,wG h hw,δ,f,uE h,g,j];cases hp:ct w with
 |false=>rfl
 |true=>
  simp only[cond_true,cond_false,show((0:Int) !=0)=false from rfl];cases hi:da m w with
  |some i=>rfl
  |none=>
   have d:((m.ae.length:Int)==16)=(m.ae.length==16):=by rw[ξd];simp;omega
   simp only[ζG,cond_false,d];cases o:m.ae.length==16 with
   |true=>rfl
   |false=>
    cases hn:decide (m.bp>1073741824) with
    |true=>rfl
    |false=>
     have:app 16 m.ae [aA.mk w m.bp]=some (m.ae++[aA.mk w m.bp]):=hj (i:=16) (n:=17) hlen (by omega) (by omega);have k:ο.wrap (m.bp+1)=m.bp+1:=jN (by omega) (by omega);simp only[cond_false,this,δ,k,ηd]
theorem adP {m:bT} (h:fR m) {w:Int} (hw:c9 w):ti ab m w=some (match iG m w with| .ok v=>(v,0)| .error e=>(0,e)):=by
 show(Ah ab m w).val=_;unfold Ah iG;have b:yR ab m.ae []=some (false,(m.ae.length:Int),m.ae.foldl (λa z=>cb a z.ba z.aX) []):=by
  refine(uW λi z a=>rfl).trans ?_;unfold wY;simp
 simp only[T.aN,T.aE,T.bM,T.aC,wG h hw,δ,b,uE h];cases ct w with
 |false=>rfl
 |true=>cases da m w<;>rfl
theorem v193 {m:bT} (h:fR m) {w:Int} (hw:c9 w):tk ab m w=some (match iQ m w with| .ok v=>(v,0)| .error e=>(PE,e)):=by
 show(Aj ab m w).val=_;unfold Aj iQ;have hlen:=h.len;have j:yS ab m.ae []=some (false,(m.ae.length:Int),m.ae.foldl (λa z=>cb a z.ba z.aX) []):=by
  refine(uW λi z a=>rfl).trans ?_;unfold wZ;simp
 have d:zm ab m.ae m.bp w=bif j3 m w then some (.inl ()) else some (.inr (false,(m.ae.length:Int))):=by
  show bS (λi z a=>(sr ab m.ae m.bp w i z a).val) (λi a=>(rl ab m.ae m.bp w i a).val) 0 m.ae ()=_;unfold j3;rw[qD (p:=λx=>!(x.ba==w)&&mz w x.ba) (e:=λ_=>.inl ()),<-XN]
  ·unfold rl;cases m.ae.find? (λx=>!(x.ba==w)&&mz w x.ba)<;>simp
  ·intro i z c;unfold sr;simp only[T.aN,T.aE,T.aC,adT hw (h.path z c).1,δ,bne];cases z.ba==w<;>cases mz w z.ba<;>rfl
 have g:ze ab m.ae w []=some (false,(m.ae.length:Int),m.ae.filter λx=>!(x.ba==w)):=by
  show bS (λi z a=>(sk ab m.ae w i z a).val) (λi a=>(rf ab m.ae w i a).val) 0 m.ae []=_;rw[qE (p:=λx=>!(x.ba==w)) (f:=id)]
  ·unfold rf;simp
  ·intro i z a c k;have hi:=(η.1 c).1;unfold sk;simp only[T.aN,T.aE,T.aC,bne,hj (b:=16) (z:=z) k hi (by omega),δ];cases z.ba==w<;>rfl
 simp only[T.aN,T.aE,T.bM,T.cM,T.aC,wG h hw,δ,j,uE h,d,g];cases ct w with
 |false=>rfl
 |true=>
  cases da m w with
  |none=>rfl
  |some i=>cases j3 m w<;>rfl
def D9:(Bool×Int×Int×Bool×Int×Int)⊕(Bool×Int×Int)->Int
 | .inl y=>y.2.1
 | .inr y=>y.2.1
theorem v183 {m:bT} (h:fR m) {w:Int} (hw:c9 w):mO ab m w=some (match fP m w with| .ok v=>(v,0)| .error e=>(0,e)):=by
 show(Ac ab m w).val=_;unfold Ac fP wE;have g:yP ab m.ae []=some (false,(m.ae.length:Int),m.ae.foldl (λa z=>cb a z.ba z.aX) []):=by
  refine(uW λi z a=>rfl).trans ?_;unfold wW;simp
 have d: ∀ {u i},da m u=some i->0<i:=λe=>by
  obtain⟨x,p,_,rfl⟩:=C8 e;have:=h.id x p;omega
 have k: ∀(l:Γa) (p0:Γa) (j:Nat),∃y,bS (λi z a=>(oM ab p0 (m.ae.foldl (λa z=>cb a z.ba z.aX) []) i z a).val) (λi a=>(w7 ab p0 (m.ae.foldl (λa z=>cb a z.ba z.aX) []) i a).val) j l 0=some y/\D9 y=(l.findSome? (da m)).getD 0:=by
  intro l p0
  induction l with
  |nil=>intro j;exact⟨_,rfl,rfl⟩
  |cons u r s=>
   intro j;have o:(oM ab p0 (m.ae.foldl (λa z=>cb a z.ba z.aX) []) j u 0).val=bif decide ((da m u).getD 0>0) then some (.inr (.inl (decide ((da m u).getD 0>0),(da m u).getD 0,u,decide ((j:Int)<(p0.length:Int)),0,(j:Int)))) else some (.inl ((da m u).getD 0)):=by
    unfold oM;simp only[T.aE,T.aC,uE h]
   rw[gG,List.findSome?_cons,o];cases e:da m u with
   |some i=>
    have:decide ((some i).getD 0>0)=true:=decide_eq_true (d e);rw[this];exact⟨_,rfl,rfl⟩
   |none=>
    have:decide ((none:Option Int).getD 0>0)=false:=rfl;rw[this];exact s (j+1)
 simp only[T.aN,T.aE,T.bM,T.cM,T.aC,wG h hw,δ,g];cases hp:ct w with
 |false=>rfl
 |true=>
  obtain⟨y,c,n⟩:=k (lZ w) (lZ w) 0;have c:y2 ab (lZ w) (m.ae.foldl (λa z=>cb a z.ba z.aX) []) 0=some y:=c;simp only[cond_true,cond_false,show((0:Int) !=0)=false from rfl,v226 hw hp,δ,c];have q: ∀(x:Int),(bif x==0 then some ((0:Int),(4:Int)) else some (x,0))=some (if x=0 then(0,4) else(x,0)):=λx=>by
   by_cases e:x=0
   ·simp[e]
   ·rw[show(x==0)=false by simpa using e,if_neg e];rfl
  refine Eq.trans (b:=some (if D9 y=0 then((0:Int),(4:Int)) else(D9 y,0))) (by cases y<;>exact q _) ?_;rw[n];cases f:(lZ w).findSome? (da m) with
  |none=>rfl
  |some i=>
   obtain⟨u,_,hu⟩:=ξS f;have:=d hu;have: ¬i=0:=by omega
   simp[this]
theorem f49 {s:aL} (h:eJ s) (b:s.ao.length<=16):jr ab s=some 0:=by
 rw[v49 ⟨λz a=>(h.name z a).1,by have:=h.len;unfold maxLen;omega,by unfold maxLen;omega⟩,(Nf λz a=>(h.name z a).1).2 h];rfl
section
variable {α:Type} {key:α->Int} {l:List α} {n:Int}
theorem ady (c:l.Pairwise λa b=>key a<key b):l.takeWhile (λz=>decide (key z<n))=l.filter (λz=>decide (key z<n))/\l.dropWhile (λz=>decide (key z<n))=l.filter (λz=>!decide (key z<n)):=by
 induction l with
 |nil=>exact⟨rfl,rfl⟩
 |cons z r i=>
  rw[υ] at c;obtain⟨h1,f⟩:=i c.2;rw[ξu,ζ0,ξv,ξv];cases e:decide (key z<n) with
  |true=>simp only[if_true,h1,f,μ,ξy,if_false];exact⟨trivial,trivial⟩
  |false=>
   have e:=of_decide_eq_false e;have g:r.filter (λz=>decide (key z<n))=[]:=ζk.2 λy d=>by have:=c.1 y d;simp;omega
   have h:r.filter (λz=>!decide (key z<n))=r:=filter_all λy d=>by have:=c.1 y d;simp;omega
   simp[g,h]
theorem qH (e:l.Pairwise λa b=>key a<key b):
  (l.find? (λz=>key z==n)=none/\(∀z,l[(l.takeWhile λz=>decide (key z<n)).length]? =some z->key z≠n)/\l.dropWhile (λz=>decide (key z<n))=l.filter λz=>decide (n<key z))\/
  ∃z,l.find? (λz=>key z==n)=some z/\key z=n/\l[(l.takeWhile λz=>decide (key z<n)).length]? =some z/\l.dropWhile (λz=>decide (key z<n))=z::l.filter λz=>decide (n<key z):=by
 induction l with
 |nil=>exact .inl ⟨rfl,by simp,rfl⟩
 |cons z r j=>
  rw[υ] at e;rw[ξZ,ξu,ζ0,ξv]
  by_cases h1:key z<n
  ·have f:(key z==n)=false:=by simp;omega
   have g:decide (n<key z)=false:=by simp;omega
   simp only[f,g,decide_eq_true h1,if_true,ξf,List.getElem?_cons_succ,ξy,if_false];exact j e.2
  ·have h:decide (key z<n)=false:=decide_eq_false h1;have i:r.filter (λz=>decide (n<key z))=r:=filter_all λy d=>by have:=e.1 y d;simp;omega
   simp only[h,ξy,if_false,ξE,List.getElem?_cons_zero,i]
   by_cases c:key z=n
   ·right;exact⟨z,by simp[c],c,rfl,by simp[c]⟩
   ·left;have f:(key z==n)=false:=by simpa using c
    have g:decide (n<key z)=true:=by simp;omega
    simp only[f,g,if_true];refine⟨lh.2 λy d=>by have:=e.1 y d;simp;omega,λy d=>?_,trivial⟩;cases d;exact c
end
theorem sU (x y:Int):decide (fW x y<0)=decide (x<y):=by
 unfold fW;rw[ξd,decide_eq_true_eq,decide_eq_true_eq];split
 ·simp[*]
 ·split
  ·simp;omega
  ·simp;omega
theorem cmp_eq (x y:Int):(fW x y==0)=decide (x=y):=by
 unfold fW;rw[ξd,decide_eq_true_eq,beq_iff_eq];split
 ·constructor
  ·intro h;omega
  ·intro h;omega
 ·split
  ·constructor
   ·intro h;omega
   ·intro h;omega
  ·constructor
   ·intro _;omega
   ·intro _;rfl
theorem uR {α:Type} {key:α->Int} {l:List α} {n:Int} (d:l.Pairwise λa b=>key a<key b):l.Pairwise λa b=>decide (key b<n)=true->decide (key a<n)=true:=d.imp λ{a b} h1 c=>decide_eq_true (by have:=of_decide_eq_true c;omega)
theorem v31 {s:aL} (h:eJ s) (g:s.ao.length<=16) (pid:Int):tb ab s pid=some (ke s pid):=by
 show(z' ab s pid).val=_;unfold z' ke;have hlen:=h.len;have d:zj ab s.au s.ao pid (s.au.length:Int) 0 []=some (false,(s.au.length:Int),(s.au.filter λy=>y.aa==pid).map aD.a1):=by
  show b4 (λa=>(oT ab s.au s.ao pid (s.au.length:Int) a).val) 1000000 (0,[])=_;rw[FB (p:=λy=>y.aa==pid) (f:=aD.a1) (x:=λa=>(false,(s.au.length:Int),a)) (l:=s.au) (λi z a c e=>?_) (λa=>?_) (by omega)]
  ·have hi:=(η.1 c).1;have j:decide ((i:Int)<(s.au.length:Int))=true:=decide_eq_true (by omega);have hw:γ.wrap ((i:Int)+1)=((i+1:Nat):Int):=du (by omega) (by omega);unfold oT;simp only[T.aN,T.aE,T.aC,j,cond_true,e9 c,δ,hw,hj (b:=8) (z:=z.a1) e hi (by omega)];cases z.aa==pid<;>rfl
  ·unfold oT;simp
 simp only[T.aN,T.aE,T.bM,T.aC,f49 h g,δ,d,show((0:Int) !=0)=false from rfl,cond_false]
theorem v196 {s:aL} (h:eJ s) (o:s.ao.length<=16) {n:Int} (hn:c9 n):mP ab s n=some (match gz s n with| .ok p=>(p,0)| .error e=>(0,e)):=by
 show(Am ab s n).val=_;unfold Am gz fq;have hlen:=h.len;have k:zp ab s.au n 0 (s.au.length:Int)=some (false,((s.au.takeWhile λz=>decide (z.a1<n)).length:Int),((s.au.takeWhile λz=>decide (z.a1<n)).length:Int)):=by
  show b4 (λa=>(oW ab s.au n a).val) 1000000 (0,(s.au.length:Int))=_;refine pg (l:=s.au) (lt:=λz=>decide (z.a1<n)) (x:=λc=>(false,(c:Int),(c:Int))) (uR (key:=aD.a1) h.jz) (by omega) (λlo hi m u hle hm q hw t=>?_) λc=>?_
  ·unfold oW;have b:decide ((lo:Int)<(hi:Int))=true:=decide_eq_true (by omega);have d:s.au[m]? =some s.au[m]:=ε q;simp only[T.aN,T.aE,T.aC,b,cond_true,hw,t,e9 d,θ,d,δ,hI,sU]
  ·unfold oW;simp
 simp only[T.aN,T.aE,T.bM,T.aC,f49 h o,wH hn,δ,k,show((0:Int) !=0)=false from rfl,cond_false];cases eD n with
 |false=>rfl
 |true=>
  simp only[μ,cond_true,cond_false];rcases qH (key:=aD.a1) (n:=n) h.jz with⟨f,g,_⟩|⟨z,f,g,i,_⟩
  ·rw[f]
   by_cases j:(s.au.takeWhile λz=>decide (z.a1<n)).length<s.au.length
   ·have d:=ε j;have r:=g _ d;have b:decide (((s.au.takeWhile λz=>decide (z.a1<n)).length:Int)<(s.au.length:Int))=true:=decide_eq_true (by omega);simp only[b,cond_true,e9 d,δ,hI,cmp_eq,decide_eq_false r];rfl
   ·have b:decide (((s.au.takeWhile λz=>decide (z.a1<n)).length:Int)<(s.au.length:Int))=false:=decide_eq_false (by omega);simp only[b,cond_false];rfl
  ·rw[f];have j:=(η.1 i).1;have b:decide (((s.au.takeWhile λz=>decide (z.a1<n)).length:Int)<(s.au.length:Int))=true:=decide_eq_true (by omega);simp only[b,cond_true,e9 i,δ,hI,cmp_eq,decide_eq_true g];rfl
theorem Bx {S:Int×List aw->T ((Int×List aw)⊕(Bool×Int×List aw))} {s:aL} (h:eJ s) (k:s.ao.length<=16)
  (d: ∀a,(S a).val=bif decide (a.1<(s.ao.length:Int)) then(idx s.ao a.1).bind λz0=>(app 8 [] z0.a6).bind λj=>(app 32 a.2 [aw.mk z0.aa j]).bind λz2=>some (.inl (γ.wrap (a.1+1),z2)) else some (.inr (decide (a.1<(s.ao.length:Int)),a.1,a.2))):
  b4 (λa=>(S a).val) 1000000 (0,[])=some (false,(s.ao.length:Int),s.ao):=by
 rw[FB (p:=λ_=>true) (f:=id) (x:=λa=>(false,(s.ao.length:Int),a)) (l:=s.ao) (λi z a c e=>?_) (λa=>?_) (by omega)]
 ·rw[filter_all λ_ _=>rfl,ζW]
 ·have hi:=(η.1 c).1;have g:decide ((i:Int)<(s.ao.length:Int))=true:=decide_eq_true (by omega);have hw:γ.wrap ((i:Int)+1)=((i+1:Nat):Int):=du (by omega) (by omega);have m:=(h.box z (ξc c)).2.2;rw[d];simp only[g,cond_true,e9 c,δ,gN (b:=8) (l:=z.a6) (by omega),hw,hj (b:=32) (z:=z) e hi (by omega)];rfl
 ·rw[d];simp
theorem v194 {s:aL} (h:eJ s) (k:s.ao.length<=16) {n:Int} (hn:c9 n) (pid:Int):tl ab s n pid=some (match iK s n pid with| .ok q=>(q,0)| .error e=>(⟨[],[]⟩,e)):=by
 show(Ak ab s n pid).val=_;unfold Ak iK fq;have hlen:=h.len;have r:zf ab s.ao s.au (s.ao.length:Int) 0 []=some (false,(s.ao.length:Int),s.ao):=Bx h k λa=>rfl;have t:zn ab n s.au 0 (s.au.length:Int)=some (false,((s.au.takeWhile λz=>decide (z.a1<n)).length:Int),((s.au.takeWhile λz=>decide (z.a1<n)).length:Int)):=by
  show b4 (λa=>(oU ab n s.au a).val) 1000000 (0,(s.au.length:Int))=_;refine pg (l:=s.au) (lt:=λz=>decide (z.a1<n)) (x:=λc=>(false,(c:Int),(c:Int))) (uR (key:=aD.a1) h.jz) (by omega) (λlo hi m B hle hm v hw A=>?_) λc=>?_
  ·unfold oU;have d:decide ((lo:Int)<(hi:Int))=true:=decide_eq_true (by omega);have f:s.au[m]? =some s.au[m]:=ε v;simp only[T.aN,T.aE,T.aC,d,cond_true,hw,A,e9 f,θ,f,δ,hI,sU]
  ·unfold oU;simp
 have u:=De (b:=16) (l:=s.au) (lt:=λy=>decide (y.a1<n)) (x:=aD.mk n pid) (by omega);have p:((s.au.length:Int)==16)=(s.au.length==16):=by rw[ξd];simp;omega
 simp only[T.aN,T.aE,T.bM,T.aC,T.l1,f49 h k,gN (b:=16) (l:=s.au) (by omega),wH hn,Fw,δ,r,t,p,m_,u,show((0:Int) !=0)=false from rfl,cond_false];cases eD n with
 |false=>rfl
 |true=>
  cases dZ pid with
  |false=>rfl
  |true=>
   simp only[μ,cond_true,cond_false];rcases qH (key:=aD.a1) (n:=n) h.jz with⟨g,i,_⟩|⟨z,g,i,j,_⟩
   ·rw[g]
    by_cases o:(s.au.takeWhile λz=>decide (z.a1<n)).length<s.au.length
    ·have f:=ε o;have w:=i _ f;have d:decide (((s.au.takeWhile λz=>decide (z.a1<n)).length:Int)<(s.au.length:Int))=true:=decide_eq_true (by omega);simp only[d,cond_true,e9 f,θ,f,δ,hI,cmp_eq,decide_eq_false w,cond_false];cases s.au.length==16<;>rfl
    ·have d:decide (((s.au.takeWhile λz=>decide (z.a1<n)).length:Int)<(s.au.length:Int))=false:=decide_eq_false (by omega);simp only[d,cond_false];cases s.au.length==16<;>rfl
   ·rw[g];have o:=(η.1 j).1;have d:decide (((s.au.takeWhile λz=>decide (z.a1<n)).length:Int)<(s.au.length:Int))=true:=decide_eq_true (by omega);simp only[d,cond_true,e9 j,θ,j,δ,hI,cmp_eq,decide_eq_true i];rfl
theorem adR {s:aL} (h:eJ s) (o:s.ao.length<=16) {n p:Int} (hn:c9 n) (h1:eD n=true) (e:fq s.au n=some p):tn ab s n=some (qS s n,0):=by
 show(Al ab s n).val=_;unfold Al qS;unfold fq at e;have hlen:=h.len;have u:zg ab s.ao s.au (s.ao.length:Int) 0 []=some (false,(s.ao.length:Int),s.ao):=Bx h o λa=>rfl;have v:zo ab n s.au 0 (s.au.length:Int)=some (false,((s.au.takeWhile λz=>decide (z.a1<n)).length:Int),((s.au.takeWhile λz=>decide (z.a1<n)).length:Int)):=by
  show b4 (λa=>(oV ab n s.au a).val) 1000000 (0,(s.au.length:Int))=_;refine pg (l:=s.au) (lt:=λz=>decide (z.a1<n)) (x:=λc=>(false,(c:Int),(c:Int))) (uR (key:=aD.a1) h.jz) (by omega) (λlo hi m E hle hm B hw C=>?_) λc=>?_
  ·unfold oV;have f:decide ((lo:Int)<(hi:Int))=true:=decide_eq_true (by omega);have q:s.au[m]? =some s.au[m]:=ε B;simp only[T.aN,T.aE,T.aC,f,cond_true,hw,C,e9 q,θ,q,δ,hI,sU]
  ·unfold oV;simp
 rcases qH (key:=aD.a1) (n:=n) h.jz with⟨i,_,_⟩|⟨z,i,j,d,k⟩
 ·rw[i] at e;cases e
 have D:=(η.1 d).1;have f:decide (((s.au.takeWhile λz=>decide (z.a1<n)).length:Int)<(s.au.length:Int))=true:=decide_eq_true (by omega);have hw:γ.wrap (((s.au.takeWhile λz=>decide (z.a1<n)).length:Int)+1)=(((s.au.takeWhile λz=>decide (z.a1<n)).length+1:Nat):Int):=du (by omega) (by omega);have w:s.au.take (s.au.takeWhile λz=>decide (z.a1<n)).length++s.au.drop ((s.au.takeWhile λz=>decide (z.a1<n)).length+1)=s.au.filter λy=>!(y.a1==n):=by
  obtain⟨t1,t2⟩:=OS (λz:aD=>decide (z.a1<n)) s.au;rw[t1,<-η4,t2,k];have hl:=take_drop (λz:aD=>decide (z.a1<n)) s.au;rw[k] at hl;have A:s.au.filter (λy=>!(y.a1==n))=(s.au.takeWhile (λz=>decide (z.a1<n))++z::s.au.filter λy=>decide (n<y.a1)).filter λy=>!(y.a1==n):=by rw[hl]
  have r:(s.au.takeWhile λz=>decide (z.a1<n)).filter (λy=>!(y.a1==n))=s.au.takeWhile λz=>decide (z.a1<n):=filter_all λy g=>by
   have:y.a1<n:=by simpa using LD g
   simp;omega
  have t:(s.au.filter λy=>decide (n<y.a1)).filter (λy=>!(y.a1==n))=s.au.filter λy=>decide (n<y.a1):=filter_all λy g=>by
   have:=of_decide_eq_true (ξ2.1 g).2;simp;omega
  rw[A,ζ7,List.filter_cons_of_neg (by simp[j]),r,t];rfl
 simp only[T.aN,T.aE,T.bM,T.aC,f49 h o,gN (b:=16) (l:=s.au) (by omega),wH hn,h1,δ,u,v,f,hw,cond_true,μ,e9 d,θ,d,hI,cmp_eq,decide_eq_true j,show((0:Int) !=0)=false from rfl,cond_false,pt,wc];rw[if_pos ⟨by omega,by omega,by omega⟩];simp only[δ,θ,w]
theorem v168 (b:aw):tt ab b=some b.aa:=rfl
theorem v167 {s:aL} (h:eJ s) (q:s.ao.length<=16) (pid:Int):B5 ab s.ao pid=some (((s.ao.takeWhile λz=>decide (z.aa<pid)).length:Int),(s.ao.find? λz=>z.aa==pid).isSome):=by
 show(sH ab s.ao pid).val=_;unfold sH;have j:zr ab s.ao pid 0 (s.ao.length:Int)=some (false,((s.ao.takeWhile λz=>decide (z.aa<pid)).length:Int),((s.ao.takeWhile λz=>decide (z.aa<pid)).length:Int)):=by
  show b4 (λa=>(oX ab s.ao pid a).val) 1000000 (0,(s.ao.length:Int))=_;refine pg (l:=s.ao) (lt:=λz=>decide (z.aa<pid)) (x:=λc=>(false,(c:Int),(c:Int))) (uR (key:=aw.aa) h.kr) (by omega) (λlo hi m r hle hm k hw p=>?_) λc=>?_
  ·unfold oX;have b:decide ((lo:Int)<(hi:Int))=true:=decide_eq_true (by omega);have d:s.ao[m]? =some s.ao[m]:=ε k;simp only[T.aN,T.aE,T.aC,b,cond_true,hw,p,e9 d,θ,d,δ,hI,v168,sU]
  ·unfold oX;simp
 simp only[T.aN,T.aE,T.bM,T.aC,δ,j,v168,hI,cmp_eq];rcases qH (key:=aw.aa) (n:=pid) h.kr with⟨e,f,_⟩|⟨z,e,f,g,_⟩
 ·rw[e]
  by_cases i:(s.ao.takeWhile λz=>decide (z.aa<pid)).length<s.ao.length
  ·have d:=ε i;have o:=f _ d;have b:decide (((s.ao.takeWhile λz=>decide (z.aa<pid)).length:Int)<(s.ao.length:Int))=true:=decide_eq_true (by omega);simp only[b,cond_true,e9 d,δ,decide_eq_false o];rfl
  ·have b:decide (((s.ao.takeWhile λz=>decide (z.aa<pid)).length:Int)<(s.ao.length:Int))=false:=decide_eq_false (by omega);simp only[b,cond_false];rfl
 ·rw[e];have i:=(η.1 g).1;have b:decide (((s.ao.takeWhile λz=>decide (z.aa<pid)).length:Int)<(s.ao.length:Int))=true:=decide_eq_true (by omega);simp only[b,cond_true,e9 g,δ,decide_eq_true f];rfl
theorem Mo: ∀(l a:List aw),(∀b∈l,b.a6.length<=4)->a.length+l.length<=100->mY l a=some (a++l)
 |[],a,_,_=>by rw[ξ6];rfl
 |z::r,a,h,hl=>by
  have d:=h z ξq;rw[ξf] at hl;unfold mY E7;rw[gN (by omega),δ,hj (i:=100) (n:=101) (by omega) (by omega) (by omega),δ,Mo r _ (λb c=>h b (ξ9 _ c)) (by rw[ζ,ψ];omega),ν];rfl
theorem Bd {s:aL} (h:eJ s) (c:s.ao.length<=16) {pid:Int} (hp:dZ pid=true):
  lx ab s pid=some (⟨s.au,(s.ao.filter λb=>decide (b.aa<pid))++⟨pid,di s pid⟩::s.ao.filter λb=>decide (pid<b.aa)⟩,((s.ao.filter λb=>decide (b.aa<pid)).length:Int),0):=by
 have hlen:=h.len;have g:p3 ab s=some (s,0):=by
  unfold p3 C4 E8;rw[f49 h c,gN (by omega),Mo _ [] (λb c=>(h.box b c).2.2) (by simp;omega)];rfl
 have i:kg pid=true:=by
  unfold kg;unfold dZ at hp;rw[ι] at hp;rw[hp.1,hp.2];rfl
 unfold lx uD C6;rw[g,δ];simp only[show(!((0:Int)==0))=false from rfl,cond_false,i,μ,v167 h c,δ];obtain⟨t1,t2⟩:=ady (n:=pid) h.kr;have hl:=take_drop (λz:aw=>decide (z.aa<pid)) s.ao;rcases qH (key:=aw.aa) (n:=pid) h.kr with⟨a,_,d⟩|⟨z,a,e,d,f⟩
 ·rw[a];have hw:di s pid=[]:=by unfold di;rw[a]
  simp only[ζG,ξ1,cond_true];rw[De (b:=32) (lt:=λz:aw=>decide (z.aa<pid)) (by omega),hw];unfold bW;rw[d,t1];rfl
 ·rw[a];have hw:di s pid=z.a6:=by unfold di;rw[a]
  simp only[Option.isSome_some,μ,cond_false,δ];rw[f,t1] at hl;rw[hw,t1]
  conv=>lhs;arg 1;arg 1;rw[show s=⟨s.au,s.ao⟩ from rfl,<-hl]
  rw[<-e]
theorem Em {s:aL} (h:eJ s) {pid:Int} {c ws:Γa}:
  lW (aL.mk s.au (((s.ao.filter λb=>decide (b.aa<pid))++⟨pid,c⟩::s.ao.filter λb=>decide (pid<b.aa)).set (s.ao.filter λb=>decide (b.aa<pid)).length ⟨pid,ws⟩))=fF s pid ws:=by
 have hk: ∀(p:aw->Bool),(s.ao.filter p).filter (λz=>!(z.a6.length==0))=s.ao.filter p:=λp=>filter_all λz a=>by
  have:=(h.box z (ξ2.1 a).1).2.1;simp;intro e;rw[e] at this;simp at this
 unfold lW fF;rw[ζq (h:=ξ4 _),ξO,ζF];simp only;rw[ζ7,hk,ξv,hk]
 congr 2
 by_cases e:ws=[]
 ·simp[e]
 ·have:(ws.length==0)=false:=by simpa using e
  simp[e,this]
theorem get_at {α:Type} {a b:List α} {z:α}:idx (a++z::b) (a.length:Int)=some z:=e9 (by rw[φ (ξ4 _),ξO];rfl)
theorem v30 {s:aL} (h:eJ s) (a:s.ao.length<=16) {pid:Int} (hp:dZ pid=true):td ab s pid=some (fF s pid [],((di s pid).length:Int),0):=by
 show pY ab s pid=_;unfold pY;rw[Bd h a hp,δ];simp only[show(!((0:Int)==0))=false from rfl,cond_false,get_at,δ,θ,Em h]
theorem v198 {s:aL} (h:eJ s) (a:s.ao.length<=16) {pid:Int} (hp:dZ pid=true):tq ab s pid=some (match di s pid with|w::r=>(fF s pid r,w,0)|[]=>(⟨[],[]⟩,0,4)):=by
 show pZ ab s pid=_;unfold pZ;rw[Bd h a hp,δ];simp only[show(!((0:Int)==0))=false from rfl,cond_false,get_at,δ,θ,Em h];cases di s pid with
 |nil=>rfl
 |cons w r=>
  have:(((w::r).length:Int)==0)=false:=by simp;omega
  simp only[this,cond_false];rfl
theorem adS {s:aL} (h:eJ s) (b:s.ao.length<=16) {pid:Int} (hp:dZ pid=true) (w:Int):tp ab s pid [w]=some (if(di s pid).length=4 then(⟨[],[]⟩,6) else(fF s pid (di s pid++[w]),0)):=by
 show p1 ab s pid [w]=_;unfold p1;have hw:=Fx h pid;rw[Bd h b hp,δ];simp only[show(!((0:Int)==0))=false from rfl,cond_false,get_at,δ,θ,Em h,ψ];have a:γ.wrap (((di s pid).length:Int)+((1:Nat):Int))=((di s pid).length:Int)+1:=du (by omega) (by omega);simp only[a]
 by_cases e:(di s pid).length=4
 ·rw[if_pos e,e];rfl
 ·rw[if_neg e,decide_eq_false (by omega),cond_false,hj (i:=4) (n:=5) hw (by omega) (by omega),δ]
theorem LQ {α:Type} [DecidableEq α]: ∀ {l m:List α},l.Pairwise (λa b=>a≠b)->(∀x∈l,x∈m)->l.length<=m.length
 |[],_,_,_=>ξC _
 |x::r,m,hn,h=>by
  rw[υ] at hn;have c:=h x ξq;have:=LQ (m:=m.erase x) hn.2 λy d=>(List.mem_erase_of_ne λe=>hn.1 y d e.symm).2 (h y (ξ9 _ d));rw[List.length_erase_of_mem c] at this;have:=List.length_pos_of_mem c;rw[ξf];omega
theorem c5.lb {s:bb} (h:c5 s):s.aB.ao.length<=16:=by
 have h1:=LQ (l:=s.aB.ao.map aw.aa) (m:=s.az.ae.map ai.aa) (ζL.2 (h.i.kr.imp λ{a b} k=>by omega)) λx d=>by
  obtain⟨b,c,rfl⟩:=ζM.1 d;obtain⟨y,f,e,_⟩:=h.boxes b c;exact ζM.2 ⟨y,f,e⟩
 rw[ζ1,ζ1] at h1;exact ξB h1 h.p.len
structure hd (c:cN):Prop where
 p:c9 (ay c.fArgs 0)
 a:c9 (ay c.fArgs 1)
theorem v22 (c:cN):Cc ab c=some (lH c):=by
 show(AP ab c).val=_;unfold AP lH;simp only[T.aE,T.aC];cases c.bm==9<;>rfl
theorem LU {l:List ak} (h:fG l) {p a:Int} (c:8<=a):c7 l p a=none:=by
 unfold c7;rw[lh.2 λd b=>?_]
 ·rfl
 ·have:=h.is d b;simp[hx] at this;simp;omega
theorem v67 {s:bb} (h:c5 s) {c:cN} (A:hd c):B7 ab s c=some (hq s c):=by
 show(AB ab s c).val=_;unfold AB hq k2
 by_cases h1:1<=c.bm
 ·by_cases z:c.bm<=14
  ·rw[T.aE,decide_eq_true h1,cond_true,T.aE,decide_eq_true z,μ,cond_false,T.aN,v22,δ,if_pos ⟨h1,z⟩];have hp:=A.p;have o:=A.a;have r:=h.lb;generalize ay c.fArgs 0=p at*
   generalize ay c.fArgs 1=a at*
   generalize ay c.fArgs 2=b at*
   have hk:c.bm=1\/c.bm=2\/c.bm=3\/c.bm=4\/c.bm=5\/c.bm=6\/c.bm=7\/c.bm=8\/c.bm=9\/c.bm=10\/c.bm=11\/c.bm=12\/c.bm=13\/c.bm=14:=by omega
   have E:lH c=(c.bm==9||c.bm==12):=rfl;unfold nh;rw[E];rcases hk with e|e|e|e|e|e|e|e|e|e|e|e|e|e<;>
    simp only[e,T.aE,T.aC,T.aN,T.l1,Int.reduceBEq,Int.reduceEq,η9,ξY,ηd,Bool.or_true,Bool.true_or,cond_true,cond_false,if_true,if_false,v28 h.p,δ]
   ·cases j:b1 s.az.ae p with
    |false=>rfl
    |true=>
     simp only[μ,cond_true,cond_false,adJ h.p,δ];cases f:iN s.az p with
     |error x=>simp only[gR (OD f),ξ1,cond_true]
     |ok x=>rfl
   ·cases j:b1 s.az.ae p with
    |false=>rfl
    |true=>
     have q:=(hE h.p.ord).1 j;simp only[μ,cond_true,cond_false,adK h.p,δ];cases f:ij s.az p a with
     |error x=>simp only[gR (IP f),ξ1,cond_true]
     |ok x=>
      simp only[v31 h.i r,v29 h.d,v30 h.i r (jH h.p q).1,δ,beq_self_eq_true,μ,cond_false]
      by_cases g:ke s.aB p=[]
      ·rw[if_pos g,g];rfl
      ·have:(((ke s.aB p).length:Int)==0)=false:=by
        have:=ξg.2 g;simp;omega
       rw[if_neg g,this];rfl
   ·cases j:b1 s.az.ae p with
    |false=>rfl
    |true=>
     simp only[μ,cond_true,cond_false,adL h.p,δ];cases f:iS s.az p a with
     |error x=>simp only[gR (Pj f),ξ1,cond_true]
     |ok x=>rfl
   ·cases j:b1 s.az.ae p with
    |false=>rfl
    |true=>
     have q:=(hE h.p.ord).1 j;simp only[μ,cond_true,cond_false,v183 h.m o,δ];cases f:fP s.aI a with
     |error x=>simp only[gR (vU f),ξ1,cond_true]
     |ok x=>
      simp only[O8 h.d (jH h.p q).2.1,δ,beq_self_eq_true,μ,cond_false];cases n:hC s.aV p x with
      |error y=>simp only[gR (D5 n),ξ1,cond_true]
      |ok y=>
       obtain⟨l,v⟩:=y;obtain⟨i,t,_,rfl,_⟩:=vr n;have:=(Cl t).1;simp only[beq_self_eq_true,μ,cond_false,jN (x:=(i:Int)) (by omega) (by omega)]
   ·cases j:b1 s.az.ae p with
    |false=>rfl
    |true=>
     simp only[μ,cond_true,cond_false]
     by_cases u:a<8
     ·simp only[decide_eq_true u,μ,cond_false,du (x:=a) (by omega) (by omega),v232 h.d,adM h.d,δ];cases f:gP s.aV p a with
      |error x=>
       cases n:c7 s.aV p a with
       |some w=>unfold gP at f;rw[n] at f;cases f
       |none=>unfold gP at f;rw[n] at f;cases f;rfl
      |ok x=>
       obtain⟨w,n,_⟩:=Ij f;rw[n];rfl
     ·have:c7 s.aV p a=none:=LU h.d (by omega);unfold gP;simp only[decide_eq_false u,ξ1,cond_true,this]
   ·cases j:b1 s.az.ae p with
    |false=>rfl
    |true=>
     have q:=(hE h.p.ord).1 j;simp only[μ,cond_true,cond_false]
     by_cases u:a<8
     ·simp only[decide_eq_true u,μ,cond_false,du (x:=a) (by omega) (by omega),v232 h.d,adN h.d (jH h.p q).2.1,δ];cases f:hr s.aV p a with
      |error x=>
       cases n:c7 s.aV p a with
       |some w=>simp only[gR (Iz f),ξ1,μ,cond_false,cond_true]
       |none=>unfold hr at f;rw[n] at f;cases f;rfl
      |ok x=>
       obtain⟨l,v⟩:=x;obtain⟨w,n,B⟩:=IA f;obtain⟨i,t,_,rfl,_⟩:=vr B;have:=(Cl t).1;simp only[n,beq_self_eq_true,μ,cond_false,jN (x:=(i:Int)) (by omega) (by omega)]
     ·have:c7 s.aV p a=none:=LU h.d (by omega);unfold hr;simp only[decide_eq_false u,ξ1,cond_true,this]
   ·cases j:b1 s.az.ae p with
    |false=>rfl
    |true=>
     simp only[μ,cond_true,cond_false,adO h.m o,δ];cases f:h9 s.aI a with
     |error x=>simp only[gR (HK f),ξ1,cond_true]
     |ok x=>rfl
   ·cases j:b1 s.az.ae p with
    |false=>rfl
    |true=>
     simp only[μ,cond_true,cond_false,adP h.m o,δ];cases f:iG s.aI a with
     |error x=>simp only[gR (L4 f),ξ1,cond_true]
     |ok x=>
      simp only[adQ h.d,v193 h.m o,δ,beq_self_eq_true,μ,cond_false]
      by_cases g:k7 s.aV x=0
      ·rw[if_pos g,g];simp only[show(((0:Nat):Int)==0)=true from rfl,μ,cond_false];cases n:iQ s.aI a with
       |error y=>simp only[gR (OY n),ξ1,cond_true]
       |ok y=>rfl
      ·have:((k7 s.aV x:Int)==0)=false:=by simp;omega
       rw[if_neg g,this];rfl
   ·simp only[v183 h.m o,δ];cases f:fP s.aI a with
    |error x=>simp only[gR (vU f),ξ1,cond_true]
    |ok x=>rfl
   ·cases j:b1 s.az.ae p with
    |false=>rfl
    |true=>
     simp only[μ,cond_true,cond_false,v194 h.i r o,δ];cases f:iK s.aB a p with
     |error x=>simp only[gR (MZ f),ξ1,cond_true]
     |ok x=>rfl
   ·cases j:b1 s.az.ae p with
    |false=>rfl
    |true=>
     simp only[μ,cond_true,cond_false,v196 h.i r o,δ];cases f:gz s.aB a with
     |error x=>simp only[gR (uV f),ξ1,cond_true]
     |ok x=>
      obtain⟨t,C⟩:=p_ f;simp only[adR h.i r o t C,δ,beq_self_eq_true,μ,cond_false]
      by_cases g:x=p
      ·rw[if_pos g,g];simp
      ·have:(x==p)=false:=by simpa using g
       rw[if_neg g,this];rfl
   ·simp only[v196 h.i r o,δ];cases f:gz s.aB a with
    |error x=>simp only[gR (uV f),ξ1,cond_true]
    |ok x=>rfl
   ·cases j:b1 s.az.ae p with
    |false=>rfl
    |true=>
     simp only[μ,cond_true,cond_false];cases D:b1 s.az.ae a with
     |false=>rfl
     |true=>
      have q:=(hE h.p.ord).1 D;unfold kG;simp only[adS h.i r (jH h.p q).1,δ,μ,cond_true,cond_false]
      by_cases g:(di s.aB a).length=4
      ·rw[if_pos g,g];rfl
      ·have:((di s.aB a).length==4)=false:=by simpa using g
       rw[if_neg g,this];rfl
   ·cases j:b1 s.az.ae p with
    |false=>rfl
    |true=>
     have q:=(hE h.p.ord).1 j;unfold kC;simp only[v198 h.i r (jH h.p q).1,δ,μ,cond_true,cond_false];cases di s.aB p<;>rfl
  ·rw[T.aE,decide_eq_true h1,cond_true,T.aE,decide_eq_false z,if_neg λk=>z k.2];rfl
 ·rw[T.aE,decide_eq_false h1,if_neg λk=>h1 k.1];rfl
theorem v68 {s:bb} (h:c5 s):B8 ab s=some s:=by
 show(AD ab s).val=_;unfold AD;have h1:=h.p.len;have f:=h.d.len;have g:=h.m.len;have j:=h.i.len;have c:=h.lb;have e:zv ab s.aB.ao s.az.aS s.aI.bp s.az.ae s.aV s.aI.ae s.aB.au (s.aB.ao.length:Int) 0 []=some (false,(s.aB.ao.length:Int),s.aB.ao):=Bx h.i c λa=>rfl;simp only[T.aN,T.bM,T.aC,gN (b:=32) (l:=s.az.ae) (by omega),gN (b:=24) (l:=s.aV) (by omega),gN (b:=16) (l:=s.aI.ae) (by omega),gN (b:=16) (l:=s.aB.au) (by omega),δ,e]
theorem Yo {s:bb} (h:c5 s):Gy s where
 p:=Jt h.p
 d:=by have:=h.d.len;unfold maxLen;omega
 i:=⟨λz a=>(h.i.name z a).1,by have:=h.i.len;unfold maxLen;omega,by have:=h.lb;unfold maxLen;omega⟩
theorem f11 {s:bb} (h:c5 s):tv ab s=some 0:=by
 rw[v11 (Yo h) (Pa (Jq h.m))];have:=(Ig (YU h)).2 h;unfold Bq at this;rw[this];rfl
theorem v19 {s:bb} (h:c5 s) {c:cN} (a:hd c):B2 ab s c=some ((hq s c).1,(hq s c).2,0):=by
 show(Aq ab s c).val=_;unfold Aq;simp only[T.aN,T.aE,T.aC,f11 h,v68 h,v67 h a,δ];rfl
theorem U0 {s:bb} (h:c5 s) (c:cN):((hq s c).2.cq≠0/\(hq s c).1=s)\/((hq s c).2.cq=0/\Step s (ay c.fArgs 0) (ay c.fArgs 1) (ay c.fArgs 2) c.bm (hq s c).1 (hq s c).2.cD/\(c.bm≠9->c.bm≠12->dp s.az.ae (ay c.fArgs 0))):=by
 unfold hq;cases e:k2 s c with
 |error x=>exact .inl ⟨IK (Ud e),rfl⟩
 |ok r=>exact .inr ⟨rfl,Ue h e⟩
end Go.Proofs.YtoggponeookhbaaGreatDoor
end
section
namespace Go.Proofs.YtoggponeookhbaaGreatDoor
open Go.RowKit Go.Dc Go.Vx
variable (sh:Sh)
def Az (sh:Sh) (a b:ag):T Bool:=.bf (a.bK !=0) (.ok (decide (a.bK<b.bP)))<|.ok false
def tu (a b:ag):=sh.s _ (Az sh a b).val
def GY:=bN (c6 KK 38 42 42 (tu sh) (cx KK 4)) (GU sh)
theorem GZ:aj (GY shut) κ:=de (rs:=[4]) GV (aj.all GV rfl) rfl rfl λa b k=>by kernel_rfl
def AJ (sh:Sh) (d:ag):T Bool:=.bf (d.aR==0) (.bf (decide (d.cO>=0)) (.bf (decide (d.cO<8)) (.bf (decide (d.bP>=1)) (.bf (d.bK==0) (.bf (fC d.cn (cX.mk 0 0)) (.ok true)<|.bf (!d.bK==0) (.ok (decide (d.bK>=d.bP)))<|.ok false)<|.bf (!d.bK==0) (.ok (decide (d.bK>=d.bP)))<|.ok false)<|.ok false)<|.ok false)<|.ok false)<|.bf (decide (d.aR>=d.bP)) (.bf (d.bK==0) (.bf (decide (d.cO>=0)) (.bf (decide (d.cO<8)) (.bf (decide (d.bP>=1)) (.bf (d.bK==0) (.bf (fC d.cn (cX.mk 0 0)) (.ok true)<|.bf (!d.bK==0) (.ok (decide (d.bK>=d.bP)))<|.ok false)<|.bf (!d.bK==0) (.ok (decide (d.bK>=d.bP)))<|.ok false)<|.ok false)<|.ok false)<|.ok false)<|.bf (decide (d.cO>=0)) (.bf (decide (d.cO<8)) (.bf (decide (d.bP>=1)) (.bf (decide (d.aR<=d.bK)) (.bf (d.bK==0) (.bf (fC d.cn (cX.mk 0 0)) (.ok true)<|.bf (!d.bK==0) (.ok (decide (d.bK>=d.bP)))<|.ok false)<|.bf (!d.bK==0) (.ok (decide (d.bK>=d.bP)))<|.ok false)<|.ok false)<|.ok false)<|.ok false)<|.ok false)<|.bf (decide (d.cO>=0)) (.bf (decide (d.cO<8)) (.bf (decide (d.bP>=1)) (.ok false)<|.ok false)<|.ok false)<|.ok false
def pG (d:ag):=sh.s _ (AJ sh d).val
def He:=bN (dR KK 49 42 (pG sh) (cx KK 4)) (GY sh)
theorem Hf:aj (He shut) κ:=eh (rs:=[4]) GZ (aj.all GZ rfl) rfl rfl λd k=>by kernel_rfl
def AK (sh:Sh) (r:cX):T Bool:=.bf (fC r (cX.mk 363 0)) (.ok true)<|.ok (fC r (cX.mk 364 0))
def Cb (r:cX):=sh.s _ (AK sh r).val
def Hg:=bN (dR KK 52 40 (Cb sh) (cx KK 4)) (He sh)
theorem Hh:aj (Hg shut) κ:=eh (rs:=[4]) Hf (aj.all Hf rfl) rfl rfl λr k=>by kernel_rfl
def Ax (s:bb) (d:ag):T (bb×Bool):=.bd (B2 sh s d.b9) λz0=>.bf (d.bK==0) (.ok (z0.fst,(z0.snd.fst.cq==0)))<|.bd (Cb sh d.cn) λa=>.bf (a) (.bf (z0.snd.fst.cq==0) (.bd (j7 sh z0.fst s) λz2=>.ok (s,!z2))<|.ok (s,false))<|.ok (z0.fst,(fC z0.snd.fst d.cn))
def ik (s:bb) (d:ag):=sh.s _ (Ax sh s d).val
def yj:=bN (c6 KK 27 60 42 (ik sh) (eN KK 60 4)) (Hg sh)
theorem rN:aj (yj shut) κ:=de (rs:=[60,4]) Hh (aj.all Hh rfl) rfl rfl λs d k=>by kernel_rfl
def tI (p0:List ag) (a:Int):AS SS:=⟨[(0,(vd 22 p0)),(1,(vc 0)),(7,(vl p0)),(8,(vi a))],[(some (.aM 88 [] [(.one (.aK 1 0))])),(bX 84 [(.v (.func (.func 49) (.mk []) (.mk [])))])],2,none,false,[],[]⟩
def NK (p0:List ag):AS SS:=tI p0 0
def Vc (p0:List ag) (a0:Int):AS SS:= {tI p0 a0 with env:=[(4,(vi a0))]}
def Vd (p0:List ag) (a0:Bool) (a:Int):AS SS:=xe [(9,(vb a0))] (tI p0 a)
def r9 (p0:List ag) (b:Int) (z0:ag) (a:Unit):T (Unit⊕Int⊕(Bool×Int)):=.bd (pG sh z0) λc=>.bf (!c) (.ok (.inr (.inl b)))<|.ok (.inl ())
def q2 (sh:Sh) (p0:List ag) (b:Int) (a:Unit):T (Int⊕(Bool×Int)):=.ok (.inr ((decide (b<(↑p0.length:Int))),b))
def rW (p0:List ag):=b8 sh (r9 sh p0) (q2 sh p0) p0 ()
def Sk {R} (k:KX SS R) (p0:List ag) (x:Int⊕(Bool×Int)):Option R:=(λx=>ζY (λv=>k .ret (Vc p0 v)) (λv=>k (.exit 0) (Vd p0 v.1 v.2)) x) x
def Kg:bc SS:=br 3 (λst=>((cg st 0 88).bind λ_=>JF st 1 49).bind λ_=>(bo 22 (aJ st 0 0)).bind λp0=>some p0) (λp=>NK p) (λp=>rW shut p) (λk p=>Sk k p)
theorem aaO:LS KK κ aq ηe 123 3 Kg:=
 aZ.cd (π:=List ag) (aj.all rN rfl) (aO.nil) rfl 60 (λp i a=>tI p i) (λp=>p) (λp=>()) (St:=λp=>r9 shut p) (F:=λp=>q2 shut p) (λp=>rfl)
  (λm p i a k=>by kernel_rfl) (by rintro p (x|x)<;>exact⟨_,_,λ_=>rfl⟩) (λp N C A O w a b=>cL b (t:=22) (sl:=0) rfl λv h=>h)
def tJ (p0:List ag) (a p2:Int) (b:Γa) (c d e f g h:Int):AS SS:=⟨[(0,(vd 22 p0)),(1,(vc 0)),(7,(vl p0)),(8,(vi h))],[(some (.aM 88 [] [(.one (.aK 1 0))])),(bX 84 [(.aM 2)]),(some (.aM 50 [] [(.one (.aK 3 0))])),(bX 42 [(li a),(lu p2),(.bG .u64 4 b),(li c),(lu d),(li e),(li f),(li g)])],4,none,false,[],[]⟩
def NL (p0:List ag) (a p2:Int) (b:Γa) (c d e f g:Int):AS SS:=tJ p0 a p2 b c d e f g 0
def Ve (p0:List ag) (a p2:Int) (b:Γa) (c d e f g a0:Int):AS SS:= {tJ p0 a p2 b c d e f g a with env:=[(4,(vi a0))]}
def Vf (p0:List ag) (a p2:Int) (c:Γa) (d e f g h:Int) (a0:Bool) (b:Int):AS SS:= {tJ p0 a p2 c d e f g h a with env:=[(9,(vb a0)),(0,(vd 22 p0)),(1,(vc 0)),(7,(vl p0)),(8,(vi b))]}
def r_ (p0:List ag) (b p2:Int) (c:Γa) (d e f g h i:Int) (z0:ag) (a:Unit):T (Unit⊕Int⊕(Bool×Int)):=.bf (z0.cO !=b) (.ok (.inl ()))<|.bd (tu sh z0 (ag.mk b (cN.mk p2 c) (cX.mk d e) f g h)) λj=>.bf (j) (.ok (.inl ()))<|.bd (tu sh (ag.mk b (cN.mk p2 c) (cX.mk d e) f g h) z0) λk=>.bf (!k) (.ok (.inr (.inl i)))<|.ok (.inl ())
def q3 (sh:Sh) (p0:List ag) (c p2:Int) (d:Γa) (e f g h i b:Int) (a:Unit):T (Int⊕(Bool×Int)):=.ok (.inr ((decide (b<(↑p0.length:Int))),b))
def rY (p0:List ag) (a p2:Int) (b:Γa) (c d e f g:Int):=b8 sh (r_ sh p0 a p2 b c d e f g) (q3 sh p0 a p2 b c d e f g) p0 ()
def Sl {R} (k:KX SS R) (p0:List ag) (a p2:Int) (b:Γa) (c d e f g:Int) (x:Int⊕(Bool×Int)):Option R:=(λx=>ζY (λv=>k .ret (Ve p0 a p2 b c d e f g v)) (λv=>k (.exit 0) (Vf p0 a p2 b c d e f g v.1 v.2)) x) x
def Kh:bc SS:=br 3 (λst=>((cg st 0 88).bind λ_=>cg st 2 50).bind λ_=>(bo 22 (aJ st 0 0)).bind λp0=>(aU (bj st 3 0)).bind λa=>(aU (bj st 3 1)).bind λp2=>(fX (bj st 3 2)).bind λb=>(aU (bj st 3 3)).bind λc=>(aU (bj st 3 4)).bind λd=>(aU (bj st 3 5)).bind λe=>(aU (bj st 3 6)).bind λf=>(aU (bj st 3 7)).bind λg=>some (p0,a,p2,b,c,d,e,f,g)) (u9 NL) (u9 (rY shut)) (λk=>u9 (Sl k))
theorem aaP:LS KK κ aq ηe 123 3 Kh:=
 aZ.cd (aj.all rN rfl) (aO.nil) rfl 60 (λp i a=>u9 tJ p i) (λp=>p.1) (λp=>()) (St:=u9 (r_ shut)) (F:=u9 (q3 shut)) (λp=>rfl)
  (λm p i a k=>by kernel_rfl) (by rintro p (x|x)<;>exact⟨_,_,λ_=>rfl⟩) (λp N C A O w a b=>cL b (t:=22) (sl:=0) rfl λv h=>h)
def CK (p0:List ag) (a:Int) (p2:Γc):AS SS:=⟨[(1,(va 0 0)),(3,(vs (.mp 1))),(19,(vd 22 p0)),(20,(vl p0)),(21,(vi a))],[(bX 24 [(.aH 22 p0)]),(some (.map .i64 .i64 p2))],0,none,false,[],[]⟩
def E5 (p0:List ag) (p2:Γc):AS SS:=CK p0 0 p2
def V2 (p0:List ag):AS SS:=⟨[(2,(vi 390))],[],0,none,false,[],[]⟩
def V3 (p0:List ag) (a0:Bool) (a:Int) (a2:Γc):AS SS:=xe [(22,(vb a0))] (CK p0 a a2)
def oS (p0:List ag) (d:Int) (z0:ag) (a:(Γc)):T (((Γc))⊕Unit⊕(Bool×Int×(Γc))):=.bd (dL p0 none (some d) none) λc=>.gd (NL c z0.cO z0.b9.bm z0.b9.fArgs z0.cn.cq z0.cn.cD z0.bP z0.aR z0.bK)<|.bd (rY sh c z0.cO z0.b9.bm z0.b9.fArgs z0.cn.cq z0.cn.cD z0.bP z0.aR z0.bK) λx4=>.cs x4 (λb=>.bf (!!decide (b>=0)) (.ok (.inr (.inl ())))<|.bf (z0.aR !=0) (.bf (decide ((bw (cb a z0.aR (γ.wrap ((bw a z0.aR).getD 0+1))) z0.aR).getD 0>1)) (.ok (.inr (.inl ())))<|.ok (.inl (cb a z0.aR (γ.wrap ((bw a z0.aR).getD 0+1)))))<|.ok (.inl (cb a z0.aR (γ.wrap ((bw a z0.aR).getD 0+1))))) λb=>.bf (z0.aR !=0) (.bf (decide ((bw (cb a z0.aR (γ.wrap ((bw a z0.aR).getD 0+1))) z0.aR).getD 0>1)) (.ok (.inr (.inl ())))<|.ok (.inl (cb a z0.aR (γ.wrap ((bw a z0.aR).getD 0+1)))))<|.ok (.inl (cb a z0.aR (γ.wrap ((bw a z0.aR).getD 0+1))))
def rh (sh:Sh) (p0:List ag) (b:Int) (a:(Γc)):T (Unit⊕(Bool×Int×(Γc))):=.ok (.inr ((decide (b<(↑p0.length:Int))),b,a))
def oD (p0:List ag) (p2:Γc):Option (Unit⊕(Bool×Int×(Γc))):=b8 sh (oS sh p0) (rh sh p0) p0 p2
def SX {R} (k:KX SS R) (p0:List ag) (x:Unit⊕(Bool×Int×(Γc))):Option R:=(λx=>ζY (λv=>k .ret (V2 p0)) (λv=>k (.exit 0) (V3 p0 v.1 v.2.1 v.2.2)) x) x
def KJ:bc SS:=br 6 (λst=>(bo 22 (aJ st 19 0)).bind λp0=>(gw st 1).bind λp2=>some (p0,p2)) (u2 E5) (u2 (oD shut)) (λk p=>SX k p.1)
def Gb:=bL (yj shut) aq ηe 123 [mA (λst=>(cg st 0 88).bind λ_=>JF st 1 49) Kg (Kh)]
theorem Gc:a7 Gb κ:=bO (aj.all rN rfl) Tryz.func123 rfl aY (by kernel_rfl) (aZ.alt aaO aaP)
theorem abc:LS KK κ aq Tryz.f23 23 6 KJ:=
 aZ.cd (π:=List ag×(Γc)) (σ:=(Γc)) Gc (aO.nil) rfl 60 (λp i a=>CK p.1 i a) (λp=>p.1) (λp=>p.2) (St:=λp=>oS shut p.1) (F:=λp=>rh shut p.1) (λp=>rfl)
  (λm p i a k=>by kernel_rfl) (by rintro p (x|x)<;>exact⟨_,_,λ_=>rfl⟩) (λp N C A O w a b=>cL b (t:=22) (sl:=19) rfl λv h=>h)
def QI:=bL Gb aq Tryz.f23 23 [KJ]
theorem QJ:a7 QI κ:=bO Gc Tryz.func23 rfl aY (by kernel_rfl) abc
def i_ (h:dH):T Int:=.bf (decide ((↑h.cA.length:Int)>64)) (.ok 390)<|.gd (NK h.cA)<|.bd (rW sh h.cA) λx3=>.cs x3 (λa=>.bf (!!decide (a>=0)) (.ok 390)<|.gd (E5 h.cA [])<|.bd (oD sh h.cA []) λx5=>.cs x5 (λ_=>.ok 390) λb=>.ok 0) λa=>.gd (E5 h.cA [])<|.bd (oD sh h.cA []) λx5=>.cs x5 (λ_=>.ok 390) λb=>.ok 0
def pF (h:dH):=sh.s _ (i_ sh h).val
def yf:=bN (dR KK 23 24 (pF sh) (cx KK 27)) (yj sh)
theorem yg:aj (yf shut) κ:=eh (rs:=[27]) rN QJ rfl rfl λh k=>by kernel_rfl
def CP (p0:Γa) (a:List ag) (p2:List bb) (b:Int):AS SS:=⟨[(2,(va 0 0)),(6,(vo 1)),(14,(vd 31 p0)),(15,(vl p0)),(16,(vi b))],[(bX 24 [(.aH 22 a)]),(rX 60 p2)],0,none,false,[],[]⟩
def N7 (p0:Γa) (a:List ag) (p2:List bb):AS SS:=CP p0 a p2 0
def Wn (p0:Γa) (a:List ag):AS SS:=⟨[(4,(vo 0)),(5,(vb false))],[(rX 60 [])],0,none,false,[],[]⟩
def Wo (p0:Γa) (b:List ag) (a0:Bool) (a:Int) (a2:List bb):AS SS:=xe [(17,(vb a0))] (CP p0 b a2 a)
def kV (p0:Γa) (c:List ag) (e z0:Int) (a:List bb):T (List bb⊕Unit⊕(Bool×Int×List bb)):=.bd (idx a (γ.wrap ((↑a.length:Int)-1))) λf=>.bd (a[(γ.wrap ((↑a.length:Int)-1)).toNat]?) λz2=>.bd (idx c z0) λz3=>.bd (ik sh z2 z3) λb=>.bf (!b.2) (.ok (.inr (.inl ())))<|.bd (j7 sh b.1 z2) λz5=>.bf (z5) (.ok (.inr (.inl ())))<|.bd (app 256 a [b.1]) λd=>.ok (.inl d)
def l_ (sh:Sh) (p0:Γa) (c:List ag) (b:Int) (a:List bb):T (Unit⊕(Bool×Int×List bb)):=.ok (.inr ((decide (b<(↑p0.length:Int))),b,a))
def oE (p0:Γa) (a:List ag) (p2:List bb):=b8 sh (kV sh p0 a) (l_ sh p0 a) p0 p2
def Tb {R} (k:KX SS R) (p0:Γa) (a:List ag) (x:Unit⊕(Bool×Int×List bb)):Option R:=(λx=>ζY (λv=>k .ret (Wn p0 a)) (λv=>k (.exit 0) (Wo p0 a v.1 v.2.1 v.2.2)) x) x
def KZ:bc SS:=br 4 (λst=>(bo 31 (aJ st 14 0)).bind λp0=>(bo 22 (bj st 0 0)).bind λa=>(b3 st 1 60).bind λp2=>some (p0,a,p2)) (u3 N7) (u3 (oE shut)) (λk p=>Tb k p.1 p.2.1)
theorem abq:LS KK κ aq Tryz.f33 33 4 KZ:=
 aZ.cd (π:=Γa×List ag×List bb) (σ:=List bb) (aj.all yg rfl) (aO.nil) rfl 60 (λp i a=>CP p.1 p.2.1 a i) (λp=>p.1) (λp=>p.2.2) (St:=λp=>kV shut p.1 p.2.1) (F:=λp=>l_ shut p.1 p.2.1) (λp=>rfl)
  (λm p i a k=>by kernel_rfl) (by rintro p (x|x)<;>exact⟨_,_,λ_=>rfl⟩) (λp N C A O w a b=>cL b (t:=31) (sl:=14) rfl λv h=>h)
def QP:=bL (yf shut) aq Tryz.f33 33 [KZ]
theorem QQ:a7 QP κ:=bO (aj.all yg rfl) Tryz.func33 rfl aY (by kernel_rfl) abq
def mr (h:dH) (l:Γa):T (List bb×Bool):=.bd (B1 sh) λz0=>.gd (N7 l h.cA [z0])<|.bd (oE sh l h.cA [z0]) λx4=>.cs x4 (λ_=>.ok ([],false)) λa=>.ok (a.2.2,true)
def mR (h:dH) (l:Γa):=sh.s _ (mr sh h l).val
def ym:=bN (c6 KK 33 24 31 (mR sh) (eN KK 89 4)) (yf sh)
theorem yn:aj (ym shut) κ:=de (rs:=[89,4]) yg QQ rfl rfl λh l k=>by kernel_rfl
def uh (p0:Γa) (a:List bb) (p2:Int) (e:List ag) (f g:Int) (h:Γa) (i j k b c d:Int):AS SS:=⟨[(1,(vd 31 p0)),(2,(vd 89 a)),(4,(va 0 0)),(7,(va 1 0)),(15,(vi p2)),(16,(vi d))],[(bX 24 [(.aH 22 e)]),(bX 42 [(li f),(lu g),(.bG .u64 4 h),(li i),(lu j),(li k),(li b),(li c)])],0,none,false,[],[]⟩
def Wp (p0:Γa) (a:List bb) (p2:Int) (d:List ag) (e f:Int) (g:Γa) (h i j b c a0:Int):AS SS:=⟨[(8,(vi a0)),(9,(vb true))],[],0,none,false,[],[]⟩
def Wq (p0:Γa) (a:List bb) (p2:Int) (e:List ag) (f g:Int) (h:Γa) (i j k c d:Int) (a0:Bool) (b:Int):AS SS:= {uh p0 a p2 e f g h i j k c d p2 with env:=[(17,(vb a0)),(1,(vd 31 p0)),(2,(vd 89 a)),(4,(va 0 0)),(7,(va 1 0)),(15,(vi p2)),(16,(vi b))]}
def fU (p0:Γa) (b:List bb) (p2:Int) (l:List ag) (g h:Int) (i:Γa) (j k c f d a:Int):T (Int⊕Int⊕(Bool×Int)):=.bf (decide (a<p2)) (.bf (decide (a>0)) (.bd (idx p0 (γ.wrap (a-1))) λz0=>.bd (idx l z0) λm=>.bf (decide (m.aR>d)) (.ok (.inl (γ.wrap (a+1))))<|.bf (decide (a<(↑p0.length:Int))) (.bd (idx p0 a) λz2=>.bd (idx l z2) λz3=>.bf (decide (z3.aR<c)) (.ok (.inl (γ.wrap (a+1))))<|.bd (idx b a) λz4=>.bd (ik sh z4 (ag.mk g (cN.mk h i) (cX.mk j k) c f d)) λo=>.bf (o.2) (.bd (idx b a) λp=>.bd (j7 sh o.1 p) λq=>.bf (q) (.ok (.inr (.inl a)))<|.ok (.inl (γ.wrap (a+1))))<|.ok (.inl (γ.wrap (a+1))))<|.bd (idx b a) λz2=>.bd (ik sh z2 (ag.mk g (cN.mk h i) (cX.mk j k) c f d)) λe=>.bf (e.2) (.bd (idx b a) λz4=>.bd (j7 sh e.1 z4) λz5=>.bf (z5) (.ok (.inr (.inl a)))<|.ok (.inl (γ.wrap (a+1))))<|.ok (.inl (γ.wrap (a+1))))<|.bf (decide (a<(↑p0.length:Int))) (.bd (idx p0 a) λz0=>.bd (idx l z0) λm=>.bf (decide (m.aR<c)) (.ok (.inl (γ.wrap (a+1))))<|.bd (idx b a) λz2=>.bd (ik sh z2 (ag.mk g (cN.mk h i) (cX.mk j k) c f d)) λe=>.bf (e.2) (.bd (idx b a) λz4=>.bd (j7 sh e.1 z4) λz5=>.bf (z5) (.ok (.inr (.inl a)))<|.ok (.inl (γ.wrap (a+1))))<|.ok (.inl (γ.wrap (a+1))))<|.bd (idx b a) λz0=>.bd (ik sh z0 (ag.mk g (cN.mk h i) (cX.mk j k) c f d)) λn=>.bf (n.2) (.bd (idx b a) λz2=>.bd (j7 sh n.1 z2) λz3=>.bf (z3) (.ok (.inr (.inl a)))<|.ok (.inl (γ.wrap (a+1))))<|.ok (.inl (γ.wrap (a+1))))<|.ok (.inr (.inr ((decide (a<p2)),a)))
def oF (p0:Γa) (a:List bb) (p2:Int) (e:List ag) (f g:Int) (h:Γa) (i j k b c d:Int):=bJ sh (fU sh p0 a p2 e f g h i j k b c) 1000000 d
def Tc {R} (k:KX SS R) (p0:Γa) (a:List bb) (p2:Int) (d:List ag) (e f:Int) (g:Γa) (h i j b c:Int) (x:Int⊕(Bool×Int)):Option R:=(λx=>ζY (λv=>k .ret (Wp p0 a p2 d e f g h i j b c v)) (λv=>k (.exit 0) (Wq p0 a p2 d e f g h i j b c v.1 v.2)) x) x
def K0:bc SS:=br 3 (λst=>(bo 31 (aJ st 1 0)).bind λp0=>(bo 89 (aJ st 2 0)).bind λa=>(aU (aJ st 15 0)).bind λp2=>(bo 22 (bj st 0 0)).bind λe=>(aU (bj st 1 0)).bind λf=>(aU (bj st 1 1)).bind λg=>(fX (bj st 1 2)).bind λh=>(aU (bj st 1 3)).bind λi=>(aU (bj st 1 4)).bind λj=>(aU (bj st 1 5)).bind λl=>(aU (bj st 1 6)).bind λb=>(aU (bj st 1 7)).bind λc=>(aU (aJ st 16 0)).bind λd=>some (p0,a,p2,e,f,g,h,i,j,l,b,c,d)) (λp=>uh p.1 p.2.1 p.2.2.1 p.2.2.2.1 p.2.2.2.2.1 p.2.2.2.2.2.1 p.2.2.2.2.2.2.1 p.2.2.2.2.2.2.2.1 p.2.2.2.2.2.2.2.2.1 p.2.2.2.2.2.2.2.2.2.1 p.2.2.2.2.2.2.2.2.2.2.1 p.2.2.2.2.2.2.2.2.2.2.2.1 p.2.2.2.2.2.2.2.2.2.2.2.2) (λp=>oF shut p.1 p.2.1 p.2.2.1 p.2.2.2.1 p.2.2.2.2.1 p.2.2.2.2.2.1 p.2.2.2.2.2.2.1 p.2.2.2.2.2.2.2.1 p.2.2.2.2.2.2.2.2.1 p.2.2.2.2.2.2.2.2.2.1 p.2.2.2.2.2.2.2.2.2.2.1 p.2.2.2.2.2.2.2.2.2.2.2.1 p.2.2.2.2.2.2.2.2.2.2.2.2) (λk p=>Tc k p.1 p.2.1 p.2.2.1 p.2.2.2.1 p.2.2.2.2.1 p.2.2.2.2.2.1 p.2.2.2.2.2.2.1 p.2.2.2.2.2.2.2.1 p.2.2.2.2.2.2.2.2.1 p.2.2.2.2.2.2.2.2.2.1 p.2.2.2.2.2.2.2.2.2.2.1 p.2.2.2.2.2.2.2.2.2.2.2.1)
theorem abr:LS KK κ aq Tryz.f34 34 3 K0:=
 aZ.bJ (π:=Γa×List bb×Int×List ag×Int×Int×Γa×Int×Int×Int×Int×Int×Int) (σ:=Int) (aj.all yn rfl) (aO.nil) rfl 60 (λp a=>uh p.1 p.2.1 p.2.2.1 p.2.2.2.1 p.2.2.2.2.1 p.2.2.2.2.2.1 p.2.2.2.2.2.2.1 p.2.2.2.2.2.2.2.1 p.2.2.2.2.2.2.2.2.1 p.2.2.2.2.2.2.2.2.2.1 p.2.2.2.2.2.2.2.2.2.2.1 p.2.2.2.2.2.2.2.2.2.2.2.1 a) (λp=>p.2.2.2.2.2.2.2.2.2.2.2.2) (St:=λp=>fU shut p.1 p.2.1 p.2.2.1 p.2.2.2.1 p.2.2.2.2.1 p.2.2.2.2.2.1 p.2.2.2.2.2.2.1 p.2.2.2.2.2.2.2.1 p.2.2.2.2.2.2.2.2.1 p.2.2.2.2.2.2.2.2.2.1 p.2.2.2.2.2.2.2.2.2.2.1 p.2.2.2.2.2.2.2.2.2.2.2.1) (λp=>1000000) (λp=>rfl)
  (λm p a k=>by kernel_rfl)
def QR:=bL (ym shut) aq Tryz.f34 34 [K0]
theorem QS:a7 QR κ:=bO (aj.all yn rfl) Tryz.func34 rfl aY (by kernel_rfl) abr
def mu (h:dH) (l:Γa) (s:List bb) (d:ag):T (Int×Bool):=.gd (uh l s (γ.wrap ((↑l.length:Int)+1)) h.cA d.cO d.b9.bm d.b9.fArgs d.cn.cq d.cn.cD d.bP d.aR d.bK 0)<|.bd (oF sh l s (γ.wrap ((↑l.length:Int)+1)) h.cA d.cO d.b9.bm d.b9.fArgs d.cn.cq d.cn.cD d.bP d.aR d.bK 0) λx3=>.cs x3 (λa=>.ok (a,true)) λa=>.ok (0,false)
def j9 (h:dH) (l:Γa) (s:List bb) (d:ag):=sh.s _ (mu sh h l s d).val
def yo:=bN (BA KK 34 24 31 89 42 (j9 sh) (eN KK 3 4)) (ym sh)
theorem RC:aj (yo shut) κ:=Uw (rs:=[3,4]) yn QS rfl rfl λh l s d k=>by kernel_rfl
end Go.Proofs.YtoggponeookhbaaGreatDoor
end
section
namespace Go.Vx
open Go.RowKit Go.Dc
section
variable {S:bh} {P:Program}
def CZ (st:AS S) (j t e:Nat):Option (List (Option (List (S.El e)))):=match av st.h j with
 |some (.cu t' a bD)=>bif Nat.beq t' t then(match Nat.decEq a e with| .isTrue p=>some (p▸bD)| .isFalse _=>none) else none
 |_=>none
theorem aj.XT {G:bE S} (h:aj G P) (F:Γ):aj {G with F:=F} P:=⟨h.K,⟨h.C.C⟩,h.H,h.D,h.M,h.N⟩
end
section
variable {S:bh} {P:Program} {K:Kit S}
structure kQ (K:Kit S) (c:dI S) (P:Program):Prop where
 ok: ∀ {R:Type} (vs:List (an S)) (h:AH S) (k:Rs S->AH S->Γ->Option R) (z:R),c.out vs h k=some z-> ∃r h' dt,k r h' dt=some z/\dv K P c.f vs h r h' dt
theorem dv.adw {f:Nat} {vs:List (an S)} {h h':AH S} {r:Rs S} (a:dv K P f vs h r h' []) (hl:0<h.length):dv K P f vs h r h' [0]:=
 ⟨a.1,λA O w xs h1 d e g k l=>(a.2 A O w xs h1 d e g k l).mono λ_ _ ⟨A',O',o,c⟩=>⟨A',O',o,{c with
  lt:=λj n=>by rw[ξ.1 n];exact hl
  cl:=λb m _=>c.cl b m λi hi=>by cases hi}⟩⟩
theorem C3 {G:bE S} (m:a7 G P) {n f:Nat} {vs:List (an S)} {h:AH S} {X:Type} {t:T (X×Bool)} {rs:Rs S} {hp:X->AH S}
  (heq: ∀ {R:Type} (k:Rs S->AH S->Γ->Option R),fh G n f vs h k=t.run (λr=>k rs (hp r.1) (bif r.2 then[0] else[]))) {F:Option (X×Bool)} (l:F=shut.s _ t.val) (hl:0<h.length)
  {R:Type} {k:Rs S->AH S->Γ->Option R} {z:R} (a:(F.map (·.1)).bind (λr=>k rs (hp r) [0])=some z): ∃r h' dt,k r h' dt=some z/\dv G.K P f vs h r h' dt:=by
 cases d:F with
 |none=>rw[d] at a;cases a
 |some x=>
  rw[d] at a;have p:t.val=some x:=tD (by rw[<-l];exact d);have h1:fh G n f vs h (λr h' dt=>some (ULift.up.{0} (r,h',dt)).down)=some (rs,hp x.1,bif x.2 then[0] else[]):=by
   rw[heq,T.n5,p];rfl
  obtain⟨q,h',dt,c,g⟩:=A3 m h1;injection c with c;injection c with i b;injection b with b e;subst i;subst b;have j:dv G.K P f vs h q (hp x.1) [0]:=by
   cases o:x.2<;>rw[o] at e<;>subst e
   ·exact g.adw hl
   ·exact g
  exact⟨_,_,_,a,j⟩
end
end Go.Vx
end
section
namespace Go.Proofs.YtoggponeookhbaaGreatDoor
open Go.RowKit
def hL (x y:Int):Int:=bif decide (x<y) then -1 else bif decide (y<x) then 1 else 0
theorem Uu (w:World) (x:Int):Calls κ 59 #[.int .i64 x] w λe w'=>e= .returned (.bool false)/\w'=w:=by
 go_enter Tryz.func59,Tryz.ntmps59
 go_wp2
 go_ret
 simp
theorem Il (w:World) (x y:Int):Calls κ 37 #[.int .i64 x,.int .i64 y] w λe w'=>e= .returned (.int .i64 (hL x y))/\w'=w:=by
 unfold hL;have a:=λx=>Uu w x
 by_cases h1:x<y
 ·have d1:decide (x<y)=true:=decide_eq_true h1;rw[d1]
  go_enter ζZ,ζN
  go_wp2_with (go_at_call 59;refine(a _).mono ?_;rintro e w' ⟨rfl,rfl⟩)
  go_ret
  exact⟨rfl,rfl⟩
 ·have d1:decide (x<y)=false:=decide_eq_false h1;rw[d1]
  by_cases b:y<x
  ·have d2:decide (y<x)=true:=decide_eq_true b;rw[d2]
   go_enter ζZ,ζN
   go_wp2_with (go_at_call 59;refine(a _).mono ?_;rintro e w' ⟨rfl,rfl⟩)
   go_ret
   exact⟨rfl,rfl⟩
  ·have d2:decide (y<x)=false:=decide_eq_false b;rw[d2]
   go_enter ζZ,ζN
   go_wp2_with (go_at_call 59;refine(a _).mono ?_;rintro e w' ⟨rfl,rfl⟩)
   go_ret
   exact⟨rfl,rfl⟩
set_option maxHeartbeats 1000000 in
theorem Ut (w:World) (b g o n c:Nat) (i j x y:Int) (d:w.cell? ⟨b,0,none⟩=some (.slice (some ⟨g,o,none⟩) n c)) (hi:0<=i) (f:i<n) (h:0<=j) (k:j<n)
  (l:w.cell? ⟨g,o+i.toNat*11+9,none⟩=some (.int .i64 x)) (m:w.cell? ⟨g,o+j.toNat*11+9,none⟩=some (.int .i64 y))
  (a: ∀(u:World),Calls κ 37 #[.int .i64 x,.int .i64 y] u λe w'=>e= .returned (.int .i64 (hL x y))/\w'=u):
  Calls κ 57 #[.int .i64 i,.int .i64 j,.pointer (some ⟨b,0,none⟩)] w λe w'=>e= .returned (.int .i64 (hL x y))/\ ∃q,w'=w.drewN q:=by
 generalize hL x y=r at a ⊢
 go_enter ηp,Tryz.ntmps57
 go_wp2
 go_quiet ((go_at_call 37;exact ζA (a _)))
 go_wp2
 go_ret
 exact⟨rfl,_,rfl⟩
set_option maxHeartbeats 1000000 in
theorem Us (w:World) (b g o n c:Nat) (i j x y:Int) (d:w.cell? ⟨b,0,none⟩=some (.slice (some ⟨g,o,none⟩) n c)) (hi:0<=i) (f:i<n) (h:0<=j) (k:j<n)
  (l:w.cell? ⟨g,o+i.toNat*11+8,none⟩=some (.int .i64 x)) (m:w.cell? ⟨g,o+j.toNat*11+8,none⟩=some (.int .i64 y))
  (a: ∀(u:World),Calls κ 37 #[.int .i64 x,.int .i64 y] u λe w'=>e= .returned (.int .i64 (hL x y))/\w'=u):
  Calls κ 36 #[.int .i64 i,.int .i64 j,.pointer (some ⟨b,0,none⟩)] w λe w'=>e= .returned (.int .i64 (hL x y))/\ ∃q,w'=w.drewN q:=by
 generalize hL x y=r at a ⊢
 go_enter ηq,Tryz.ntmps36
 go_wp2
 go_quiet ((go_at_call 37;exact ζA (a _)))
 go_wp2
 go_ret
 exact⟨rfl,_,rfl⟩
end Go.Proofs.YtoggponeookhbaaGreatDoor
end
section
namespace Go.Proofs.YtoggponeookhbaaGreatDoor
open Go.RowKit Go.Dc Go.Vx
theorem U1 {O:Γ} {w:World} {es:Γb} {d:ag} (h:dA.rep O w es d):es[9]? =some (.int .i64 d.aR):=by
 obtain⟨c1,s,rfl,h1,c2,t,rfl,l,p,u,rfl,m,q,v,rfl,o,g,x,rfl,a,r⟩:=h;have b:=(Ty.int .i64).len h1;have c:=iP.len l;have e:=jK.len m;have f:=(Ty.int .i64).len o;have i:(Ty.int .i64).n=1:=rfl;have j:iP.n=5:=rfl;have k:jK.n=2:=rfl;rw[i] at b f;rw[j] at c;rw[k] at e;have a:g=[.int .i64 d.aR]:=a;subst a;rw[φ (by omega),φ (by omega),φ (by omega),φ (by omega),b,c,e,f];rfl
theorem HL {g o n:Nat}:(⟨g,o,none⟩:Addr).add n=⟨g,o+n,none⟩:=by
 unfold Addr.add;split
 ·rename_i h;subst h;rfl
 ·rfl
theorem T2 {O:Γ} {w:World} {es:Γb} {d:ag} (h:dA.rep O w es d):es[8]? =some (.int .i64 d.bP):=by
 obtain⟨c1,o,rfl,h1,c2,p,rfl,k,m,q,rfl,l,f,r,rfl,a,_⟩:=h;have b:=(Ty.int .i64).len h1;have c:=iP.len k;have e:=jK.len l;have g:(Ty.int .i64).n=1:=rfl;have i:iP.n=5:=rfl;have j:jK.n=2:=rfl;rw[g] at b;rw[i] at c;rw[j] at e;have a:f=[.int .i64 d.bP]:=a;subst a;rw[φ (by omega),φ (by omega),φ (by omega),b,c,e];rfl
structure q0 (f off:Nat) (key:ag->Int):Prop where
 pos:off≠0
 at_: ∀ {O:Γ} {w:World} {es:Γb} {d:ag},dA.rep O w es d->es[off]? =some (.int .i64 (key d))
 cmp: ∀(w:World) (b g o n c:Nat) (i j x y:Int),w.cell? ⟨b,0,none⟩=some (.slice (some ⟨g,o,none⟩) n c)->0<=i->i<n->0<=j->j<n->w.cell? ⟨g,o+i.toNat*11+off,none⟩=some (.int .i64 x)->w.cell? ⟨g,o+j.toNat*11+off,none⟩=some (.int .i64 y)->
  Calls κ f #[.int .i64 i,.int .i64 j,.pointer (some ⟨b,0,none⟩)] w λe w'=>e= .returned (.int .i64 (hL x y))/\ ∃q,w'=w.drewN q
 cY: ∀vs u,(callFunc f vs).run κ u= .ok (.enter f vs) u
theorem Ia:q0 57 9 ag.aR:=⟨by decide,U1,λw b g o n c i j x y h1 a d e f h k=>Ut w b g o n c i j x y h1 a d e f h k (λu=>Il u _ _),λvs u=>cG aY ηp rfl vs u⟩
theorem H':q0 36 8 ag.bP:=⟨by decide,T2,λw b g o n c i j x y h1 a d e f h k=>Us w b g o n c i j x y h1 a d e f h k (λu=>Il u _ _),λvs u=>cG aY ηq rfl vs u⟩
theorem US {f off:Nat} {key:ag->Int} (x:q0 f off key) {O:Γ} {w:World} {v:Value} {calls:List ag} (h:(Ty.slice dA).is O w v calls) (hn:calls≠[]):
  ∃g o c,v= .slice (some ⟨g,o,none⟩) calls.length c/\ ∀(i:Nat) (d:ag),calls[i]? =some d->w.cell? ⟨g,o+i*11+off,none⟩=some (.int .i64 (key d)):=by
 obtain⟨cs,⟨A,c,rfl,hl,k⟩,a⟩:=h;have a:v=Value.slice A calls.length c:=a;obtain⟨d0,m⟩: ∃d,calls[0]? =some d:=by cases calls with|nil=>exact absurd rfl hn|cons d r=>exact⟨d,rfl⟩
 obtain⟨⟨g,o,s⟩,es,b,_,_,y,p,_⟩:=k 0 d0 m;have B:s=none:=by
  cases s with
  |none=>rfl
  |some s=>
   exfalso;have j:=dA.len y;have l:dA.n=11:=rfl;cases es with
   |nil=>rw[l] at j;cases j
   |cons u r=>
    have h1:=p 0 u rfl;simp only[Nat.zero_mul,Addr.add,if_true,ηr] at h1;split at h1<;>simp at h1
 subst B;refine⟨g,o,c,by rw[a,b],λi d t=>?_⟩;obtain⟨ad,C,e,_,_,z,q,_⟩:=k i d t;rw[b] at e;cases e;have h1:=q off _ (x.at_ z)
 rwa [HL,HL] at h1
end Go.Proofs.YtoggponeookhbaaGreatDoor
end
section
namespace Go.Proofs
open Go.Shelf
def Tryz.wi:Go.Shelf.Ren:=⟨λ|6=>56|15=>93|14=>92|28=>138|29=>139|20=>94|21=>131|22=>132|23=>133|24=>134|25=>135|26=>136|27=>137|46=>179|47=>180|48=>181|49=>182|50=>183|57=>247|n=>n,λ|22=>31|24=>3|25=>95|3=>3|39=>34|0=>0|53=>187|55=>35|4=>4|46=>181|45=>180|50=>92|5=>5|9=>9|66=>236|70=>239|76=>295|77=>296|n=>n,λ|n=>n⟩
theorem Tryz.wh:ηl κ Tryz.wi:= {
 mixed:=by kernel_rfl
 f6:=⟨Tryz.f56.name,by decide,ηs.trans (congrArg some (by kernel_rfl))⟩
 f14:=⟨Tryz.f92.name,by decide,Tryz.func92.trans (congrArg some (by kernel_rfl))⟩
 f15:=Tryz.func93.trans (congrArg some (by kernel_rfl))
 f20:=⟨Tryz.f94.name,by decide,ηt.trans (congrArg some (by kernel_rfl))⟩
 f21:=⟨Tryz.f131.name,by decide,Tryz.func131.trans (congrArg some (by kernel_rfl))⟩
 f22:=⟨Tryz.f132.name,by decide,Tryz.func132.trans (congrArg some (by kernel_rfl))⟩
 f23:=⟨Tryz.f133.name,by decide,Tryz.func133.trans (congrArg some (by kernel_rfl))⟩
 f24:=⟨Tryz.f134.name,by decide,Tryz.func134.trans (congrArg some (by kernel_rfl))⟩
 f25:=⟨Tryz.f135.name,by decide,Tryz.func135.trans (congrArg some (by kernel_rfl))⟩
 f26:=⟨Tryz.f136.name,by decide,Tryz.func136.trans (congrArg some (by kernel_rfl))⟩
 f27:=⟨Tryz.f137.name,by decide,Tryz.func137.trans (congrArg some (by kernel_rfl))⟩
 f28:=Tryz.func138.trans (congrArg some (by kernel_rfl))
 f29:=Tryz.func139.trans (congrArg some (by kernel_rfl))
 f46:=⟨Tryz.f179.name,by decide,Tryz.func179.trans (congrArg some (by kernel_rfl))⟩
 f47:=Tryz.func180.trans (congrArg some (by kernel_rfl))
 f48:=Tryz.func181.trans (congrArg some (by kernel_rfl))
 f49:=⟨Tryz.f182.name,by decide,Tryz.func182.trans (congrArg some (by kernel_rfl))⟩
 f50:=⟨Tryz.f183.name,by decide,Tryz.func183.trans (congrArg some (by kernel_rfl))⟩
 f57:=⟨Tryz.f247.name,by decide,Tryz.func247.trans (congrArg some (by kernel_rfl))⟩
 t0:=Tryz.underlying0
 a0:=Tryz.isAgg0
 z0:=Tryz.sizeOf0
 v0:=Tryz.zeroValue0
 t3:=Tryz.underlying3
 a3:=ηu
 z3:=ηf
 v3:=Tryz.zeroValue3
 t4:=Tryz.underlying4
 a4:=Tryz.isAgg4
 z4:=Tryz.sizeOf4
 v4:=Tryz.zeroValue4
 t5:=Tryz.underlying5
 a5:=Tryz.isAgg5
 z5:=Tryz.sizeOf5
 v5:=Tryz.zeroValue5
 t9:=Tryz.underlying9
 a9:=Tryz.isAgg9
 z9:=Tryz.sizeOf9
 v9:=Tryz.zeroValue9
 t22:=Tryz.underlying31
 a22:=Tryz.isAgg31
 z22:=Tryz.sizeOf31
 v22:=Tryz.zeroValue31
 a24:=ηu
 z24:=ηf
 t25:=Tryz.underlying95
 a25:=Tryz.isAgg95
 z25:=Tryz.sizeOf95
 v25:=Tryz.zeroValue95
 t39:=Tryz.underlying34
 a39:=Tryz.isAgg34
 z39:=Tryz.sizeOf34
 v39:=Tryz.zeroValue34
 t45:=Tryz.underlying180
 a45:=Tryz.isAgg180
 z45:=Tryz.sizeOf180
 v45:=Tryz.zeroValue180
 t46:=Tryz.underlying181
 a46:=Tryz.isAgg181
 z46:=Tryz.sizeOf181
 v46:=Tryz.zeroValue181
 t50:=Tryz.underlying92
 a50:=Tryz.isAgg92
 z50:=Tryz.sizeOf92
 v50:=Tryz.zeroValue92
 t53:=Tryz.underlying187
 a53:=Tryz.isAgg187
 z53:=Tryz.sizeOf187
 v53:=Tryz.zeroValue187
 t55:=Tryz.underlying35
 a55:=Tryz.isAgg35
 z55:=Tryz.sizeOf35
 v55:=Tryz.zeroValue35
 t66:=Tryz.underlying236
 a66:=Tryz.isAgg236
 z66:=Tryz.sizeOf236
 v66:=Tryz.zeroValue236
 t70:=Tryz.underlying239
 a70:=Tryz.isAgg239
 z70:=Tryz.sizeOf239
 v70:=Tryz.zeroValue239
 t76:=Tryz.underlying295
 a76:=Tryz.isAgg295
 z76:=Tryz.sizeOf295
 v76:=Tryz.zeroValue295
 t77:=Tryz.underlying296
 a77:=Tryz.isAgg296
 z77:=Tryz.sizeOf296
 v77:=Tryz.zeroValue296}
end Go.Proofs
end
section
namespace Go.Proofs.YtoggponeookhbaaGreatDoor
open Go.RowKit Go.Dc Go.Vx Go.Sort
abbrev dD (calls:List ag):= {i:Int//0<=i/\i<calls.length}
def ga (key:ag->Int) (calls:List ag) (i:dD calls):Int:=key (calls[i.1.toNat]'(by have:=i.2;omega))
def fI (key:ag->Int) (calls:List ag) (i j:dD calls):Int:=hL (ga key calls i) (ga key calls j)
theorem qb (key:ag->Int) (calls:List ag) (i j:dD calls):ltOf (fI key calls) i j=decide (ga key calls i<ga key calls j):=by
 unfold ltOf fI hL
 by_cases h1:ga key calls i<ga key calls j
 ·simp[h1]
 ·by_cases a:ga key calls j<ga key calls i<;>simp[h1,a]
theorem wo (key:ag->Int) (calls:List ag):SWO (ltOf (fI key calls)) where
 irrefl x:=by rw[qb];simp
 trans x y z h1 a:=by rw[qb] at*;simp at*;omega
 ntrans x y z h1 a:=by rw[qb] at*;simp at*;omega
noncomputable def OE (key:ag->Int) (calls:List ag) (xs:List (dD calls)):List (dD calls):=match xs with
 |[]=>[]
 |x::r=>letI:Inhabited (dD calls):=⟨x⟩;(pdq (ltOf (fI key calls)) (x::r).toArray 0 (r.length+1) (Lib.bitLen (r.length+1)) true true).toList
noncomputable def oc (calls:List ag) (xs:Γa):Option (Γa):=
 if h:(∀x∈xs,0<=x/\x<(calls.length:Int))/\xs.length<4611686018427387904 then some ((OE ag.aR calls (xs.attachWith _ h.1)).map (·.1)) else none
noncomputable def wk:dI SS:=⟨56,λvs h k=>match vs,h with
 |[.one (.own 0),.one (.aM 1)],[some (.row 3 xs),some (.aM 57 [] [.one (.aK 2 0)]),some (.box 24 [.aH 22 calls])]=>
  (oc calls xs).bind λys=>k (.ret (.bn [])) [some (.row 3 ys),some (.aM 57 [] [.one (.aK 2 0)]),some (.box 24 [.aH 22 calls])] [0]
 |_,_=>none⟩
theorem OC {α:Type} [Inhabited α] {enc:α->Value} {w:World} {g n e:Nat} {d:Array α} {os:Array Obj} {cur:Array Value} (a:w.heap[g]? =some (.cells cur e (0,0))):
  Fr [g] w (sortWorld enc w g 0 n d os)/\(sortWorld enc w g 0 n d os).heap[g]? =some (.cells (ξL enc 0 d cur) e (0,0)):=by
 have b:g<w.heap.size:=(ξI.1 a).1;have key: ∀k,k<w.heap.size->(sortWorld enc w g 0 n d os).heap[k]? =(w.heap.modify g (Go.Sort.onCells (ξL enc 0 d)))[k]? :=λk hk=>by
  show(ηg w.heap g _++os)[k]? =_;rw[Array.getElem?_append_left (by simpa using hk)]
 refine⟨⟨rfl,rfl,rfl,?_,λk hk hn=>?_⟩,?_⟩
 ·show w.heap.size<=(ηg w.heap g _++os).size;simp
 ·rw[key k hk,ζt,if_neg (by simp at hn;omega)]
 ·rw[key g b,ζt,if_pos rfl,a];rfl
theorem aaF {α:Type} [Inhabited α] {enc:α->Value} {d:Array α} {cur:Array Value} (h:d.size<=cur.size):(ξL enc 0 d cur).toList.take d.size=d.toList.map enc:=by
 apply ξG;intro k;rw[ξR,ξr]
 by_cases hk:k<d.size
 ·rw[if_pos hk];simp only[ξL,Array.getElem?_mapIdx,ξp,ξC,true_and,Nat.sub_zero,hk,if_true];rw[ξt (by omega),ξH,ξr,ξt hk];simp[getElem!_pos d k hk]
 ·rw[if_neg hk,List.getElem?_eq_none (by simp;omega)]
theorem Bm (O:Γ) (w:World): ∀(ys:Γa) (ds:Γb),bH (Ty.int .i64) O w ds ys->ds=ys.map (ζu .i64)
 |[],ds,h=>h
 |y::ys,ds,⟨c1,d,a,b,c⟩=>by rw[a,Bm O w ys d c,show c1=[.int .i64 y] from b];rfl
theorem M' (O:Γ) (w:World): ∀(ys:Γa),bH (Ty.int .i64) O w (ys.map (ζu .i64)) ys
 |[]=>rfl
 |y::ys=>⟨[.int .i64 y],_,rfl,rfl,M' O w ys⟩
noncomputable def Db (key:ag->Int) (calls:List ag) (xs:List (dD calls)) (a b:Nat):List (dD calls):=match xs with
 |[]=>[]
 |x::r=>letI:Inhabited (dD calls):=⟨x⟩;(insertionSort (ltOf (fI key calls)) (x::r).toArray a b).toList
noncomputable def ins (calls:List ag) (xs:Γa) (a b:Int):Option (Γa):=
 if h:(∀x∈xs,0<=x/\x<(calls.length:Int))/\xs.length<4611686018427387904/\0<=a/\a<=b/\b<=xs.length then some ((Db ag.bP calls (xs.attachWith _ h.1) a.toNat b.toNat).map (·.1)) else none
noncomputable def uJ:dI SS:=⟨94,λvs h k=>match vs,h with
 |[.one (.own 0),.one (.v (.int .i64 a)),.one (.v (.int .i64 b)),.one (.aM 1)],[some (.row 3 xs),some (.aM 36 [] [.one (.aK 2 0)]),some (.box 24 [.aH 22 calls])]=>
  (ins calls xs a b).bind λys=>k (.ret (.bn [])) [some (.row 3 ys),some (.aM 36 [] [.one (.aK 2 0)]),some (.box 24 [.aH 22 calls])] [0]
 |_,_=>none⟩
theorem Io {f off:Nat} {key:ag->Int} (q:q0 f off key) {O:Γ} {w:World} {g b size:Nat} {cur:Array Value} {v:Value} {calls:List ag} [Inhabited (dD calls)] (z:w.heap[g]? =some (.cells cur 3 (0,0))) (hO:g∈O) (u:bz w b 24 [v]) (A:b≠g) (C:(Ty.slice dA).is O w v calls):
  CmpReads κ f #[.pointer (some ⟨b,0,none⟩)] (λi:dD calls=>ζu .i64 i.1) (fI key calls) g 0 size w:=by
 intro m os j D x y;obtain⟨a,_⟩:=OC (enc:=λi:dD calls=>ζu .i64 i.1) (n:=m) (d:=j) (os:=os) z;have B:calls≠[]:=by rintro rfl;have:=x.2;simp at this;omega
 have r:=C.tr (a.tr (O:=O) (by intro k hk;simp at hk;subst hk;exact hO));have p:=u.fr a (by simp;exact A);generalize sortWorld _ w g 0 m j os=W at a r p;obtain⟨g2,o,c,rfl,t⟩:=US q r B;have l: ∀i:dD calls,W.cell? ⟨g2,o+i.1.toNat*11+off,none⟩=some (.int .i64 (ga key calls i)):=λi=>t _ _ (ε _);refine(q.cmp W b g2 o calls.length c x.1 y.1 _ _ ?_ x.2.1 x.2.2 y.2.1 y.2.2 (l x) (l y)).mono λe w' h=>h;have s:W.heap[b]? =some (.cells #[.slice (some ⟨g2,o,none⟩) calls.length c] 24 (0,0)):=p;simp[ηr,s]
abbrev mH (calls:List ag):dD calls->Value:=λi=>ζu .i64 i.1
theorem JE {calls:List ag} [Inhabited (dD calls)] {w:World} {g:Nat} {cur:Array Value} {xs:Γa} {ps:List (dD calls)} (d:ps.map (·.1)=xs) (b:w.heap[g]? =some (.cells cur 3 (0,0))) (m:cur.toList.take xs.length=xs.map (ζu .i64)):Go.Sort.Holds (mH calls) w g 0 ps.toArray:=λj n=>by
 have a:j<ps.length:=by simpa using n
 have hlen:ps.length=xs.length:=by rw[<-d];simp
 have c:j<xs.length:=by rw[<-hlen];exact a
 have k:cur[j]? =some (.int .i64 xs[j]):=by
  have:=congrArg (·[j]?) m;rw[ξR,if_pos c,ξr,ξH,ε c] at this;exact this
 refine⟨?_,?_⟩
 ·rw[cell_of_row w g _ cur 3 (0,0) b,ξp,k];have e:xs[j]=(ps[j]).1:=by
   have:=ζP (f:=λi:dD calls=>i.1) (l:=ps) (i:=j) (h:=by simpa using a);rw[<-this]
   congr 1
   exact d.symm
  rw[e];simp[getElem!_pos,ε a]
 ·simp[World.frozen?,b]
theorem PC {calls:List ag} [Inhabited (dD calls)] {O:Γ} {w:World} {g cap m n:Nat} {cur:Array Value} {D:Array (dD calls)} {os:Array Obj} (hO:OB O w) (j:g∈O) (k:w.heap[g]? =some (.cells cur 3 (0,0))) (c:cur.size=cap) (i:cap<=maxLen) (o:m<=cap) (a:D.size=m):
  dc (Ty.int .i64) 3 0 O w (.slice (some ⟨g,0,none⟩) m cap) (D.toList.map (·.1)) O (sortWorld (mH calls) w g 0 n D os) (.slice (some ⟨g,0,none⟩) m cap):=by
 have b:(Ty.int .i64).n=1:=rfl;have f:(D.toList.map (·.1)).length=m:=by rw[ζ1,ζB,a]
 obtain⟨h,l⟩:=OC (enc:=mH calls) (n:=n) (d:=D) (os:=os) k;have:=qZ (T:=Ty.int .i64) (e:=3) (B:=0) (n0:=m) (zs:=D.toList.map (·.1)) (cap:=cap) hO j (ξC _) h l (by rw[b,ζC];simpa[ξL] using c) i (by omega) (M' O _ _) (by
  rw[b,ζC,f,<-a,ηc];exact aaF (by rw[a,c];exact o))
 rw[f] at this;exact this
theorem H4 {calls:List ag} {xs:Γa} (a: ∀x∈xs,0<=x/\x<(calls.length:Int)):(xs.attachWith _ a).map (·.1)=xs:=by simp
theorem ac6 {O:Γ} {w:World} (hO:OB O w) {v0 v:Value} {b:Nat} {xs ys:Γa} {calls:List ag} (c:Go.Dc.Own (Ty.int .i64) 3 0 O w v0 xs) (q:bz w b 24 [v]) (F:(Ty.slice dA).is O w v calls) (A:v0.ownBlock≠some b) (h:oc calls xs=some ys):
  Calls κ 56 #[v0,.func (.func 57) #[] #[.pointer (some ⟨b,0,none⟩)]] w (λe w'=>e= .returned (.tuple #[])/\dc (Ty.int .i64) 3 0 O w v0 ys O w' v0):=by
 unfold oc at h;split at h
 rotate_left
 ·cases h
 rename_i d;obtain⟨d,E⟩:=d;injection h with h;have f:=H4 d;generalize xs.attachWith _ d=ps at h f;have hlen:ps.length=xs.length:=by rw[<-f];simp
 obtain⟨cs,⟨J,G⟩,B⟩:=c.ex;rcases ps with _|⟨p,r⟩
 ·have:xs=[]:=by rw[<-f];rfl
  subst this;obtain⟨A0,m,rfl,_⟩:=c.form;have dw:=AnyF.slices_SortFunc_none (P:=κ) (ρ:=Tryz.wi) {Tryz.wh with} A0 m (.func (.func 57) #[] #[.pointer (some ⟨b,0,none⟩)]) w;refine dw.mono λe w' ⟨he,hw⟩=>⟨he,?_⟩;subst hw;rw[<-h];exact⟨c,Tr.refl _ _,hO,Sub.refl _,λ_ _ _=>rfl,λ_ _ h=>h⟩
 rcases G with⟨rfl,y⟩|⟨g,cap,cur,rfl,I,a,z,s,j,k⟩
 ·rw[y] at hlen;cases hlen
 have o:(Ty.int .i64).n=1:=rfl;rw[o,ζC] at j k;have t:=Bm O w xs cs B;subst t;have l:=c.mem g rfl;have u:g<w.heap.size:=(ξI.1 a).1;have x:b≠g:=λe=>A (by rw[e];rfl)
 letI:Inhabited (dD calls):=⟨p⟩
 have dw:=Any.slices_SortFunc_eq Tryz.wh (mH calls) (λ_=>rfl) (fI ag.aR calls) (wo ag.aR calls) 57 #[.pointer (some ⟨b,0,none⟩)] g 0 cap (p::r).toArray w Ia.cY (Io Ia a l q x F).lays (JE f a k) u (by rw[ξb,hlen];exact E);rw[ξb] at dw;rw[hlen] at dw;refine dw.mono λe w' ⟨he,n,os,hw⟩=>⟨he,?_⟩;obtain⟨D,i⟩: ∃D,D=Go.Sort.pdq (ltOf (fI ag.aR calls)) (p::r).toArray 0 xs.length (ηa xs.length) true true:=⟨_,rfl⟩;have C:D.size=xs.length:=by
  have:=(Go.Sort.pdq_sorts (ltOf (fI ag.aR calls)) (wo ag.aR calls) (p::r).toArray 0 xs.length (ηa xs.length) true true (ξC _) (by rw[ξb,hlen];exact ξ4 _) (Or.inl rfl)).1.1;rw[i];exact this.trans (by rw[ξb,hlen])
 have H:ys=D.toList.map (·.1):=by
  rw[i,<-h,<-hlen];rfl
 rw[<-i] at hw;subst hw;rw[H];exact PC hO l a j s z C
theorem YP {O:Γ} {w:World} (hO:OB O w) {v0 v:Value} {b:Nat} {xs ys:Γa} {i j:Int} {calls:List ag} (c:Go.Dc.Own (Ty.int .i64) 3 0 O w v0 xs) (y:bz w b 24 [v]) (K:(Ty.slice dA).is O w v calls) (G:v0.ownBlock≠some b) (h:ins calls xs i j=some ys):
  Calls κ 94 #[v0,.int .i64 i,.int .i64 j,.func (.func 36) #[] #[.pointer (some ⟨b,0,none⟩)]] w (λe w'=>e= .returned (.tuple #[])/\dc (Ty.int .i64) 3 0 O w v0 ys O w' v0):=by
 unfold ins at h;split at h
 rotate_left
 ·cases h
 rename_i d;obtain⟨d,J,C,S,q⟩:=d;injection h with h;have f:=H4 d;generalize xs.attachWith _ d=ps at h f;have hlen:ps.length=xs.length:=by rw[<-f];simp
 obtain⟨cs,⟨Q,L⟩,H⟩:=c.ex;rcases ps with _|⟨p,r⟩
 ·have:xs=[]:=by rw[<-f];rfl
  subst this;obtain⟨A0,s,rfl,_⟩:=c.form;have t:i=0:=by simp at q;omega
  have u:j=0:=by simp at q;omega
  subst t;subst u;have dw:=AnyF.insertionSortCmpFunc_none (P:=κ) (ρ:=Tryz.wi) {Tryz.wh with} A0 s (.func (.func 36) #[] #[.pointer (some ⟨b,0,none⟩)]) w;refine dw.mono λe w' ⟨he,hw⟩=>⟨he,?_⟩;subst hw;rw[<-h];exact⟨c,Tr.refl _ _,hO,Sub.refl _,λ_ _ _=>rfl,λ_ _ h=>h⟩
 rcases L with⟨rfl,E⟩|⟨g,cap,cur,rfl,N,a,F,z,l,m⟩
 ·rw[E] at hlen;cases hlen
 have x:(Ty.int .i64).n=1:=rfl;rw[x,ζC] at l m;have A:=Bm O w xs cs H;subst A;have o:=c.mem g rfl;have R:g<w.heap.size:=(ξI.1 a).1;have B:b≠g:=λe=>G (by rw[e];rfl)
 letI:Inhabited (dD calls):=⟨p⟩
 have dw:=Any.insertionSortCmpFunc_one (P:=κ) (ρ:=Tryz.wi) {Tryz.wh with} (mH calls) (λ_=>rfl) (fI ag.bP calls) 36 #[.pointer (some ⟨b,0,none⟩)] g 0 cap i.toNat j.toNat (p::r).toArray w H'.cY (Io H' a o y B K) (JE f a m) (by omega) (by rw[ξb,hlen];omega) (by rw[ξb,hlen];exact J);rw[ξb] at dw;rw[hlen,ζD C,ζD (by omega:0<=j)] at dw;refine dw.mono λe w' ⟨he,n,hw⟩=>⟨he,?_⟩;obtain⟨D,k⟩: ∃D,D=Go.Sort.insertionSort (ltOf (fI ag.bP calls)) (p::r).toArray i.toNat j.toNat:=⟨_,rfl⟩;have I:D.size=xs.length:=by
  have:=(Go.Sort.insertionSort_holds (wo ag.bP calls) (p::r).toArray i.toNat j.toNat (by omega) (by rw[ξb,hlen];omega)).1.1;rw[k];exact this.trans (by rw[ξb,hlen])
 have M:ys=D.toList.map (·.1):=by
  rw[k,<-h];rfl
 rw[<-k] at hw;rw[<-sortWorld_none (mH calls) w g 0 n D] at hw;subst hw;rw[M];exact PC hO o a l z F I
theorem Mw {A:Pl} {O:Γ} {w w':World} {c:Nat} {xs ys:Γa} {calls:List ag} {v0:Value} (l:bI A O w (av [some (Ob.row 3 xs:Ob SS),some (.aM c [] [.one (.aK 2 0)]),some (.box 24 [.aH 22 calls])])) (hO:OB O w) (m:A.pl 0=some v0)
  (g:dc (Ty.int .i64) 3 0 O w v0 ys O w' v0) (G: ∀i,3<=i->A.pl i=none):rK A O w 3 [some (Ob.row 3 ys:Ob SS),some (.aM c [] [.one (.aK 2 0)]),some (.box 24 [.aH 22 calls])] [0] A O w':=by
 have J: ∀b,bR v0=some b->b∈O:=by
  obtain⟨p,h,_,k⟩:=l.al 0 _ rfl;rw[m] at h;cases h;exact k
 have I: ∀(i:Nat) (X:Ob SS),av [some (Ob.row 3 ys:Ob SS),some (.aM c [] [.one (.aK 2 0)]),some (.box 24 [.aH 22 calls])] i=some X-> ∃p,A.pl i=some p/\dd A O w' X p/\ ∀b,bR p=some b->b∈O:=by
  intro i X f;rcases i with _|_|_|i
  ·cases f;exact⟨v0,m,g.own,J⟩
  ·cases f;obtain⟨p,h,⟨us,t,rfl,K,D⟩,k⟩:=l.al 1 _ rfl;refine⟨_,h,dd.keep (X:=(.aM c [] [.one (.aK 2 0)]:Ob SS)) ⟨us,t,rfl,K,D⟩ g.tr (Pl.le.refl A) λd a=>?_,k⟩;rcases a with a|a<;>cases a
  ·cases f;obtain⟨p,h,⟨b,u,rfl,hblk,E⟩,k⟩:=l.al 2 _ rfl;refine⟨_,h,dd.keep (X:=(.box 24 [.aH 22 calls]:Ob SS)) ⟨b,u,rfl,hblk,E⟩ g.tr (Pl.le.refl A) λd a=>?_,k⟩;rcases a with a|a
   ·cases a;exact⟨g.fr b hblk.lt λe=>l.dj 0 2 _ _ _ _ b (by decide) rfl rfl m h (fA e) rfl,k b rfl⟩
   ·cases a
  ·cases f
 exact {
  rel:=bI.qc (λi X f=>by rcases i with _|_|_|i<;>cases f<;>rfl) I (λi j X Y p q d H h1 v x y z=>by
   have n: ∀(i:Nat) (X:Ob SS),av [some (Ob.row 3 ys:Ob SS),some (.aM c [] [.one (.aK 2 0)]),some (.box 24 [.aH 22 calls])] i=some X-> ∃Z:Ob SS,av [some (Ob.row 3 xs:Ob SS),some (.aM c [] [.one (.aK 2 0)]),some (.box 24 [.aH 22 calls])] i=some Z:=λi X f=>by rcases i with _|_|_|i<;>cases f<;>exact⟨_,rfl⟩
   obtain⟨r,B⟩:=n i X h1;obtain⟨s,C⟩:=n j Y v;exact l.dj i j r s p q d H B C x y z)
  ob:=g.ob
  tr:=g.tr
  pl:=λ_ _=>rfl
  lt:=λj o=>by simp at o;subst o;exact(by decide:0<3)
  ls:=rfl
  len:=ξ4 3
  free:=G
  cl:=λd a F=>⟨by
   refine g.fr d (hO d a) λe=>F 0 (by simp) v0 m (fA e),a,λi X p hi f=>by
   rcases i with _|_|_|i
   ·exact absurd hi (by simp)
   ·exact absurd hi (by simp)
   ·exact absurd hi (by simp)
   ·cases f⟩
  nt:=λi X hi f=>by rcases i with _|_|_|i<;>cases f<;>rfl}
theorem My {A:Pl} {O:Γ} {w:World} {c:Nat} {xs:Γa} {calls:List ag} {v0 v1:Value} (d:bI A O w (av [some (Ob.row 3 xs:Ob SS),some (.aM c [] [.one (.aK 2 0)]),some (.box 24 [.aH 22 calls])])) (l:(an.one (.own 0):an SS).rel A O w v0) (h1:(an.one (.aM 1):an SS).rel A O w v1):
  A.pl 0=some v0/\Go.Dc.Own (Ty.int .i64) 3 0 O w v0 xs/\ ∃b v,v1= .func (.func c) #[] #[.pointer (some ⟨b,0,none⟩)]/\bz w b 24 [v]/\(Ty.slice dA).is O w v calls/\v0.ownBlock≠some b:=by
 obtain⟨F,f,k,_⟩:=l;obtain⟨f1,G,c1,m,a⟩:=h1;cases k;cases a;obtain⟨p0,h,p,C⟩:=d.al 0 _ rfl;rw[f] at h;cases h;obtain⟨E,i,⟨us,z,a,s,n⟩,_⟩:=d.al 1 _ rfl;rw[m] at i;cases i;cases a;obtain⟨p2,j,⟨b,B,rfl,hblk,o⟩,D⟩:=d.al 2 _ rfl;rw[show us=[] from s];obtain⟨H,u,rfl,⟨y,g,a⟩,q⟩:=n;rw[show u=[] from q];rw[j] at g;cases g;cases a;obtain⟨I,x,rfl,⟨v,rfl,t,_⟩,r⟩:=o;rw[show x=[] from r] at hblk;exact⟨f,p,b,v,rfl,hblk,t,λe=>d.dj 0 2 _ _ _ _ b (by decide) rfl rfl f j (fA e) rfl⟩
theorem ac5 {R:Type} (f:List (an SS)) (h:AH SS) (k:Rs SS->AH SS->Γ->Option R) (z:R) (a:wk.out f h k=some z): ∃r h' dt,k r h' dt=some z/\dv KK κ 56 f h r h' dt:=by
 simp only[wk] at a;split at a
 rotate_left
 ·cases a
 rename_i xs calls;obtain⟨ys,p,hk⟩:=bind_some a;refine⟨_,_,_,hk,cG aY ηs rfl,λA O w vs c d hO q l s=>?_⟩;obtain⟨v0,_,rfl,g,v1,_,rfl,h1,o⟩:=c;rw[show _=[] from o];obtain⟨i,n,b,v,rfl,hblk,c,m⟩:=My d g h1;refine(ac6 hO n hblk c m p).mono ?_;rintro e w' ⟨rfl,j⟩;exact⟨A,O,⟨_,rfl,⟨[],rfl,rfl⟩⟩,Mw d hO i j l⟩
theorem YO {R:Type} (f:List (an SS)) (h:AH SS) (k:Rs SS->AH SS->Γ->Option R) (z:R) (a:uJ.out f h k=some z): ∃r h' dt,k r h' dt=some z/\dv KK κ 94 f h r h' dt:=by
 simp only[uJ] at a;split at a
 rotate_left
 ·cases a
 rename_i i j xs calls;obtain⟨ys,u,hk⟩:=bind_some a;refine⟨_,_,_,hk,cG aY ηt rfl,λA O w vs c d hO x p y=>?_⟩;obtain⟨v0,_,rfl,m,B,_,rfl,g1,u2,_,rfl,g2,v1,_,rfl,h1,t⟩:=c;rw[show _=[] from t];obtain⟨g,_⟩:=g1;obtain⟨l,_⟩:=g2;cases g;cases l;obtain⟨n,s,b,v,rfl,hblk,c,q⟩:=My d m h1;refine(YP hO s hblk c q u).mono ?_;rintro e w' ⟨rfl,o⟩;exact⟨A,O,⟨_,rfl,⟨[],rfl,rfl⟩⟩,Mw d hO n o p⟩
end Go.Proofs.YtoggponeookhbaaGreatDoor
end
section
namespace Go.Proofs.YtoggponeookhbaaGreatDoor
open Go.RowKit Go.Dc Go.Vx
variable (sh:Sh)
def Gv:bE SS:= {yo sh with H:=wk::(yo sh).H}
def rT:bE SS:= {Gv sh with H:=uJ::(Gv sh).H}
theorem rU:aj (rT shut) κ:=aj.dw (c:=uJ) (aj.dw (c:=wk) RC ac5) YO
def mX (p0 a p2:Int) (b:Γa) (c:List ag) (d:Int):AS SS:=⟨[(0,(vo 0)),(1,(vi p0)),(2,(vi a)),(3,(vi p2)),(10,(vi d))],[(rX 3 b),(some (.aM 36 [] [(.one (.aK 2 0))])),(bX 24 [(.aH 22 c)])],3,none,false,[],[0]⟩
def VJ (p0 b p2:Int) (c:List ag) (a0:Bool) (a:Int) (a2:Γa):AS SS:= {mX p0 b p2 a2 c p0 with env:=[(13,(vb a0)),(12,(vi p2)),(11,(vi a)),(0,(vo 0)),(1,(vi p0)),(2,(vi b)),(3,(vi p2)),(10,(vi a))]}
def oN (sh:Sh) (p0 b p2:Int) (d:List ag) (a:Int×Γa):T ((Int×Γa)⊕(Bool×Int×Γa)):=.bf (decide (a.1<p2)) (.bd (idx a.2 (γ.wrap (b+a.1))) λz0=>.bd (a.2[(γ.wrap (b+a.1)).toNat]?) λc=>.bd (idx a.2 (γ.wrap (p0+a.1))) λz2=>.bd (a.2[(γ.wrap (p0+a.1)).toNat]?) λz3=>.bd (idx a.2 (γ.wrap (p0+a.1))) λz4=>.bd (a.2[(γ.wrap (p0+a.1)).toNat]?) λz5=>.bd (idx (a.2.set (γ.wrap (p0+a.1)).toNat c) (γ.wrap (b+a.1))) λe=>.bd ((a.2.set (γ.wrap (p0+a.1)).toNat c)[(γ.wrap (b+a.1)).toNat]?) λf=>.ok (.inl ((γ.wrap (a.1+1)),((a.2.set (γ.wrap (p0+a.1)).toNat c).set (γ.wrap (b+a.1)).toNat z3))))<|.ok (.inr ((decide (a.1<p2)),a.1,a.2))
def oC (p0 a p2:Int) (b:Γa) (c:List ag) (d:Int):=bJ sh (oN sh p0 a p2 c) 1000000 (d,b)
def SE {R} (k:KX SS R) (p0 a p2:Int) (b:List ag) (x:(Bool×Int×Γa)):Option R:=(λv=>k (.exit 0) (VJ p0 a p2 b v.1 v.2.1 v.2.2)) x
def Kv:bc SS:=gU (λst=>gc (aq 184 2) (eu [0] (st)))<|br 2 (λst=>(cg st 1 36).bind λ_=>(aU (aJ st 1 0)).bind λp0=>(aU (aJ st 2 0)).bind λa=>(aU (aJ st 3 0)).bind λp2=>(b3 st 0 3).bind λb=>(bo 22 (bj st 2 0)).bind λc=>(aU (aJ st 10 0)).bind λd=>some (p0,a,p2,b,c,d)) (u6 mX) (u6 (oC shut)) (λk p=>SE k p.1 p.2.1 p.2.2.1 p.2.2.2.2.1)
theorem MG:LS KK κ aq Tryz.f184 184 2 Kv:=aZ.pre (bY.comp (bY.gc (aq 184 2)) (bY.eu [0]))<|
 aZ.bJ (π:=Int×Int×Int×Γa×List ag×Int) (σ:=Int×Γa) (aj.all rU rfl) (aO.nil) rfl 60 (λp a=>mX p.1 p.2.1 p.2.2.1 a.2 p.2.2.2.2.1 a.1) (λp=>(p.2.2.2.2.2,p.2.2.2.1)) (St:=λp=>oN shut p.1 p.2.1 p.2.2.1 p.2.2.2.2.1) (λp=>1000000) (λp=>rfl)
  (λm p a k=>by kernel_rfl)
def tL (p0 a p2:Int) (b:Γa) (c:List ag):AS SS:=⟨[(0,(vo 0)),(2,(vi p0)),(4,(vc 1)),(10,(vi a)),(11,(vi p2))],[(rX 3 b),(some (.aM 36 [] [(.one (.aK 2 0))])),(bX 24 [(.aH 22 c)])],3,none,false,[],[0]⟩
def Vj (p0:Int) (b:List ag) (a0:Bool) (a a2:Int) (a3:Γa):AS SS:= {tL p0 p0 p0 a3 b with env:=[(20,(vb a0)),(19,(vi a)),(18,(vi a2)),(0,(vo 0)),(2,(vi p0)),(4,(vc 1)),(10,(vi a2)),(11,(vi a))]}
def hb (p0:Int) (b:List ag) (a:Int×Γa×Int):T ((Int×Γa×Int)⊕(Bool×Int×Int×Γa)):=.bf (a.1 !=a.2.2) (.bf (decide (a.1>a.2.2)) (.gd (mX (γ.wrap (p0-a.1)) p0 a.2.2 a.2.1 b 0)<|.bd (oC sh (γ.wrap (p0-a.1)) p0 a.2.2 a.2.1 b 0) λc=>.ok (.inl ((γ.wrap (a.1-a.2.2)),c.2.2,a.2.2)))<|.gd (mX (γ.wrap (p0-a.1)) (γ.wrap (γ.wrap (p0+a.2.2)-a.1)) a.1 a.2.1 b 0)<|.bd (oC sh (γ.wrap (p0-a.1)) (γ.wrap (γ.wrap (p0+a.2.2)-a.1)) a.1 a.2.1 b 0) λc=>.ok (.inl (a.1,c.2.2,(γ.wrap (a.2.2-a.1)))))<|.ok (.inr ((a.1 !=a.2.2),a.2.2,a.1,a.2.1))
def yU (p0 a p2:Int) (b:Γa) (c:List ag):=bJ sh (hb sh p0 c) 1000000 (a,b,p2)
def Sp {R} (k:KX SS R) (p0:Int) (a:List ag) (x:(Bool×Int×Int×Γa)):Option R:=(λv=>k (.exit 0) (Vj p0 a v.1 v.2.1 v.2.2.1 v.2.2.2)) x
def Kk:bc SS:=gU (λst=>gc (aq 140 3) (eu [0] (st)))<|br 3 (λst=>(cg st 1 36).bind λ_=>(aU (aJ st 2 0)).bind λp0=>(aU (aJ st 10 0)).bind λa=>(aU (aJ st 11 0)).bind λp2=>(b3 st 0 3).bind λb=>(bo 22 (bj st 2 0)).bind λc=>some (p0,a,p2,b,c)) (u5 tL) (u5 (yU shut)) (λk p=>Sp k p.1 p.2.2.2.2)
def FQ:=bL (rT shut) aq Tryz.f184 184 [Kv]
theorem PS:a7 FQ κ:=bO (aj.all rU rfl) ηh rfl aY (by kernel_rfl) MG
theorem aaS:LS KK κ aq Tryz.f140 140 3 Kk:=aZ.pre (bY.comp (bY.gc (aq 140 3)) (bY.eu [0]))<|
 aZ.bJ (π:=Int×Int×Int×Γa×List ag) (σ:=Int×Γa×Int) PS (aO.nil) rfl 60 (λp a=>tL p.1 a.1 a.2.2 a.2.1 p.2.2.2.2) (λp=>(p.2.1,p.2.2.2.1,p.2.2.1)) (St:=λp=>hb shut p.1 p.2.2.2.2) (λp=>1000000) (λp=>rfl)
  (λm p a k=>by kernel_rfl)
def C1 (F:Γa->Int->Int->Int->List ag->Option (Γa)):dI SS:=⟨140,λvs h k=>match vs,h with|[.one (.own 0),.one (.v (.int .i64 a)),.one (.v (.int .i64 m)),.one (.v (.int .i64 b)),.one (.aM 1)],[some (.row 3 xs),some (.aM 36 [] [.one (.aK 2 0)]),some (.box 24 [.aH 22 calls])]=>(F xs a m b calls).bind λr=>k (.ret (.bn [])) [some (.row 3 r),some (.aM 36 [] [.one (.aK 2 0)]),some (.box 24 [.aH 22 calls])] [0]|_,_=>none⟩
def FP:=bL FQ aq Tryz.f140 140 [Kk]
theorem PT:a7 FP κ:=bO (a7.hG (aj.all rU rfl) ηh rfl aY λc a=>by cases a;exact aO.cons (aO.nil) (by kernel_rfl) MG) Tryz.func140 rfl aY (by kernel_rfl) aaS
def sG (xs:Γa) (a m b:Int) (calls:List ag):T (Γa×Bool):=.gd (tL m (γ.wrap (m-a)) (γ.wrap (b-m)) xs calls)<|.bd (yU sh m (γ.wrap (m-a)) (γ.wrap (b-m)) xs calls) λc=>.gd (mX (γ.wrap (m-c.2.2.1)) m c.2.2.1 c.2.2.2 calls 0)<|.bd (oC sh (γ.wrap (m-c.2.2.1)) m c.2.2.1 c.2.2.2 calls 0) λd=>.ok (d.2.2,true)
def IS (xs:Γa) (a m b:Int) (calls:List ag):=sh.s _ (sG sh xs a m b calls).val
theorem adl {R:Type} (xs:Γa) (a m b:Int) (calls:List ag) (k:Rs SS->AH SS->Γ->Option R):fh FP 100 140 [.one (.own 0),.one (.v (.int .i64 a)),.one (.v (.int .i64 m)),.one (.v (.int .i64 b)),.one (.aM 1)] [some (.row 3 xs),some (.aM 36 [] [.one (.aK 2 0)]),some (.box 24 [.aH 22 calls])] k=(sG shut xs a m b calls).run (λr=>k (.ret (.bn [])) [some (.row 3 r.1),some (.aM 36 [] [.one (.aK 2 0)]),some (.box 24 [.aH 22 calls])] (bif r.2 then[0] else[])):=by kernel_rfl
theorem Yt:kQ KK (C1 (λxs a m b calls=>(IS shut xs a m b calls).map (·.1))) κ:=⟨λ{R} vs h k z c=>by
 simp only[C1] at c;split at c
 rotate_left
 ·cases c
 rename_i a m b xs calls;exact C3 (hp:=λr=>[some (.row 3 r),some (.aM 36 [] [.one (.aK 2 0)]),some (.box 24 [.aH 22 calls])]) PT (λk=>adl xs a m b calls k) rfl (ζO _) c⟩
def wa (xs:Γa) (a m b:Int) (calls:List ag):Option (Γa):=(IS sh xs a m b calls).map (·.1)
def JB:dI SS:=C1 (wa sh)
def ot:bE SS:= {(rT sh) with H:=JB sh::(rT sh).H}
theorem kR:aj (ot shut) κ:=aj.dw (c:=JB shut) rU (Yt).ok
def uB (p0 a p2:Int) (b:Γa) (c:List ag):AS SS:=⟨[(0,(vo 0)),(1,(vi p0)),(4,(vc 1)),(10,(vi a)),(11,(vi p2))],[(rX 3 b),(some (.aM 36 [] [(.one (.aK 2 0))])),(bX 24 [(.aH 22 c)])],3,none,false,[],[]⟩
def W7 (p0:Int) (b:Γa) (c:List ag) (a0:Bool) (a a2:Int):AS SS:= {uB p0 p0 p0 b c with env:=[(33,(vb a0)),(32,(vi a)),(31,(vi a2)),(0,(vo 0)),(1,(vi p0)),(4,(vc 1)),(10,(vi a2)),(11,(vi a))]}
def o5 (p0:Int) (b:Γa) (c:List ag) (a:Int×Int):T ((Int×Int)⊕(Bool×Int×Int)):=.bf (decide (a.1<a.2)) (.bd (idx b (γ.wrap ((ο.wrap (γ.wrap (a.1+a.2))).fdiv 2))) λz0=>.bd (b[(γ.wrap ((ο.wrap (γ.wrap (a.1+a.2))).fdiv 2)).toNat]?) λd=>.bd (idx b p0) λz2=>.bd (b[p0.toNat]?) λz3=>.bd (idx c d) λz4=>.bd (idx c z3) λz5=>.bd (mS sh z4.bP z5.bP) λe=>.bf (decide (e<0)) (.ok (.inl ((γ.wrap (γ.wrap ((ο.wrap (γ.wrap (a.1+a.2))).fdiv 2)+1)),a.2)))<|.ok (.inl (a.1,(γ.wrap ((ο.wrap (γ.wrap (a.1+a.2))).fdiv 2)))))<|.ok (.inr ((decide (a.1<a.2)),a.2,a.1))
def zJ (p0 a p2:Int) (b:Γa) (c:List ag):=bJ sh (o5 sh p0 b c) 1000000 (a,p2)
def TD {R} (k:KX SS R) (p0:Int) (a:Γa) (b:List ag) (x:(Bool×Int×Int)):Option R:=(λv=>k (.exit 0) (W7 p0 a b v.1 v.2.1 v.2.2)) x
def Lm:bc SS:=br 4 (λst=>(cg st 1 36).bind λ_=>(aU (aJ st 1 0)).bind λp0=>(aU (aJ st 10 0)).bind λa=>(aU (aJ st 11 0)).bind λp2=>(b3 st 0 3).bind λb=>(bo 22 (bj st 2 0)).bind λc=>some (p0,a,p2,b,c)) (u5 uB) (u5 (zJ shut)) (λk p=>TD k p.1 p.2.2.2.1 p.2.2.2.2)
theorem abQ:LS KK κ aq ζH 95 4 Lm:=
 aZ.bJ (π:=Int×Int×Int×Γa×List ag) (σ:=Int×Int) (aj.all kR rfl) (aO.nil) rfl 60 (λp a=>uB p.1 a.1 a.2 p.2.2.2.1 p.2.2.2.2) (λp=>(p.2.1,p.2.2.1)) (St:=λp=>o5 shut p.1 p.2.2.2.1 p.2.2.2.2) (λp=>1000000) (λp=>rfl)
  (λm p a k=>by kernel_rfl)
def uy (p0 a:Int) (p2:Γa) (b:List ag):AS SS:=⟨[(0,(vo 0)),(10,(vi p0)),(13,(vi a))],[(rX 3 p2),(some (.aM 36 [] [(.one (.aK 2 0))])),(bX 24 [(.aH 22 b)])],3,none,false,[],[0]⟩
def W3 (p0:Int) (b:List ag) (a0:Bool) (a:Int) (a2:Γa):AS SS:= {uy p0 p0 a2 b with env:=[(58,(vb a0)),(57,(vi (γ.wrap (p0-1)))),(56,(vi p0)),(55,(vi a)),(0,(vo 0)),(10,(vi p0)),(13,(vi a))]}
def o1 (sh:Sh) (p0:Int) (c:List ag) (a:Int×Γa):T ((Int×Γa)⊕(Bool×Int×Γa)):=.bf (decide (a.1<γ.wrap (p0-1))) (.bd (idx a.2 (γ.wrap (a.1+1))) λz0=>.bd (a.2[(γ.wrap (a.1+1)).toNat]?) λb=>.bd (idx a.2 a.1) λz2=>.bd (a.2[a.1.toNat]?) λz3=>.bd (idx a.2 a.1) λz4=>.bd (a.2[a.1.toNat]?) λz5=>.bd (idx (a.2.set a.1.toNat b) (γ.wrap (a.1+1))) λd=>.bd ((a.2.set a.1.toNat b)[(γ.wrap (a.1+1)).toNat]?) λe=>.ok (.inl ((γ.wrap (a.1+1)),((a.2.set a.1.toNat b).set (γ.wrap (a.1+1)).toNat z3))))<|.ok (.inr ((decide (a.1<γ.wrap (p0-1))),a.1,a.2))
def zG (p0 a:Int) (p2:Γa) (b:List ag):=bJ sh (o1 sh p0 b) 1000000 (a,p2)
def Tz {R} (k:KX SS R) (p0:Int) (a:List ag) (x:(Bool×Int×Γa)):Option R:=(λv=>k (.exit 2) (W3 p0 a v.1 v.2.1 v.2.2)) x
def Li:bc SS:=gU (λst=>gc (aq 95 10) (eu [0] (st)))<|br 10 (λst=>(cg st 1 36).bind λ_=>(aU (aJ st 10 0)).bind λp0=>(aU (aJ st 13 0)).bind λa=>(b3 st 0 3).bind λp2=>(bo 22 (bj st 2 0)).bind λb=>some (p0,a,p2,b)) (u4 uy) (u4 (zG shut)) (λk p=>Tz k p.1 p.2.2.2)
theorem abM:LS KK κ aq ζH 95 10 Li:=aZ.pre (bY.comp (bY.gc (aq 95 10)) (bY.eu [0]))<|
 aZ.bJ (π:=Int×Int×Γa×List ag) (σ:=Int×Γa) (aj.all kR rfl) (aO.nil) rfl 60 (λp a=>uy p.1 a.1 a.2 p.2.2.2) (λp=>(p.2.1,p.2.2.1)) (St:=λp=>o1 shut p.1 p.2.2.2) (λp=>1000000) (λp=>rfl)
  (λm p a k=>by kernel_rfl)
def uz (p0 a:Int) (p2:Γa) (b:List ag) (c:Int):AS SS:=⟨[(0,(vo 0)),(2,(vi p0)),(4,(vc 1)),(14,(vi a)),(15,(vi c))],[(rX 3 p2),(some (.aM 36 [] [(.one (.aK 2 0))])),(bX 24 [(.aH 22 b)])],3,none,false,[],[]⟩
def W4 (p0:Int) (p2:Γa) (b:List ag) (a0:Bool) (a a2:Int):AS SS:= {uz p0 p0 p2 b p0 with env:=[(85,(vb a0)),(84,(vi a)),(83,(vi a2)),(0,(vo 0)),(2,(vi p0)),(4,(vc 1)),(14,(vi a2)),(15,(vi a))]}
def o2 (p0:Int) (p2:Γa) (b:List ag) (a:Int×Int):T ((Int×Int)⊕(Bool×Int×Int)):=.bf (decide (a.1<a.2)) (.bd (idx p2 p0) λz0=>.bd (p2[p0.toNat]?) λc=>.bd (idx p2 (γ.wrap ((ο.wrap (γ.wrap (a.1+a.2))).fdiv 2))) λz2=>.bd (p2[(γ.wrap ((ο.wrap (γ.wrap (a.1+a.2))).fdiv 2)).toNat]?) λz3=>.bd (idx b c) λz4=>.bd (idx b z3) λz5=>.bd (mS sh z4.bP z5.bP) λd=>.bf (!decide (d<0)) (.ok (.inl ((γ.wrap (γ.wrap ((ο.wrap (γ.wrap (a.1+a.2))).fdiv 2)+1)),a.2)))<|.ok (.inl (a.1,(γ.wrap ((ο.wrap (γ.wrap (a.1+a.2))).fdiv 2)))))<|.ok (.inr ((decide (a.1<a.2)),a.2,a.1))
def zH (p0 a:Int) (p2:Γa) (b:List ag) (c:Int):=bJ sh (o2 sh p0 p2 b) 1000000 (a,c)
def TA {R} (k:KX SS R) (p0:Int) (p2:Γa) (a:List ag) (x:(Bool×Int×Int)):Option R:=(λv=>k (.exit 4) (W4 p0 p2 a v.1 v.2.1 v.2.2)) x
def Lj:bc SS:=br 16 (λst=>(cg st 1 36).bind λ_=>(aU (aJ st 2 0)).bind λp0=>(aU (aJ st 14 0)).bind λa=>(b3 st 0 3).bind λp2=>(bo 22 (bj st 2 0)).bind λb=>(aU (aJ st 15 0)).bind λc=>some (p0,a,p2,b,c)) (u5 uz) (u5 (zH shut)) (λk p=>TA k p.1 p.2.2.1 p.2.2.2.1)
theorem abN:LS KK κ aq ζH 95 16 Lj:=
 aZ.bJ (π:=Int×Int×Γa×List ag×Int) (σ:=Int×Int) (aj.all kR rfl) (aO.nil) rfl 60 (λp a=>uz p.1 a.1 p.2.2.1 p.2.2.2.1 a.2) (λp=>(p.2.1,p.2.2.2.2)) (St:=λp=>o2 shut p.1 p.2.2.1 p.2.2.2.1) (λp=>1000000) (λp=>rfl)
  (λm p a k=>by kernel_rfl)
def uA (p0 a:Int) (p2:Γa) (b:List ag):AS SS:=⟨[(0,(vo 0)),(14,(vi p0)),(17,(vi a))],[(rX 3 p2),(some (.aM 36 [] [(.one (.aK 2 0))])),(bX 24 [(.aH 22 b)])],3,none,false,[],[0]⟩
def W5 (p0:Int) (b:List ag) (a0:Bool) (a:Int) (a2:Γa):AS SS:= {uA p0 p0 a2 b with env:=[(110,(vb a0)),(109,(vi p0)),(108,(vi a)),(0,(vo 0)),(14,(vi p0)),(17,(vi a))]}
def o3 (sh:Sh) (p0:Int) (c:List ag) (a:Int×Γa):T ((Int×Γa)⊕(Bool×Int×Γa)):=.bf (decide (a.1>p0)) (.bd (idx a.2 (γ.wrap (a.1-1))) λz0=>.bd (a.2[(γ.wrap (a.1-1)).toNat]?) λb=>.bd (idx a.2 a.1) λz2=>.bd (a.2[a.1.toNat]?) λz3=>.bd (idx a.2 a.1) λz4=>.bd (a.2[a.1.toNat]?) λz5=>.bd (idx (a.2.set a.1.toNat b) (γ.wrap (a.1-1))) λd=>.bd ((a.2.set a.1.toNat b)[(γ.wrap (a.1-1)).toNat]?) λe=>.ok (.inl ((γ.wrap (a.1-1)),((a.2.set a.1.toNat b).set (γ.wrap (a.1-1)).toNat z3))))<|.ok (.inr ((decide (a.1>p0)),a.1,a.2))
def zI (p0 a:Int) (p2:Γa) (b:List ag):=bJ sh (o3 sh p0 b) 1000000 (a,p2)
def TB {R} (k:KX SS R) (p0:Int) (a:List ag) (x:(Bool×Int×Γa)):Option R:=(λv=>k (.exit 6) (W5 p0 a v.1 v.2.1 v.2.2)) x
def Lk:bc SS:=gU (λst=>gc (aq 95 22) (eu [0] (st)))<|br 22 (λst=>(cg st 1 36).bind λ_=>(aU (aJ st 14 0)).bind λp0=>(aU (aJ st 17 0)).bind λa=>(b3 st 0 3).bind λp2=>(bo 22 (bj st 2 0)).bind λb=>some (p0,a,p2,b)) (u4 uA) (u4 (zI shut)) (λk p=>TB k p.1 p.2.2.2)
theorem abO:LS KK κ aq ζH 95 22 Lk:=aZ.pre (bY.comp (bY.gc (aq 95 22)) (bY.eu [0]))<|
 aZ.bJ (π:=Int×Int×Γa×List ag) (σ:=Int×Γa) (aj.all kR rfl) (aO.nil) rfl 60 (λp a=>uA p.1 a.1 a.2 p.2.2.2) (λp=>(p.2.1,p.2.2.1)) (St:=λp=>o3 shut p.1 p.2.2.2) (λp=>1000000) (λp=>rfl)
  (λm p a k=>by kernel_rfl)
def pX (p0 a p2 b c d e:Int) (f:Γa) (g:List ag) (h:Int):AS SS:=⟨[(0,(vo 0)),(1,(vi p0)),(2,(vi a)),(3,(vi p2)),(4,(vc 1)),(18,(vi b)),(19,(vi c)),(20,(vi d)),(21,(vi h)),(22,(vi e))],[(rX 3 f),(some (.aM 36 [] [(.one (.aK 2 0))])),(bX 24 [(.aH 22 g)])],3,none,false,[],[]⟩
def W6 (p0 b p2 c d e:Int) (f:Γa) (g:List ag) (a0:Bool) (a a2:Int):AS SS:= {pX p0 b p2 c d p0 e f g p0 with env:=[(151,(vb a0)),(150,(vi a)),(149,(vi a2)),(0,(vo 0)),(1,(vi p0)),(2,(vi b)),(3,(vi p2)),(4,(vc 1)),(18,(vi c)),(19,(vi d)),(20,(vi a2)),(21,(vi a)),(22,(vi e))]}
def o4 (p0 g p2 h i c:Int) (b:Γa) (d:List ag) (a:Int×Int):T ((Int×Int)⊕(Bool×Int×Int)):=.bf (decide (a.1<a.2)) (.bd (idx b (γ.wrap (c-γ.wrap ((ο.wrap (γ.wrap (a.1+a.2))).fdiv 2)))) λz0=>.bd (b[(γ.wrap (c-γ.wrap ((ο.wrap (γ.wrap (a.1+a.2))).fdiv 2))).toNat]?) λe=>.bd (idx b (γ.wrap ((ο.wrap (γ.wrap (a.1+a.2))).fdiv 2))) λz2=>.bd (b[(γ.wrap ((ο.wrap (γ.wrap (a.1+a.2))).fdiv 2)).toNat]?) λz3=>.bd (idx d e) λz4=>.bd (idx d z3) λz5=>.bd (mS sh z4.bP z5.bP) λf=>.bf (!decide (f<0)) (.ok (.inl ((γ.wrap (γ.wrap ((ο.wrap (γ.wrap (a.1+a.2))).fdiv 2)+1)),a.2)))<|.ok (.inl (a.1,(γ.wrap ((ο.wrap (γ.wrap (a.1+a.2))).fdiv 2)))))<|.ok (.inr ((decide (a.1<a.2)),a.2,a.1))
def jU (p0 a p2 b c d e:Int) (f:Γa) (g:List ag) (h:Int):=bJ sh (o4 sh p0 a p2 b c e f g) 1000000 (d,h)
def TC {R} (k:KX SS R) (p0 a p2 b c d:Int) (e:Γa) (f:List ag) (x:(Bool×Int×Int)):Option R:=(λv=>k (.exit 8) (W6 p0 a p2 b c d e f v.1 v.2.1 v.2.2)) x
def Ll:bc SS:=br 34 (λst=>(cg st 1 36).bind λ_=>(aU (aJ st 1 0)).bind λp0=>(aU (aJ st 2 0)).bind λa=>(aU (aJ st 3 0)).bind λp2=>(aU (aJ st 18 0)).bind λb=>(aU (aJ st 19 0)).bind λc=>(aU (aJ st 20 0)).bind λd=>(aU (aJ st 22 0)).bind λe=>(b3 st 0 3).bind λf=>(bo 22 (bj st 2 0)).bind λg=>(aU (aJ st 21 0)).bind λh=>some (p0,a,p2,b,c,d,e,f,g,h)) (λp=>pX p.1 p.2.1 p.2.2.1 p.2.2.2.1 p.2.2.2.2.1 p.2.2.2.2.2.1 p.2.2.2.2.2.2.1 p.2.2.2.2.2.2.2.1 p.2.2.2.2.2.2.2.2.1 p.2.2.2.2.2.2.2.2.2) (λp=>jU shut p.1 p.2.1 p.2.2.1 p.2.2.2.1 p.2.2.2.2.1 p.2.2.2.2.2.1 p.2.2.2.2.2.2.1 p.2.2.2.2.2.2.2.1 p.2.2.2.2.2.2.2.2.1 p.2.2.2.2.2.2.2.2.2) (λk p=>TC k p.1 p.2.1 p.2.2.1 p.2.2.2.1 p.2.2.2.2.1 p.2.2.2.2.2.2.1 p.2.2.2.2.2.2.2.1 p.2.2.2.2.2.2.2.2.1)
theorem abP:LS KK κ aq ζH 95 34 Ll:=
 aZ.bJ (π:=Int×Int×Int×Int×Int×Int×Int×Γa×List ag×Int) (σ:=Int×Int) (aj.all kR rfl) (aO.nil) rfl 60 (λp a=>pX p.1 p.2.1 p.2.2.1 p.2.2.2.1 p.2.2.2.2.1 a.1 p.2.2.2.2.2.2.1 p.2.2.2.2.2.2.2.1 p.2.2.2.2.2.2.2.2.1 a.2) (λp=>(p.2.2.2.2.2.1,p.2.2.2.2.2.2.2.2.2)) (St:=λp=>o4 shut p.1 p.2.1 p.2.2.1 p.2.2.2.1 p.2.2.2.2.1 p.2.2.2.2.2.2.1 p.2.2.2.2.2.2.2.1 p.2.2.2.2.2.2.2.2.1) (λp=>1000000) (λp=>rfl)
  (λm p a k=>by kernel_rfl)
def iz (F:Γa->Int->Int->Int->List ag->Option (Γa)):dI SS:=⟨95,λvs h k=>match vs,h with|[.one (.own 0),.one (.v (.int .i64 a)),.one (.v (.int .i64 m)),.one (.v (.int .i64 b)),.one (.aM 1)],[some (.row 3 xs),some (.aM 36 [] [.one (.aK 2 0)]),some (.box 24 [.aH 22 calls])]=>(F xs a m b calls).bind λr=>k (.ret (.bn [])) [some (.row 3 r),some (.aM 36 [] [.one (.aK 2 0)]),some (.box 24 [.aH 22 calls])] [0]|_,_=>none⟩
def xk (a:Γa->Int->Int->Int->List ag->Option (Γa)):bE SS:= {(ot shut) with H:=iz a::(ot shut).H}
theorem Rx {a:Γa->Int->Int->Int->List ag->Option (Γa)} (b:kQ KK (iz a) κ):aj (xk a) κ:=aj.dw (c:=iz a) kR b.ok
def Gs (a:Γa->Int->Int->Int->List ag->Option (Γa)):bE SS:= {(xk a) with T:=h2 ((xk a).T) 95 ⟨⟨ζH,aq 95⟩,[Lm,Li,Lj,Lk,Ll]⟩}
theorem Ri {a:Γa->Int->Int->Int->List ag->Option (Γa)} (b:kQ KK (iz a) κ):a7 (Gs a) κ:=(a7.hG (aj.all (Rx b) rfl) Tryz.func95 rfl aY λc d=>by cases d;exact aO.cons (aO.cons (aO.cons (aO.cons (aO.cons (aO.nil) (by kernel_rfl) abP) (by kernel_rfl) abO) (by kernel_rfl) abN) (by kernel_rfl) abM) (by kernel_rfl) abQ)
def wB (d:Γa->Int->Int->Int->List ag->Option (Γa)) (xs:Γa) (a m b:Int) (calls:List ag) (mid e s:Int):T (Γa×Bool):=.bf (decide (s<m)) (.bf (decide (m<e)) (.bd (wa sh xs s m (e) calls) λc=>.bf (decide (a<s)) (.bf (decide (s<mid)) (.bd (d c a s (mid) calls) λz2=>.bf (decide (mid<e)) (.bf (decide (e<b)) (.bd (d z2 (mid) (e) b calls) λz3=>.ok (z3,true))<|.ok (z2,true))<|.ok (z2,true))<|.bf (decide (mid<e)) (.bf (decide (e<b)) (.bd (d c (mid) (e) b calls) λz2=>.ok (z2,true))<|.ok (c,true))<|.ok (c,true))<|.bf (decide (mid<e)) (.bf (decide (e<b)) (.bd (d c (mid) (e) b calls) λz2=>.ok (z2,true))<|.ok (c,true))<|.ok (c,true))<|.bf (decide (a<s)) (.bf (decide (s<mid)) (.bd (d xs a s (mid) calls) λc=>.bf (decide (mid<e)) (.bf (decide (e<b)) (.bd (d c (mid) (e) b calls) λz2=>.ok (z2,true))<|.ok (c,true))<|.ok (c,true))<|.bf (decide (mid<e)) (.bf (decide (e<b)) (.bd (d xs (mid) (e) b calls) λc=>.ok (c,true))<|.ok (xs,false))<|.ok (xs,false))<|.bf (decide (mid<e)) (.bf (decide (e<b)) (.bd (d xs (mid) (e) b calls) λc=>.ok (c,true))<|.ok (xs,false))<|.ok (xs,false))<|.bf (decide (a<s)) (.bf (decide (s<mid)) (.bd (d xs a s (mid) calls) λc=>.bf (decide (mid<e)) (.bf (decide (e<b)) (.bd (d c (mid) (e) b calls) λz2=>.ok (z2,true))<|.ok (c,true))<|.ok (c,true))<|.bf (decide (mid<e)) (.bf (decide (e<b)) (.bd (d xs (mid) (e) b calls) λc=>.ok (c,true))<|.ok (xs,false))<|.ok (xs,false))<|.bf (decide (mid<e)) (.bf (decide (e<b)) (.bd (d xs (mid) (e) b calls) λc=>.ok (c,true))<|.ok (xs,false))<|.ok (xs,false)
def i' (e:Γa->Int->Int->Int->List ag->Option (Γa)) (xs:Γa) (a m b:Int) (calls:List ag):T (Γa×Bool):=.bf (γ.wrap (m-a)==1) (.gd (uB a m b xs calls)<|.bd (zJ sh a m b xs calls) λc=>.gd (uy c.2.2 a xs calls)<|.bd (zG sh c.2.2 a xs calls) λd=>.ok (d.2.2,true))<|.bf (γ.wrap (b-m)==1) (.gd (uz m a xs calls m)<|.bd (zH sh m a xs calls m) λc=>.gd (uA c.2.2 m xs calls)<|.bd (zI sh c.2.2 m xs calls) λd=>.ok (d.2.2,true))<|.bf (decide (m>γ.wrap ((ο.wrap (γ.wrap (a+b))).fdiv 2))) (.gd (pX a m b (γ.wrap ((ο.wrap (γ.wrap (a+b))).fdiv 2)) (γ.wrap (γ.wrap ((ο.wrap (γ.wrap (a+b))).fdiv 2)+m)) (γ.wrap (γ.wrap (γ.wrap ((ο.wrap (γ.wrap (a+b))).fdiv 2)+m)-b)) (γ.wrap (γ.wrap (γ.wrap ((ο.wrap (γ.wrap (a+b))).fdiv 2)+m)-1)) xs calls (γ.wrap ((ο.wrap (γ.wrap (a+b))).fdiv 2)))<|.bd (jU sh a m b (γ.wrap ((ο.wrap (γ.wrap (a+b))).fdiv 2)) (γ.wrap (γ.wrap ((ο.wrap (γ.wrap (a+b))).fdiv 2)+m)) (γ.wrap (γ.wrap (γ.wrap ((ο.wrap (γ.wrap (a+b))).fdiv 2)+m)-b)) (γ.wrap (γ.wrap (γ.wrap ((ο.wrap (γ.wrap (a+b))).fdiv 2)+m)-1)) xs calls (γ.wrap ((ο.wrap (γ.wrap (a+b))).fdiv 2))) λc=>wB sh e xs a m b calls (γ.wrap ((ο.wrap (γ.wrap (a+b))).fdiv 2)) (γ.wrap (γ.wrap (γ.wrap ((ο.wrap (γ.wrap (a+b))).fdiv 2)+m)-c.2.2)) c.2.2)<|.gd (pX a m b (γ.wrap ((ο.wrap (γ.wrap (a+b))).fdiv 2)) (γ.wrap (γ.wrap ((ο.wrap (γ.wrap (a+b))).fdiv 2)+m)) a (γ.wrap (γ.wrap (γ.wrap ((ο.wrap (γ.wrap (a+b))).fdiv 2)+m)-1)) xs calls m)<|.bd (jU sh a m b (γ.wrap ((ο.wrap (γ.wrap (a+b))).fdiv 2)) (γ.wrap (γ.wrap ((ο.wrap (γ.wrap (a+b))).fdiv 2)+m)) a (γ.wrap (γ.wrap (γ.wrap ((ο.wrap (γ.wrap (a+b))).fdiv 2)+m)-1)) xs calls m) λc=>wB sh e xs a m b calls (γ.wrap ((ο.wrap (γ.wrap (a+b))).fdiv 2)) (γ.wrap (γ.wrap (γ.wrap ((ο.wrap (γ.wrap (a+b))).fdiv 2)+m)-c.2.2)) c.2.2
def mT (c:Γa->Int->Int->Int->List ag->Option (Γa)) (xs:Γa) (a m b:Int) (calls:List ag):=sh.s _ (i' sh c xs a m b calls).val
theorem ado {R:Type} (c:Γa->Int->Int->Int->List ag->Option (Γa)) (xs:Γa) (a m b:Int) (calls:List ag) (k:Rs SS->AH SS->Γ->Option R):fh (Gs c) 100 95 [.one (.own 0),.one (.v (.int .i64 a)),.one (.v (.int .i64 m)),.one (.v (.int .i64 b)),.one (.aM 1)] [some (.row 3 xs),some (.aM 36 [] [.one (.aK 2 0)]),some (.box 24 [.aH 22 calls])] k=(i' shut c xs a m b calls).run (λr=>k (.ret (.bn [])) [some (.row 3 r.1),some (.aM 36 [] [.one (.aK 2 0)]),some (.box 24 [.aH 22 calls])] (bif r.2 then[0] else[])):=by kernel_rfl
theorem Yv {d:Γa->Int->Int->Int->List ag->Option (Γa)} (e:kQ KK (iz d) κ):kQ KK (iz (λxs a m b calls=>(mT shut d xs a m b calls).map (·.1))) κ:=⟨λ{R} vs h k z c=>by
 simp only[iz] at c;split at c
 rotate_left
 ·cases c
 rename_i a m b xs calls;exact C3 (hp:=λr=>[some (.row 3 r),some (.aM 36 [] [.one (.aK 2 0)]),some (.box 24 [.aH 22 calls])]) (Ri e) (λk=>ado _ xs a m b calls k) rfl (ζO _) c⟩
def pO (sh:Sh):Nat->Γa->Int->Int->Int->List ag->Option (Γa)
 |0=>λ_ _ _ _ _=>none
 |n+1=>λxs a m b calls=>(mT sh (pO sh n) xs a m b calls).map (·.1)
theorem Ja: ∀n,kQ KK (iz (pO shut n)) κ
 |0=>⟨λ{R} vs h k z a=>by
  simp only[iz] at a;split at a<;>cases a⟩
 |n+1=>Yv (Ja n)
def wb (xs:Γa) (a m b:Int) (calls:List ag):Option (Γa):=pO sh 100 xs a m b calls
def JD:dI SS:=iz (wb sh)
def rS:bE SS:= {(ot sh) with H:=JD sh::(ot sh).H}
theorem oz:aj (rS shut) κ:=aj.dw (c:=JD shut) kR (Ja 100).ok
def um (p0:Γa) (a:List ag) (p2 b:Int) (c:Γa):AS SS:=⟨[(0,(vo 0)),(1,(vl p0)),(2,(vc 1)),(6,(vi 20)),(7,(vi p2)),(8,(vi b))],[(rX 3 c),(some (.aM 36 [] [(.one (.aK 2 0))])),(bX 24 [(.aH 22 a)])],3,none,false,[],[0]⟩
def Wy (p0:Γa) (b:List ag) (a0:Bool) (a a2:Int) (a3:Γa):AS SS:= {um p0 b a a a3 with env:=[(13,(vb a0)),(12,(vl p0)),(11,(vi a)),(0,(vo 0)),(1,(vl p0)),(2,(vc 1)),(6,(vi 20)),(7,(vi a2)),(8,(vi a))]}
def iY (sh:Sh) (p0:Γa) (b:List ag) (a:Int×Int×Γa):T ((Int×Int×Γa)⊕(Bool×Int×Int×Γa)):=.bf (decide (a.2.1<=(↑p0.length:Int))) (.bd (ins b a.2.2 a.1 a.2.1) λz0=>.ok (.inl (a.2.1,(γ.wrap (a.2.1+20)),z0)))<|.ok (.inr ((decide (a.2.1<=(↑p0.length:Int))),a.2.1,a.1,a.2.2))
def zy (p0:Γa) (a:List ag) (p2 b:Int) (c:Γa):=bJ sh (iY sh p0 a) 1000000 (p2,b,c)
def Tj {R} (k:KX SS R) (p0:Γa) (a:List ag) (x:(Bool×Int×Int×Γa)):Option R:=(λv=>k (.exit 0) (Wy p0 a v.1 v.2.1 v.2.2.1 v.2.2.2)) x
def K6:bc SS:=gU (λst=>gc (aq 58 3) (eu [0] (st)))<|br 3 (λst=>(cg st 1 36).bind λ_=>(b3 st 0 3).bind λp0=>(bo 22 (bj st 2 0)).bind λa=>(aU (aJ st 7 0)).bind λp2=>(aU (aJ st 8 0)).bind λb=>(b3 st 0 3).bind λc=>some (p0,a,p2,b,c)) (u5 um) (u5 (zy shut)) (λk p=>Tj k p.1 p.2.1)
theorem aby:LS KK κ aq ζT 58 3 K6:=aZ.pre (bY.comp (bY.gc (aq 58 3)) (bY.eu [0]))<|
 aZ.bJ (π:=Γa×List ag×Int×Int×Γa) (σ:=Int×Int×Γa) (aj.all oz rfl) (aO.nil) rfl 60 (λp a=>um p.1 p.2.1 a.1 a.2.1 a.2.2) (λp=>(p.2.2.1,p.2.2.2.1,p.2.2.2.2)) (St:=λp=>iY shut p.1 p.2.1) (λp=>1000000) (λp=>rfl)
  (λm p a k=>by kernel_rfl)
def uk (p0 a p2:Int) (b:Γa) (c:List ag) (d:Int):AS SS:=⟨[(0,(vo 0)),(1,(vi p0)),(2,(vc 1)),(6,(vi a)),(7,(vi d)),(8,(vi p2))],[(rX 3 b),(some (.aM 36 [] [(.one (.aK 2 0))])),(bX 24 [(.aH 22 c)])],3,none,false,[],[0]⟩
def Wx (p0 b:Int) (c:List ag) (a0:Bool) (a a2:Int) (a3:Γa):AS SS:= {uk p0 b p0 a3 c p0 with env:=[(35,(vb a0)),(34,(vi p0)),(33,(vi a)),(0,(vo 0)),(1,(vi p0)),(2,(vc 1)),(6,(vi b)),(7,(vi a2)),(8,(vi a))]}
def hc (p0 b:Int) (c:List ag) (a:Int×Int×Γa):T ((Int×Int×Γa)⊕(Bool×Int×Int×Γa)):=.bf (decide (a.2.1<=p0)) (.bd (wb sh a.2.2 a.1 (γ.wrap (a.1+b)) a.2.1 c) λz0=>.ok (.inl (a.2.1,(γ.wrap (a.2.1+γ.wrap (2*b))),z0)))<|.ok (.inr ((decide (a.2.1<=p0)),a.2.1,a.1,a.2.2))
def zx (p0 a p2:Int) (b:Γa) (c:List ag) (d:Int):=bJ sh (hc sh p0 a c) 1000000 (d,p2,b)
def Ti {R} (k:KX SS R) (p0 a:Int) (b:List ag) (x:(Bool×Int×Int×Γa)):Option R:=(λv=>k (.exit 4) (Wx p0 a b v.1 v.2.1 v.2.2.1 v.2.2.2)) x
def Dz:bc SS:=br 10 (λst=>(cg st 1 36).bind λ_=>(aU (aJ st 1 0)).bind λp0=>(aU (aJ st 6 0)).bind λa=>(aU (aJ st 8 0)).bind λp2=>(b3 st 0 3).bind λb=>(bo 22 (bj st 2 0)).bind λc=>(aU (aJ st 7 0)).bind λd=>some (p0,a,p2,b,c,d)) (u6 uk) (u6 (zx shut)) (λk p=>Ti k p.1 p.2.1 p.2.2.2.2.1)
theorem MK:LS KK κ aq ζT 58 10 Dz:=
 aZ.bJ (π:=Int×Int×Int×Γa×List ag×Int) (σ:=Int×Int×Γa) (aj.all oz rfl) (aO.nil) rfl 60 (λp a=>uk p.1 p.2.1 a.2.1 a.2.2 p.2.2.2.2.1 a.1) (λp=>(p.2.2.2.2.2,p.2.2.1,p.2.2.2.1)) (St:=λp=>hc shut p.1 p.2.1 p.2.2.2.2.1) (λp=>1000000) (λp=>rfl)
  (λm p a k=>by kernel_rfl)
def uo (p0:Γa) (a:List ag) (p2 b:Int):AS SS:=⟨[(0,(vo 0)),(1,(vi p2)),(2,(vc 1)),(6,(vi b))],[(rX 3 p0),(some (.aM 36 [] [(.one (.aK 2 0))])),(bX 24 [(.aH 22 a)])],3,none,false,[],[0]⟩
def Wz (b:List ag) (p2:Int) (a0:Bool) (a:Int) (a2:Γa):AS SS:= {uo a2 b p2 p2 with env:=[(30,(vb a0)),(29,(vi p2)),(28,(vi a)),(0,(vo 0)),(1,(vi p2)),(2,(vc 1)),(6,(vi a))]}
def h8 (c:List ag) (p2:Int) (a:Int×Γa):T ((Int×Γa)⊕(Bool×Int×Γa)):=.bf (decide (a.1<p2)) (.gd (uk p2 a.1 (γ.wrap (2*a.1)) a.2 c 0)<|.bd (zx sh p2 a.1 (γ.wrap (2*a.1)) a.2 c 0) λb=>.bf (decide (γ.wrap (b.2.2.1+a.1)<p2)) (.bd (wb sh b.2.2.2 b.2.2.1 (γ.wrap (b.2.2.1+a.1)) p2 c) λd=>.ok (.inl ((γ.wrap (a.1*2)),d)))<|.ok (.inl ((γ.wrap (a.1*2)),b.2.2.2)))<|.ok (.inr ((decide (a.1<p2)),a.1,a.2))
def zz (p0:Γa) (a:List ag) (p2 b:Int):=bJ sh (h8 sh a p2) 1000000 (b,p0)
def Tk {R} (k:KX SS R) (a:List ag) (p2:Int) (x:(Bool×Int×Γa)):Option R:=(λv=>k (.exit 2) (Wz a p2 v.1 v.2.1 v.2.2)) x
def K7:bc SS:=br 8 (λst=>(cg st 1 36).bind λ_=>(b3 st 0 3).bind λp0=>(bo 22 (bj st 2 0)).bind λa=>(aU (aJ st 1 0)).bind λp2=>(aU (aJ st 6 0)).bind λb=>some (p0,a,p2,b)) (u4 uo) (u4 (zz shut)) (λk p=>Tk k p.2.1 p.2.2.1)
theorem abz:LS KK κ aq ζT 58 8 K7:=
 aZ.bJ (I:=⟨⟨ζT,aq 58⟩,[Dz]⟩) (π:=Γa×List ag×Int×Int) (σ:=Int×Γa) (aj.all oz rfl) (aO.cons (aO.nil) (by kernel_rfl) MK) rfl 60 (λp a=>uo a.2 p.2.1 p.2.2.1 a.1) (λp=>(p.2.2.2,p.1)) (St:=λp=>h8 shut p.2.1 p.2.2.1) (λp=>1000000) (λp=>rfl)
  (λm p a k=>by kernel_rfl)
def C2 (F:Γa->List ag->Option (Γa)):dI SS:=⟨35,λvs h k=>match vs,h with|[.one (.own 0),.one (.aM 1)],[some (.row 3 xs),some (.aM 36 [] [.one (.aK 2 0)]),some (.box 24 [.aH 22 calls])]=>(F xs calls).bind λr=>k (.ret (.bn [])) [some (.row 3 r),some (.aM 36 [] [.one (.aK 2 0)]),some (.box 24 [.aH 22 calls])] [0]|_,_=>none⟩
def Gd:=bL (rS shut) aq ζT 58 [K6,Dz,K7]
theorem QT:a7 Gd κ:=(a7.hG (aj.all oz rfl) Tryz.func58 rfl aY λc a=>by cases a;exact aO.cons (aO.cons (aO.cons (aO.nil) (by kernel_rfl) abz) (by kernel_rfl) MK) (by kernel_rfl) aby)
def sI (xs:Γa) (calls:List ag):T (Γa×Bool):=.gd (um xs calls 0 20 xs)<|.bd (zy sh xs calls 0 20 xs) λa=>.bd (ins calls a.2.2.2 a.2.2.1 (↑xs.length:Int)) λb=>.gd (uo b calls ((↑xs.length:Int)) 20)<|.bd (zz sh b calls ((↑xs.length:Int)) 20) λc=>.ok (c.2.2,true)
def IT (xs:Γa) (calls:List ag):=sh.s _ (sI sh xs calls).val
theorem adn {R:Type} (xs:Γa) (calls:List ag) (k:Rs SS->AH SS->Γ->Option R):fh Gd 100 35 [.one (.own 0),.one (.aM 1)] [some (.row 3 xs),some (.aM 36 [] [.one (.aK 2 0)]),some (.box 24 [.aH 22 calls])] k=(sI shut xs calls).run (λr=>k (.ret (.bn [])) [some (.row 3 r.1),some (.aM 36 [] [.one (.aK 2 0)]),some (.box 24 [.aH 22 calls])] (bif r.2 then[0] else[])):=by kernel_rfl
theorem Yu:kQ KK (C2 (λxs calls=>(IT shut xs calls).map (·.1))) κ:=⟨λ{R} vs h k z a=>by
 simp only[C2] at a;split at a
 rotate_left
 ·cases a
 rename_i xs calls;exact C3 (hp:=λr=>[some (.row 3 r),some (.aM 36 [] [.one (.aK 2 0)]),some (.box 24 [.aH 22 calls])]) QT (λk=>adn xs calls k) rfl (ζO _) a⟩
def n9 (xs:Γa) (calls:List ag):Option (Γa):=(IT sh xs calls).map (·.1)
def JC:dI SS:=C2 (n9 sh)
def yp:bE SS:= {(rS sh) with H:=JC sh::(rS sh).H}
theorem yq:aj (yp shut) κ:=aj.dw (c:=JC shut) oz (Yu).ok
def CO (p0:List ag) (a:Int) (p2:Γa):AS SS:=⟨[(1,(va 0 0)),(3,(vo 1)),(7,(vd 22 p0)),(8,(vl p0)),(9,(vi a))],[(bX 24 [(.aH 22 p0)]),(rX 3 p2)],0,none,false,[],[]⟩
def N6 (p0:List ag) (p2:Γa):AS SS:=CO p0 0 p2
def Wm (p0:List ag) (a0:Bool) (a:Int) (a2:Γa):AS SS:=xe [(10,(vb a0))] (CO p0 a a2)
def sy (sh:Sh) (p0:List ag) (b:Int) (z0:ag) (a:Γa):T (Γa⊕(Bool×Int×Γa)):=.bf (z0.aR !=0) (.bd (app 8 a [b]) λc=>.ok (.inl c))<|.ok (.inl a)
def rq (sh:Sh) (p0:List ag) (b:Int) (a:Γa):T ((Bool×Int×Γa)):=.ok ((decide (b<(↑p0.length:Int))),b,a)
def zu (p0:List ag) (p2:Γa):=b8 sh (sy sh p0) (rq sh p0) p0 p2
def Ta {R} (k:KX SS R) (p0:List ag) (x:(Bool×Int×Γa)):Option R:=(λv=>k (.exit 0) (Wm p0 v.1 v.2.1 v.2.2)) x
def KY:bc SS:=br 4 (λst=>(bo 22 (aJ st 7 0)).bind λp0=>(b3 st 1 3).bind λp2=>some (p0,p2)) (u2 N6) (u2 (zu shut)) (λk p=>Ta k p.1)
theorem abp:LS KK κ aq Tryz.f32 32 4 KY:=
 aZ.cd (π:=List ag×Γa) (σ:=Γa) (aj.all yq rfl) (aO.nil) rfl 60 (λp i a=>CO p.1 i a) (λp=>p.1) (λp=>p.2) (St:=λp=>sy shut p.1) (F:=λp=>rq shut p.1) (λp=>rfl)
  (λm p i a k=>by kernel_rfl) (λp x=>⟨_,_,λ_=>rfl⟩) (λp N C A O w a b=>cL b (t:=22) (sl:=7) rfl λv h=>h)
def QN:=bL (yp shut) aq Tryz.f32 32 [KY]
theorem QO:a7 QN κ:=bO (aj.all yq rfl) Tryz.func32 rfl aY (by kernel_rfl) abp
def Ay (h:dH):T (Γa):=.gd (N6 h.cA [])<|.bd (zu sh h.cA []) λa=>.bd (oc h.cA a.2.2) λb=>.ok b
def lf (h:dH):=sh.s _ (Ay sh h).val
def yl:=bN (dR KK 32 24 (lf sh) (cx KK 31)) (yp sh)
theorem rP:aj (yl shut) κ:=eh (rs:=[31]) yq QO rfl rfl λh k=>by kernel_rfl
def Cy (p0:Γa) (a:List bb) (p2:List ag) (b:List (Option (Γa))) (c:Int):AS SS:=⟨[(1,(va 0 0)),(5,(vd 31 p0)),(6,(vd 89 a)),(8,(vo 1)),(36,(vd 22 p2)),(37,(vl p2)),(38,(vi c))],[(bX 24 [(.aH 22 p2)]),(some (.cu 31 3 b))],0,none,false,[],[]⟩
def NM (p0:Γa) (a:List bb) (p2:List ag) (b:List (Option (Γa))):AS SS:=Cy p0 a p2 b 0
def Vg (p0:Γa) (a:List bb) (p2:List ag):AS SS:=⟨[(2,(vo 0)),(3,(vi 391))],[(rX 3 [])],0,none,false,[],[]⟩
def Vh (p0:Γa) (b:List bb) (p2:List ag) (a0:Bool) (a:Int) (a2:List (Option (Γa))):AS SS:=xe [(39,(vb a0))] (Cy p0 b p2 a2 a)
def oI (p0:Γa) (c:List bb) (p2:List ag) (d:Int) (z0:ag) (a:List (Option (Γa))):T (List (Option (Γa))⊕Unit⊕(Bool×Int×List (Option (Γa)))):=.bf (z0.aR !=0) (.ok (.inl a))<|.bf (z0.bK==0) (.ok (.inl a))<|.bd (j9 sh (dH.mk p2) p0 c z0) λb=>.bf (!b.snd) (.ok (.inr (.inl ())))<|.bd (idx a b.fst) λz2=>.bd (jL a b.fst.toNat) λz3=>.bd (app 8 z3 [d]) λz4=>.bd (idx (a.set b.fst.toNat none) b.fst) λz5=>.bd (idx (a.set b.fst.toNat none) (↑b.fst.toNat:Int)) λe=>.ok (.inl ((a.set b.fst.toNat none).set b.fst.toNat (some z4)))
def q4 (sh:Sh) (p0:Γa) (c:List bb) (p2:List ag) (b:Int) (a:List (Option (Γa))):T (Unit⊕(Bool×Int×List (Option (Γa)))):=.ok (.inr ((decide (b<(↑p2.length:Int))),b,a))
def rZ (p0:Γa) (a:List bb) (p2:List ag) (b:List (Option (Γa))):Option (Unit⊕(Bool×Int×List (Option (Γa)))):=b8 sh (oI sh p0 a p2) (q4 sh p0 a p2) p2 b
def Sm {R} (k:KX SS R) (p0:Γa) (a:List bb) (p2:List ag) (x:Unit⊕(Bool×Int×List (Option (Γa)))):Option R:=(λx=>ζY (λv=>k .ret (Vg p0 a p2)) (λv=>k (.exit 0) (Vh p0 a p2 v.1 v.2.1 v.2.2)) x) x
def Ki:bc SS:=br 11 (λst=>(bo 31 (aJ st 5 0)).bind λp0=>(bo 89 (aJ st 6 0)).bind λa=>(bo 22 (aJ st 36 0)).bind λp2=>(CZ st 1 31 3).bind λb=>some (p0,a,p2,b)) (u4 NM) (u4 (rZ shut)) (λk p=>Sm k p.1 p.2.1 p.2.2.1)
theorem aaQ:LS KK κ aq ηv 12 11 Ki:=
 aZ.cd (π:=Γa×List bb×List ag×List (Option (Γa))) (σ:=List (Option (Γa))) (aj.all rP rfl) (aO.nil) rfl 60 (λp i a=>Cy p.1 p.2.1 p.2.2.1 a i) (λp=>p.2.2.1) (λp=>p.2.2.2) (St:=λp=>oI shut p.1 p.2.1 p.2.2.1) (F:=λp=>q4 shut p.1 p.2.1 p.2.2.1) (λp=>rfl)
  (λm p i a k=>by kernel_rfl) (by rintro p (x|x)<;>exact⟨_,_,λ_=>rfl⟩) (λp N C A O w a b=>cL b (t:=22) (sl:=36) rfl λv h=>h)
def tK (p0:Γa) (a:List ag) (p2:List (Option (Γa))) (b:Int) (c:Γa) (d:List (Option (Γa))):AS SS:=⟨[(1,(va 0 0)),(5,(vd 31 p0)),(13,(vo 1)),(73,(vo 2)),(74,(vl p2)),(75,(vi b))],[(bX 24 [(.aH 22 a)]),(rX 3 c),(some (.cu 31 3 d))],0,none,false,[],[]⟩
def Vi (p0:Γa) (b:List ag) (p2:List (Option (Γa))) (a0:Bool) (a:Int) (a2:Γa) (a3:List (Option (Γa))):AS SS:=xe [(76,(vb a0))] (tK p0 b p2 a a2 a3)
def oJ (p0:Γa) (b:List ag) (p2:List (Option (Γa))) (a:Int×Γa×List (Option (Γa))):T ((Int×Γa×List (Option (Γa)))⊕(Bool×Int×Γa×List (Option (Γa)))):=.bf (decide (a.1<(↑p2.length:Int))) (.bd (idx a.2.2 a.1) λz0=>.bd (jL a.2.2 a.1.toNat) λc=>.bd (n9 sh c b) λz2=>.bd (app 8 a.2.1 z2) λz3=>.bf (decide (a.1<(↑p0.length:Int))) (.bd (dL p0 (η6 (λx=>x.snd) (some (γ,a.1))) (η6 (λx=>x.snd) (some (γ,γ.wrap (a.1+1)))) (η6 (λx=>x.snd) (some (γ,γ.wrap (a.1+1))))) λz4=>.bd (app 8 z3 z4) λz5=>.ok (.inl ((γ.wrap (a.1+1)),z5,(a.2.2.set a.1.toNat none))))<|.ok (.inl ((γ.wrap (a.1+1)),z3,(a.2.2.set a.1.toNat none))))<|.ok (.inr ((decide (a.1<(↑p2.length:Int))),a.1,a.2.1,a.2.2))
def yT (p0:Γa) (a:List ag) (p2:List (Option (Γa))) (b:Int) (c:Γa) (d:List (Option (Γa))):Option ((Bool×Int×Γa×List (Option (Γa)))):=bJ sh (oJ sh p0 a p2) 1000000 (b,c,d)
def Sn {R} (k:KX SS R) (p0:Γa) (a:List ag) (p2:List (Option (Γa))) (x:(Bool×Int×Γa×List (Option (Γa)))):Option R:=(λv=>k (.exit 2) (Vi p0 a p2 v.1 v.2.1 v.2.2.1 v.2.2.2)) x
def Kj:bc SS:=br 21 (λst=>(bo 31 (aJ st 5 0)).bind λp0=>(bo 22 (bj st 0 0)).bind λa=>(CZ st 2 31 3).bind λp2=>(aU (aJ st 75 0)).bind λb=>(b3 st 1 3).bind λc=>(CZ st 2 31 3).bind λd=>some (p0,a,p2,b,c,d)) (u6 tK) (u6 (yT shut)) (λk p=>Sn k p.1 p.2.1 p.2.2.1)
theorem aaR:LS KK κ aq ηv 12 21 Kj:=
 aZ.bJ (π:=Γa×List ag×List (Option (Γa))×Int×Γa×List (Option (Γa))) (σ:=Int×Γa×List (Option (Γa))) (aj.all rP rfl) (aO.nil) rfl 60 (λp a=>tK p.1 p.2.1 p.2.2.1 a.1 a.2.1 a.2.2) (λp=>(p.2.2.2.1,p.2.2.2.2.1,p.2.2.2.2.2)) (St:=λp=>oJ shut p.1 p.2.1 p.2.2.1) (λp=>1000000) (λp=>rfl)
  (λm p a k=>by kernel_rfl)
def PQ:=bL (yl shut) aq ηv 12 [Ki,Kj]
theorem PR:a7 PQ κ:=(a7.hG (aj.all rP rfl) Tryz.func12 rfl aY λc a=>by cases a;exact aO.cons (aO.cons (aO.nil) (by kernel_rfl) aaR) (by kernel_rfl) aaQ)
def iZ (h:dH):T (Γa×Int):=.bd (pF sh h) λz0=>.bf (z0 !=0) (.ok ([],z0))<|.bd (lf sh h) λa=>.bd (mR sh h a) λz2=>.bf (!z2.snd) (.ok ([],391))<|.bd (hV 24 (γ.wrap ((↑a.length:Int)+1)) (γ.wrap ((↑a.length:Int)+1)) (some [])) λz3=>.gd (NM a z2.fst h.cA z3)<|.bd (rZ sh a z2.fst h.cA z3) λc=>.cs c (λ_=>.ok ([],391)) λb=>.gd (tK a h.cA b.2.2 0 [] b.2.2)<|.bd (yT sh a h.cA b.2.2 0 [] b.2.2) λd=>.ok (d.2.2.1,0)
def pC (h:dH):=sh.s _ (iZ sh h).val
def GD:=bN (dR KK 12 24 (pC sh) (eN KK 31 27)) (yl sh)
theorem Ry:aj (GD shut) κ:=eh (rs:=[31,27]) rP PR rfl rfl λh k=>by kernel_rfl
end Go.Proofs.YtoggponeookhbaaGreatDoor
end
section
namespace Go.Proofs.YtoggponeookhbaaGreatDoor
open Go.Sort
section
variable {α:Type} [Inhabited α]
theorem H2 {d D:Array α} {a b:Nat} (m:a<=b) (n:b<=d.size) (h:PermIn a b d D):
  D.toList=d.toList.take a++(D.toList.drop a).take (b-a)++d.toList.drop b/\((D.toList.drop a).take (b-a)).Perm ((d.toList.drop a).take (b-a)):=by
 obtain⟨h1,l,c⟩:=h;have f: ∀i,i<a\/b<=i->D.toList[i]? =d.toList[i]? :=λi hi=>by
  rw[ξr,ξr]
  by_cases g:i<d.size
  ·have:=l i hi;rw[getElem!_pos D i (by omega),getElem!_pos d i g] at this;rw[ξt (by omega),ξt g,this]
  ·rw[ζl (by omega),ζl (by omega)]
 have j:D.toList.take a=d.toList.take a:=ξG λi=>by
  rw[ξR,ξR];split
  ·exact f i (Or.inl (by assumption))
  ·rfl
 have k:D.toList.drop b=d.toList.drop b:=ξG λi=>by
  rw[ζI,ζI];exact f _ (Or.inr (by omega))
 refine⟨?_,?_⟩
 ·rw[<-j,<-k,ν]
  conv=>lhs;rw[<-ξ0 a D.toList]
  congr 1
  conv=>lhs;rw[<-ξ0 (b-a) (D.toList.drop a)]
  rw[η4]
  congr 2
  omega
 ·have e: ∀A:Array α,(A.extract a b).toList=(A.toList.drop a).take (b-a):=λA=>by simp[List.extract_eq_take_drop]
  rw[e,e] at c;exact c
theorem H3 {lt:α->α->Bool} {D:Array α} {a b:Nat} (d:b<=D.size) (h:SortedIn lt a b D):((D.toList.drop a).take (b-a)).Pairwise λx y=>lt y x=false:=by
 rw[ω];intro i j hi c e;simp only[ξM,ξw,ζB] at hi c;simp only[ζb,ζc,Array.getElem_toList];have:=h (a+i) (a+j) (by omega) (by omega) (by omega)
 rwa [getElem!_pos D (a+j) (by omega),getElem!_pos D (a+i) (by omega)] at this
structure Agree (ki gW:α->α->Bool) (ix:α->Int):Prop where
 eq: ∀x y,ix y<ix x->ki x y=gW x y
variable {ki gW:α->α->Bool} {ix:α->Int}
theorem JO (b:Agree ki gW ix) (a:Nat): ∀(j:Nat) (d:Array α),j<d.size->(∀p,a<=p->p<j->ix d[p]! <ix d[j]!)->insInner ki a j d=insInner gW a j d
 |0,d,_,_=>rfl
 |j+1,d,c,h=>by
  unfold insInner
  by_cases f:j+1>a
  ·have e:=b.eq d[j+1]! d[j]! (h j (by omega) (by omega));rw[e];split
   ·refine JO b a j _ (by rw[swp_size];omega) λp hp g=>?_;rw[swp_get d c (by omega),swp_get d c (by omega),if_neg (by omega),if_neg (by omega),if_pos rfl];exact h p hp (by omega)
   ·rfl
  ·have:decide (j+1>a)=false:=by simpa using f
   simp[this]
theorem Mm (g:SWO gW) (f:Agree ki gW ix) (a b:Nat): ∀(n i:Nat) (d:Array α),b-i=n->a<i->i<=b->b<=d.size->SortedIn gW a i d->(∀p r,a<=p->p<r->i<=r->r<b->ix d[p]! <ix d[r]!)->insOuter ki a b i d=insOuter gW a b i d
 |0,i,d,hn,_,t,_,_,_=>by
  rw[insOuter,if_neg (by omega)]
  conv=>rhs;rw[insOuter,if_neg (by omega)]
 |n+1,i,d,hn,y,t,s,w,h=>by
  have c:i<b:=by omega
  rw[insOuter,if_pos c]
  conv=>rhs;rw[insOuter,if_pos c]
  rw[JO f a i d (by omega) λp h1 e=>h p i h1 e (ξ4 _) c];have m:Ins gW a i i d:=⟨λp q o u D _ C=>w p q o u (by omega),λq h1 e=>by omega⟩;have h1:=insInner_spec g swp_permIn permIn_refl permIn_trans a (i+1) i (by omega) i d (by omega) (ξ4 _) (by omega) m;refine Mm g f a b n (i+1) _ (by omega) (by omega) (by omega) (by rw[h1.1.1];exact s) h1.2 λp r hp v z j=>?_;have l:(insInner gW a i d)[r]! =d[r]! :=h1.1.2.1 r (Or.inr (by omega));rw[l]
  by_cases B:p<=i
  ·exact permIn_all d _ a (i+1) (λx=>ix x<ix d[r]!) (by omega) h1.1 (λk hk A=>h k r hk (by omega) (by omega) j) p hp (by omega)
  ·rw[h1.1.2.1 p (Or.inr (by omega))];exact h p r hp v (by omega) j
theorem acY (g:SWO gW) (f:Agree ki gW ix) {a b:Nat} {d:Array α} (k:b<=d.size) (h: ∀p r,a<=p->p<r->r<b->ix d[p]! <ix d[r]!):insertionSort ki d a b=insertionSort gW d a b:=by
 unfold insertionSort
 by_cases m:a<b
 ·exact Mm g f a b _ (a+1) d rfl (by omega) (by omega) k (λi j h1 c l=>by omega) λp r h1 c _ e=>h p r h1 c e
 ·rw[insOuter,if_neg (by omega)]
  conv=>rhs;rw[insOuter,if_neg (by omega)]
end
def c0 (key:ag->Int) (q:List ag) (x:Int):Int:=match q[x.toNat]? with|some d=>key d|none=>0
def dx (key:ag->Int) (q:List ag) (x y:Int):Prop:=c0 key q x<c0 key q y\/c0 key q x=c0 key q y/\x<y
section
variable {key:ag->Int} {q:List ag}
theorem dx.irrefl {x:Int}: ¬dx key q x x:=by unfold dx;omega
theorem dx.trans {x y z:Int} (h:dx key q x y) (k:dx key q y z):dx key q x z:=by unfold dx at*;omega
theorem dx.total {x y:Int} (h:x≠y):dx key q x y\/dx key q y x:=by unfold dx;omega
theorem dx.asymm {x y:Int} (h:dx key q x y): ¬dx key q y x:=λk=>dx.irrefl (h.trans k)
theorem uQ (i:dD q):ga key q i=c0 key q i.1:=by
 unfold ga c0;rw[ε]
def kj (key:ag->Int) (q:List ag) (x y:dD q):Bool:=decide (ga key q x<ga key q y)||(decide (ga key q x=ga key q y)&&decide (x.1<y.1))
theorem kk {x y:dD q}:kj key q x y=true↔dx key q x.1 y.1:=by
 unfold kj dx;rw[uQ,uQ];simp
theorem Lu:SWO (kj key q) where
 irrefl x:=by
  cases h:kj key q x x with
  |false=>rfl
  |true=>exact absurd (kk.1 h) dx.irrefl
 trans x y z h1 a:=kk.2 ((kk.1 h1).trans (kk.1 a))
 ntrans x y z h1 a:=by
  cases h:kj key q x z with
  |false=>rfl
  |true=>
   have h:=kk.1 h;have h1: ¬dx key q x.1 y.1:=λk=>by rw[kk.2 k] at h1;cases h1
   have a: ¬dx key q y.1 z.1:=λk=>by rw[kk.2 k] at a;cases a
   unfold dx at*
   omega
theorem TN:Agree (ltOf (fI key q)) (kj key q) (λx=>x.1):=⟨λx y h=>by
 rw[qb];unfold kj;have:decide (x.1<y.1)=false:=decide_eq_false (by omega);rw[this,Bool.and_false,η9]⟩
theorem nA {l:Γa} (h:l.Pairwise (· < ·)):l.Nodup:=h.imp λh=>by omega
theorem aaG {l:Γa} (hn:l.Nodup) (h:l.Pairwise λx y=> ¬dx key q y x):l.Pairwise (dx key q):=(ηw hn h).imp λ⟨h1,a⟩=>(dx.total h1).resolve_right a
def R7 (key:ag->Int) (q:List ag) (xs:Γa) (a b:Nat) (ys:Γa):Prop:= ∃W,ys=xs.take a++W++xs.drop b/\W.Perm ((xs.drop a).take (b-a))/\W.Pairwise (dx key q)
theorem JQ {xs:Γa} {a b:Nat} (n: ∀x∈xs,0<=x/\x<(q.length:Int)) (hl:xs.length<=1000) (t:a<=b) (g:b<=xs.length) (hi:((xs.drop a).take (b-a)).Pairwise (· < ·)): ∃ys,ins q xs (a:Int) (b:Int)=some ys/\R7 ag.bP q xs a b ys:=by
 unfold ins;rw[dif_pos ⟨n,by omega,by omega,by omega,by omega⟩];refine⟨_,rfl,?_⟩;simp only[θ];have c:(xs.attachWith _ n).map (·.1)=xs:=by simp
 generalize xs.attachWith _ n=ps at c;have hlen:ps.length=xs.length:=by rw[<-c];simp
 rcases ps with _|⟨p,r⟩
 ·have:xs=[]:=by rw[<-c];rfl
  subst this;exact⟨[],by simp[Db],by simp,ζd⟩
 letI:Inhabited (dD q):=⟨p⟩
 have d:(p::r).toArray.size=xs.length:=by rw[ξb,hlen]
 have y: ∀k m,a<=k->k<m->m<b->((p::r).toArray[k]!).1<((p::r).toArray[m]!).1:=λk m h1 o F=>by
  have e: ∀j (u:j<xs.length),((p::r).toArray[j]!).1=xs[j]:=λj u=>by
   have z:j<(p::r).length:=by omega
   rw[getElem!_pos _ j (by rw[d];exact u)];have:=ζP (f:=λi:dD q=>i.1) (l:=p::r) (i:=j) (h:=by simpa using z);simp only[List.getElem_toArray];rw[<-this]
   congr 1
  rw[e k (by omega),e m (by omega)];rw[ω] at hi;have:=hi (k-a) (m-a) (by simp;omega) (by simp;omega) (by omega);simp only[ζb,ζc] at this;simpa[show a+(k-a)=k by omega,show a+(m-a)=m by omega] using this
 have w:=acY Lu (TN (key:=ag.bP) (q:=q)) (by rw[d];exact g) y;have v:=insertionSort_holds (Lu (key:=ag.bP) (q:=q)) (p::r).toArray a b t (by rw[d];exact g);have A:Db ag.bP q (p::r) a b=(insertionSort (ltOf (fI ag.bP q)) (p::r).toArray a b).toList:=rfl;rw[A,w];generalize insertionSort (kj ag.bP q) (p::r).toArray a b=D at v;obtain⟨h1,o⟩:=v;obtain⟨B,C⟩:=H2 t (by rw[d];exact g) h1;have E:=H3 (by rw[h1.1,d];exact g) o;have s:(((D.toList.drop a).take (b-a)).map (·.1)).Perm ((xs.drop a).take (b-a)):=by
  have:=C.map (λi:dD q=>i.1);simpa[ζg,ηb,<-c] using this
 refine⟨((D.toList.drop a).take (b-a)).map (·.1),?_,s,?_⟩
 ·conv=>lhs;rw[B]
  rw[ζr,ζr,ζg,ηb (i:=b)]
  congr 1
  ·congr 1
   exact congrArg (List.take a) c
  ·exact congrArg (List.drop b) c
 ·refine aaG (s.nodup_iff.2 (nA hi)) ?_;rw[ζL];exact E.imp λh k=>by rw[kk.2 k] at h;cases h
end
end Go.Proofs.YtoggponeookhbaaGreatDoor
end
section
namespace Go.Proofs.YtoggponeookhbaaGreatDoor
open Go.RowKit Go.Dc Go.Vx
section
variable {α σ X:Type}
theorem Np {step:Int->α->σ->Option (σ⊕X)} {fin:Int->σ->Option X} {l:List α} {st:Nat->σ} {x:X} (h: ∀(j:Nat) z,l[j]? =some z->step j z (st j)=some (.inl (st (j+1)))) (a:fin (l.length:Int) (st l.length)=some x):
  ∀(r pre:List α),l=pre++r->bS step fin pre.length r (st pre.length)=some x
 |[],pre,e=>by
  rw[ξ6] at e;subst e;exact a
 |z::r,pre,e=>by
  rw[gG,h pre.length z (by rw[e];simp),δ];have:=Np h a r (pre++[z]) (by rw[e];simp);rw[show(pre++[z]).length=pre.length+1 by simp] at this;exact this
theorem vV {step:Int->α->σ->Option (σ⊕X)} {fin:Int->σ->Option X} {l:List α} {st:Nat->σ} {x:X} (h: ∀(j:Nat) z,l[j]? =some z->step j z (st j)=some (.inl (st (j+1)))) (a:fin (l.length:Int) (st l.length)=some x):bS step fin 0 l (st 0)=some x:=Np h a l [] rfl
theorem No {step:Int->α->σ->Option (σ⊕X)} {fin:Int->σ->Option X} {l:List α} {st:Nat->σ} {x:X} {n:Nat} {z0:α} (hn:l[n]? =some z0) (h: ∀(j:Nat) z,j<n->l[j]? =some z->step j z (st j)=some (.inl (st (j+1)))) (b:step n z0 (st n)=some (.inr x)):
  ∀(r pre:List α),pre.length<=n->l=pre++r->bS step fin pre.length r (st pre.length)=some x
 |[],pre,hp,e=>by
  rw[ξ6] at e;subst e;have:=(η.1 hn).1;omega
 |z::r,pre,hp,e=>by
  have a:l[pre.length]? =some z:=by rw[e];simp
  rcases ξz hp with c|heq
  ·rw[gG,h pre.length z c a,δ];have:=No (fin:=fin) hn h b r (pre++[z]) (by simp;omega) (by rw[e];simp);rw[show(pre++[z]).length=pre.length+1 by simp] at this;exact this
  ·rw[heq,hn] at a;cases a;rw[gG,heq,b];rfl
theorem acb {step:Int->α->σ->Option (σ⊕X)} {fin:Int->σ->Option X} {l:List α} {st:Nat->σ} {x:X} {n:Nat} {z0:α} (hn:l[n]? =some z0) (h: ∀(j:Nat) z,j<n->l[j]? =some z->step j z (st j)=some (.inl (st (j+1)))) (a:step n z0 (st n)=some (.inr x)):bS step fin 0 l (st 0)=some x:=No hn h a l [] (ξC _) rfl
theorem Pq {step:σ->Option (σ⊕X)} {st:Nat->σ} {n:Nat} {x:X} (h: ∀j,j<n->step (st j)=some (.inl (st (j+1)))) (b:step (st n)=some (.inr x)): ∀(m f:Nat),m<=n->n-m<f->b4 step f (st m)=some x
 |m,0,_,c=>by omega
 |m,f+1,hm,c=>by
  show((step (st m)).bind _)=_;rcases ξz hm with a|heq
  ·rw[h m a];exact Pq h b (m+1) f a (by omega)
  ·rw[heq,b];rfl
theorem wK {step:σ->Option (σ⊕X)} {st:Nat->σ} {n f:Nat} {x:X} (h: ∀j,j<n->step (st j)=some (.inl (st (j+1)))) (b:step (st n)=some (.inr x)) (a:n<f):b4 step f (st 0)=some x:=Pq h b 0 f (ξC _) a
end
theorem aee:AY nz:=⟨rfl,λz a=>by revert z;decide,λz a=>(by cases a),λz a=>(by cases a)⟩
theorem YS:c5 nz:=(Ig aee).1 (by decide)
theorem YR {s:bb} (h:c5 s) {c:cN} (b:hd c):c5 (hq s c).1:=by
 rcases U0 h c with⟨_,e⟩|⟨_,f,d⟩
 ·rw[e];exact h
 ·exact ac9 h b.a d f
theorem w38 (a b:ag):tu ab a b=some (a.bK !=0&&decide (a.bK<b.bP)):=by
 show(Az ab a b).val=_;unfold Az;simp only[T.aE,T.aC];cases a.bK !=0<;>rfl
theorem w52 (r:cX):Cb ab r=some (fC r ⟨363,0⟩||fC r ⟨364,0⟩):=by
 show(AK ab r).val=_;unfold AK;simp only[T.aE,T.aC];cases fC r ⟨363,0⟩<;>rfl
theorem cp {x:Int} (a:0<=x) (h:x<=1000000):γ.wrap x=x:=by
 simp only[ηi,ηj,η5];simp;omega
theorem tF {α:Type} {L R:List α} {x:α} {n:Nat} (h:n=L.length):(L++x::R)[n]? =some x:=by subst h;simp
theorem n' {α:Type} {L R:List α} {x y:α} {n:Nat} (h:n=L.length):(L++x::R).set n y=L++y::R:=by subst h;simp
theorem Fk {L M R:Γa} {u v:Int} {i j:Nat} (hi:i=L.length) (b:j=L.length+M.length+1):
  (L++u::(M++v::R))[i]? =some u/\(L++u::(M++v::R))[j]? =some v/\((L++u::(M++v::R)).set i v)[j]? =some v/\((L++u::(M++v::R)).set i v).set j u=L++v::(M++u::R):=by
 have e: ∀w:Int,∀x:Int,L++w::(M++x::R)=(L++w::M)++x::R:=λw x=>by simp
 have a: ∀w:Int,j=(L++w::M).length:=λw=>by simp;omega
 refine⟨tF hi,?_,?_,?_⟩
 ·rw[e u v];exact tF (a u)
 ·rw[n' hi,e v v];exact tF (a v)
 ·rw[n' hi,e v v,n' (a v),<-e v u]
theorem Fj {P U M V S:Γa} {q:List ag} (x:U.length=V.length) (hl:(P++U++M++V++S).length<=1000) {a b n:Int} (t:a=P.length) (w:b=((P.length+U.length+M.length:Nat):Int)) (hn:n=U.length):
  oC ab a b n (P++U++M++V++S) q 0=some (false,n,P++V++M++U++S):=by
 subst t w hn;simp only[ζ] at hl;show b4 (λa=>(oN ab _ _ _ q a).val) 1000000 (0,P++U++M++V++S)=_;have m:((0:Int),P++U++M++V++S)=(λi:Nat=>((i:Int),P++(V.take i++U.drop i)++M++(U.take i++V.drop i)++S)) 0:=by simp
 rw[m];refine wK (st:=λi:Nat=>((i:Int),P++(V.take i++U.drop i)++M++(U.take i++V.drop i)++S)) (n:=U.length) (λi hi=>?_) ?_ (by omega)
 ·have g:i<V.length:=by omega
  have o:U.drop i=U[i]::U.drop (i+1):=ξ3 hi;have r:V.drop i=V[i]::V.drop (i+1):=ξ3 g;have p:U.take (i+1)=U.take i++[U[i]]:=by rw[ξl,ε hi];rfl
  have s:V.take (i+1)=V.take i++[V[i]]:=by rw[ξl,ε g];rfl
  obtain⟨c,d,e,h⟩:=Fk (L:=P++V.take i) (M:=U.drop (i+1)++M++U.take i) (R:=V.drop (i+1)++S) (u:=U[i]) (v:=V[i]) (i:=P.length+i) (j:=P.length+U.length+M.length+i) (by simp;omega) (by simp;omega);have k:P++(V.take i++U.drop i)++M++(U.take i++V.drop i)++S=(P++V.take i)++U[i]::(U.drop (i+1)++M++U.take i++V[i]::(V.drop (i+1)++S)):=by rw[o,r];simp only[ν,ξk,ξi]
  have l:P++(V.take (i+1)++U.drop (i+1))++M++(U.take (i+1)++V.drop (i+1))++S=(P++V.take i)++V[i]::(U.drop (i+1)++M++U.take i++U[i]::(V.drop (i+1)++S)):=by rw[p,s];simp only[ν,ξk,ξi]
  simp only[k,l];generalize (P++V.take i)++U[i]::(U.drop (i+1)++M++U.take i++V[i]::(V.drop (i+1)++S))=Y at c d e h;have w1:γ.wrap ((P.length:Int)+(i:Int))=((P.length+i:Nat):Int):=cp (by omega) (by omega);have w2:γ.wrap (((P.length+U.length+M.length:Nat):Int)+(i:Int))=((P.length+U.length+M.length+i:Nat):Int):=cp (by omega) (by omega);have f:decide ((i:Int)<(U.length:Int))=true:=decide_eq_true (by omega);unfold oN;simp only[T.aE,T.aN,T.aC,w1,w2,f,cond_true,θ,dq c,dq d,c,d,dq e,e,h,δ];rw[cp (by omega) (by omega)];rfl
 ·unfold oN;have f:decide ((U.length:Int)<(U.length:Int))=false:=decide_eq_false (by omega);have t1:V.take U.length=V:=ζm (by omega);have t4:V.drop U.length=[]:=ξx (by omega);simp only[T.aE,T.aC,f,cond_false,t1,t4,ζQ,ζR,ξ6]
theorem ES {q:List ag}: ∀(k:Nat) {P X Y S:Γa} {f:Nat},X.length+Y.length<=k->0<X.length->0<Y.length->k<=f->(P++X++Y++S).length<=1000-> ∀ {m i j:Int},m=((P.length+X.length:Nat):Int)->i=X.length->j=Y.length->
  ∃v1:Int,∃l h o S',b4 (λa=>(hb ab m q a).val) f (i,P++X++Y++S,j)=some (false,v1,v1,l++h++o++S')/\P++Y++X++S=l++o++h++S'/\v1=h.length/\h.length=o.length/\m=((l.length+h.length:Nat):Int)
 |0,P,X,Y,S,f,hk,y,_,_,_,m,i,j,_,_,_=>absurd hk (by omega)
 |k+1,P,X,Y,S,0,_,_,_,z,_,m,i,j,_,_,_=>absurd z (by omega)
 |k+1,P,X,Y,S,f+1,hk,y,A,z,hl,m,i,j,hm,hi,B=>by
  subst hm hi B;simp only[ζ] at hl
  by_cases h1:X.length=Y.length
  ·refine⟨X.length,P,X,Y,S,?_,rfl,rfl,h1,rfl⟩;have r:((X.length:Int) !=(Y.length:Int))=false:=by simp[h1]
   have p:(hb ab ((P.length+X.length:Nat):Int) q ((X.length:Int),P++X++Y++S,(Y.length:Int))).val=some (.inr (false,(X.length:Int),(X.length:Int),P++X++Y++S)):=by
    unfold hb;simp only[T.aE,T.aC,r,cond_false];rw[h1]
   show((hb ab _ q _).val.bind _)=_;rw[p];rfl
  ·have r:((X.length:Int) !=(Y.length:Int))=true:=by simp;omega
   by_cases x:Y.length<X.length
   ·have s:decide ((X.length:Int)>(Y.length:Int))=true:=decide_eq_true (by omega);obtain⟨e,c,rfl,C⟩: ∃e c,X=e++c/\e.length=Y.length:=⟨X.take Y.length,X.drop Y.length,(ξ0 _ _).symm,by simp;omega⟩;simp only[ζ] at hk hl x y;have w1:γ.wrap (((P.length+(e++c).length:Nat):Int)-((e++c).length:Int))=(P.length:Int):=by rw[cp]<;>simp<;>omega
    have w2:γ.wrap (((e++c).length:Int)-(Y.length:Int))=(c.length:Int):=by rw[cp]<;>simp<;>omega
    have p:=Fj (P:=P) (U:=e) (M:=c) (V:=Y) (S:=S) (q:=q) C (by simp;omega) (a:=P.length) (b:=((P.length+(e++c).length:Nat):Int)) (n:=Y.length) rfl (by simp;omega) (by omega);obtain⟨v1,l,h,o,S',u,v,w⟩:=ES (q:=q) k (P:=P++Y) (X:=c) (Y:=e) (S:=S) (f:=f) (by omega) (by omega) (by omega) (by omega) (by simp;omega) (m:=((P.length+(e++c).length:Nat):Int)) (i:=c.length) (j:=Y.length) (by simp;omega) rfl (by omega);refine⟨v1,l,h,o,S',?_,by rw[<-v];simp,w⟩;have t:(hb ab ((P.length+(e++c).length:Nat):Int) q (((e++c).length:Int),P++(e++c)++Y++S,(Y.length:Int))).val=some (.inl ((c.length:Int),P++Y++c++e++S,(Y.length:Int))):=by
     unfold hb;simp only[T.aE,T.aN,T.bM,T.aC,r,s,cond_true,w1,w2];rw[show P++(e++c)++Y++S=P++e++c++Y++S by simp,p];rfl
    show((hb ab _ q _).val.bind _)=_;rw[t];exact u
   ·have s:decide ((X.length:Int)>(Y.length:Int))=false:=decide_eq_false (by omega);obtain⟨d,g,rfl,D⟩: ∃d g,Y=d++g/\g.length=X.length:=⟨Y.take (Y.length-X.length),Y.drop (Y.length-X.length),(ξ0 _ _).symm,by simp;omega⟩;simp only[ζ] at hk hl x A h1;have w1:γ.wrap (((P.length+X.length:Nat):Int)-(X.length:Int))=(P.length:Int):=by rw[cp]<;>simp<;>omega
    have w2:γ.wrap (((P.length+X.length:Nat):Int)+((d++g).length:Int))=((P.length+X.length+(d++g).length:Nat):Int):=by rw[cp]<;>simp<;>omega
    have E:γ.wrap (((P.length+X.length+(d++g).length:Nat):Int)-(X.length:Int))=((P.length+X.length+d.length:Nat):Int):=by rw[cp]<;>simp<;>omega
    have w4:γ.wrap (((d++g).length:Int)-(X.length:Int))=(d.length:Int):=by rw[cp]<;>simp<;>omega
    have p:=Fj (P:=P) (U:=X) (M:=d) (V:=g) (S:=S) (q:=q) D.symm (by simp;omega) (a:=P.length) (b:=((P.length+X.length+d.length:Nat):Int)) (n:=X.length) rfl rfl rfl;obtain⟨v1,l,h,o,S',u,v,w⟩:=ES (q:=q) k (P:=P) (X:=g) (Y:=d) (S:=X++S) (f:=f) (by omega) (by omega) (by omega) (by omega) (by simp;omega) (m:=((P.length+X.length:Nat):Int)) (i:=X.length) (j:=d.length) (by simp;omega) (by omega) rfl;refine⟨v1,l,h,o,S',?_,by rw[<-v];simp,w⟩;have t:(hb ab ((P.length+X.length:Nat):Int) q ((X.length:Int),P++X++(d++g)++S,((d++g).length:Int))).val=some (.inl ((X.length:Int),P++g++d++(X++S),(d.length:Int))):=by
     unfold hb;simp only[T.aE,T.aN,T.bM,T.aC,r,s,cond_true,cond_false,w1,w2,E,w4];rw[show P++X++(d++g)++S=P++X++d++g++S by simp,p,ν _ X S];rfl
    show((hb ab _ q _).val.bind _)=_;rw[t];exact u
theorem acF {P X Y S:Γa} {q:List ag} (j:0<X.length) (k:0<Y.length) (hl:(P++X++Y++S).length<=1000) {a m b:Int} (l:a=P.length) (hm:m=((P.length+X.length:Nat):Int)) (o:b=((P.length+X.length+Y.length:Nat):Int)):
  wa ab (P++X++Y++S) a m b q=some (P++Y++X++S):=by
 subst l o;have p:=hl;simp only[ζ] at hl;obtain⟨v1,c,d,e,S',r,h,s,t,u⟩:=ES (q:=q) (X.length+Y.length) (P:=P) (S:=S) (f:=1000000) (ξ4 _) j k (by omega) p hm rfl rfl;have hlen:=congrArg ηn h;simp only[ζ] at hlen;have w1:γ.wrap (m-(P.length:Int))=(X.length:Int):=by rw[cp]<;>omega
 have w2:γ.wrap (((P.length+X.length+Y.length:Nat):Int)-m)=(Y.length:Int):=by rw[cp]<;>omega
 have v:γ.wrap (m-v1)=(c.length:Int):=by rw[cp]<;>omega
 have g:=Fj (P:=c) (U:=d) (M:=[]) (V:=e) (S:=S') (q:=q) t (by simp;omega) (a:=c.length) (b:=m) (n:=v1) rfl (by rw[u];simp) s;show((sG ab (P++X++Y++S) _ m _ q).val).map (·.1)=_;have i:yU ab m (X.length:Int) (Y.length:Int) (P++X++Y++S) q=some (false,v1,v1,c++d++e++S'):=r;unfold sG;simp only[ξ6] at g;simp only[T.bM,T.aN,T.aC,w1,w2,i,δ,v,g,ξD];rw[h]
theorem u0 {i j:Nat} (hi:i<=1000) (d:j<=1000):γ.wrap ((ο.wrap (γ.wrap ((i:Int)+(j:Int)))).fdiv 2)=(((i+j)/2:Nat):Int):=by
 have a:γ.wrap ((i:Int)+(j:Int))=((i+j:Nat):Int):=cp (by omega) (by omega);have b:ο.wrap (((i+j:Nat):Int))=((i+j:Nat):Int):=by
  simp only[ηi,ηj,η5];simp;omega
 have c:(((i+j:Nat):Int)).fdiv 2=(((i+j)/2:Nat):Int):=by
  rw[ζ2 _ (by omega)];omega
 rw[a,b,c,cp (by omega) (by omega)]
theorem Bz (a b:Int):decide (fW a b<0)=decide (a<b):=by
 unfold fW
 by_cases h1:a<b
 ·simp[h1]
 ·by_cases c:b<a<;>simp[h1,c]
theorem pj {step:Int×Int->Option ((Int×Int)⊕(Bool×Int×Int))} {p:Nat->Bool} {lo hi:Nat} (d: ∀i j:Nat,lo<=i->i<j->j<=hi->step (i,j)=some (.inl (bif p ((i+j)/2) then((((i+j)/2+1:Nat):Int),(j:Int)) else((i:Int),(((i+j)/2:Nat):Int)))))
  (b: ∀i:Nat,lo<=i->i<=hi->step (i,i)=some (.inr (false,(i:Int),(i:Int)))):
  ∀(f i j:Nat),lo<=i->i<=j->j<=hi->j-i<f->(i=lo\/p (i-1)=true)->(j=hi\/p j=false)-> ∃s:Nat,i<=s/\s<=j/\b4 step f (i,j)=some (false,(s:Int),(s:Int))/\(s=lo\/p (s-1)=true)/\(s=hi\/p s=false)
 |0,i,j,_,_,_,o,_,_=>by omega
 |f+1,i,j,h1,n,a,o,h,k=>by
  rcases ξz n with q|heq
  ·have c:=d i j h1 q a;have r:i<=(i+j)/2:=by omega
   have t:(i+j)/2<j:=by omega
   cases hp:p ((i+j)/2)<;>rw[hp] at c
   ·obtain⟨s,l,m,e,g⟩:=pj d b f i ((i+j)/2) h1 r (by omega) (by omega) h (.inr hp);refine⟨s,l,by omega,?_,g⟩;show((step _).bind _)=_;rw[c];exact e
   ·obtain⟨s,l,m,e,g⟩:=pj d b f ((i+j)/2+1) j (by omega) (by omega) a (by omega) (.inr (by simpa using hp)) k;refine⟨s,by omega,m,?_,g⟩;show((step _).bind _)=_;rw[c];exact e
  ·subst heq;refine⟨i,ξ4 _,ξ4 _,?_,h,k⟩;show((step _).bind _)=_;rw[b i h1 a];rfl
section
variable {q:List ag}
abbrev kB (q:List ag) (x:Int):Int:=c0 ag.bP q x
abbrev cE (q:List ag):Int->Int->Prop:=dx ag.bP q
def dn (q:List ag) (l:Γa):Prop:= ∀x∈l,0<=x/\x<(q.length:Int)
theorem ju {x:Int} (h:0<=x/\x<(q.length:Int)): ∃d,idx q x=some d/\d.bP=kB q x:=by
 obtain⟨n,rfl⟩: ∃n:Nat,x=n:=⟨x.toNat,by omega⟩;have hn:n<q.length:=by omega
 refine⟨q[n],dq (ε hn),?_⟩;unfold kB c0;rw[θ,ε hn]
def kM (q:List ag) (U V:Γa):Prop:= ∀u∈U,∀v∈V,kB q u=kB q v->u<v
theorem kM.lt {U V:Γa} (h:kM q U V) {u v:Int} (hu:u∈U) (a:v∈V) (hk:kB q v<kB q u):cE q v u:=.inl hk
theorem kM.ge {U V:Γa} (h:kM q U V) {u v:Int} (hu:u∈U) (a:v∈V) (hk: ¬kB q v<kB q u):cE q u v:=by
 by_cases e:kB q u=kB q v
 ·exact .inr ⟨e,h u hu v a e⟩
 ·exact .inl (by unfold kB at*;omega)
theorem aaH {l:Γa} (h:l.Pairwise (cE q)) {k:Nat} (hk:k<l.length): ∀x∈l.take k,cE q x l[k]:=by
 intro x a;obtain⟨i,hi,rfl⟩:=ξm a;rw[ξM] at hi;rw[ζb];exact ω.1 h i k (by omega) hk (by omega)
theorem Ep {l:Γa} (h:l.Pairwise (cE q)) {k:Nat} (hk:k<l.length): ∀x∈l.drop (k+1),cE q l[k] x:=by
 intro x a;obtain⟨i,hi,rfl⟩:=ξm a;rw[ξw] at hi;rw[ζc];exact ω.1 h k (k+1+i) hk (by omega) (by omega)
theorem sM {l:Γa} (h:l.Pairwise (cE q)) {s:Nat} (d:s<=l.length) {v:Int} (h1:s=0\/ ∃h:s-1<l.length,cE q l[s-1] v): ∀x∈l.take s,cE q x v:=by
 intro x a;rcases h1 with rfl|⟨b,c⟩
 ·simp at a
 ·by_cases e:s=0
  ·subst e;simp at a
  ·rw[show s=(s-1)+1 by omega,ξl,ε b] at a;rcases χ.1 a with a|a
   ·exact(aaH h b x a).trans c
   ·simp at a;rw[a];exact c
theorem HR {l:Γa} (h:l.Pairwise (cE q)) {s:Nat} {v:Int} (h1:s=l.length\/ ∃h:s<l.length,cE q v l[s]): ∀x∈l.drop s,cE q v x:=by
 intro x a;rcases h1 with rfl|⟨b,c⟩
 ·simp at a
 ·rw[ξ3 b] at a;rcases ξa.1 a with a|a
  ·rw[a];exact c
  ·exact c.trans (Ep h b x a)
theorem ade {L M R:Γa} {u v:Int} {i j:Nat} (hi:i=L.length) (b:j=L.length+M.length+1):
  ((L++u::(M++v::R)).set j u)[i]? =some u/\((L++u::(M++v::R)).set j u).set i v=L++v::(M++u::R):=by
 have e: ∀w:Int,∀x:Int,L++w::(M++x::R)=(L++w::M)++x::R:=λw x=>by simp
 have a: ∀w:Int,j=(L++w::M).length:=λw=>by simp;omega
 refine⟨?_,?_⟩
 ·rw[e u v,n' (a u),<-e u u];exact tF hi
 ·rw[e u v,n' (a u),<-e u u,n' hi]
theorem adE {P V R:Γa} {u:Int} (hl:(P++u::V++R).length<=1000) {a s:Int} (o:a=P.length) (p:s=((P.length+V.length+1:Nat):Int)): ∃r t,zG ab s a (P++u::V++R) q=some (r,t,P++V++u::R):=by
 subst o p;simp only[ζ,ξf] at hl;refine⟨false,((P.length+V.length:Nat):Int),?_⟩;have w0:γ.wrap (((P.length+V.length+1:Nat):Int)-1)=((P.length+V.length:Nat):Int):=by rw[cp]<;>omega
 show b4 (λa=>(o1 ab _ q a).val) 1000000 ((P.length:Int),P++u::V++R)=_;have k:((P.length:Int),P++u::V++R)=(λi:Nat=>(((P.length+i:Nat):Int),P++V.take i++u::V.drop i++R)) 0:=by simp
 rw[k];refine wK (st:=λi:Nat=>(((P.length+i:Nat):Int),P++V.take i++u::V.drop i++R)) (n:=V.length) (λi hi=>?_) ?_ (by omega)
 ·have l:V.drop i=V[i]::V.drop (i+1):=ξ3 hi;have m:V.take (i+1)=V.take i++[V[i]]:=by rw[ξl,ε hi];rfl
  obtain⟨b,c,d,e⟩:=Fk (L:=P++V.take i) (M:=[]) (R:=V.drop (i+1)++R) (u:=u) (v:=V[i]) (i:=P.length+i) (j:=P.length+i+1) (by simp;omega) (by simp;omega);simp only[ξi] at b c d e;have g:P++V.take i++u::V.drop i++R=(P++V.take i)++u::V[i]::(V.drop (i+1)++R):=by rw[l];simp only[ν,ξk]
  have h:P++V.take (i+1)++u::V.drop (i+1)++R=(P++V.take i)++V[i]::u::(V.drop (i+1)++R):=by rw[m];simp only[ν,ξk,ξi]
  simp only[g,h];generalize (P++V.take i)++u::V[i]::(V.drop (i+1)++R)=Y at b c d e;have w1:γ.wrap (((P.length+i:Nat):Int)+1)=((P.length+i+1:Nat):Int):=by rw[cp]<;>omega
  have f:decide (((P.length+i:Nat):Int)<((P.length+V.length:Nat):Int))=true:=decide_eq_true (by omega);unfold o1;simp only[T.aE,T.aN,T.aC,w0,w1,f,cond_true,θ,dq b,dq c,b,c,dq d,d,e,δ];rfl
 ·unfold o1;have f:decide (((P.length+V.length:Nat):Int)<((P.length+V.length:Nat):Int))=false:=decide_eq_false (by omega);simp only[T.aE,T.aC,w0,f,cond_false,ζR,ζQ];simp
theorem UZ {P U R:Γa} {v:Int} (hl:(P++U++v::R).length<=1000) {s m:Int} (w:s=P.length) (hm:m=((P.length+U.length:Nat):Int)): ∃x y,zI ab s m (P++U++v::R) q=some (x,y,P++v::U++R):=by
 subst w hm;simp only[ζ,ξf] at hl;refine⟨false,(P.length:Int),?_⟩;show b4 (λa=>(o3 ab _ q a).val) 1000000 (((P.length+U.length:Nat):Int),P++U++v::R)=_;have o:(((P.length+U.length:Nat):Int),P++U++v::R)=(λi:Nat=>(((P.length+(U.length-i):Nat):Int),P++U.take (U.length-i)++v::U.drop (U.length-i)++R)) 0:=by simp
 rw[o];refine wK (st:=λi:Nat=>(((P.length+(U.length-i):Nat):Int),P++U.take (U.length-i)++v::U.drop (U.length-i)++R)) (n:=U.length) (λi hi=>?_) ?_ (by omega)
 ·obtain⟨k,hk⟩: ∃k,U.length-i=k+1:=⟨U.length-i-1,by omega⟩;have t:U.length-(i+1)=k:=by omega
  have g:k<U.length:=by omega
  have p:U.drop k=U[k]::U.drop (k+1):=ξ3 g;have r:U.take (k+1)=U.take k++[U[k]]:=by rw[ξl,ε g];rfl
  obtain⟨b,c,_,_⟩:=Fk (L:=P++U.take k) (M:=[]) (R:=U.drop (k+1)++R) (u:=U[k]) (v:=v) (i:=P.length+k) (j:=P.length+k+1) (by simp;omega) (by simp;omega);obtain⟨d,f⟩:=ade (L:=P++U.take k) (M:=[]) (R:=U.drop (k+1)++R) (u:=U[k]) (v:=v) (i:=P.length+k) (j:=P.length+k+1) (by simp;omega) (by simp;omega);simp only[ξi] at b c d f;have h:P++U.take (k+1)++v::U.drop (k+1)++R=(P++U.take k)++U[k]::v::(U.drop (k+1)++R):=by rw[r];simp only[ν,ξk,ξi]
  have l:P++U.take k++v::U.drop k++R=(P++U.take k)++v::U[k]::(U.drop (k+1)++R):=by rw[p];simp only[ν,ξk]
  simp only[hk,t,h,l];generalize (P++U.take k)++U[k]::v::(U.drop (k+1)++R)=Y at b c d f;have w1:γ.wrap (((P.length+(k+1):Nat):Int)-1)=((P.length+k:Nat):Int):=by rw[cp]<;>omega
  have e:decide (((P.length+(k+1):Nat):Int)>(P.length:Int))=true:=decide_eq_true (by omega);rw[<-ζJ] at w1 e;unfold o3;simp only[T.aE,T.aN,T.aC,<-ζJ,w1,e,cond_true,θ,dq b,dq c,b,c,dq d,d,f,δ]
 ·unfold o3;have e:decide ((P.length:Int)>(P.length:Int))=false:=decide_eq_false (by omega);simp only[T.aE,T.aC,ξO,ζv,e,cond_false,List.take_zero,List.drop_zero];simp
end
section
variable {q:List ag}
theorem Cn {P U V S:Γa} {c:Nat} (h:c<U.length):(P++U++V++S)[P.length+c]? =some U[c]:=by
 rw[ν,ν,φ (by omega),show P.length+c-P.length=c by omega,ζ8 h,ε h]
theorem Co {P U V S:Γa} {c:Nat} (h:c<V.length):(P++U++V++S)[P.length+U.length+c]? =some V[c]:=by
 rw[ν,φ (by simp only[ζ];omega),show P.length+U.length+c-(P++U).length=c by simp,ζ8 h,ε h]
theorem T9 {P V S:Γa} {u:Int} (hu:dn q [u]) (r:dn q V) (hl:(P++[u]++V++S).length<=1000) {a m b:Int} (t:a=P.length) (hm:m=((P.length+1:Nat):Int)) (w:b=((P.length+1+V.length:Nat):Int)):
  ∃s:Nat,s<=V.length/\zJ ab a m b (P++[u]++V++S) q=some (false,((P.length+1+s:Nat):Int),((P.length+1+s:Nat):Int))/\(s=0\/ ∃h:s-1<V.length,kB q V[s-1]<kB q u)/\(s=V.length\/ ∃h:s<V.length,¬kB q V[s]<kB q u):=by
 subst t hm w;simp only[ζ,ψ] at hl;obtain⟨E,y,A⟩:=ju (hu u (ξ.2 rfl));have g:=Cn (P:=P) (U:=[u]) (V:=V) (S:=S) (c:=0) (by simp);simp only[ζv,ζn] at g;obtain⟨s,H,I,D,d,f⟩:=pj (step:=λa=>(o5 ab (P.length:Int) (P++[u]++V++S) q a).val) (p:=λc=>match V[c-(P.length+1)]? with|some v=>decide (kB q v<kB q u)|none=>false) (lo:=P.length+1) (hi:=P.length+1+V.length) (λi j h1 o G=>by
  have l:(i+j)/2-(P.length+1)<V.length:=by omega
  have k:=Co (P:=P) (U:=[u]) (V:=V) (S:=S) l;have x:P.length+[u].length+((i+j)/2-(P.length+1))=(i+j)/2:=by simp;omega
  rw[x] at k;obtain⟨F,z,B⟩:=ju (r V[(i+j)/2-(P.length+1)] (ξ5 l));have n:decide ((i:Int)<(j:Int))=true:=decide_eq_true (by omega);have w4:γ.wrap ((((i+j)/2:Nat):Int)+1)=(((i+j)/2+1:Nat):Int):=by rw[cp]<;>omega
  simp only[ε l];unfold o5;simp only[T.aE,T.aN,T.aC,n,cond_true,u0 (show i<=1000 by omega) (show j<=1000 by omega),dq k,θ,k,dq g,g,z,y,v130,Bz,B,A,δ,w4];cases decide (kB q V[(i+j)/2-(P.length+1)]<kB q u)<;>rfl) (λi h1 o=>by
  have n:decide ((i:Int)<(i:Int))=false:=decide_eq_false (by omega);unfold o5;simp only[T.aE,T.aC,n,cond_false]) 1000000 (P.length+1) (P.length+1+V.length) (ξ4 _) (by omega) (ξ4 _) (by omega) (.inl rfl) (.inl rfl)
 refine⟨s-(P.length+1),by omega,?_,?_,?_⟩
 ·rw[show P.length+1+(s-(P.length+1))=s by omega];exact D
 ·rcases d with d|d
  ·exact .inl (by omega)
  ·have e:s-1-(P.length+1)=s-(P.length+1)-1:=by omega
   rw[e] at d;split at d
   ·rename_i v C;obtain⟨h,rfl⟩:=η.1 C;exact .inr ⟨h,of_decide_eq_true d⟩
   ·cases d
 ·rcases f with f|f
  ·exact .inl (by omega)
  ·by_cases h:s-(P.length+1)<V.length
   ·rw[ε h] at f;exact .inr ⟨h,of_decide_eq_false f⟩
   ·exact .inl (by omega)
theorem T8 {P U S:Γa} {v:Int} (A:dn q [v]) (o:dn q U) (hl:(P++U++[v]++S).length<=1000) {a m:Int} (r:a=P.length) (hm:m=((P.length+U.length:Nat):Int)):
  ∃s:Nat,s<=U.length/\zH ab m a (P++U++[v]++S) q m=some (false,((P.length+s:Nat):Int),((P.length+s:Nat):Int))/\(s=0\/ ∃h:s-1<U.length,¬kB q v<kB q U[s-1])/\(s=U.length\/ ∃h:s<U.length,kB q v<kB q U[s]):=by
 subst r hm;simp only[ζ,ψ] at hl;obtain⟨D,x,z⟩:=ju (A v (ξ.2 rfl));have g:=Co (P:=P) (U:=U) (V:=[v]) (S:=S) (c:=0) (by simp);simp only[ζv,ζn] at g;obtain⟨s,F,G,B,b,d⟩:=pj (step:=λa=>(o2 ab ((P.length+U.length:Nat):Int) (P++U++[v]++S) q a).val) (p:=λc=>match U[c-P.length]? with|some u=>!decide (kB q v<kB q u)|none=>false) (lo:=P.length) (hi:=P.length+U.length) (λi j h1 n E=>by
  have k:(i+j)/2-P.length<U.length:=by omega
  have f:=Cn (P:=P) (U:=U) (V:=[v]) (S:=S) k;have t:P.length+((i+j)/2-P.length)=(i+j)/2:=by omega
  rw[t] at f;obtain⟨C,w,y⟩:=ju (o U[(i+j)/2-P.length] (ξ5 k));have l:decide ((i:Int)<(j:Int))=true:=decide_eq_true (by omega);have w4:γ.wrap ((((i+j)/2:Nat):Int)+1)=(((i+j)/2+1:Nat):Int):=by rw[cp]<;>omega
  simp only[ε k];unfold o2;simp only[T.aE,T.aN,T.aC,l,cond_true,u0 (show i<=1000 by omega) (show j<=1000 by omega),dq f,θ,f,dq g,g,x,w,v130,Bz,z,y,δ,w4];cases decide (kB q v<kB q U[(i+j)/2-P.length])<;>rfl) (λi h1 n=>by
  have l:decide ((i:Int)<(i:Int))=false:=decide_eq_false (by omega);unfold o2;simp only[T.aE,T.aC,l,cond_false]) 1000000 P.length (P.length+U.length) (ξ4 _) (by omega) (ξ4 _) (by omega) (.inl rfl) (.inl rfl)
 refine⟨s-P.length,by omega,?_,?_,?_⟩
 ·rw[show P.length+(s-P.length)=s by omega];exact B
 ·rcases b with b|b
  ·exact .inl (by omega)
  ·have e:s-1-P.length=s-P.length-1:=by omega
   rw[e] at b;split at b
   ·rename_i u hu;obtain⟨h,rfl⟩:=η.1 hu;refine .inr ⟨h,?_⟩;simpa using b
   ·cases b
 ·rcases d with d|d
  ·exact .inl (by omega)
  ·by_cases h:s-P.length<U.length
   ·rw[ε h] at d;refine .inr ⟨h,?_⟩;simpa using d
   ·exact .inl (by omega)
def kU (q:List ag) (F:Γa->Int->Int->Int->List ag->Option (Γa)) (P U V S:Γa):Prop:= ∃W,F (P++U++V++S) (P.length:Int) ((P.length+U.length:Nat):Int) ((P.length+U.length+V.length:Nat):Int) q=some (P++W++S)/\W.Perm (U++V)/\W.Pairwise (cE q)
structure jZ (q:List ag) (P U V S:Γa):Prop where
 u:U≠[]
 v:V≠[]
 iu:dn q U
 iv:dn q V
 su:U.Pairwise (cE q)
 sv:V.Pairwise (cE q)
 c:kM q U V
 l:(P++U++V++S).length<=1000
theorem Eo {A B:Γa} (h1:A.Pairwise (cE q)) (a:B.Pairwise (cE q)) (h: ∀x∈A,∀y∈B,cE q x y):(A++B).Pairwise (cE q):=τ.2 ⟨h1,a,h⟩
theorem adh {F:Γa->Int->Int->Int->List ag->Option (Γa)} {P V S:Γa} {u:Int} (h:jZ q P [u] V S):kU q (λxs a m b q=>(mT ab F xs a m b q).map (·.1)) P [u] V S:=by
 have hl:=h.l;simp only[ζ,ψ] at hl;obtain⟨s,j,k,n,o⟩:=T9 (P:=P) (S:=S) h.iu h.iv h.l (a:=P.length) (m:=((P.length+1:Nat):Int)) (b:=((P.length+1+V.length:Nat):Int)) rfl rfl rfl;have hu:u∈[u]:=ξ.2 rfl;have f: ∀x∈V.take s,cE q x u:=sM h.sv j (n.imp id λ⟨h1,d⟩=>⟨h1,h.c.lt hu (ξ5 h1) d⟩);have g: ∀x∈V.drop s,cE q u x:=HR h.sv (o.imp id λ⟨h1,d⟩=>⟨h1,h.c.ge hu (ξ5 h1) d⟩);obtain⟨p,r,hm⟩:=adE (q:=q) (P:=P) (V:=V.take s) (R:=V.drop s++S) (u:=u) (by simp;omega) (a:=P.length) (s:=((P.length+1+s:Nat):Int)) rfl (by simp;omega);refine⟨V.take s++u::V.drop s,?_,?_,?_⟩
 ·show((i' ab F _ _ _ _ q).val).map (·.1)=_;have w1:(γ.wrap (((P.length+[u].length:Nat):Int)-(P.length:Int))==1)=true:=by rw[cp]<;>simp<;>omega
  unfold i';rw[show P++u::V.take s++(V.drop s++S)=P++[u]++V++S by simp only[ν,ξk,ξi];rw[<-ν (V.take s),ξ0]] at hm;simp only[ψ] at w1 ⊢;simp only[T.aE,T.bM,T.aN,T.aC,w1,cond_true,k,hm,δ,ξD];simp
 ·refine(ζS).trans ?_;rw[ξ0];exact ζ9 _
 ·refine Eo (h.sv.sublist (ζe _ _)) (υ.2 ⟨g,h.sv.sublist (ζf _ _)⟩) λx i y e=>?_;rcases ξa.1 e with rfl|e
  ·exact f x i
  ·exact(f x i).trans (g y e)
theorem adg {F:Γa->Int->Int->Int->List ag->Option (Γa)} {P U S:Γa} {v:Int} (h:jZ q P U [v] S) (o:U.length≠1):kU q (λxs a m b q=>(mT ab F xs a m b q).map (·.1)) P U [v] S:=by
 have hl:=h.l;simp only[ζ,ψ] at hl;obtain⟨s,p,r,t,u⟩:=T8 (P:=P) (S:=S) h.iv h.iu h.l (a:=P.length) (m:=((P.length+U.length:Nat):Int)) rfl rfl;have j:v∈[v]:=ξ.2 rfl;have g: ∀x∈U.take s,cE q x v:=sM h.su p (t.imp id λ⟨h1,d⟩=>⟨h1,h.c.ge (ξ5 h1) j d⟩);have i: ∀x∈U.drop s,cE q v x:=HR h.su (u.imp id λ⟨h1,d⟩=>⟨h1,h.c.lt (ξ5 h1) j d⟩);obtain⟨w,z,hm⟩:=UZ (q:=q) (P:=P++U.take s) (U:=U.drop s) (R:=S) (v:=v) (by simp;omega) (s:=((P.length+s:Nat):Int)) (m:=((P.length+U.length:Nat):Int)) (by simp;omega) (by simp;omega);refine⟨U.take s++v::U.drop s,?_,?_,?_⟩
 ·show((i' ab F _ _ _ _ q).val).map (·.1)=_;have w1:(γ.wrap (((P.length+U.length:Nat):Int)-(P.length:Int))==1)=false:=by
   have e:γ.wrap (((P.length+U.length:Nat):Int)-(P.length:Int))=(U.length:Int):=by rw[cp]<;>omega
   rw[e];exact beq_eq_false_iff_ne.2 λn=>o (ζK n)
  have w2:(γ.wrap (((P.length+U.length+[v].length:Nat):Int)-((P.length+U.length:Nat):Int))==1)=true:=by rw[cp]<;>simp<;>omega
  unfold i';rw[show P++U.take s++U.drop s++v::S=P++U++[v]++S by rw[ν P,ξ0];simp] at hm;simp only[T.aE,T.bM,T.aN,T.aC,w1,w2,cond_true,cond_false,r,hm,δ,ξD];simp
 ·refine(ζS).trans ?_;rw[ξ0];exact(ζw (l₁:=[v]) (l₂:=U))
 ·refine Eo (h.su.sublist (ζe _ _)) (υ.2 ⟨i,h.su.sublist (ζf _ _)⟩) λx k y f=>?_;rcases ξa.1 f with rfl|f
  ·exact g x k
  ·exact(g x k).trans (i y f)
end
section
variable {q:List ag}
theorem H9 {P U V S:Γa} {mid lo hi:Nat} (w:dn q U) (x:dn q V) (hl:(P++U++V++S).length<=1000) (h1:P.length<=lo) (t:lo<=hi) (I:hi<=P.length+U.length) (J:hi<=mid) (K:mid-lo<=V.length) {x1 x2 x3 x4 x5:Int}:
  ∃s:Nat,lo<=s/\s<=hi/\jU ab x1 x2 x3 x4 x5 (lo:Int) ((mid+(P.length+U.length)-1:Nat):Int) (P++U++V++S) q (hi:Int)=some (false,(s:Int),(s:Int))/\
   (s=lo\/ ∃u v,0<s-P.length/\U[s-P.length-1]? =some u/\V[mid-s]? =some v/\ ¬kB q v<kB q u)/\(s=hi\/ ∃u v,0<mid-s/\U[s-P.length]? =some u/\V[mid-s-1]? =some v/\kB q v<kB q u):=by
 simp only[ζ] at hl;have key: ∀c,lo<=c->c<hi-> ∃(b:c-P.length<U.length) (d:mid-c-1<V.length),(P++U++V++S)[c]? =some U[c-P.length]/\(P++U++V++S)[mid+(P.length+U.length)-1-c]? =some V[mid-c-1]:=λc k l=>by
  have b:c-P.length<U.length:=by omega
  have d:mid-c-1<V.length:=by omega
  have f:=Cn (P:=P) (V:=V) (S:=S) b;have g:=Co (P:=P) (U:=U) (S:=S) d;rw[show P.length+(c-P.length)=c by omega] at f;rw[show P.length+U.length+(mid-c-1)=mid+(P.length+U.length)-1-c by omega] at g;exact⟨b,d,f,g⟩
 obtain⟨s,k,l,D,e,h⟩:=pj (step:=λa=>(o4 ab x1 x2 x3 x4 x5 ((mid+(P.length+U.length)-1:Nat):Int) (P++U++V++S) q a).val) (p:=λc=>match U[c-P.length]?,V[mid-c-1]? with|some u,some v=>!decide (kB q v<kB q u)|_,_=>false) (lo:=lo) (hi:=hi) (λi j o r H=>by
  obtain⟨b,d,f,g⟩:=key ((i+j)/2) (by omega) (by omega);obtain⟨F,y,A⟩:=ju (w U[(i+j)/2-P.length] (ξ5 b));obtain⟨G,z,B⟩:=ju (x V[mid-(i+j)/2-1] (ξ5 d));have m:decide ((i:Int)<(j:Int))=true:=decide_eq_true (by omega);have w4:γ.wrap ((((i+j)/2:Nat):Int)+1)=(((i+j)/2+1:Nat):Int):=by rw[cp]<;>omega
  have E:γ.wrap (((mid+(P.length+U.length)-1:Nat):Int)-(((i+j)/2:Nat):Int))=((mid+(P.length+U.length)-1-(i+j)/2:Nat):Int):=by rw[cp]<;>omega
  simp only[ε b,ε d];unfold o4;simp only[T.aE,T.aN,T.aC,m,cond_true,u0 (show i<=1000 by omega) (show j<=1000 by omega),E,dq f,dq g,θ,f,g,z,y,v130,Bz,B,A,δ,w4];cases decide (kB q V[mid-(i+j)/2-1]<kB q U[(i+j)/2-P.length])<;>rfl) (λi o r=>by
  have m:decide ((i:Int)<(i:Int))=false:=decide_eq_false (by omega);unfold o4;simp only[T.aE,T.aC,m,cond_false]) 1000000 lo hi (ξ4 _) t (ξ4 _) (by omega) (.inl rfl) (.inl rfl)
 refine⟨s,k,l,D,?_,?_⟩
 ·rcases ξz k with n|heq
  ·right;rcases e with e|e
   ·omega
   ·split at e
    ·rename_i u v hu C;refine⟨u,v,by omega,?_,?_,by simpa using e⟩
     ·rw[<-hu]
      congr 1
      omega
     ·rw[<-C]
      congr 1
      omega
    ·cases e
  ·exact .inl heq.symm
 ·rcases ξz l with n|heq
  ·right;rcases h with h|h
   ·omega
   ·obtain⟨b,d,_,_⟩:=key s k n;simp only[ε b,ε d] at h;exact⟨_,_,by omega,ε b,ε d,by simpa using h⟩
  ·exact .inl heq
theorem adt (c1 c2 d e b c:Bool) {R:Option (Γa)} {F1 F2:Γa->Option (Γa)} {X f g Y3:Γa} (h1:(bif c1&&c2 then R else some X)=some f) (h:(bif d&&e then F1 f else some f)=some g) (i:(bif b&&c then F2 g else some g)=some Y3):
  ((T.bf c1 (T.bf c2 (T.bd R λa=>T.bf d (T.bf e (T.bd (F1 a) λz2=>T.bf b (T.bf c (T.bd (F2 z2) λz3=>.ok (z3,true)) (.ok (z2,true))) (.ok (z2,true))) (T.bf b (T.bf c (T.bd (F2 a) λz2=>.ok (z2,true)) (.ok (a,true))) (.ok (a,true)))) (T.bf b (T.bf c (T.bd (F2 a) λz2=>.ok (z2,true)) (.ok (a,true))) (.ok (a,true))))
    (T.bf d (T.bf e (T.bd (F1 X) λa=>T.bf b (T.bf c (T.bd (F2 a) λz2=>.ok (z2,true)) (.ok (a,true))) (.ok (a,true))) (T.bf b (T.bf c (T.bd (F2 X) λa=>.ok (a,true)) (.ok (X,false))) (.ok (X,false)))) (T.bf b (T.bf c (T.bd (F2 X) λa=>.ok (a,true)) (.ok (X,false))) (.ok (X,false)))))
    (T.bf d (T.bf e (T.bd (F1 X) λa=>T.bf b (T.bf c (T.bd (F2 a) λz2=>.ok (z2,true)) (.ok (a,true))) (.ok (a,true))) (T.bf b (T.bf c (T.bd (F2 X) λa=>.ok (a,true)) (.ok (X,false))) (.ok (X,false)))) (T.bf b (T.bf c (T.bd (F2 X) λa=>.ok (a,true)) (.ok (X,false))) (.ok (X,false))))).val).map (·.1)=some Y3:=by
 simp only[T.aE,T.aN,T.aC];cases c1<;>cases c2<;>cases d<;>cases e<;>cases b<;>cases c<;>simp_all
end
section
variable {q:List ag}
theorem LK {F:Γa->Int->Int->Int->List ag->Option (Γa)} {P U V S:Γa} {n:Nat} (b: ∀ {P U V S:Γa},jZ q P U V S->U.length+V.length<=n->kU q F P U V S) {c:Bool} (h1:c=true->jZ q P U V S/\U.length+V.length<=n) (a:c=false->U=[]\/V=[]) (su:U.Pairwise (cE q)) (sv:V.Pairwise (cE q)):
  ∃W,(bif c then F (P++U++V++S) (P.length:Int) ((P.length+U.length:Nat):Int) ((P.length+U.length+V.length:Nat):Int) q else some (P++U++V++S))=some (P++W++S)/\W.Perm (U++V)/\W.Pairwise (cE q):=by
 cases c
 ·refine⟨U++V,by simp,ζ9 _,?_⟩;rcases a rfl with rfl|rfl
  ·exact sv
  ·simpa using su
 ·obtain⟨h,hn⟩:=h1 rfl;exact b h hn
theorem uI {l l':Γa} (h:dn q l) (hp:l'.Perm l):dn q l':=λx a=>h x (hp.mem_iff.1 a)
theorem uZ {l:Γa} {k:Nat} {x:Int} (h:x∈l.take k):x∈l:=ξJ h
theorem uY {l:Γa} {k:Nat} {x:Int} (h:x∈l.drop k):x∈l:=List.mem_of_mem_drop h
set_option maxHeartbeats 2000000 in
theorem adf {F:Γa->Int->Int->Int->List ag->Option (Γa)} {P U V S:Γa} {n:Nat} (h:jZ q P U V S) (aP:U.length≠1) (aQ:V.length≠1) (hn:U.length+V.length<=n+1) (an: ∀ {P U V S:Γa},jZ q P U V S->U.length+V.length<=n->kU q F P U V S):
  kU q (λxs a m b q=>(mT ab F xs a m b q).map (·.1)) P U V S:=by
 have hl:=h.l;simp only[ζ] at hl;have aZ:0<U.length:=ξg.2 h.u;have a1:0<V.length:=ξg.2 h.v;obtain⟨M,aO⟩: ∃M,M=(P.length+(P.length+U.length+V.length))/2:=⟨_,rfl⟩;obtain⟨s,s1,s2,ba,bb,D,aL,aM⟩: ∃s:Nat,P.length<=s/\s<=P.length+U.length/\s<=M/\M-s<=V.length/\
   (bif decide (P.length+U.length>M) then jU ab (P.length:Int) ((P.length+U.length:Nat):Int) ((P.length+U.length+V.length:Nat):Int) (M:Int) ((M+(P.length+U.length):Nat):Int) ((M+(P.length+U.length)-(P.length+U.length+V.length):Nat):Int) ((M+(P.length+U.length)-1:Nat):Int) (P++U++V++S) q (M:Int)
    else jU ab (P.length:Int) ((P.length+U.length:Nat):Int) ((P.length+U.length+V.length:Nat):Int) (M:Int) ((M+(P.length+U.length):Nat):Int) (P.length:Int) ((M+(P.length+U.length)-1:Nat):Int) (P++U++V++S) q ((P.length+U.length:Nat):Int))=some (false,(s:Int),(s:Int))/\
   (U.take (s-P.length)=[]\/V.drop (M-s)=[]\/ ∃u v,0<s-P.length/\U[s-P.length-1]? =some u/\V[M-s]? =some v/\ ¬kB q v<kB q u)/\
   (V.take (M-s)=[]\/U.drop (s-P.length)=[]\/ ∃u v,0<M-s/\U[s-P.length]? =some u/\V[M-s-1]? =some v/\kB q v<kB q u):=by
  by_cases r:P.length+U.length>M
  ·obtain⟨s,aS,aT,ae,t,w⟩:=H9 (P:=P) (S:=S) (mid:=M) (lo:=M+(P.length+U.length)-(P.length+U.length+V.length)) (hi:=M) h.iu h.iv h.l (by omega) (by omega) (by omega) (ξ4 _) (by omega) (x1:=(P.length:Int)) (x2:=((P.length+U.length:Nat):Int)) (x3:=((P.length+U.length+V.length:Nat):Int)) (x4:=(M:Int)) (x5:=((M+(P.length+U.length):Nat):Int));refine⟨s,by omega,by omega,by omega,by omega,?_,?_,?_⟩
   ·rw[decide_eq_true r];exact ae
   ·rcases t with t|t
    ·exact .inr (.inl (ξx (by omega)))
    ·exact .inr (.inr t)
   ·rcases w with w|w
    ·exact .inl (by rw[w,ξO];rfl)
    ·exact .inr (.inr w)
  ·obtain⟨s,aS,aT,ae,t,w⟩:=H9 (P:=P) (S:=S) (mid:=M) (lo:=P.length) (hi:=P.length+U.length) h.iu h.iv h.l (by omega) (by omega) (by omega) (by omega) (by omega) (x1:=(P.length:Int)) (x2:=((P.length+U.length:Nat):Int)) (x3:=((P.length+U.length+V.length:Nat):Int)) (x4:=(M:Int)) (x5:=((M+(P.length+U.length):Nat):Int));refine⟨s,by omega,by omega,by omega,by omega,?_,?_,?_⟩
   ·rw[decide_eq_false r];exact ae
   ·rcases t with t|t
    ·exact .inl (by rw[t,ξO];rfl)
    ·exact .inr (.inr t)
   ·rcases w with w|w
    ·exact .inr (.inl (ξx (by omega)))
    ·exact .inr (.inr w)
 obtain⟨o,H⟩: ∃o,o=U.take (s-P.length):=⟨_,rfl⟩;obtain⟨g,I⟩: ∃g,g=U.drop (s-P.length):=⟨_,rfl⟩;obtain⟨p,J⟩: ∃p,p=V.take (M-s):=⟨_,rfl⟩;obtain⟨k,K⟩: ∃k,k=V.drop (M-s):=⟨_,rfl⟩;have N:U=o++g:=by rw[H,I,ξ0]
 have O:V=p++k:=by rw[J,K,ξ0]
 have a6:o.length=s-P.length:=by rw[H,ξM];omega
 have a7:g.length=U.length-(s-P.length):=by rw[I,ξw]
 have a8:p.length=M-s:=by rw[J,ξM];omega
 have a_:k.length=V.length-(M-s):=by rw[K,ξw]
 have ao: ∀x∈o,x∈U:=λx d=>by rw[H] at d;exact uZ d
 have aq: ∀x∈g,x∈U:=λx d=>by rw[I] at d;exact uY d
 have ar: ∀x∈p,x∈V:=λx d=>by rw[J] at d;exact uZ d
 have au: ∀x∈k,x∈V:=λx d=>by rw[K] at d;exact uY d
 have av:=h.su;have ay:=h.sv;rw[N] at av;rw[O] at ay;obtain⟨aw,ax,aU⟩:=τ.1 av;obtain⟨az,aA,aV⟩:=τ.1 ay;have A: ∀x∈o,∀y∈k,cE q x y:=by
  intro x d y f;rcases aL with e|e|⟨u,v,aK,aa,ev,e⟩
  ·rw[H,e] at d;cases d
  ·rw[K,e] at f;cases f
  ·obtain⟨hu,rfl⟩:=η.1 aa;obtain⟨C,rfl⟩:=η.1 ev;have L:=h.c.ge (ξ5 hu) (ξ5 C) e;rw[K,ξ3 C] at f;have ad:cE q U[s-P.length-1] y:=by
    rcases ξa.1 f with rfl|f
    ·exact L
    ·exact L.trans (Ep h.sv C y f)
   rw[H] at d;exact sM h.su (by omega) (.inr ⟨hu,ad⟩) x d
 have B: ∀x∈p,∀y∈g,cE q x y:=by
  intro x d y f;rcases aM with e|e|⟨u,v,aK,aa,ev,e⟩
  ·rw[J,e] at d;cases d
  ·rw[I,e] at f;cases f
  ·obtain⟨hu,rfl⟩:=η.1 aa;obtain⟨C,rfl⟩:=η.1 ev;have L:=h.c.lt (ξ5 hu) (ξ5 C) e;rw[I,ξ3 hu] at f;have ad:cE q V[M-s-1] y:=by
    rcases ξa.1 f with rfl|f
    ·exact L
    ·exact L.trans (Ep h.su hu y f)
   rw[J] at d;exact sM h.sv (by omega) (.inr ⟨C,ad⟩) x d
 have aj: ∀ {A B:Γa},(∀x∈A,x∈U)->(∀x∈B,x∈V)->kM q A B:=λaR D u hu v C=>h.c u (aR u hu) v (D v C);obtain⟨e,he⟩: ∃e,e=M+(P.length+U.length)-s:=⟨_,rfl⟩;have E: ∀ {l:Γa},l.length=0->l=[]:=λh=>ξj h;have R: ∀ {l:Γa},0<l.length->l≠[]:=λh=>ξg.1 h;have h1:(bif decide ((s:Int)<((P.length+U.length:Nat):Int))&&decide (((P.length+U.length:Nat):Int)<(e:Int)) then wa ab (P++U++V++S) (s:Int) ((P.length+U.length:Nat):Int) (e:Int) q else some (P++U++V++S))=some (P++o++p++(g++k++S)):=by
  by_cases c:s<P.length+U.length/\P.length+U.length<e
  ·have c1:decide ((s:Int)<((P.length+U.length:Nat):Int))=true:=decide_eq_true (by omega);have c2:decide (((P.length+U.length:Nat):Int)<(e:Int))=true:=decide_eq_true (by omega);have:=acF (P:=P++o) (X:=g) (Y:=p) (S:=k++S) (q:=q) (by omega) (by omega) (by simp only[ζ];omega) (a:=(s:Int)) (m:=((P.length+U.length:Nat):Int)) (b:=(e:Int)) (by simp only[ζ];omega) (by simp only[ζ];omega) (by simp only[ζ];omega);rw[c1,c2];rw[show P++o++g++p++(k++S)=P++U++V++S by rw[N,O];simp only[ν]] at this;simpa using this
  ·have Q:g=[]\/p=[]:=by
    by_cases c1:s<P.length+U.length
    ·exact .inr (E (by omega))
    ·exact .inl (E (by omega))
   have aJ:(decide ((s:Int)<((P.length+U.length:Nat):Int))&&decide (((P.length+U.length:Nat):Int)<(e:Int)))=false:=by
    rw[<-ξX,ι,decide_eq_true_eq,decide_eq_true_eq];omega
   rw[aJ,N,O];rcases Q with Q|Q<;>simp[Q]
 obtain⟨G,ak,ah,aX⟩:=LK (P:=P) (U:=o) (V:=p) (S:=g++k++S) (c:=decide ((P.length:Int)<(s:Int))&&decide ((s:Int)<(M:Int))) an (λr=>by
  rw[ι,decide_eq_true_eq,decide_eq_true_eq] at r;exact⟨⟨R (by omega),R (by omega),λx d=>h.iu x (ao x d),λx d=>h.iv x (ar x d),aw,az,aj ao ar,by simp only[ζ];omega⟩,by omega⟩) (λr=>by
  rw[<-ξX,ι,decide_eq_true_eq,decide_eq_true_eq] at r
  by_cases c1:P.length<s
  ·exact .inr (E (by omega))
  ·exact .inl (E (by omega))) aw az
 have a':G.length=M-P.length:=by rw[ah.length_eq,ζ];omega
 obtain⟨ai,al,aI,aY⟩:=LK (P:=P++G) (U:=g) (V:=k) (S:=S) (c:=decide ((M:Int)<(e:Int))&&decide ((e:Int)<((P.length+U.length+V.length:Nat):Int))) an (λr=>by
  rw[ι,decide_eq_true_eq,decide_eq_true_eq] at r;exact⟨⟨R (by omega),R (by omega),λx d=>h.iu x (aq x d),λx d=>h.iv x (au x d),ax,aA,aj aq au,by simp only[ζ];omega⟩,by omega⟩) (λr=>by
  rw[<-ξX,ι,decide_eq_true_eq,decide_eq_true_eq] at r
  by_cases c1:M<e
  ·exact .inr (E (by omega))
  ·exact .inl (E (by omega))) ax aA
 rw[show P.length+o.length=s by omega,show s+p.length=M by omega] at ak;rw[show(P++G).length=M by simp only[ζ];omega,show M+g.length=e by omega,show e+k.length=P.length+U.length+V.length by omega] at al;refine⟨G++ai,?_,?_,?_⟩
 ·show((i' ab F _ _ _ _ q).val).map (·.1)=_;have aB:(γ.wrap (((P.length+U.length:Nat):Int)-(P.length:Int))==1)=false:=by
   have e:γ.wrap (((P.length+U.length:Nat):Int)-(P.length:Int))=(U.length:Int):=by rw[cp]<;>omega
   rw[e];exact beq_eq_false_iff_ne.2 λZ=>aP (ζK Z)
  have aC:(γ.wrap (((P.length+U.length+V.length:Nat):Int)-((P.length+U.length:Nat):Int))==1)=false:=by
   have e:γ.wrap (((P.length+U.length+V.length:Nat):Int)-((P.length+U.length:Nat):Int))=(V.length:Int):=by rw[cp]<;>omega
   rw[e];exact beq_eq_false_iff_ne.2 λZ=>aQ (ζK Z)
  have af:=u0 (i:=P.length) (j:=P.length+U.length+V.length) (by omega) (by omega);rw[<-aO] at af;have aD:γ.wrap ((M:Int)+((P.length+U.length:Nat):Int))=((M+(P.length+U.length):Nat):Int):=by rw[cp]<;>omega
  have aF:γ.wrap (((M+(P.length+U.length):Nat):Int)-1)=((M+(P.length+U.length)-1:Nat):Int):=by rw[cp]<;>omega
  have aG:γ.wrap (((M+(P.length+U.length):Nat):Int)-(s:Int))=(e:Int):=by rw[cp]<;>omega
  have aH:=adt _ _ _ _ _ _ (Y3:=P++(G++ai)++S) (F1:=λz=>F z (P.length:Int) (s:Int) (M:Int) q) (F2:=λz=>F z (M:Int) (e:Int) ((P.length+U.length+V.length:Nat):Int) q) h1 ak (by simpa only[ν] using al)
  by_cases r:P.length+U.length>M
  ·have W:decide (((P.length+U.length:Nat):Int)>(M:Int))=true:=decide_eq_true (by omega);have aW:γ.wrap (((M+(P.length+U.length):Nat):Int)-((P.length+U.length+V.length:Nat):Int))=((M+(P.length+U.length)-(P.length+U.length+V.length):Nat):Int):=by rw[cp]<;>omega
   rw[decide_eq_true r] at D;unfold i';rw[T.aE,aB,cond_false,T.aE,aC,cond_false,T.aE,af,W,cond_true,T.bM,T.aN,aD,aF,aW];rw[show jU ab _ _ _ _ _ _ _ _ _ _=_ from D];simp only[δ,aG];unfold wB;exact aH
  ·have W:decide (((P.length+U.length:Nat):Int)>(M:Int))=false:=decide_eq_false (by omega);rw[decide_eq_false r] at D;unfold i';rw[T.aE,aB,cond_false,T.aE,aC,cond_false,T.aE,af,W,cond_false,T.bM,T.aN,aD,aF];rw[show jU ab _ _ _ _ _ _ _ _ _ _=_ from D];simp only[δ,aG];unfold wB;exact aH
 ·refine(ah.append aI).trans ?_;rw[N,O];have:(o++p++(g++k)).Perm (o++(g++(p++k))):=by
   rw[ν];refine ξF o ?_;rw[<-ν,<-ν];exact ζo k ζw
  simpa only[ν] using this
 ·refine Eo aX aY λx d y f=>?_;have d:=ah.mem_iff.1 d;have f:=aI.mem_iff.1 f;rcases χ.1 d with d|d<;>rcases χ.1 f with f|f
  ·exact aU x d y f
  ·exact A x d y f
  ·exact B x d y f
  ·exact aV x d y f
theorem OJ: ∀(n:Nat) {P U V S:Γa},jZ q P U V S->U.length+V.length<=n->kU q (pO ab n) P U V S
 |0,P,U,V,S,h,hn=>absurd (ξj (by omega)) h.u
 |n+1,P,U,V,S,h,hn=>by
  show kU q (λxs a m b q=>(mT ab (pO ab n) xs a m b q).map (·.1)) P U V S
  by_cases c:U.length=1
  ·obtain⟨u,rfl⟩:=ζp.1 c;exact adh h
  ·by_cases d:V.length=1
   ·obtain⟨v,rfl⟩:=ζp.1 d;exact adg h c
   ·exact adf h c d hn λh hn=>OJ n h hn
end
section
variable {q:List ag}
def l6 (U V:Γa):Prop:= ∀u∈U,∀v∈V,u<v
theorem l6.UB {U V:Γa} (h:l6 U V):kM q U V:=λu hu v a _=>h u hu v a
def Bl (bs:Nat):List (Γa)->Prop
 |[]=>True
 |[B]=>0<B.length/\B.length<=bs
 |B::C::r=>B.length=bs/\Bl bs (C::r)
structure Good (q:List ag) (a:List (Γa)):Prop where
 s: ∀B∈a,B.Pairwise (cE q)
 i: ∀B∈a,dn q B
 b:a.Pairwise l6
theorem Bl.tail {bs:Nat} {B:Γa} {r:List (Γa)} (h:Bl bs (B::r)):Bl bs r:=by
 cases r with
 |nil=>trivial
 |cons C r=>exact h.2
theorem Bl.pos {bs:Nat} (c:0<bs): ∀ {b:List (Γa)},Bl bs b-> ∀B∈b,0<B.length
 |[B],h,X,a=>by rw[ξ.1 a];exact h.1
 |B::C::r,h,X,a=>by
  rcases ξa.1 a with rfl|a
  ·rw[h.1];exact c
  ·exact Bl.pos c h.2 X a
theorem Good.tail {B:Γa} {r:List (Γa)} (h:Good q (B::r)):Good q r:=
 ⟨λX a=>h.s X (ξ9 _ a),λX a=>h.i X (ξ9 _ a),(υ.1 h.b).2⟩
theorem adz {P B C S:Γa} {r:List (Γa)} (h:Good q (B::C::r)) (a:0<B.length) (c:0<C.length) (hl:(P++B++C++S).length<=1000):jZ q P B C S:=
 ⟨ξg.1 a,ξg.1 c,h.i B (by simp),h.i C (by simp),h.s B (by simp),h.s C (by simp),((υ.1 h.b).1 C (by simp)).UB,hl⟩
theorem LF {P B C S:Γa} {r:List (Γa)} (h:Good q (B::C::r)) (a:0<B.length) (b:0<C.length) (h1:B.length<=50) (c:C.length<=50) (hl:(P++B++C++S).length<=1000):
  ∃W,wb ab (P++B++C++S) (P.length:Int) ((P.length+B.length:Nat):Int) ((P.length+B.length+C.length:Nat):Int) q=some (P++W++S)/\W.Perm (B++C)/\W.Pairwise (cE q):=
 OJ 100 (adz h a b hl) (by omega)
theorem Good.merged {B C W:Γa} {r:List (Γa)} (h:Good q (B::C::r)) (hp:W.Perm (B++C)) (k:W.Pairwise (cE q)):Good q (W::r):=by
 obtain⟨e,f⟩:=υ.1 h.b;obtain⟨g,j⟩:=υ.1 f;refine⟨λX a=>?_,λX a=>?_,υ.2 ⟨λX a u hu v d=>?_,j⟩⟩
 ·rcases ξa.1 a with rfl|a
  ·exact k
  ·exact h.s X (by simp[a])
 ·rcases ξa.1 a with rfl|a
  ·intro x c;rcases χ.1 (hp.mem_iff.1 c) with c|c
   ·exact h.i B (by simp) x c
   ·exact h.i C (by simp) x c
  ·exact h.i X (by simp[a])
 ·rcases χ.1 (hp.mem_iff.1 hu) with hu|hu
  ·exact e X (by simp[a]) u hu v d
  ·exact g X a u hu v d
theorem inner {bs n:Nat} (F:0<bs) (G:bs<=50) (hn:n<=900): ∀(k:Nat) (c:List (Γa)) (P:Γa) (f:Nat),c.length<=k->k<f->Bl bs c->Good q c->n=P.length+c.flatten.length->
  ∃e j,b4 (λa=>(hc ab (n:Int) (bs:Int) q a).val) f ((P.length:Int),((P.length+2*bs:Nat):Int),P++c.flatten)=some (false,((P.length+e.flatten.length+2*bs:Nat):Int),((P.length+e.flatten.length:Nat):Int),P++e.flatten++j.flatten)/\
   (∀B∈e,B.length=2*bs)/\j.flatten.length<2*bs/\Bl bs j/\Good q (e++j)/\(e++j).flatten.Perm c.flatten
 |k,c,P,0,_,x,_,_,_=>by omega
 |0,c,P,f+1,hk,x,h1,l,p=>by
  have:c=[]:=ξj (by omega);subst this;refine⟨[],[],?_,by simp,by simp;omega,trivial,l,by simp⟩;have m:decide (((P.length+2*bs:Nat):Int)<=(n:Int))=false:=decide_eq_false (by simp at p;omega);have o:(hc ab (n:Int) (bs:Int) q ((P.length:Int),((P.length+2*bs:Nat):Int),P++ηk [])).val=some (.inr (false,((P.length+2*bs:Nat):Int),(P.length:Int),P++ηk [])):=by
   unfold hc;simp only[T.aE,T.aC,m,cond_false]
  show((hc ab _ _ q _).val.bind _)=_;rw[o];simp
 |k+1,c,P,f+1,hk,x,h1,l,p=>by
  by_cases g:2*bs<=c.flatten.length
  ·
   obtain⟨B,C,r,rfl⟩: ∃B C r,c=B::C::r:=by
    match c,h1,g with
    |[],_,g=>simp at g;omega
    |[B],h1,g=>simp at g;have:=h1.2;omega
    |B::C::r,_,_=>exact⟨B,C,r,rfl⟩
   have V:B.length=bs:=h1.1;have Z:C.length=bs:=by
    match r,h1.2,g with
    |[],h,g=>simp at g;have:=h.2;omega
    |D::r,h,_=>exact h.1
   simp only[ξ7,ζ] at p g;have A:P++(B::C::r).flatten=P++B++C++r.flatten:=by simp
   obtain⟨W,w1,w2,m⟩:=LF (P:=P) (S:=r.flatten) l (by omega) (by omega) (by omega) (by omega) (by simp only[ζ];omega);have N:W.length=2*bs:=by rw[w2.length_eq,ζ];omega
   obtain⟨e,j,J,K,L,M,w,z⟩:=inner F G hn k r (P++W) f (by simp at hk;omega) (by omega) h1.tail.tail (l.tail.tail) (by simp only[ζ];omega);have y:=l.merged w2 m;refine⟨W::e,j,?_,?_,L,M,?_,?_⟩
   ·have O:decide (((P.length+2*bs:Nat):Int)<=(n:Int))=true:=decide_eq_true (by omega);have Q:γ.wrap ((P.length:Int)+(bs:Int))=((P.length+B.length:Nat):Int):=by rw[cp]<;>omega
    have R:γ.wrap (2*(bs:Int))=((2*bs:Nat):Int):=by rw[cp]<;>omega
    have U:γ.wrap (((P.length+2*bs:Nat):Int)+((2*bs:Nat):Int))=(((P++W).length+2*bs:Nat):Int):=by
     rw[show(P++W).length=P.length+2*bs by simp only[ζ];omega,cp]<;>omega
    rw[show P.length+B.length+C.length=P.length+2*bs by omega] at w1;have o:(hc ab (n:Int) (bs:Int) q ((P.length:Int),((P.length+2*bs:Nat):Int),P++(B::C::r).flatten)).val=some (.inl (((P++W).length:Int),(((P++W).length+2*bs:Nat):Int),(P++W)++r.flatten)):=by
     rw[A];unfold hc;simp only[T.aE,T.aN,T.aC,O,cond_true,Q,w1,δ,R,U];rw[show((P++W).length:Int)=((P.length+2*bs:Nat):Int) by simp only[ζ];omega]
    show((hc ab _ _ q _).val.bind _)=_;rw[o];refine J.trans ?_;simp only[ζ,ξ7,ν,ζJ]
   ·intro X d;rcases ξa.1 d with rfl|d
    ·exact N
    ·exact K X d
   ·have H: ∀X∈e++j,l6 W X:=λX d u hu v I=>by
     have t:v∈r.flatten:=z.mem_iff.1 (ζj.2 ⟨X,d,I⟩);obtain⟨Y,E,t⟩:=ζj.1 t;exact(υ.1 y.b).1 Y E u hu v t
    exact⟨λX d=>by
     rcases ξa.1 d with rfl|d
     ·exact m
     ·exact w.s X d,λX d=>by
     rcases ξa.1 d with rfl|d
     ·exact y.i X (by simp)
     ·exact w.i X d,υ.2 ⟨H,w.b⟩⟩
   ·simp only[ξk,ξ7];rw[<-ν B];exact w2.append z
  ·refine⟨[],c,?_,by simp,by omega,h1,l,by simp⟩;have m:decide (((P.length+2*bs:Nat):Int)<=(n:Int))=false:=decide_eq_false (by omega);have o:(hc ab (n:Int) (bs:Int) q ((P.length:Int),((P.length+2*bs:Nat):Int),P++c.flatten)).val=some (.inr (false,((P.length+2*bs:Nat):Int),(P.length:Int),P++c.flatten)):=by
    unfold hc;simp only[T.aE,T.aC,m,cond_false]
   show((hc ab _ _ q _).val.bind _)=_;rw[o];simp
end
section
variable {q:List ag}
theorem Bl.app {bs:Nat} {a:List (Γa)} (c:a=[]\/ ∃B:Γa,a=[B]/\0<B.length/\B.length<=bs) (g:0<bs): ∀ {d:List (Γa)},(∀B∈d,B.length=bs)->Bl bs (d++a)
 |[],_=>by
  rcases c with rfl|⟨B,rfl,h1,b⟩
  ·trivial
  ·exact⟨h1,b⟩
 |[D],h=>by
  have f:=h D (by simp);rcases c with rfl|⟨B,rfl,h1,b⟩
  ·exact⟨by omega,by omega⟩
  ·exact⟨f,h1,b⟩
 |D::E::r,h=>⟨h D (by simp),Bl.app c g λB e=>h B (ξ9 _ e)⟩
theorem Good.Y' {e:List (Γa)} {B C W:Γa} (h:Good q (e++[B,C])) (hp:W.Perm (B++C)) (k:W.Pairwise (cE q)):Good q (e++[W]):=by
 obtain⟨g,l,f⟩:=τ.1 h.b;refine⟨λX a=>?_,λX a=>?_,τ.2 ⟨g,by simp,λX a Y j u hu v c=>?_⟩⟩
 ·rcases χ.1 a with a|a
  ·exact h.s X (by simp[a])
  ·rw[ξ.1 a];exact k
 ·rcases χ.1 a with a|a
  ·exact h.i X (by simp[a])
  ·rw[ξ.1 a];intro x d;rcases χ.1 (hp.mem_iff.1 d) with d|d
   ·exact h.i B (by simp) x d
   ·exact h.i C (by simp) x d
 ·rw[ξ.1 j] at c;rcases χ.1 (hp.mem_iff.1 c) with c|c
  ·exact f X a B (by simp) u hu v c
  ·exact f X a C (by simp) u hu v c
theorem pass {bs n:Nat} {c:List (Γa)} (k:0<bs) (I:bs<=50) (hn:n<=900) (Q:bs<n) (h1:Bl bs c) (G:Good q c) (p:n=c.flatten.length):
  ∃g,(h8 ab q (n:Int) ((bs:Int),c.flatten)).val=some (.inl (((2*bs:Nat):Int),g.flatten))/\Bl (2*bs) g/\Good q g/\g.flatten.Perm c.flatten:=by
 have hk:c.length<1000000:=by
  have: ∀ {l:List (Γa)},(∀B∈l,0<B.length)->l.length<=l.flatten.length:=by
   intro l
   induction l with
   |nil=>intro;simp
   |cons B r K=>
    intro h;have:=K λX e=>h X (ξ9 _ e);have:=h B (by simp);simp only[ξ7,ζ,ξf];omega
  have:=this (Bl.pos k h1);omega
 obtain⟨a,d,u,v,j,w,f,m⟩:=inner (q:=q) k I hn c.length c [] 1000000 (ξ4 _) hk h1 G (by simpa using p);simp only[ξE,ξp,ξi] at u;have hlen:=m.length_eq;rw[<-p] at hlen;simp only[ξn,ζ] at hlen;have x:decide ((bs:Int)<(n:Int))=true:=decide_eq_true (by omega);have y:γ.wrap (2*(bs:Int))=((2*bs:Nat):Int):=by rw[cp]<;>omega
 have z:γ.wrap ((bs:Int)*2)=((2*bs:Nat):Int):=by rw[cp]<;>omega
 have A:γ.wrap ((a.flatten.length:Int)+(bs:Int))=((a.flatten.length+bs:Nat):Int):=by rw[cp]<;>omega
 have t:zx ab (n:Int) (bs:Int) ((2*bs:Nat):Int) c.flatten q 0=some (false,((a.flatten.length+2*bs:Nat):Int),(a.flatten.length:Int),a.flatten++d.flatten):=u
 by_cases O:a.flatten.length+bs<n
 ·obtain⟨B,C,rfl,L,M⟩: ∃B C,d=[B,C]/\B.length=bs/\0<C.length:=by
   match d,w,j,hlen with
   |[],_,_,hlen=>simp only[ξo,ξE] at hlen;omega
   |[B],h,_,hlen=>simp only[ξ7,ξo,ξ6] at hlen;have:=h.2;omega
   |[B,C],h,_,_=>exact⟨B,C,rfl,h.1,h.2.1⟩
   |B::C::D::r,h,j,_=>
    have E:=h.1;have F:=h.2.1;simp only[ξ7,ζ] at j;omega
  simp only[ξ7,ξo,ζ,ξ6] at j hlen;have J:Good q [B,C]:=⟨λX e=>f.s X (by simp at e ⊢;exact .inr e),λX e=>f.i X (by simp at e ⊢;exact .inr e),(τ.1 f.b).2.1⟩;obtain⟨W,w1,w2,N⟩:=LF (P:=a.flatten) (S:=[]) J (by omega) M (by omega) (by omega) (by simp only[ζ,ξE];omega);rw[show a.flatten.length+B.length+C.length=n by omega,L] at w1;have R:W.length=B.length+C.length:=by rw[w2.length_eq,ζ]
  refine⟨a++[W],?_,Bl.app (.inr ⟨W,rfl,by omega,by omega⟩) (by omega) v,f.Y' w2 N,?_⟩
  ·have o:decide (((a.flatten.length+bs:Nat):Int)<(n:Int))=true:=decide_eq_true (by omega);rw[show a.flatten++B++C++[]=a.flatten++[B,C].flatten by simp] at w1;unfold h8;simp only[T.aE,T.aN,T.bM,T.aC,x,cond_true,y,t,δ,A,o,w1,z];simp
  ·refine η0 ?_ m;simp only[ξn,ξ7,ξo,ξ6];exact ξF _ w2
 ·have H:d=[]\/ ∃B:Γa,d=[B]/\0<B.length/\B.length<=2*bs:=by
   match d,w,hlen with
   |[],_,_=>exact .inl rfl
   |[B],h,_=>exact .inr ⟨B,rfl,h.1,by have:=h.2;omega⟩
   |B::C::r,h,hlen=>
    have E:=h.1;have F:=Bl.pos k h.2 C (by simp);simp only[ξ7,ζ] at hlen;omega
  refine⟨a++d,?_,Bl.app H (by omega) v,f,m⟩;have o:decide (((a.flatten.length+bs:Nat):Int)<(n:Int))=false:=decide_eq_false (by omega);unfold h8;simp only[T.aE,T.aN,T.bM,T.aC,x,cond_true,cond_false,y,t,δ,A,o,z];simp
theorem Mp {n:Nat} (hn:n<=80): ∀(f bs:Nat) (b:List (Γa)),(bs=20\/bs=40\/80<=bs)->n-bs<f->Bl bs b->Good q b->n=b.flatten.length-> ∃(e:Bool) (g:Int) (ys:Γa),b4 (λa=>(h8 ab q (n:Int) a).val) f ((bs:Int),b.flatten)=some (e,g,ys)/\ys.Perm b.flatten/\ys.Pairwise (cE q)
 |0,bs,b,_,j,_,_,_=>by omega
 |f+1,bs,b,z,j,h1,d,c=>by
  by_cases k:bs<n
  ·obtain⟨i,m,o,p,h⟩:=pass (by omega) (by omega) (by omega) k h1 d c;obtain⟨e,g,ys,t,u,v⟩:=Mp hn f (2*bs) i (by omega) (by omega) o p (by rw[h.length_eq];exact c);refine⟨e,g,ys,?_,u.trans h,v⟩;show((h8 ab q _ _).val.bind _)=_;rw[m];exact t
  ·refine⟨false,bs,b.flatten,?_,ζ9 _,?_⟩
   ·have l:(h8 ab q (n:Int) ((bs:Int),b.flatten)).val=some (.inr (false,(bs:Int),b.flatten)):=by
     have w:decide ((bs:Int)<(n:Int))=false:=decide_eq_false (by omega);unfold h8;simp only[T.aE,T.aC,w,cond_false]
    show((h8 ab q _ _).val.bind _)=_;rw[l];rfl
   ·match b,h1,d,c with
    |[],_,_,_=>exact ζd
    |[B],_,d,_=>simpa using d.s B (by simp)
    |B::C::r,h1,_,c=>
     have x:=h1.1;have y:=Bl.pos (by omega) h1.2 C (by simp);simp only[ξ7,ζ] at c;omega
theorem first {xs:Γa} (hn:xs.length<=900): ∀(k:Nat) (rest:Γa) (c:List (Γa)) (f:Nat),rest.length<=k->k<f->(∀B∈c,B.length=20)->Good q c->(∀B∈c,l6 B rest)->rest.Pairwise (· < ·)->dn q rest->xs.length=c.flatten.length+rest.length->
  ∃(g:List (Γa)) (h:Γa) (D:Bool) (E:Int),b4 (λa=>(iY ab xs q a).val) f ((c.flatten.length:Int),((c.flatten.length+20:Nat):Int),c.flatten++rest)=some (D,E,(g.flatten.length:Int),g.flatten++h)/\
   (∀B∈g,B.length=20)/\Good q g/\(∀B∈g,l6 B h)/\h.Pairwise (· < ·)/\dn q h/\h.length<20/\(g.flatten++h).Perm (c.flatten++rest)
 |k,rest,c,0,_,I,_,_,_,_,_,_=>by omega
 |k,rest,c,f+1,hk,I,h1,j,o,m,n,U=>by
  by_cases V:20<=rest.length
  ·obtain⟨r,rfl⟩: ∃r,k=r+1:=⟨k-1,by omega⟩;have J:dn q (c.flatten++rest):=λx e=>by
    rcases χ.1 e with e|e
    ·obtain⟨B,d,e⟩:=ζj.1 e;exact j.i B d x e
    ·exact n x e
   have G:((c.flatten++rest).drop c.flatten.length).take (c.flatten.length+20-c.flatten.length)=rest.take 20:=by simp
   obtain⟨ys,i1,W,i2,i3,i4⟩:=JQ (q:=q) (xs:=c.flatten++rest) (a:=c.flatten.length) (b:=c.flatten.length+20) J (by simp only[ζ];omega) (by omega) (by simp only[ζ];omega) (by rw[G];exact m.sublist (ζe _ _));rw[G] at i3;have i2:ys=(c++[W]).flatten++rest.drop 20:=by
    rw[i2];simp[List.drop_append]
   have w:W.length=20:=by rw[i3.length_eq,ξM];omega
   have z: ∀x∈W,x∈rest.take 20:=λx e=>i3.mem_iff.1 e;have K: ∀x∈rest.take 20,∀y∈rest.drop 20,x<y:=by
    have:=m;rw[<-ξ0 20 rest] at this;exact(τ.1 this).2.2
   obtain⟨g,h,D,E,L,t⟩:=first (xs:=xs) hn r (rest.drop 20) (c++[W]) f (by rw[ξw];omega) (by omega) (λB d=>by
    rcases χ.1 d with d|d
    ·exact h1 B d
    ·rw[ξ.1 d];exact w) ⟨λB d=>by
    rcases χ.1 d with d|d
    ·exact j.s B d
    ·rw[ξ.1 d];exact i4,λB d=>by
    rcases χ.1 d with d|d
    ·exact j.i B d
    ·rw[ξ.1 d];exact λx e=>n x (uZ (z x e)),τ.2 ⟨j.b,by simp,λB d C H u hu v l=>by
     rw[ξ.1 H] at l;exact o B d u hu v (uZ (z v l))⟩⟩ (λB d u hu v l=>by
    rcases χ.1 d with d|d
    ·exact o B d u hu v (uY l)
    ·rw[ξ.1 d] at hu;exact K u (z u hu) v l) (m.sublist (ζf _ _)) (λx e=>n x (uY e)) (by simp only[ξn,ξ7,ξo,ξ6,ζ,ξw,w];omega)
   obtain⟨t,M,N,O,P,Q,R⟩:=t;refine⟨g,h,D,E,?_,t,M,N,O,P,Q,R.trans ?_⟩
   ·have A:decide (((c.flatten.length+20:Nat):Int)<=(xs.length:Int))=true:=decide_eq_true (by omega);have F:(c++[W]).flatten.length=c.flatten.length+20:=by simp[w]
    have S:γ.wrap (((c.flatten.length+20:Nat):Int)+20)=(((c++[W]).flatten.length+20:Nat):Int):=by rw[F,cp]<;>omega
    have p:(iY ab xs q ((c.flatten.length:Int),((c.flatten.length+20:Nat):Int),c.flatten++rest)).val=some (.inl (((c++[W]).flatten.length:Int),(((c++[W]).flatten.length+20:Nat):Int),(c++[W]).flatten++rest.drop 20)):=by
     unfold iY;simp only[T.aE,T.aN,T.aC,A,cond_true,i1,δ,S];rw[i2,F]
    show((iY ab xs q _).val.bind _)=_;rw[p];exact L
   ·simp only[ξn,ξ7,ξo,ξ6,ν];refine ξF _ ((ζo _ i3).trans ?_);rw[ξ0]
  ·refine⟨c,rest,false,((c.flatten.length+20:Nat):Int),?_,h1,j,o,m,n,by omega,ζ9 _⟩;have A:decide (((c.flatten.length+20:Nat):Int)<=(xs.length:Int))=false:=decide_eq_false (by omega);have p:(iY ab xs q ((c.flatten.length:Int),((c.flatten.length+20:Nat):Int),c.flatten++rest)).val=some (.inr (false,((c.flatten.length+20:Nat):Int),(c.flatten.length:Int),c.flatten++rest)):=by
    unfold iY;simp only[T.aE,T.aC,A,cond_false]
   show((iY ab xs q _).val.bind _)=_;rw[p];rfl
theorem w35 {xs:Γa} (hn:xs.length<=80) (A:xs.Pairwise (· < ·)) (hi:dn q xs): ∃ys,n9 ab xs q=some ys/\ys.Perm xs/\ys.Pairwise (cE q):=by
 obtain⟨d,rest,H,I,m,D,e,E,F,G,K,f⟩:=first (q:=q) (xs:=xs) (by omega) xs.length xs [] 1000000 (ξ4 _) (by omega) (by simp) ⟨by simp,by simp,ζd⟩ (by simp) A hi (by simp)
 simp only[ξo,ξE,ξi,ξp] at m f;have hlen:=f.length_eq;rw[ζ] at hlen;have z:dn q (d.flatten++rest):=uI hi f;have j:((d.flatten++rest).drop d.flatten.length).take (xs.length-d.flatten.length)=rest:=by
  rw[η2,ζm (by omega)]
 obtain⟨zs,i1,W,i2,i3,i4⟩:=JQ (q:=q) (xs:=d.flatten++rest) (a:=d.flatten.length) (b:=xs.length) z (by rw[ζ];omega) (by omega) (by rw[ζ];omega) (by rw[j];exact F);rw[j] at i3;have L:=i3.length_eq;have i2:zs=(d++if W=[] then[] else[W]).flatten:=by
  rw[i2,η1,ξx (by rw[ζ];omega),ξ6,ξn]
  congr 1
  split
  ·rename_i h;rw[h];rfl
  ·simp
 have y:(if W=[] then[] else[W])=([]:List (Γa))\/ ∃B:Γa,(if W=[] then[] else[W])=[B]/\0<B.length/\B.length<=20:=by
  split
  ·exact .inl rfl
  ·rename_i h;exact .inr ⟨W,rfl,ξg.2 h,by omega⟩
 have g:Good q (d++if W=[] then[] else[W]):=by
  split
  ·rw[ξ6];exact e
  ·refine⟨λB c=>?_,λB c=>?_,τ.2 ⟨e.b,by simp,λB c C t u hu v k=>?_⟩⟩
   ·rcases χ.1 c with c|c
    ·exact e.s B c
    ·rw[ξ.1 c];exact i4
   ·rcases χ.1 c with c|c
    ·exact e.i B c
    ·rw[ξ.1 c];exact uI G i3
   ·rw[ξ.1 t] at k;exact E B c u hu v (i3.mem_iff.1 k)
 have l:zs.Perm xs:=by
  rw[i2,ξn];refine η0 ?_ f;refine ξF _ ?_;split
  ·rename_i h;rw[h] at i3;simpa using i3
  ·simpa using i3
 have c:=Bl.app y (by omega) D;generalize (d++if W=[] then[] else[W])=r at i2 g c;obtain⟨J,z2,ys,o,p,p2⟩:=Mp (q:=q) (n:=xs.length) hn 1000000 20 r (.inl rfl) (by omega) c g (by rw[<-i2];exact l.length_eq.symm);rw[<-i2] at o p;refine⟨ys,?_,p.trans l,p2⟩;show((sI ab xs q).val).map (·.1)=_;have w:zy ab xs q 0 20 xs=some (H,I,(d.flatten.length:Int),d.flatten++rest):=m;have x:zz ab zs q (xs.length:Int) 20=some (J,z2,ys):=o;unfold sI;simp only[T.bM,T.aN,T.aC,w,δ,i1,x,ξD]
end
section
variable {α σ X:Type}
theorem Zb {P:Nat->Prop} (h: ∃n,P n): ∃n,P n/\ ∀m,m<n-> ¬P m:=by
 obtain⟨n,hn⟩:=h
 induction n using Nat.strongRecOn with
 |_ n b=>
  by_cases hm: ∃m,m<n/\P m
  ·obtain⟨m,h1,a⟩:=hm;exact b m h1 a
  ·exact⟨n,hn,λm h1 a=>hm ⟨m,h1,a⟩⟩
theorem vX {step:Int->α->σ->Option (σ⊕X)} {fin:Int->σ->Option X} {l:List α} {st:Nat->σ} {ok:Nat->α->Bool} {x0:Nat->X} {x1:X} (h: ∀(j:Nat) z,l[j]? =some z->(∀(i:Nat) z,i<j->l[i]? =some z->ok i z=true)->step j z (st j)=some (bif ok j z then .inl (st (j+1)) else .inr (x0 j))) (e:(∀(j:Nat) z,l[j]? =some z->ok j z=true)->fin (l.length:Int) (st l.length)=some x1):
  ((∀(j:Nat) z,l[j]? =some z->ok j z=true)/\bS step fin 0 l (st 0)=some x1)\/ ∃(j:Nat) (z:α),l[j]? =some z/\ok j z=false/\(∀(i:Nat) z,i<j->l[i]? =some z->ok i z=true)/\bS step fin 0 l (st 0)=some (x0 j):=by
 by_cases b: ∃j:Nat,∃z,l[j]? =some z/\ok j z=false
 ·obtain⟨n,⟨z0,h1,d⟩,c⟩:=Zb b;have c: ∀(i:Nat) z,i<n->l[i]? =some z->ok i z=true:=λi z hi a=>by
   cases hk:ok i z with
   |true=>rfl
   |false=>exact absurd ⟨z,a,hk⟩ (c i hi)
  refine .inr ⟨n,z0,h1,d,c,acb h1 (λj z f a=>?_) ?_⟩
  ·rw[h j z a (λi z hi=>c i z (by omega)),c j z f a];rfl
  ·rw[h n z0 h1 c,d];rfl
 ·have b: ∀(j:Nat) z,l[j]? =some z->ok j z=true:=λj z a=>by
   cases hk:ok j z with
   |true=>rfl
   |false=>exact absurd ⟨j,z,a,hk⟩ b
  refine .inl ⟨b,vV (λj z a=>?_) (e b)⟩;rw[h j z a (λi z _ a=>b i z a),b j z a];rfl
end
theorem adY (d:ag): ∃b,pG ab d=some b:=by
 show ∃b,(AJ ab d).val=some b;unfold AJ;simp only[T.aE,T.aC];generalize (d.aR==0)=a;generalize decide (d.cO>=0)=c;generalize decide (d.cO<8)=e;generalize decide (d.bP>=1)=f;generalize (d.bK==0)=g;generalize fC d.cn (cX.mk 0 0)=h;generalize decide (d.aR>=d.bP)=i;generalize decide (d.aR<=d.bK)=j;cases a<;>cases c<;>cases e<;>cases f<;>cases g<;>cases h<;>cases i<;>cases j<;>exact⟨_,rfl⟩
noncomputable def lT (d:ag):Bool:=(pG ab d).getD false
theorem w49 (d:ag):pG ab d=some (lT d):=by
 obtain⟨b,h⟩:=adY d;unfold lT;rw[h];rfl
def A8 (a b:ag):Bool:=a.bK !=0&&decide (a.bK<b.bP)
def k0 (x d:ag):Bool:=(x.cO !=d.cO)||(A8 x d||A8 d x)
def ib (x d:ag):Bool:=k0 x d&&(d.aR==0||x.aR !=d.aR)
def iU (q:List ag):Prop:=q.length<=64/\(∀d∈q,lT d=true)/\q.Pairwise λx d=>ib x d=true
theorem iU.sub {q b:List ag} (h:iU q) (a:b.Sublist q):iU b:=
 ⟨ξB a.length_le h.1,λd c=>h.2.1 d (a.subset c),h.2.2.sublist a⟩
section
variable {q:List ag}
def fi (q:List ag) (j:Nat) (k:Int):Nat:=((q.take j).filter λx=>x.aR==k).length
def gb (q:List ag):Nat->Γc
 |0=>[]
 |j+1=>match q[j]? with
  |some d=>cb (gb q j) d.aR (γ.wrap ((bw (gb q j) d.aR).getD 0+1))
  |none=>gb q j
theorem Iq {j:Nat} {k:Int}:fi q j k<=j:=ξB (ξh _ _) (by simp;omega)
theorem Uv {j:Nat} {k:Int} {d:ag} (h:q[j]? =some d):fi q (j+1) k=fi q j k+if d.aR=k then 1 else 0:=by
 unfold fi;rw[ξl,h,ζ7,ζ]
 congr 1
 by_cases e:d.aR=k<;>simp[e]
theorem u1: ∀ {j:Nat} {k:Int},j<=1000->(bw (gb q j) k).getD 0=(fi q j k:Int)
 |0,k,_=>by simp[gb,bw,fi]
 |j+1,k,h=>by
  unfold gb;cases a:q[j]? with
  |none=>
   have:fi q (j+1) k=fi q j k:=by
    unfold fi;rw[ξl,a];simp
   rw[this];exact u1 (by omega)
  |some d=>
   rw[Uv a];simp only;rw[nn]
   by_cases e:d.aR=k
   ·subst e;have h1:=u1 (j:=j) (k:=d.aR) (by omega);have c:=Iq (q:=q) (j:=j) (k:=d.aR);simp only[if_true,ξK,h1];rw[cp]<;>omega
   ·simp only[e,if_false,ζv];have h1:=u1 (j:=j) (k:=k) (by omega)
    first
     |exact h1
     |(rw[if_neg (λb=>e b.symm)];exact h1)
theorem acO (q:List ag):((∀d∈q,lT d=true)/\ ∃y,rW ab q=some (.inr y))\/(¬(∀d∈q,lT d=true)/\ ∃j:Nat,rW ab q=some (.inl (j:Int))):=by
 have h:=vX (step:=λi z a=>(r9 ab q i z a).val) (fin:=λi a=>(q2 ab q i a).val) (l:=q) (st:=λ_=>()) (ok:=λ_ z=>lT z) (x0:=λj=>.inl (j:Int)) (x1:=.inr (false,(q.length:Int))) (λj z f _=>by
  unfold r9;simp only[T.aN,T.aE,T.aC,w49,δ];cases lT z<;>rfl) (λ_=>by
  unfold q2;simp only[T.aC];simp)
 rcases h with⟨h1,b⟩|⟨j,z,h1,b,_,c⟩
 ·refine .inl ⟨λd e=>?_,_,b⟩;obtain⟨i,hi,rfl⟩:=ξm e;exact h1 i _ (ε hi)
 ·refine .inr ⟨λh=>?_,j,c⟩;rw[h z (ξc h1)] at b;cases b
theorem acP (l:List ag) (d:ag):(l.all (λx=>k0 x d)=true/\ ∃y,rY ab l d.cO d.b9.bm d.b9.fArgs d.cn.cq d.cn.cD d.bP d.aR d.bK=some (.inr y))\/(l.all (λx=>k0 x d)=false/\ ∃j:Nat,rY ab l d.cO d.b9.bm d.b9.fArgs d.cn.cq d.cn.cD d.bP d.aR d.bK=some (.inl (j:Int))):=by
 have h:=vX (step:=λi z a=>(r_ ab l d.cO d.b9.bm d.b9.fArgs d.cn.cq d.cn.cD d.bP d.aR d.bK i z a).val) (fin:=λi a=>(q3 ab l d.cO d.b9.bm d.b9.fArgs d.cn.cq d.cn.cD d.bP d.aR d.bK i a).val) (l:=l) (st:=λ_=>()) (ok:=λ_ z=>k0 z d) (x0:=λj=>.inl (j:Int)) (x1:=.inr (false,(l.length:Int))) (λj z k _=>by
  unfold r_;have e:(ag.mk d.cO (cN.mk d.b9.bm d.b9.fArgs) (cX.mk d.cn.cq d.cn.cD) d.bP d.aR d.bK)=d:=rfl;rw[e];simp only[T.aN,T.aE,T.aC,w38,δ];unfold k0 A8;cases (z.cO !=d.cO)<;>cases (z.bK !=0&&decide (z.bK<d.bP))<;>cases (d.bK !=0&&decide (d.bK<z.bP))<;>rfl) (λ_=>by
  unfold q3;simp only[T.aC];simp)
 rcases h with⟨h1,b⟩|⟨j,z,h1,b,_,c⟩
 ·refine .inl ⟨ξe.2 λx g=>?_,_,b⟩;obtain⟨i,hi,rfl⟩:=ξm g;exact h1 i _ (ε hi)
 ·refine .inr ⟨?_,j,c⟩;cases f:l.all (λx=>k0 x d) with
  |false=>rfl
  |true=>
   rw[ξe.1 f z (ξc h1)] at b;cases b
theorem TT {j:Nat} {d:ag}:(q.take j).all (λx=>ib x d)=((q.take j).all (λx=>k0 x d)&&(d.aR==0||decide (fi q j d.aR=0))):=by
 rw[ξd];unfold ib fi;simp only[ξe,ι,ζU,beq_iff_eq,bne_iff_ne,ne_eq,decide_eq_true_eq,List.length_eq_zero_iff,ζk];constructor
 ·intro h;refine⟨λx a=>(h x a).1,?_⟩
  by_cases e:d.aR=0
  ·exact .inl e
  ·exact .inr λx a=>(h x a).2.resolve_left e
 ·rintro ⟨h1,b⟩ x a;exact⟨h1 x a,b.imp id λh=>h x a⟩
theorem Pf (G:q.length<=100):(pF ab ⟨q⟩=some 0/\iU q)\/(pF ab ⟨q⟩=some 390/\ ¬iU q):=by
 by_cases hl:q.length<=64
 rotate_left
 ·refine .inr ⟨?_,λh=>hl h.1⟩;show(i_ ab ⟨q⟩).val=_;unfold i_;have c:decide ((q.length:Int)>64)=true:=decide_eq_true (by omega);simp only[T.aE,T.aC,c,cond_true]
 have c:decide ((q.length:Int)>64)=false:=decide_eq_false (by omega);have C: ∀(j:Nat) z,q[j]? =some z->(oS ab q j z (gb q j)).val=some (bif (q.take j).all (λx=>ib x z) then .inl (gb q (j+1)) else .inr (.inl ())):=λj z b=>by
  have g:j<q.length:=(η.1 b).1;have s:dL q none (some (j:Int)) none=some (q.take j):=by
   unfold dL;simp only[ζi,ξK];rw[if_pos ⟨by omega,by omega,by omega,by omega,by omega,by simp⟩];simp
  have hm:gb q (j+1)=cb (gb q j) z.aR (γ.wrap ((bw (gb q j) z.aR).getD 0+1)):=by
   conv=>lhs;unfold gb
   rw[b]
  have r:=u1 (q:=q) (j:=j) (k:=z.aR) (by omega);have E:=Iq (q:=q) (j:=j) (k:=z.aR);have B:(bw (cb (gb q j) z.aR (γ.wrap ((fi q j z.aR:Int)+1))) z.aR).getD 0=(fi q j z.aR:Int)+1:=by
   rw[nn,if_pos rfl,ξK,cp]<;>omega
  have A:decide ((fi q j z.aR:Int)+1>1)=!decide (fi q j z.aR=0):=by
   by_cases e:fi q j z.aR=0
   ·simp[e]
   ·have:(fi q j z.aR:Int)+1>1:=by omega
    simp[e,this]
  rw[TT,hm,r];unfold oS;rcases acP (q.take j) z with⟨n,y,o⟩|⟨n,i,o⟩
  ·simp only[T.aN,T.bM,T.cM,T.aE,T.aC,s,o,δ,r,B,A,n];rw[show(z.aR !=0)=!(z.aR==0) from rfl];cases (z.aR==0)<;>cases decide (fi q j z.aR=0)<;>rfl
  ·have m:decide ((i:Int)>=0)=true:=decide_eq_true (by omega);simp only[T.aN,T.bM,T.cM,T.aE,T.aC,s,o,δ,m,n];rfl
 have v:=vX (step:=λi z a=>(oS ab q i z a).val) (fin:=λi a=>(rh ab q i a).val) (l:=q) (st:=gb q) (ok:=λj z=>(q.take j).all (λx=>ib x z)) (x0:=λ_=>.inl ()) (x1:=.inr (false,(q.length:Int),gb q q.length)) (λj z b _=>C j z b) (λ_=>by
  unfold rh;simp only[T.aC];simp)
 have t:(∀(j:Nat) z,q[j]? =some z->(q.take j).all (λx=>ib x z)=true)↔q.Pairwise λx d=>ib x d=true:=by
  rw[ω];constructor
  ·intro h i j hi g F;exact ξe.1 (h j q[j] (ε g)) q[i] (ξs.2 ⟨i,by omega,rfl⟩)
  ·intro h j z b;obtain⟨g,rfl⟩:=η.1 b;refine ξe.2 λx D=>?_;obtain⟨i,hi,rfl⟩:=ξs.1 D;exact h i j (by omega) g (by omega)
 have w:(q.Pairwise (λx d=>ib x d=true)/\ ∃y,oD ab q []=some (.inr y))\/(¬q.Pairwise (λx d=>ib x d=true)/\oD ab q []=some (.inl ())):=by
  rcases v with⟨h1,f⟩|⟨j,z,h1,f,_,u⟩
  ·exact .inl ⟨t.1 h1,_,f⟩
  ·refine .inr ⟨λh=>?_,u⟩;rw[t.2 h j z h1] at f;cases f
 rcases acO q with⟨s1,y,s2⟩|⟨s1,j,s2⟩
 ·rcases w with⟨p,x,p2⟩|⟨p,p2⟩
  ·refine .inl ⟨?_,hl,s1,p⟩;show(i_ ab ⟨q⟩).val=_;unfold i_;simp only[T.aE,T.bM,T.aN,T.cM,T.aC,c,cond_false,s2,p2,δ]
  ·refine .inr ⟨?_,λh=>p h.2.2⟩;show(i_ ab ⟨q⟩).val=_;unfold i_;simp only[T.aE,T.bM,T.aN,T.cM,T.aC,c,cond_false,s2,p2,δ]
 ·refine .inr ⟨?_,λh=>s1 h.2.1⟩;have m:decide ((j:Int)>=0)=true:=decide_eq_true (by omega);show(i_ ab ⟨q⟩).val=_;unfold i_;simp only[T.aE,T.bM,T.aN,T.cM,T.aC,c,cond_false,s2,m,δ,μ,ξ1,cond_true]
end
end Go.Proofs.YtoggponeookhbaaGreatDoor
end
