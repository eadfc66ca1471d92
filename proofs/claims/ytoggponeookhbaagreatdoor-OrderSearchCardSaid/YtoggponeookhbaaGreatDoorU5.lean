/- A part of the proof that OrderSearch returns true for every input: the machine of values, its soundness, the program as plain functions, the law. Conditions: those of the given rows. -/
import Derived.Test.YtoggponeookhbaaGreatDoorU4
set_option linter.unusedVariables false
set_option linter.unusedSimpArgs false
noncomputable section
set_option maxRecDepth 1000000
set_option maxHeartbeats 12000000
open Bool renaming not_true→ι,and_eq_true→κ,eq_iff_iff→μ,not_false→ο,true_and→ξi,false_or→ξn,false_eq_true→ξr,not_eq_true'→ξu,false_ne_true→ξM,not_not→ξP,or_eq_true→ζn,and_false→ζu,or_self→ζy,true_or→ζz
open ByteArray renaming mk→ξj
open Decidable renaming em→ζF
open Go.ByteArray renaming toList_eq→ζc
open Go.IntKind renaming i64→ζ,u64→τ,u8→ζJ
open Go.Proofs.Tryz renaming prog→ε,f233→ζs,f123→ζA,f274→ζB,f244→ζC,f230→ζD,f130→ζE
open Int renaming toNat_natCast→θ,lt_irrefl→ρ,eq_ofNat_of_zero_le→ξo,reduceBEq→ξz,reduceEq→ξH
open List renaming getElem?_eq_some_iff→δ,getElem?_eq_getElem→η,mem_of_getElem?→ν,mem_filter→ξ,length_append→υ,mem_of_find?_eq_some→φ,drop_eq_getElem_cons→χ,mem_cons_of_mem→ψ,length_filter_le→ω,length_singleton→ξ0,takeWhile_cons→ξ1,pairwise_iff_getElem→ξ2,all_eq_true→ξ4,dropWhile_cons→ξ5,getElem?_map→ξ6,pairwise_cons→ξ7,filter_cons→ξ8,isPrefixOf_iff_prefix→ξa,mem_cons_self→ξc,length_cons→ξd,pairwise_append→ξe,mem_append→ξf,filterMap_cons→ξg,findIdx?_eq_some_iff_getElem→ξh,exists_of_findSome?_eq_some→ξk,find?_some→ξl,nil_append→ξm,any_eq_true→ξp,mem_singleton→ξq,append_nil→ξs,foldl_cons→ξt,range_eq_range'→ξv,mem_of_mem_take→ξw,pairwise_singleton→ξx,length_map→ξy,takeWhile_sublist→ξA,getElem?_set→ξC,append_assoc→ξD,take_append_drop→ξF,singleton_append→ξG,find?_cons→ξK,getElem?_append_right→ξL,mem_filterMap→ξN,findIdx?_cons→ξO,filter_append→ξQ,mem_take_iff_getElem→ξR,mem_or_eq_of_mem_set→ξS,any_eq_false→ξT,filter_congr→ξU,mem_cons→ξV,prefix_iff_eq_take→ξW,getElem_mem→ξX,reverse_singleton→ξY,length_pos_of_mem→ξZ,mem_map→ζ0,set_append_right→ζ1,mem_iff_getElem?→ζ3,map→ζ4,getElem?_of_mem→ζ5,mem_range→ζ6,drop_zero→ζ7,getElem_of_mem→ζ8,range'→ζa,reverse_append→ζb,findSome?_cons→ζe,length_pos_iff→ζf,set_cons_zero→ζh,all_cons→ζj,ext_getElem?→ζl,range→ζm,map_append→ζo,length_nil→ζp,map_id→ζq,range_succ→ζr,replicate→ζt,map_cons→ζw,map_take→ζx,length→ζH
open Nat renaming zero_add→ξ3,le_refl→ξb,le_trans→ξE,sub_self→ζ2,zero_le→ζ9,add_sub_cancel→ζg,lt_trichotomy→ζk,lt_or_ge→ζG
open Option renaming bind_some→γ,getD_some→ξ9,map_eq_none_iff→ξB,getD_none→ξI,map_some→ξJ,isSome_none→ζi,map→ζv
open UInt8 renaming ofNat→ζd,toNat→ζI
section
namespace Go.Proofs.YtoggponeookhbaaGreatDoor
open Go.RowKit Go.Dc Go.Vx
theorem acu {a b:ah} (h:fl a b=true):a=b:=by
 obtain⟨c,a2,a3,a4⟩:=a;obtain⟨d,e,f,g⟩:=b;simp[fl] at h;simp[h]
section
variable {α:Type} {q:α->α->Bool} {A:α->Bool} {l:List α}
theorem q5 (m: ∀a b c,q a b=true->q b c=true->q a c=true):
  allI (λi z=>A z&&fI q l i z) 0 l=true↔(∀z∈l,A z=true)/\l.Pairwise λa b=>q a b=true:=by
 rw[fX];constructor
 ·intro h;have h1: ∀z∈l,A z=true:=λz n=>by
   obtain⟨k,hk⟩:=ζ5 n;have:=h k z hk;rw[κ] at this;exact this.1
  have e: ∀k (hk:k+1<l.length),q l[k] l[k+1]=true:=λk hk=>by
   have:=h (k+1) l[k+1] (η hk);rw[κ] at this;have:=this.2;unfold fI at this;rw[ξ3,show(k+1==0)=false from rfl,ξn,ζg,η (by omega)] at this;exact this
  refine⟨h1,ξ2.2 λi j hi f p=>?_⟩;obtain⟨d,rfl⟩: ∃d,j=i+1+d:=⟨j-(i+1),by omega⟩
  induction d with
  |zero=>exact e i f
  |succ d o=>exact m _ _ _ (o (by omega) (by omega)) (e (i+1+d) f)
 ·rintro ⟨h1,e⟩ k z hk;rw[κ];refine⟨h1 z (ν hk),?_⟩;unfold fI;rw[ξ3];cases k with
  |zero=>rfl
  |succ k=>
   have g:=(δ.1 hk).1;rw[show(k+1==0)=false from rfl,ξn,ζg,η (by omega)];have:=ξ2.1 e k (k+1) (by omega) g (by omega);obtain⟨_,rfl⟩:=δ.1 hk;exact this
theorem take_drop (p:α->Bool) (l:List α):l.takeWhile p++l.dropWhile p=l:=List.takeWhile_append_dropWhile
theorem kH {lt:α->Bool} {x z:α}:z∈b5 lt x l↔z=x\/z∈l:=by
 unfold b5
 conv=>rhs;rw[<-take_drop lt l]
 simp only[ξf,ξV];constructor
 ·rintro (h|h|h)
  ·exact .inr (.inl h)
  ·exact .inl h
  ·exact .inr (.inr h)
 ·rintro (h|h|h)
  ·exact .inr (.inl h)
  ·exact .inl h
  ·exact .inr (.inr h)
theorem Rn {lt:α->Bool} {x:α}:(b5 lt x l).length=l.length+1:=by
 unfold b5
 conv=>rhs;rw[<-take_drop lt l]
 simp only[υ,ξd];omega
theorem RF {p:α->Bool} {z:α} (h:z∈l.takeWhile p):p z=true:=by
 have:=List.all_takeWhile (p:=p) (l:=l);rw[ξ4] at this;exact this z h
theorem ab2 {p:α->Bool} {z:α} {r:List α} (h:l.dropWhile p=z::r):p z=false:=by
 have:=List.head?_dropWhile_not p l;rw[h] at this;simpa using this
theorem IW {R:α->α->Prop} {lt:α->Bool} {x:α} (q:l.Pairwise R) (j: ∀a b c,R a b->R b c->R a c) (h1: ∀z∈l,lt z=true->R z x) (n: ∀z∈l,lt z=false->R x z):(b5 lt x l).Pairwise R:=by
 unfold b5;have o: ∀z,z∈l.takeWhile lt->z∈l:=λz d=>(ξA lt).mem d;have p: ∀z,z∈l.dropWhile lt->z∈l:=λz d=>(List.dropWhile_sublist lt).mem d;have f:=q;rw[<-take_drop lt l,ξe] at f;have k: ∀z∈l.dropWhile lt,R x z:=by
  intro z d;cases e:l.dropWhile lt with
  |nil=>rw[e] at d;cases d
  |cons y r=>
   have m:=n y (p y (by rw[e];exact ξc)) (ab2 e);rw[e] at d;rcases ξV.1 d with rfl|d
   ·exact m
   ·have:=f.2.1;rw[e,ξ7] at this;exact j _ _ _ m (this.1 z d)
 rw[ξe,ξ7];refine⟨f.1,⟨k,f.2.1⟩,λa h b g=>?_⟩;have i:=h1 a (o a h) (RF h);rcases ξV.1 g with rfl|g
 ·exact i
 ·exact j _ _ _ i (k b g)
theorem kv {p:α->Bool}:l.find? p=none↔ ∀z∈l,p z=false:=by
 rw[List.find?_eq_none];constructor
 ·intro h z a;have:=h z a;cases e:p z with
  |true=>exact absurd e this
  |false=>rfl
 ·intro h z a;rw[h z a];exact ξM
theorem acP {p:α->Bool} {z:α} (hu: ∀a∈l,∀b∈l,p a=true->p b=true->a=b):l.find? p=some z↔z∈l/\p z=true:=by
 constructor
 ·intro h;exact⟨φ h,ξl h⟩
 ·rintro ⟨h1,c⟩;cases e:l.find? p with
  |none=>rw[kv.1 e z h1] at c;cases c
  |some y=>rw[hu y (φ e) z h1 (ξl e) c]
theorem IY {R:α->α->Prop} (d:l.Pairwise R) {a b:α} (e:a∈l) (f:b∈l):a=b\/R a b\/R b a:=by
 obtain⟨i,hi,rfl⟩:=ζ8 e;obtain⟨j,c,rfl⟩:=ζ8 f;rcases ζk i j with h|h|h
 ·exact .inr (.inl (ξ2.1 d i j hi c h))
 ·subst h;exact .inl rfl
 ·exact .inr (.inr (ξ2.1 d j i c hi h))
theorem Ub {key:α->Int} {n:Nat}: ∀ {l:List α} {a:Int},l.Pairwise (λx y=>key x<key y)->(∀z∈l,a<key z/\key z<=a+n)->l.length<=n
 |[],_,_,_=>by simp
 |z::r,a,b,h=>by
  rw[ξ7] at b;obtain⟨e,f⟩:=h z ξc;have hn:0<n:=by omega
  obtain⟨m,hm⟩: ∃m:Nat,(m:Int)=a+n-key z:=⟨(a+n-key z).toNat,by omega⟩;have:=Ub (n:=m) (a:=key z) b.2 λy c=>by
   have h1:=b.1 y c;have d:=h y (ψ _ c);omega
  simp only[ξd];omega
end
def dr (l:List ah) (pid:Int):Prop:= ∃x∈l,x.aa=pid/\x.bb=false
structure MX (p:br) (x:ah):Prop where
 i1:1<=ix x.aa
 i2:ix x.aa<=16
 gen:x.aa/64+1=ao p.aH (ix x.aa-1).toNat
 self:x.aP≠x.aa
 par:x.aP=0\/dr p.ae x.aP
 dead:x.bb=true->x.aP≠0
 live:x.bb=false->x.bV=0
structure db (p:br):Prop where
 gl:p.aH.length=16
 jK: ∀i,i<16->0<=ao p.aH i/\ao p.aH i<=65536
 u: ∀x∈p.ae,cz x.aa
 one: ∀x∈p.ae,MX p x
 ord:p.ae.Pairwise λa b=>ix a.aa<ix b.aa
 head:p.ae.head? =some ⟨1,0,false,0⟩
theorem xS {l:List ah} (e:l.Pairwise λa b=>ix a.aa<ix b.aa) {a b:ah} (c:a∈l) (d:b∈l) (h:a.aa=b.aa):a=b:=by
 rcases IY e c d with h1|h1|h1
 ·exact h1
 ·rw[h] at h1;omega
 ·rw[h] at h1;omega
theorem IJ {l:List ah} (f:l.Pairwise λa b=>ix a.aa<ix b.aa) {pid:Int} {x:ah}:eu l pid=some x↔x∈l/\x.aa=pid:=by
 unfold eu;rw[acP λa d b e h1 c=>xS f d e ((eq_of_beq h1).trans (eq_of_beq c).symm),beq_iff_eq]
theorem hy {l:List ah} (c:l.Pairwise λa b=>ix a.aa<ix b.aa) {pid:Int}:b1 l pid=true↔dr l pid:=by
 unfold b1;constructor
 ·intro h;cases e:eu l pid with
  |none=>rw[e] at h;cases h
  |some x=>
   rw[e] at h;have:=(IJ c).1 e;exact⟨x,this.1,this.2,by simpa using h⟩
 ·rintro ⟨x,f,hp,d⟩;rw[(IJ c).2 ⟨f,hp⟩];simp[d]
theorem afl (l:List ah):hs l=fI (λa b=>decide (ix a.aa<ix b.aa)) l:=by funext i x;unfold hs fI;cases l[i-1]? <;>rfl
theorem Sj {p:br}:allI (λi x=>hY p x&&hs p.ae i x) 0 p.ae=true↔(∀x∈p.ae,hY p x=true)/\p.ae.Pairwise λa b=>ix a.aa<ix b.aa:=by
 rw[afl];have:=q5 (q:=λa b:ah=>decide (ix a.aa<ix b.aa)) (A:=hY p) (l:=p.ae) (λa b c h1 d=>decide_eq_true (by have:=of_decide_eq_true h1;have:=of_decide_eq_true d;omega));rw[this];simp only[decide_eq_true_eq]
theorem R7 {p:br} (j:p.ae.Pairwise λa b=>ix a.aa<ix b.aa) {x:ah}:hY p x=true↔MX p x:=by
 unfold hY;simp only[κ,decide_eq_true_eq,beq_iff_eq,ξu,beq_eq_false_iff_ne,ne_eq,ζn,hy j];constructor
 ·rintro ⟨h1,e,f,g,h,c⟩;refine⟨h1,e,f,g,h,λd=>?_,λd=>?_⟩
  ·rw[d] at c;simpa using c
  ·rw[d] at c;simpa using c
 ·rintro ⟨h1,e,f,g,h,c,i⟩;refine⟨h1,e,f,g,h,?_⟩;cases d:x.bb with
  |true=>simpa using c d
  |false=>simpa using i d
theorem OK {g:Γa}:kA g=true↔ ∀i,i<16->0<=ao g i/\ao g i<=65536:=by
 unfold kA;simp only[ξ4,ζ6,κ,decide_eq_true_eq]
theorem adS {p:br} (gl:p.aH.length=16) (u: ∀x∈p.ae,cz x.aa) (h:jc p=true):db p:=by
 unfold jc at h;rw[κ,κ,OK,Sj] at h;obtain⟨h1,⟨c,b⟩,a⟩:=h;refine⟨gl,h1,u,λx d=>(R7 b).1 (c x d),b,?_⟩;cases e:p.ae with
 |nil=>rw[e] at a;cases a
 |cons z r=>
  rw[e] at a;have:z=⟨1,0,false,0⟩:=acu a;rw[this];rfl
theorem Th {p:br} (h:db p):jc p=true:=by
 unfold jc;rw[κ,κ,OK,Sj];refine⟨h.jK,⟨λx a=>(R7 h.ord).2 (h.one x a),h.ord⟩,?_⟩;have:=h.head;cases e:p.ae with
 |nil=>rw[e] at this;cases this
 |cons z r=>
  rw[e] at this;cases this;rfl
theorem db.len {p:br} (h:db p):p.ae.length<=16:=
 Ub (a:=0) h.ord λz b=>by have:=h.one z b;have:=this.i1;have:=(h.one z b).i2;omega
theorem db.pid {p:br} (h:db p) {x:ah} (a:x∈p.ae):1<=x.aa/\x.aa<4194304:=by
 have h1:=h.one x a;have b:=h.u x a;have e:=qK b.1;have c:=h1.i1;have d:=h1.i2;have f:=h1.gen;have g:=h.jK (ix x.aa-1).toNat (by omega);omega
theorem acR {p:br} (h:db p):⟨1,0,false,0⟩∈p.ae:=List.mem_of_mem_head? h.head
theorem Iq {g:Γa} {i j:Nat} {v:Int} (hi:i<g.length):ao (g.set i v) j=if j=i then v else ao g j:=by
 unfold ao;rw[ξC]
 by_cases h:i=j
 ·subst h;simp[hi]
 ·rw[if_neg h,if_neg (λe=>h e.symm)]
theorem xl {p:br} {i:Nat} (h:gK p=some i):i<16/\(∀x∈p.ae,ix x.aa≠(i:Int)+1)/\ao p.aH i<=65535:=by
 have h1:=φ h;have a:=ξl h;simp only[κ,ξu,ξT,decide_eq_true_eq,beq_iff_eq] at a;exact⟨ζ6.1 h1,a.1,a.2⟩
theorem Ij {p:br} (hp:db p) {i:Nat} (h:gK p=some i):0<=cE p i/\cE p i<4194304/\ix (cE p i)=i+1/\cE p i/64=ao p.aH i:=by
 obtain⟨h1,b,c⟩:=xl h;have d:=hp.jK i h1;have a:0<=cE p i:=by unfold cE;omega
 rw[qK a];unfold cE;omega
theorem TG {l l':List ah} {q:Int} (h: ∀x∈l,x.aa=q->x.bb=false-> ∃y∈l',y.aa=q/\y.bb=false):dr l q->dr l' q:=λ⟨x,b,hp,a⟩=>h x b hp a
theorem aiy {p:br} {parent:Int} {q:br} {v:Int} (h:hz p parent= .ok (q,v)): ∃i,b1 p.ae parent=true/\gK p=some i/\v=cE p i/\q=⟨p.aH.set i (ao p.aH i+1),b5 (λy=>decide (ix y.aa<=i+1)) ⟨cE p i,parent,false,0⟩ p.ae⟩:=by
 unfold hz at h;cases h1:b1 p.ae parent with
 |false=>rw[h1] at h;cases h
 |true=>
  rw[h1] at h;cases a:gK p with
  |none=>rw[a] at h;cases h
  |some i=>
   rw[a] at h;cases h;exact⟨i,rfl,rfl,rfl,rfl⟩
theorem aix {p:br} (hp:db p) {parent:Int} {i:Nat} (t:b1 p.ae parent=true) (h:gK p=some i):db ⟨p.aH.set i (ao p.aH i+1),b5 (λy=>decide (ix y.aa<=i+1)) ⟨cE p i,parent,false,0⟩ p.ae⟩:=by
 obtain⟨h1,k,w⟩:=xl h;obtain⟨n0,n1,n2,v⟩:=Ij hp h;have m:=(hy hp.ord).1 t;have l:i<p.aH.length:=by rw[hp.gl];exact h1
 have hm: ∀q,dr p.ae q->dr (b5 (λy=>decide (ix y.aa<=i+1)) ⟨cE p i,parent,false,0⟩ p.ae) q:=λq=>TG λx f e d=>⟨x,kH.2 (.inr f),e,d⟩;refine⟨?_,?_,?_,?_,?_,?_⟩
 ·simp[hp.gl]
 ·intro j o;show 0<=ao (p.aH.set i _) j/\ao (p.aH.set i _) j<=65536;rw[Iq l];have:=hp.jK j o;have:=hp.jK i h1;split<;>omega
 ·intro x f;rcases kH.1 f with rfl|f
  ·exact⟨n0,by show cE p i<_;omega⟩
  ·exact hp.u x f
 ·intro x f;rcases kH.1 f with rfl|f
  ·refine⟨?_,?_,?_,?_,.inr (hm _ m),λe=>(ξM e).elim,λ_=>rfl⟩
   ·show 1<=ix (cE p i);omega
   ·show ix (cE p i)<=16;omega
   ·show cE p i/64+1=ao (p.aH.set i _) (ix (cE p i)-1).toNat;rw[n2,v,show((i:Int)+1-1).toNat=i by omega,Iq l,if_pos rfl]
   ·show parent≠cE p i;intro e;obtain⟨x,f,s,_⟩:=m;apply k x f;rw[s,e,n2]
  ·have g:=hp.one x f;refine⟨g.i1,g.i2,?_,g.self,g.par.imp_right (hm _),g.dead,g.live⟩;show x.aa/64+1=ao (p.aH.set i _) (ix x.aa-1).toNat;rw[Iq l,if_neg,g.gen];intro e;apply k x f;have:=g.i1;omega
 ·refine IW hp.ord (λa b c h1 k=>by omega) (λz n e=>?_) λz n e=>?_
  ·have e:=of_decide_eq_true e;have:=k z n;show ix z.aa<ix (cE p i);omega
  ·have e:=of_decide_eq_false e;show ix (cE p i)<ix z.aa;omega
 ·have:=hp.head;show(b5 _ _ p.ae).head? =_;cases e:p.ae with
  |nil=>rw[e] at this;cases this
  |cons z r=>
   rw[e] at this;cases this;have:ix 1=1:=by rw[qK (by omega)];rfl
   unfold b5;rw[ξ1];have:decide (ix (ah.mk 1 0 false 0).aa<=(i:Int)+1)=true:=decide_eq_true (by show ix 1<=_;omega);simp only[this,if_true];rfl
theorem acG {p:br} {pid code:Int} {q:br} (h:hd p pid code= .ok q):b1 p.ae pid=true/\pid≠1/\q=⟨p.aH,p.ae.filterMap (fp pid code)⟩:=by
 unfold hd at h;cases h1:b1 p.ae pid with
 |false=>rw[h1] at h;cases h
 |true=>
  rw[h1] at h;cases a:pid==1 with
  |true=>rw[a] at h;cases h
  |false=>
   rw[a] at h;cases h;exact⟨rfl,by simpa using a,rfl⟩
theorem uY {pid code:Int} {x y:ah} (h:fp pid code x=some y):y.aa=x.aa/\((x.aa=pid/\x.aP≠0/\y=⟨x.aa,x.aP,true,code⟩)\/(x.aa≠pid/\x.aP=pid/\x.bb=false/\y=⟨x.aa,0,x.bb,x.bV⟩)\/(x.aa≠pid/\x.aP≠pid/\y=x)):=by
 unfold fp at h;cases h1:x.aa==pid with
 |true=>
  rw[h1] at h;cases a:x.aP==0 with
  |true=>rw[a] at h;cases h
  |false=>
   rw[a] at h;cases h;exact⟨rfl,.inl ⟨by simpa using h1,by simpa using a,rfl⟩⟩
 |false=>
  rw[h1] at h;cases a:x.aP==pid with
  |true=>
   rw[a] at h;cases b:x.bb with
   |true=>rw[b] at h;cases h
   |false=>
    rw[b] at h;cases h;exact⟨rfl,.inr (.inl ⟨by simpa using h1,by simpa using a,rfl,rfl⟩)⟩
  |false=>
   rw[a] at h;cases h;exact⟨rfl,.inr (.inr ⟨by simpa using h1,by simpa using a,rfl⟩)⟩
theorem acF {pid code:Int} {x:ah} (h1:x.aa≠pid) (a:x.bb=false): ∃y,fp pid code x=some y/\y.aa=x.aa/\y.bb=false:=by
 unfold fp;rw[show(x.aa==pid)=false by simpa using h1,a];cases x.aP==pid
 ·exact⟨_,rfl,rfl,a⟩
 ·exact⟨_,rfl,rfl,rfl⟩
theorem uZ {l:List ah} {pid code q:Int} (c:q≠pid) (h:dr l q):dr (l.filterMap (fp pid code)) q:=by
 obtain⟨x,d,rfl,a⟩:=h;obtain⟨y,e,hp,b⟩:=acF (code:=code) c a;exact⟨y,ξN.2 ⟨x,d,e⟩,hp,b⟩
theorem acE {p:br} (hp:db p) {pid code:Int} (g:dr p.ae pid) (h1:pid≠1):db ⟨p.aH,p.ae.filterMap (fp pid code)⟩:=by
 refine⟨hp.gl,hp.jK,?_,?_,?_,?_⟩
 ·intro y i;obtain⟨x,f,h⟩:=ξN.1 i;rw[(uY h).1];exact hp.u x f
 ·intro y i;obtain⟨x,f,h⟩:=ξN.1 i;obtain⟨e,h'⟩:=uY h;have c:=hp.one x f;have j:x.aP≠pid->x.aP=0\/dr (p.ae.filterMap (fp pid code)) x.aP:=λhn=>c.par.imp_right λg=>uZ hn g;refine⟨by rw[e];exact c.i1,by rw[e];exact c.i2,by rw[e];exact c.gen,?_,?_,?_,?_⟩
  ·rcases h' with⟨_,_,rfl⟩|⟨_,_,_,rfl⟩|⟨_,_,rfl⟩
   ·exact c.self
   ·have:=(hp.pid f).1;show(0:Int)≠x.aa;omega
   ·exact c.self
  ·rcases h' with⟨k,_,rfl⟩|⟨_,_,_,rfl⟩|⟨_,k,rfl⟩
   ·exact j (λe=>c.self (e.trans k.symm))
   ·exact .inl rfl
   ·exact j k
  ·intro d;rcases h' with⟨_,k,rfl⟩|⟨_,_,k,rfl⟩|⟨_,k,rfl⟩
   ·exact k
   ·rw[show(ah.mk x.aa 0 x.bb x.bV).bb=x.bb from rfl,k] at d;cases d
   ·exact c.dead d
  ·intro d;rcases h' with⟨_,k,rfl⟩|⟨_,_,k,rfl⟩|⟨_,k,rfl⟩
   ·cases d
   ·exact c.live k
   ·exact c.live d
 ·refine hp.ord.filterMap _ λa b n a' m q o=>?_;rw[(uY m).1,(uY o).1];exact n
 ·have:=hp.head;show(p.ae.filterMap (fp pid code)).head? =_;cases e:p.ae with
  |nil=>rw[e] at this;cases this
  |cons z r=>
   rw[e] at this;cases this;have l:(0:Int)≠pid:=by
    obtain⟨x,f,rfl,_⟩:=g;have:=(hp.pid f).1;omega
   rw[ξg];have:fp pid code ⟨1,0,false,0⟩=some ⟨1,0,false,0⟩:=by
    unfold fp;rw[show((ah.mk 1 0 false 0).aa==pid)=false by simpa using λe=>h1 (Eq.symm e),show((ah.mk 1 0 false 0).aP==pid)=false by simpa using l];rfl
   rw[this];rfl
theorem ajI {p:br} (hp:db p) {pid child:Int} {q:br} {v:Int} (h:hB p pid child= .ok (q,v)): ∃x∈p.ae,x.aa=child/\x.aP=pid/\x.bb=true/\v=x.bV/\dr p.ae pid/\q=⟨p.aH,p.ae.filter λy=>!(y.aa==child)⟩:=by
 unfold hB at h;cases h1:b1 p.ae pid with
 |false=>rw[h1] at h;cases h
 |true=>
  rw[h1] at h;cases b:eu p.ae child with
  |none=>rw[b] at h;cases h
  |some x=>
   rw[b] at h;obtain⟨e,d⟩:=(IJ hp.ord).1 b;cases a:x.aP==pid with
   |false=>simp only[a,cond_true,cond_false] at h;cases h
   |true=>
    cases c:x.bb with
    |false=>simp only[a,c,cond_true,cond_false] at h;cases h
    |true=>
     simp only[a,c,cond_true] at h;cases h;exact⟨x,e,d,by simpa using a,c,rfl,(hy hp.ord).1 h1,rfl⟩
theorem Va {p:br} (hp:db p) {x:ah} (c:x∈p.ae) (b:x.bb=true) {q:Int} (h:dr p.ae q):dr (p.ae.filter λy=>!(y.aa==x.aa)) q:=by
 obtain⟨y,a,rfl,hl⟩:=h;refine⟨y,ξ.2 ⟨a,?_⟩,rfl,hl⟩;have:y.aa≠x.aa:=λe=>by
  rw[xS hp.ord a c e,b] at hl;cases hl
 simpa using this
theorem ajH {p:br} (hp:db p) {x:ah} (d:x∈p.ae) (b:x.bb=true):db ⟨p.aH,p.ae.filter λy=>!(y.aa==x.aa)⟩:=by
 refine⟨hp.gl,hp.jK,λy c=>hp.u y (ξ.1 c).1,λy c=>?_,hp.ord.filter _,?_⟩
 ·have a:=hp.one y (ξ.1 c).1;exact⟨a.i1,a.i2,a.gen,a.self,a.par.imp_right λh=>Va hp d b h,a.dead,a.live⟩
 ·have:=hp.head;show(p.ae.filter λy=>!(y.aa==x.aa)).head? =_;cases e:p.ae with
  |nil=>rw[e] at this;cases this
  |cons z r=>
   rw[e] at this;cases this;have h1:(1:Int)≠x.aa:=λh=>by
    have:=xS hp.ord (acR hp) d h;rw[<-this] at b;cases b
   rw[ξ8,show(!((ah.mk 1 0 false 0).aa==x.aa))=true by simpa using h1];rfl
structure eG (l:List ai):Prop where
 is: ∀d∈l,hj d=true
 ord:l.Pairwise λa b=>cF a b=true
 len:l.length<=64
theorem iD {a b:ai}:cF a b=true↔a.aa<b.aa\/a.aa=b.aa/\a.bo<b.bo:=by simp[cF]
theorem Fw (a b c:ai) (h1:cF a b=true) (d:cF b c=true):cF a c=true:=by rw[iD] at*;omega
theorem Te {l:List ai}:l4 l=true↔eG l:=by
 unfold l4;rw[κ,decide_eq_true_eq];have:=q5 (q:=cF) (A:=hj) (l:=l) Fw;constructor
 ·rintro ⟨h1,a⟩;have:=this.1 h1;exact⟨this.1,this.2,a⟩
 ·rintro ⟨h1,a,b⟩;exact⟨this.2 ⟨h1,a⟩,b⟩
theorem abZ {l:List ai} (h:eG l) {a b:ai} (c:a∈l) (d:b∈l) (h1:a.aa=b.aa) (f:a.bo=b.bo):a=b:=by
 rcases IY h.ord c d with e|e|e
 ·exact e
 ·rw[iD] at e;omega
 ·rw[iD] at e;omega
theorem Pa {l:List ai} {pid fd w:Int} (h:cB l pid fd=some w): ∃d∈l,d.aa=pid/\d.bo=fd/\d.b'=w:=by
 unfold cB at h;cases e:l.find? (λd=>d.aa==pid&&d.bo==fd) with
 |none=>rw[e] at h;cases h
 |some d=>
  rw[e] at h;have:=ξl e;simp only[κ,beq_iff_eq] at this;exact⟨d,φ e,this.1,this.2,by simpa using h⟩
theorem adv {l:List ai} {pid fd:Int} (h:cB l pid fd=none): ∀d∈l,¬(d.aa=pid/\d.bo=fd):=by
 unfold cB at h;rw[ξB] at h;intro d a;have:=kv.1 h d a;simpa using this
theorem qZ {l:List ai} {pid aS:Int} {l':List ai} {v:Int} (h:fG l pid aS= .ok (l',v)): ∃i:Nat,gf l pid=some i/\l.length≠64/\v=i/\l'=b5 (λy=>cF y ⟨pid,i,aS⟩) ⟨pid,i,aS⟩ l:=by
 unfold fG at h;cases h1:gf l pid with
 |none=>rw[h1] at h;cases h
 |some i=>
  rw[h1] at h;cases a:l.length==64 with
  |true=>simp only[a,cond_true] at h;cases h
  |false=>
   simp only[a,cond_false] at h;cases h;exact⟨i,rfl,by simpa using a,rfl,rfl⟩
theorem pX {l:List ai} {pid:Int} {i:Nat} (h:gf l pid=some i):i<8/\ ∀d∈l,¬(d.aa=pid/\d.bo=i):=by
 have h1:=φ h;have a:=ξl h;exact⟨ζ6.1 h1,adv (Option.isNone_iff_eq_none.1 a)⟩
theorem ae5 {l:List ai} (h:eG l) {pid aS:Int} {i:Nat} (hp:pid<4294967296) (c:gf l pid=some i) (hl:l.length≠64):eG (b5 (λy=>cF y ⟨pid,i,aS⟩) ⟨pid,i,aS⟩ l):=by
 obtain⟨h1,b⟩:=pX c;refine⟨λd a=>?_,IW h.ord Fw (λ_ _ e=>e) λz f e=>?_,?_⟩
 ·rcases kH.1 a with rfl|a
  ·simp only[hj,κ,decide_eq_true_eq];omega
  ·exact h.is d a
 ·have:=b z f;rw[iD];have e: ¬_:=λk=>ξM (e.symm.trans (iD.2 k));simp only at e ⊢;omega
 ·rw[Rn];have:=h.len;omega
theorem eG.filter {l:List ai} (h:eG l) (p:ai->Bool):eG (l.filter p):=
 ⟨λd a=>h.is d (ξ.1 a).1,h.ord.filter _,ξE (ω _ _) h.len⟩
theorem NZ {l:List ai} {pid fd:Int} {r:List ai×Int} (h:fO l pid fd= .ok r): ∃w,cB l pid fd=some w/\fG l pid w= .ok r:=by
 unfold fO at h;cases e:cB l pid fd with
 |none=>rw[e] at h;cases h
 |some w=>rw[e] at h;exact⟨w,rfl,h⟩
theorem NG {l:List ai} {pid fd:Int} {r:List ai} (h:gy l pid fd= .ok r): ∃w,cB l pid fd=some w/\r=l.filter λd=>!(d.aa==pid&&d.bo==fd):=by
 unfold gy at h;cases e:cB l pid fd with
 |none=>rw[e] at h;cases h
 |some w=>rw[e] at h;cases h;exact⟨w,rfl,rfl⟩
structure eH (m:bz):Prop where
 path: ∀x∈m.ae,cz x.aN/\b2 x.aN=true
 id: ∀x∈m.ae,1<=x.aY/\x.aY<m.ba
 ord:m.ae.Pairwise λa b=>a.aY<b.aY
 new:m.ae.Pairwise λa b=>a.aN≠b.aN
 len:m.ae.length<=16
 n1:1<=m.ba
 n2:m.ba<=1073741825
theorem aa9 {α:Type} {p q:Nat->α->Bool} {l:List α} {i:Nat}:allI (λi z=>p i z&&q i z) i l=true↔allI p i l=true/\allI q i l=true:=by
 simp only[fX,κ];exact⟨λh=>⟨λk z hk=>(h k z hk).1,λk z hk=>(h k z hk).2⟩,λh k z hk=>⟨h.1 k z hk,h.2 k z hk⟩⟩
theorem aet {l:List ay}:allI (λi z=>nJ l i z) 0 l=true↔l.Pairwise λa b=>a.aN≠b.aN:=by
 rw[fX,ξ2];constructor
 ·intro h i j hi c g e;have:=h j l[j] (η c);unfold nJ at this;rw[ξu,ξT,ξ3] at this;apply this l[i] (ξR.2 ⟨i,by omega,rfl⟩);simpa using e
 ·intro h k z hk;obtain⟨d,rfl⟩:=δ.1 hk;unfold nJ;rw[ξu,ξT,ξ3];intro y f e;obtain⟨i,hi,rfl⟩:=ξR.1 f;exact h i k (by omega) d (by omega) (by simpa using e)
theorem Tg {m:bz} (hu: ∀x∈m.ae,cz x.aN):rj b2 m=true↔eH m:=by
 unfold rj xn;rw[κ,κ,κ,aa9,aet,decide_eq_true_eq,decide_eq_true_eq,decide_eq_true_eq];have:=q5 (q:=λy z:ay=>decide (y.aY<z.aY)) (A:=qW b2 m.ba) (l:=m.ae) (λa b c h1 e=>decide_eq_true (by have:=of_decide_eq_true h1;have:=of_decide_eq_true e;omega));simp only[decide_eq_true_eq] at this;rw[this];simp only[qW,κ,decide_eq_true_eq];constructor
 ·rintro ⟨⟨⟨h1,e⟩,f⟩,g,h,i⟩;exact⟨λx d=>⟨hu x d,(h1 x d).1⟩,λx d=>(h1 x d).2,e,f,g,h,i⟩
 ·rintro ⟨h1,e,f,g,h,i,j⟩;exact⟨⟨⟨λx d=>⟨(h1 x d).2,e x d⟩,f⟩,g⟩,h,i,j⟩
theorem RJ {m:bz} (h:eH m) {a b:ay} (c:a∈m.ae) (d:b∈m.ae) (e:a.aN=b.aN):a=b:=by
 rcases IY h.new c d with k|k|k
 ·exact k
 ·exact(k e).elim
 ·exact(k e.symm).elim
theorem nA {m:bz} {w i:Int} (h:cr m w=some i): ∃x∈m.ae,x.aN=w/\x.aY=i:=by
 unfold cr at h;cases e:m.ae.find? (λx=>x.aN==w) with
 |none=>rw[e] at h;cases h
 |some x=>
  rw[e] at h;exact⟨x,φ e,by simpa using ξl e,by simpa using h⟩
theorem Ph {m:bz} {w:Int} (h:cr m w=none): ∀x∈m.ae,x.aN≠w:=by
 unfold cr at h;rw[ξB] at h;intro x a;simpa using kv.1 h x a
theorem aa6 {m:bz} {w:Int} {n:bz} {v:Int} (h:gu m w= .ok (n,v)):b2 w=true/\cr m w=none/\m.ae.length≠16/\m.ba<=1073741824/\v=m.ba/\n=⟨m.ae++[⟨w,m.ba⟩],m.ba+1⟩:=by
 unfold gu at h;cases h1:b2 w with
 |false=>rw[h1] at h;cases h
 |true=>
  rw[h1] at h;cases b:cr m w with
  |some _=>rw[b] at h;cases h
  |none=>
   rw[b] at h;cases a:(m.ae.length==16||decide (m.ba>1073741824)) with
   |true=>simp only[a,cond_true] at h;cases h
   |false=>
    simp only[a,cond_true,cond_false] at h;cases h;simp only[Bool.or_eq_false_iff,beq_eq_false_iff_ne,decide_eq_false_iff_not] at a;exact⟨rfl,rfl,a.1,by omega,rfl,rfl⟩
theorem aa4 {m:bz} (h:eH m) {w:Int} (hu:cz w) (hw:b2 w=true) (hi:cr m w=none) (hl:m.ae.length≠16) (hn:m.ba<=1073741824):eH ⟨m.ae++[⟨w,m.ba⟩],m.ba+1⟩:=by
 refine⟨λx c=>?_,λx c=>?_,?_,?_,?_,?_,?_⟩
 ·rcases ξf.1 c with c|c
  ·exact h.path x c
  ·cases ξq.1 c;exact⟨hu,hw⟩
 ·rcases ξf.1 c with c|c
  ·have:=h.id x c;show 1<=x.aY/\x.aY<m.ba+1;omega
  ·cases ξq.1 c;have:=h.n1;show 1<=m.ba/\m.ba<m.ba+1;omega
 ·refine ξe.2 ⟨h.ord,ξx _ _,λa d b e=>?_⟩;cases ξq.1 e;exact(h.id a d).2
 ·refine ξe.2 ⟨h.new,ξx _ _,λa d b e=>?_⟩;cases ξq.1 e;exact Ph hi a d
 ·have:=h.len;show(m.ae++_).length<=16;rw[υ,ξ0];omega
 ·have:=h.n1;show 1<=m.ba+1;omega
 ·show m.ba+1<=_;omega
theorem ajg {m:bz} {w:Int} {n:bz} (h:hA m w= .ok n):b2 w=true/\(∃i,cr m w=some i)/\hL m w=false/\n=⟨m.ae.filter λx=>!(x.aN==w),m.ba⟩:=by
 unfold hA at h;cases h1:b2 w with
 |false=>rw[h1] at h;cases h
 |true=>
  rw[h1] at h;cases a:cr m w with
  |none=>rw[a] at h;cases h
  |some i=>
   rw[a] at h;cases b:hL m w with
   |true=>simp only[b,cond_true] at h;cases h
   |false=>
    simp only[b,cond_true,cond_false] at h;cases h;exact⟨rfl,⟨i,rfl⟩,rfl,rfl⟩
theorem eH.filter {m:bz} (h:eH m) (p:ay->Bool):eH ⟨m.ae.filter p,m.ba⟩:=
 ⟨λx a=>h.path x (ξ.1 a).1,λx a=>h.id x (ξ.1 a).1,h.ord.filter _,h.new.filter _,ξE (ω _ _) h.len,h.n1,h.n2⟩
theorem aeN {m:bz} {w i:Int} (h:im m w= .ok i):b2 w=true/\cr m w=some i:=by
 unfold im at h;cases h1:b2 w with
 |false=>rw[h1] at h;cases h
 |true=>
  rw[h1] at h;cases a:cr m w with
  |none=>rw[a] at h;cases h
  |some j=>rw[a] at h;cases h;exact⟨rfl,rfl⟩
theorem ahG {m:bz} {w i:Int} (h:fx m w= .ok i): ∃x∈m.ae,x.aY=i:=by
 unfold fx at h;cases h1:b2 w with
 |false=>rw[h1] at h;cases h
 |true=>
  rw[h1] at h;cases a:jl m w with
  |none=>rw[a] at h;cases h
  |some j=>
   rw[a] at h;cases h;obtain⟨u,_,a⟩:=ξk a;obtain⟨x,b,_,e⟩:=nA a;exact⟨x,b,e⟩
structure ek (s:aL):Prop where
 name: ∀z∈s.ak,cz z.aW/\dv z.aW=true/\dI z.aa=true
 ja:s.ak.Pairwise λa b=>a.aW<b.aW
 len:s.ak.length<=16
 box: ∀b∈s.an,dI b.aa=true/\1<=b.bj.length/\b.bj.length<=4
 kN:s.an.Pairwise λa b=>a.aa<b.aa
theorem Rw {α:Type} {f:α->Int} (a b c:α) (h1:decide (f a<f b)=true) (d:decide (f b<f c)=true):decide (f a<f c)=true:=decide_eq_true (by have:=of_decide_eq_true h1;have:=of_decide_eq_true d;omega)
theorem Tf {s:aL} (hu: ∀z∈s.ak,cz z.aW):l5 s=true↔ek s:=by
 unfold l5 nI mR;rw[κ,κ,decide_eq_true_eq];have h1:=q5 (q:=λy z:au=>decide (y.aW<z.aW)) (A:=nP) (l:=s.ak) Rw;have c:=q5 (q:=λy z:ar=>decide (y.aa<z.aa)) (A:=okB) (l:=s.an) Rw;simp only[decide_eq_true_eq] at h1 c;rw[h1,c];simp only[nP,okB,κ,decide_eq_true_eq];constructor
 ·rintro ⟨⟨b,a2⟩,⟨a3,a4⟩,a5⟩;exact⟨λz a=>⟨hu z a,b z a⟩,a2,a5,a3,a4⟩
 ·rintro ⟨b,a2,a3,a4,a5⟩;exact⟨⟨λz a=>(b z a).2,a2⟩,⟨a4,a5⟩,a3⟩
theorem Ru {l:List au} {n:Int} (h:er l n=none): ∀z∈l,z.aW≠n:=by
 unfold er at h;rw[ξB] at h;intro z a;simpa using kv.1 h z a
theorem ahA {s:aL} {n pid:Int} {r:aL} (h:gQ s n pid= .ok r):dv n=true/\dI pid=true/\er s.ak n=none/\s.ak.length≠16/\r=⟨b5 (λy=>decide (y.aW<n)) ⟨n,pid⟩ s.ak,s.an⟩:=by
 unfold gQ at h;cases h1:dv n with
 |false=>rw[h1] at h;cases h
 |true=>
  cases b:dI pid with
  |false=>rw[h1,b] at h;cases h
  |true=>
   rw[h1,b] at h;cases c:er s.ak n with
   |some _=>rw[c] at h;cases h
   |none=>
    rw[c] at h;cases a:s.ak.length==16 with
    |true=>simp only[a,cond_true] at h;cases h
    |false=>
     simp only[a,cond_true,cond_false] at h;cases h;exact⟨rfl,rfl,rfl,by simpa using a,rfl⟩
theorem ahz {s:aL} (h:ek s) {n pid:Int} (hu:cz n) (h1:dv n=true) (f:dI pid=true) (g:er s.ak n=none) (i:s.ak.length≠16):ek ⟨b5 (λy=>decide (y.aW<n)) ⟨n,pid⟩ s.ak,s.an⟩:=by
 refine⟨λz d=>?_,IW h.ja (λa b c h1 f=>by omega) (λz d e=>of_decide_eq_true e) λz d e=>?_,?_,h.box,h.kN⟩
 ·rcases kH.1 d with rfl|d
  ·exact⟨hu,h1,f⟩
  ·exact h.name z d
 ·have:=Ru g z d;have e:=of_decide_eq_false e;show n<z.aW;omega
 ·show(b5 _ _ _).length<=16;rw[Rn];have:=h.len;omega
theorem qP {s:aL} {n p:Int} (h:fP s n= .ok p):dv n=true/\er s.ak n=some p:=by
 unfold fP at h;cases h1:dv n with
 |false=>rw[h1] at h;cases h
 |true=>
  rw[h1] at h;cases a:er s.ak n with
  |none=>rw[a] at h;cases h
  |some q=>rw[a] at h;cases h;exact⟨rfl,rfl⟩
theorem ajj {s:aL} (h:ek s) (n:Int):ek (mc s n):=
 ⟨λz a=>h.name z (ξ.1 a).1,h.ja.filter _,ξE (ω _ _) h.len,h.box,h.kN⟩
theorem yM {s:aL} {pid:Int} {ws:Γa} {b:ar}:b∈(fi s pid ws).an↔(b∈s.an/\b.aa≠pid)\/(ws≠[]/\b=⟨pid,ws⟩):=by
 unfold fi;simp only[ξf,ξ,decide_eq_true_eq];have h:b∈(if ws=[] then[] else[ar.mk pid ws])↔ws≠[]/\b=⟨pid,ws⟩:=by
  split
  ·rename_i e;simp[e]
  ·rename_i e;simp[e]
 rw[h];constructor
 ·rintro (⟨h1,a⟩|h|⟨h1,a⟩)
  ·exact .inl ⟨h1,by omega⟩
  ·exact .inr h
  ·exact .inl ⟨h1,by omega⟩
 ·rintro (⟨h1,a⟩|h)
  ·rcases Int.lt_or_gt_of_ne a with k|k
   ·exact .inl ⟨h1,k⟩
   ·exact .inr (.inr ⟨h1,k⟩)
  ·exact .inr (.inl h)
theorem ajQ {s:aL} (h:s.an.Pairwise λa b=>a.aa<b.aa) {pid:Int} {ws:Γa}:(fi s pid ws).an.Pairwise λa b=>a.aa<b.aa:=by
 have e:(if ws=[] then[] else[ar.mk pid ws]).Pairwise λa b=>a.aa<b.aa:=by
  split
  ·exact .nil
  ·exact ξx _ _
 have hm: ∀b∈(if ws=[] then[] else[ar.mk pid ws]),b.aa=pid:=by
  intro b c;split at c
  ·cases c
  ·cases ξq.1 c;rfl
 refine ξe.2 ⟨h.filter _,ξe.2 ⟨e,h.filter _,λa d b c=>?_⟩,λa d b c=>?_⟩
 ·have:=of_decide_eq_true (ξ.1 c).2;rw[hm a d];exact this
 ·have d:=of_decide_eq_true (ξ.1 d).2;rcases ξf.1 c with c|c
  ·rw[hm b c];exact d
  ·have:=of_decide_eq_true (ξ.1 c).2;omega
theorem Kk {s:aL} (h:ek s) {pid:Int} {ws:Γa} (hp:dI pid=true) (hl:ws.length<=4):ek (fi s pid ws):=by
 refine⟨h.name,h.ja,h.len,λb a=>?_,ajQ h.kN⟩;rcases yM.1 a with⟨a,_⟩|⟨hn,rfl⟩
 ·exact h.box b a
 ·refine⟨hp,?_,hl⟩;cases ws with
  |nil=>exact(hn rfl).elim
  |cons _ _=>exact Nat.succ_le_succ (ζ9 _)
theorem rD {s:aL} (h:ek s) (pid:Int):(cM s pid).length<=4:=by
 unfold cM;cases e:s.an.find? (λb=>b.aa==pid) with
 |none=>exact ζ9 _
 |some b=>exact(h.box b (φ e)).2.2
theorem aip {s:aL} {pid w:Int} {r:aL} (h:j0 s pid w= .ok r):(cM s pid).length≠4/\r=fi s pid (cM s pid++[w]):=by
 unfold j0 at h;cases h1:(cM s pid).length==4 with
 |true=>rw[h1] at h;cases h
 |false=>rw[h1] at h;cases h;exact⟨by simpa using h1,rfl⟩
theorem ahx {s:aL} {pid v:Int} {r:aL} (h:jS s pid= .ok (r,v)): ∃ws,cM s pid=v::ws/\r=fi s pid ws:=by
 unfold jS at h;cases h1:cM s pid with
 |nil=>rw[h1] at h;cases h
 |cons w ws=>rw[h1] at h;cases h;exact⟨ws,rfl,rfl⟩
structure dn (s:aZ):Prop where
 p:db s.ax
 d:eG s.aI
 m:eH s.aC
 i:ek s.aw
 aS: ∀d∈s.aI,dr s.ax.ae d.aa/\ ∃x∈s.aC.ae,x.aY=d.b'
 names: ∀n∈s.aw.ak,dr s.ax.ae n.aa
 boxes: ∀b∈s.aw.an,dr s.ax.ae b.aa
def FF (s:aZ):Bool:=jc s.ax&&(l4 s.aI&&(rj b2 s.aC&&(l5 s.aw&&rh s)))
structure Fo (s:aZ):Prop where
 gl:s.ax.aH.length=16
 pid: ∀z∈s.ax.ae,cz z.aa
 path: ∀z∈s.aC.ae,cz z.aN
 name: ∀z∈s.aw.ak,cz z.aW
theorem adT {s:aZ} (h:dn s):Fo s:=⟨h.p.gl,h.p.u,λz a=>(h.m.path z a).1,λz a=>(h.i.name z a).1⟩
theorem Tc {s:aZ} (h:s.ax.ae.Pairwise λa b=>ix a.aa<ix b.aa):rh s=true↔(∀d∈s.aI,dr s.ax.ae d.aa/\ ∃x∈s.aC.ae,x.aY=d.b')/\(∀n∈s.aw.ak,dr s.ax.ae n.aa)/\ ∀b∈s.aw.an,dr s.ax.ae b.aa:=by
 unfold rh;simp only[κ,ξ4,ξp,hy h,beq_iff_eq]
theorem ND {s:aZ} (h:Fo s):FF s=true↔dn s:=by
 unfold FF;rw[κ,κ,κ,κ,Te,Tg h.path,Tf h.name];constructor
 ·rintro ⟨h1,b,c,e,a⟩;have h1:=adS h.gl h.pid h1;obtain⟨a,f,g⟩:=(Tc h1.ord).1 a;exact⟨h1,b,c,e,a,f,g⟩
 ·intro h;exact⟨Th h.p,h.d,h.m,h.i,(Tc h.p.ord).2 ⟨h.aS,h.names,h.boxes⟩⟩
theorem je {p:br} (h:db p) {q:Int} (a:dr p.ae q):dI q=true/\q<4294967296/\1<=q:=by
 obtain⟨x,b,rfl,_⟩:=a;have:=h.pid b;unfold dI;simp only[κ,decide_eq_true_eq];omega
inductive Step (s:aZ) (p a b:Int):Int->aZ->Int->Prop
 |spawn (i:Nat):b1 s.ax.ae p=true->gK s.ax=some i->Step s p a b 1 ⟨⟨s.ax.aH.set i (ao s.ax.aH i+1),b5 (λy=>decide (ix y.aa<=i+1)) ⟨cE s.ax i,p,false,0⟩ s.ax.ae⟩,s.aI,s.aC,s.aw⟩ (cE s.ax i)
 |exit:dr s.ax.ae p->p≠1->(∀n∈s.aw.ak,n.aa≠p)->Step s p a b 2 ⟨⟨s.ax.aH,s.ax.ae.filterMap (fp p a)⟩,kp s.aI p,s.aC,fi s.aw p []⟩ 0
 |wait (x:ah):x∈s.ax.ae->x.aa=a->x.aP=p->x.bb=true->Step s p a b 3 ⟨⟨s.ax.aH,s.ax.ae.filter λy=>!(y.aa==x.aa)⟩,s.aI,s.aC,s.aw⟩ x.bV
 |bl (x:ay) (i:Nat):fx s.aC a= .ok x.aY->x∈s.aC.ae->gf s.aI p=some i->s.aI.length≠64->Step s p a b 4 ⟨s.ax,b5 (λy=>cF y ⟨p,i,x.aY⟩) ⟨p,i,x.aY⟩ s.aI,s.aC,s.aw⟩ i
 |close (w:Int):cB s.aI p a=some w->Step s p a b 5 ⟨s.ax,s.aI.filter λd=>!(d.aa==p&&d.bo==a),s.aC,s.aw⟩ 0
 |dup (w:Int) (i:Nat):cB s.aI p a=some w->gf s.aI p=some i->s.aI.length≠64->Step s p a b 6 ⟨s.ax,b5 (λy=>cF y ⟨p,i,w⟩) ⟨p,i,w⟩ s.aI,s.aC,s.aw⟩ i
 |RI:b2 a=true->cr s.aC a=none->s.aC.ae.length≠16->s.aC.ba<=1073741824->Step s p a b 7 ⟨s.ax,s.aI,⟨s.aC.ae++[⟨a,s.aC.ba⟩],s.aC.ba+1⟩,s.aw⟩ s.aC.ba
 |UM (x:ay):x∈s.aC.ae->x.aN=a->(∀d∈s.aI,d.b'≠x.aY)->hL s.aC a=false->Step s p a b 8 ⟨s.ax,s.aI,⟨s.aC.ae.filter λx=>!(x.aN==a),s.aC.ba⟩,s.aw⟩ 0
 |resolve (i:Int):fx s.aC a= .ok i->Step s p a b 9 s i
 |register:dv a=true->dI p=true->er s.aw.ak a=none->s.aw.ak.length≠16->Step s p a b 10 ⟨s.ax,s.aI,s.aC,⟨b5 (λy=>decide (y.aW<a)) ⟨a,p⟩ s.aw.ak,s.aw.an⟩⟩ 0
 |unregister:dv a=true->er s.aw.ak a=some p->Step s p a b 11 ⟨s.ax,s.aI,s.aC,mc s.aw a⟩ 0
 |lookup (q:Int):dv a=true->er s.aw.ak a=some q->Step s p a b 12 s q
 |send:dr s.ax.ae a->(cM s.aw a).length≠4->Step s p a b 13 ⟨s.ax,s.aI,s.aC,fi s.aw a (cM s.aw a++[b])⟩ 0
 |SZ (v:Int) (ws:Γa):cM s.aw p=v::ws->Step s p a b 14 ⟨s.ax,s.aI,s.aC,fi s.aw p ws⟩ v
theorem ad3 {s:aZ} (h:dn s) {k p a b:Int} (k0:1<=k/\k<=14) {n:aZ} {v:Int} (hk:fb s k p a b= .ok (n,v)):Step s p a b k n v:=by
 unfold fb at hk
 by_cases B:k=1
 ·rw[if_pos B] at hk;subst B;cases e:hz s.ax p with
  |error _=>rw[e] at hk;cases hk
  |ok r=>
   obtain⟨q,w⟩:=r;rw[e] at hk;cases hk;obtain⟨i,h1,c,rfl,rfl⟩:=aiy e;exact .spawn i h1 c
 rw[if_neg B] at hk
 by_cases G:k=2
 ·rw[if_pos G] at hk;subst G;cases e:hd s.ax p a with
  |error _=>rw[e] at hk;cases hk
  |ok q=>
   rw[e] at hk;obtain⟨h1,c,rfl⟩:=acG e
   by_cases y:hh s.aw p=[]
   ·simp only[y,if_true] at hk;cases hk;refine .exit ((hy h.p.ord).1 h1) c λn hn e=>?_;have:n.aW∈hh s.aw p:=ζ0.2 ⟨n,ξ.2 ⟨hn,by simpa using e⟩,rfl⟩;rw[y] at this;cases this
   ·simp only[y,if_false] at hk;cases hk
 rw[if_neg G] at hk
 by_cases H:k=3
 ·rw[if_pos H] at hk;subst H;cases e:hB s.ax p a with
  |error _=>rw[e] at hk;cases hk
  |ok r=>
   obtain⟨q,w⟩:=r;rw[e] at hk;cases hk;obtain⟨x,A,rfl,h1,u,rfl,_,rfl⟩:=ajI h.p e;exact .wait x A rfl h1 u
 rw[if_neg H] at hk
 by_cases I:k=4
 ·rw[if_pos I] at hk;subst I;cases e:fx s.aC a with
  |error _=>rw[e] at hk;cases hk
  |ok i=>
   rw[e] at hk;cases f:fG s.aI p i with
   |error _=>simp only[f] at hk;cases hk
   |ok r=>
    obtain⟨l,w⟩:=r;simp only[f] at hk;cases hk;obtain⟨x,A,rfl⟩:=ahG e;obtain⟨j,h1,c,rfl,rfl⟩:=qZ f;exact .bl x j e A h1 c
 rw[if_neg I] at hk
 by_cases J:k=5
 ·rw[if_pos J] at hk;subst J;cases e:gy s.aI p a with
  |error _=>rw[e] at hk;cases hk
  |ok l=>
   rw[e] at hk;cases hk;obtain⟨w,hw,rfl⟩:=NG e;exact .close w hw
 rw[if_neg J] at hk
 by_cases K:k=6
 ·rw[if_pos K] at hk;subst K;cases e:fO s.aI p a with
  |error _=>rw[e] at hk;cases hk
  |ok r=>
   obtain⟨l,w⟩:=r;rw[e] at hk;cases hk;obtain⟨aS,h1,c⟩:=NZ e;obtain⟨j,g,o,rfl,rfl⟩:=qZ c;exact .dup aS j h1 g o
 rw[if_neg K] at hk
 by_cases L:k=7
 ·rw[if_pos L] at hk;subst L;cases e:gu s.aC a with
  |error _=>rw[e] at hk;cases hk
  |ok r=>
   obtain⟨m,w⟩:=r;rw[e] at hk;cases hk;obtain⟨h1,c,g,o,rfl,rfl⟩:=aa6 e;exact .RI h1 c g o
 rw[if_neg L] at hk
 by_cases M:k=8
 ·rw[if_pos M] at hk;subst M;cases e:im s.aC a with
  |error _=>rw[e] at hk;cases hk
  |ok i=>
   rw[e] at hk
   by_cases t:hb s.aI i=0
   ·simp only[t,if_true] at hk;cases f:hA s.aC a with
    |error _=>simp only[f] at hk;cases hk
    |ok m=>
     simp only[f] at hk;cases hk;obtain⟨h1,_,c,rfl⟩:=ajg f;obtain⟨x0,Q,P,rfl⟩:=nA (aeN e).2;refine .UM x0 Q P (λd u hw=>?_) c;have:d∈s.aI.filter λd=>d.b'==x0.aY:=ξ.2 ⟨u,by simpa using hw⟩;rw[List.eq_nil_of_length_eq_zero t] at this;cases this
   ·simp only[t,if_false] at hk;cases hk
 rw[if_neg M] at hk
 by_cases N:k=9
 ·rw[if_pos N] at hk;subst N;cases e:fx s.aC a with
  |error _=>rw[e] at hk;cases hk
  |ok i=>rw[e] at hk;cases hk;exact .resolve _ e
 rw[if_neg N] at hk
 by_cases C:k=10
 ·rw[if_pos C] at hk;subst C;cases e:gQ s.aw a p with
  |error _=>rw[e] at hk;cases hk
  |ok r=>
   rw[e] at hk;cases hk;obtain⟨h1,c,g,o,rfl⟩:=ahA e;exact .register h1 c g o
 rw[if_neg C] at hk
 by_cases D:k=11
 ·rw[if_pos D] at hk;subst D;cases e:fP s.aw a with
  |error _=>rw[e] at hk;cases hk
  |ok q=>
   rw[e] at hk
   by_cases O:q=p
   ·subst O;simp only[if_true] at hk;cases hk;exact .unregister (qP e).1 (qP e).2
   ·simp only[O,if_false] at hk;cases hk
 rw[if_neg D] at hk
 by_cases E:k=12
 ·rw[if_pos E] at hk;subst E;cases e:fP s.aw a with
  |error _=>rw[e] at hk;cases hk
  |ok i=>rw[e] at hk;cases hk;exact .lookup _ (qP e).1 (qP e).2
 rw[if_neg E] at hk
 by_cases F:k=13
 ·rw[if_pos F] at hk;subst F;cases z:b1 s.ax.ae a with
  |false=>rw[z] at hk;cases hk
  |true=>
   rw[z] at hk;cases e:j0 s.aw a b with
   |error _=>rw[e] at hk;cases hk
   |ok r=>
    rw[e] at hk;cases hk;obtain⟨h1,rfl⟩:=aip e;exact .send ((hy h.p.ord).1 z) h1
 rw[if_neg F] at hk;obtain rfl:k=14:=by omega
 cases e:jS s.aw p with
 |error _=>rw[e] at hk;cases hk
 |ok r=>
  obtain⟨r,w⟩:=r;rw[e] at hk;cases hk;obtain⟨ws,h1,rfl⟩:=ahx e;exact .SZ _ ws h1
theorem Se {s:aZ} (h:dn s) {p aS:Int} {i:Nat} (b:dr s.ax.ae p) (hw: ∃x∈s.aC.ae,x.aY=aS) (h1:gf s.aI p=some i) (c:s.aI.length≠64):dn ⟨s.ax,b5 (λy=>cF y ⟨p,i,aS⟩) ⟨p,i,aS⟩ s.aI,s.aC,s.aw⟩:=by
 refine⟨h.p,ae5 h.d (je h.p b).2.1 h1 c,h.m,h.i,λd a=>?_,h.names,h.boxes⟩;rcases kH.1 a with rfl|a
 ·exact⟨b,hw⟩
 ·exact h.aS d a
theorem aiA {s:aZ} (h:dn s) {k p a b:Int} (hu:cz a) (q:k≠9->k≠12->dr s.ax.ae p) {n:aZ} {v:Int} (hk:Step s p a b k n v):dn n:=by
 cases hk with
 |spawn i h1 g=>
  have hm: ∀ {y},dr s.ax.ae y->dr (b5 (λy=>decide (ix y.aa<=i+1)) ⟨cE s.ax i,p,false,0⟩ s.ax.ae) y:=λ{y}=>TG λx j e d=>⟨x,kH.2 (.inr j),e,d⟩;exact⟨aix h.p h1 g,h.d,h.m,h.i,λd c=>(h.aS d c).imp_left hm,λn hn=>hm (h.names n hn),λb f=>hm (h.boxes b f)⟩
 |exit l g A=>
  refine⟨acE h.p l g,h.d.filter _,h.m,Kk h.i (je h.p l).1 (ζ9 _),λd c=>?_,λn hn=>uZ (A n hn) (h.names n hn),λb f=>?_⟩
  ·obtain⟨c,o⟩:=ξ.1 c;have o:d.aa≠p:=by simpa using o
   exact(h.aS d c).imp_left (uZ o)
  ·rcases yM.1 f with⟨f,o⟩|⟨hn,_⟩
   ·exact uZ o (h.boxes b f)
   ·exact(hn rfl).elim
 |wait x j _ _ c=>
  have hm: ∀ {y},dr s.ax.ae y->dr (s.ax.ae.filter λy=>!(y.aa==x.aa)) y:=λ{y}=>Va h.p j c;exact⟨ajH h.p j c,h.d,h.m,h.i,λd c=>(h.aS d c).imp_left hm,λn hn=>hm (h.names n hn),λb f=>hm (h.boxes b f)⟩
 |bl x i u j h1 g=>exact Se h (q (by omega) (by omega)) ⟨x,j,rfl⟩ h1 g
 |close=>exact⟨h.p,h.d.filter _,h.m,h.i,λd c=>h.aS d (ξ.1 c).1,h.names,h.boxes⟩
 |dup w i u h1 g=>
  obtain⟨d,c,_,_,rfl⟩:=Pa u;exact Se h (q (by omega) (by omega)) (h.aS d c).2 h1 g
 |RI h1 g r t=>exact⟨h.p,h.d,aa4 h.m hu h1 g r t,h.i,λd c=>⟨(h.aS d c).1,(h.aS d c).2.imp λx j=>⟨List.mem_append_left _ j.1,j.2⟩⟩,h.names,h.boxes⟩
 |UM x0 C B z g=>
  refine⟨h.p,h.d,h.m.filter _,h.i,λd c=>⟨(h.aS d c).1,?_⟩,h.names,h.boxes⟩;obtain⟨x,j,hw⟩:=(h.aS d c).2;refine⟨x,ξ.2 ⟨j,?_⟩,hw⟩;have o:x.aN≠a:=λe=>by
   have:=RJ h.m j C (e.trans B.symm);subst this;exact z d c hw.symm
  simpa using o
 |resolve=>exact h
 |register h1 g r t=>
  refine⟨h.p,h.d,h.m,ahz h.i hu h1 g r t,h.aS,λn hn=>?_,h.boxes⟩;rcases kH.1 hn with rfl|hn
  ·exact q (by omega) (by omega)
  ·exact h.names n hn
 |unregister=>exact⟨h.p,h.d,h.m,ajj h.i a,h.aS,λn hn=>h.names n (ξ.1 hn).1,h.boxes⟩
 |lookup=>exact h
 |send l h1=>
  have:=rD h.i a;refine⟨h.p,h.d,h.m,Kk h.i (je h.p l).1 (by rw[υ,ξ0];omega),h.aS,h.names,λb f=>?_⟩;rcases yM.1 f with⟨f,_⟩|⟨_,rfl⟩
  ·exact h.boxes b f
  ·exact l
 |SZ v ws h1=>
  have l:=q (by omega) (by omega);have:=rD h.i p;rw[h1,ξd] at this;refine⟨h.p,h.d,h.m,Kk h.i (je h.p l).1 (by omega),h.aS,h.names,λb f=>?_⟩;rcases yM.1 f with⟨f,_⟩|⟨_,rfl⟩
  ·exact h.boxes b f
  ·exact l
theorem abq {s:aZ} (h:dn s) {c:b3} {n:aZ} {v:Int} (hk:kj s c= .ok (n,v)):Step s (ao c.fArgs 0) (ao c.fArgs 1) (ao c.fArgs 2) c.aQ n v/\(c.aQ≠9->c.aQ≠12->dr s.ax.ae (ao c.fArgs 0)):=by
 unfold kj at hk;split at hk
 ·rename_i k0;cases e:hv c||b1 s.ax.ae (ao c.fArgs 0) with
  |false=>rw[e] at hk;cases hk
  |true=>
   rw[e] at hk;refine⟨ad3 h k0 hk,λa b=>?_⟩;rw[<-hy h.p.ord];simpa[hv,a,b] using e
 ·cases hk
def fm:Γa:=[2,4,5,6,310,321,322,323,324,341,351,361,362]
theorem F5 {e:Int} (h:e∈fm):e≠0:=by
 intro a;subst a
 revert h
 decide
theorem gC {e:Int} (h:e∈fm):(e==0)=false:=by simpa using F5 h
theorem Ud {x:br} {y e:Int} (h:hz x y= .error e):e∈fm:=by
 unfold hz at h;cases h1:b1 x.ae y with
 |false=>rw[h1] at h;cases h;decide
 |true=>
  rw[h1] at h;cases a:gK x<;>(rw[a] at h;cases h);decide
theorem F' {x:br} {y z e:Int} (h:hd x y z= .error e):e∈fm:=by
 unfold hd at h;cases h1:b1 x.ae y with
 |false=>rw[h1] at h;cases h;decide
 |true=>
  rw[h1] at h;cases a:y==1<;>(rw[a] at h;cases h);decide
theorem U' {x:br} {y z e:Int} (h:hB x y z= .error e):e∈fm:=by
 unfold hB at h;cases h1:b1 x.ae y with
 |false=>rw[h1] at h;cases h;decide
 |true=>
  rw[h1] at h;cases a:eu x.ae z with
  |none=>rw[a] at h;cases h;decide
  |some u=>
   rw[a] at h;cases b:u.aP==y with
   |false=>simp only[b,cond_true,cond_false] at h;cases h;decide
   |true=>cases c:u.bb<;>(simp only[b,c,cond_true,cond_false] at h;cases h);decide
theorem IL {x:List ai} {y z e:Int} (h:fG x y z= .error e):e∈fm:=by
 unfold fG at h;cases h1:gf x y with
 |none=>rw[h1] at h;cases h;decide
 |some i=>
  rw[h1] at h;cases a:x.length==64<;>(simp only[a,cond_true,cond_false] at h;cases h);decide
theorem abA {x:List ai} {y z e:Int} (h:gy x y z= .error e):e∈fm:=by
 unfold gy at h;cases e:cB x y z<;>(rw[e] at h;cases h);decide
theorem NY {x:List ai} {y z e:Int} (h:fO x y z= .error e):e∈fm:=by
 unfold fO at h;cases e:cB x y z with
 |none=>rw[e] at h;cases h;decide
 |some w=>rw[e] at h;exact IL h
theorem ye {x:bz} {y e:Int} (h:fx x y= .error e):e∈fm:=by
 unfold fx at h;cases h1:b2 y with
 |false=>rw[h1] at h;cases h;decide
 |true=>
  rw[h1] at h;cases a:jl x y<;>(rw[a] at h;cases h);decide
theorem RY {x:bz} {y e:Int} (h:im x y= .error e):e∈fm:=by
 unfold im at h;cases h1:b2 y with
 |false=>rw[h1] at h;cases h;decide
 |true=>
  rw[h1] at h;cases a:cr x y<;>(rw[a] at h;cases h);decide
theorem Nd {x:bz} {y e:Int} (h:gu x y= .error e):e∈fm:=by
 unfold gu at h;cases h1:b2 y with
 |false=>rw[h1] at h;cases h;decide
 |true=>
  rw[h1] at h;cases a:cr x y with
  |some _=>rw[a] at h;cases h;decide
  |none=>
   rw[a] at h;cases b:(x.ae.length==16||decide (x.ba>1073741824))<;>(simp only[b,cond_true,cond_false] at h;cases h);decide
theorem UN {x:bz} {y e:Int} (h:hA x y= .error e):e∈fm:=by
 unfold hA at h;cases h1:b2 y with
 |false=>rw[h1] at h;cases h;decide
 |true=>
  rw[h1] at h;cases a:cr x y with
  |none=>rw[a] at h;cases h;decide
  |some i=>
   rw[a] at h;cases b:hL x y<;>(simp only[b,cond_true,cond_false] at h;cases h);decide
theorem xo {x:aL} {y e:Int} (h:fP x y= .error e):e∈fm:=by
 unfold fP at h;cases h1:dv y with
 |false=>rw[h1] at h;cases h;decide
 |true=>
  rw[h1] at h;cases a:er x.ak y<;>(rw[a] at h;cases h);decide
theorem S1 {x:aL} {y z e:Int} (h:gQ x y z= .error e):e∈fm:=by
 unfold gQ at h;cases h1:dv y with
 |false=>rw[h1] at h;cases h;decide
 |true=>
  cases a:dI z with
  |false=>rw[h1,a] at h;cases h;decide
  |true=>
   rw[h1,a] at h;cases b:er x.ak y with
   |some _=>rw[b] at h;cases h;decide
   |none=>
    rw[b] at h;cases c:x.ak.length==16<;>(simp only[c,cond_true,cond_false] at h;cases h);decide
theorem aio {x:aL} {y z e:Int} (h:j0 x y z= .error e):e∈fm:=by
 unfold j0 at h;cases e:(cM x y).length==4<;>(rw[e] at h;cases h);decide
theorem ahw {x:aL} {y e:Int} (h:jS x y= .error e):e∈fm:=by
 unfold jS at h;cases e:cM x y<;>(rw[e] at h;cases h);decide
theorem PE {s:aZ} {k p a b e:Int} (hk:fb s k p a b= .error e):e∈fm:=by
 unfold fb at hk
 by_cases j:k=1
 ·rw[if_pos j] at hk;cases e:hz s.ax p with
  |error _=>rw[e] at hk;cases hk;exact Ud e
  |ok r=>rw[e] at hk;cases hk
 rw[if_neg j] at hk
 by_cases u:k=2
 ·rw[if_pos u] at hk;cases e:hd s.ax p a with
  |error _=>rw[e] at hk;cases hk;exact F' e
  |ok r=>
   rw[e] at hk
   by_cases f:hh s.aw p=[]
   ·simp only[f,if_true] at hk;cases hk
   ·simp only[f,if_false] at hk;cases hk;decide
 rw[if_neg u] at hk
 by_cases v:k=3
 ·rw[if_pos v] at hk;cases e:hB s.ax p a with
  |error _=>rw[e] at hk;cases hk;exact U' e
  |ok r=>rw[e] at hk;cases hk
 rw[if_neg v] at hk
 by_cases w:k=4
 ·rw[if_pos w] at hk;cases e:fx s.aC a with
  |error _=>rw[e] at hk;cases hk;exact ye e
  |ok i=>
   rw[e] at hk;cases c:fG s.aI p i with
   |error _=>simp only[c] at hk;cases hk;exact IL c
   |ok r=>simp only[c] at hk;cases hk
 rw[if_neg w] at hk
 by_cases x:k=5
 ·rw[if_pos x] at hk;cases e:gy s.aI p a with
  |error _=>rw[e] at hk;cases hk;exact abA e
  |ok r=>rw[e] at hk;cases hk
 rw[if_neg x] at hk
 by_cases y:k=6
 ·rw[if_pos y] at hk;cases e:fO s.aI p a with
  |error _=>rw[e] at hk;cases hk;exact NY e
  |ok r=>rw[e] at hk;cases hk
 rw[if_neg y] at hk
 by_cases z:k=7
 ·rw[if_pos z] at hk;cases e:gu s.aC a with
  |error _=>rw[e] at hk;cases hk;exact Nd e
  |ok r=>rw[e] at hk;cases hk
 rw[if_neg z] at hk
 by_cases A:k=8
 ·rw[if_pos A] at hk;cases e:im s.aC a with
  |error _=>rw[e] at hk;cases hk;exact RY e
  |ok i=>
   rw[e] at hk
   by_cases d:hb s.aI i=0
   ·simp only[d,if_true] at hk;cases c:hA s.aC a with
    |error _=>simp only[c] at hk;cases hk;exact UN c
    |ok m=>simp only[c] at hk;cases hk
   ·simp only[d,if_false] at hk;cases hk;decide
 rw[if_neg A] at hk
 by_cases B:k=9
 ·rw[if_pos B] at hk;cases e:fx s.aC a with
  |error _=>rw[e] at hk;cases hk;exact ye e
  |ok r=>rw[e] at hk;cases hk
 rw[if_neg B] at hk
 by_cases l:k=10
 ·rw[if_pos l] at hk;cases e:gQ s.aw a p with
  |error _=>rw[e] at hk;cases hk;exact S1 e
  |ok r=>rw[e] at hk;cases hk
 rw[if_neg l] at hk
 by_cases n:k=11
 ·rw[if_pos n] at hk;cases e:fP s.aw a with
  |error _=>rw[e] at hk;cases hk;exact xo e
  |ok q=>
   rw[e] at hk
   by_cases g:q=p
   ·simp only[g,if_true] at hk;cases hk
   ·simp only[g,if_false] at hk;cases hk;decide
 rw[if_neg n] at hk
 by_cases o:k=12
 ·rw[if_pos o] at hk;cases e:fP s.aw a with
  |error _=>rw[e] at hk;cases hk;exact xo e
  |ok r=>rw[e] at hk;cases hk
 rw[if_neg o] at hk
 by_cases t:k=13
 ·rw[if_pos t] at hk;cases h:b1 s.ax.ae a with
  |false=>rw[h] at hk;cases hk;decide
  |true=>
   rw[h] at hk;cases e:j0 s.aw a b with
   |error _=>rw[e] at hk;cases hk;exact aio e
   |ok r=>rw[e] at hk;cases hk
 rw[if_neg t] at hk;cases e:jS s.aw p with
 |error _=>rw[e] at hk;cases hk;exact ahw e
 |ok r=>rw[e] at hk;cases hk
theorem abp {s:aZ} {c:b3} {e:Int} (hk:kj s c= .error e):e∈fm:=by
 unfold kj at hk;split at hk
 ·cases h1:hv c||b1 s.ax.ae (ao c.fArgs 0) with
  |false=>rw[h1] at hk;cases hk;decide
  |true=>rw[h1] at hk;exact PE hk
 ·cases hk;decide
theorem filter_all {α:Type} {l:List α} {p:α->Bool} (h: ∀z∈l,p z=true):l.filter p=l:=List.filter_eq_self.2 h
section
variable {α σ X β:Type}
theorem n' {step:Int->α->Unit->Option (Unit⊕X)} {fin:Int->Unit->Option X} {p:α->Bool} {e:Nat->X} {l:List α} (h: ∀(i:Nat) z,l[i]? =some z->step i z ()=bif p z then some (.inr (e i)) else some (.inl ())):
  bB step fin 0 l ()=match l.findIdx? p with|some i=>some (e i)|none=>fin (l.length:Int) ():=by
 suffices H: ∀(r pre:List α),l=pre++r->bB step fin pre.length r ()=match r.findIdx? p with|some i=>some (e (pre.length+i))|none=>fin (l.length:Int) () by
  have:=H l [] rfl;simpa using this
 intro r
 induction r with
 |nil=>intro pre e;rw[e,ξs];rfl
 |cons z r b=>
  intro pre a;rw[hx,h pre.length z (by rw[a];simp),ξO];cases hp:p z with
  |true=>simp
  |false=>
   simp only[cond_false,γ];have:=b (pre++[z]) (by rw[a];simp);rw[show(pre++[z]).length=pre.length+1 by simp] at this;rw[this];cases c:r.findIdx? p with
   |none=>rfl
   |some i=>simp only[ξJ,ξr,if_false];rw[show pre.length+1+i=pre.length+(i+1) by omega]
theorem yg {step:Int->α->σ->Option (σ⊕X)} {fin:Int->σ->Option X} {g:σ->α->σ} {Q:Nat->σ->Prop} {l:List α} (h: ∀(i:Nat) z a,l[i]? =some z->Q i a->step i z a=some (.inl (g a z))/\Q (i+1) (g a z)):
  ∀(r pre:List α) (a:σ),l=pre++r->Q pre.length a->bB step fin pre.length r a=fin (l.length:Int) (r.foldl g a)
 |[],pre,a,e,_=>by rw[e,ξs];rfl
 |z::r,pre,a,e,c=>by
  obtain⟨h1,b⟩:=h pre.length z a (by rw[e];simp) c;rw[hx,h1];have:=yg (fin:=fin) h r (pre++[z]) (g a z) (by rw[e];simp) (by rw[υ,ξ0];exact b);rw[υ,ξ0] at this;exact this
theorem Hc {p:α->Bool} {f:α->β}: ∀(l:List α) (a:List β),l.foldl (λa z=>if p z then a++[f z] else a) a=a++(l.filter p).map f
 |[],a=>by simp
 |z::r,a=>by
  rw[ξt,Hc r];cases hp:p z<;>simp[hp]
theorem Pv {p:Bool} {a:List β} {y:β} {i:Nat} (h:a.length<=i):(if p then a++[y] else a).length<=i+1:=by
 split
 ·simp;omega
 ·omega
theorem l7 {step:Int->α->List β->Option (List β⊕X)} {fin:Int->List β->Option X} {p:α->Bool} {f:α->β} {l:List α} (h: ∀(i:Nat) z a,l[i]? =some z->a.length<=i->step i z a=some (.inl (if p z then a++[f z] else a))):
  bB step fin 0 l []=fin (l.length:Int) ((l.filter p).map f):=by
 have:=yg (fin:=fin) (Q:=λi a=>a.length<=i) (g:=λa z=>if p z then a++[f z] else a) (λi z a c b=>⟨h i z a c b,Pv b⟩) l [] [] rfl (ξb 0);rw[Hc] at this;exact this
theorem Vh {step:Int×σ->Option ((Int×σ)⊕X)} {g:σ->α->σ} {Q:Nat->σ->Prop} {x:σ->X} {l:List α} (h: ∀(i:Nat) z a,l[i]? =some z->Q i a->step ((i:Int),a)=some (.inl (((i+1:Nat):Int),g a z))/\Q (i+1) (g a z)) (d: ∀a,Q l.length a->step ((l.length:Int),a)=some (.inr (x a))):
  ∀(r pre:List α) (a:σ) (n:Nat),l=pre++r->Q pre.length a->r.length<n->ct step n ((pre.length:Int),a)=some (x (r.foldl g a))
 |[],pre,a,n+1,e,b,_=>by
  have c:l=pre:=by rw[e,ξs]
  rw[dw,<-c,d a (c▸b)];rfl
 |z::r,pre,a,n+1,e,b,hn=>by
  obtain⟨h1,f⟩:=h pre.length z a (by rw[e];simp) b;rw[dw,h1];have:=Vh h d r (pre++[z]) (g a z) n (by rw[e];simp) (by rw[υ,ξ0];exact f) (by simpa using hn);rw[υ,ξ0] at this;exact this
theorem mi {step:Int×List β->Option ((Int×List β)⊕X)} {p:α->Bool} {f:α->β} {x:List β->X} {l:List α} {n:Nat} (h: ∀(i:Nat) z a,l[i]? =some z->a.length<=i->step ((i:Int),a)=some (.inl (((i+1:Nat):Int),if p z then a++[f z] else a))) (c: ∀a,step ((l.length:Int),a)=some (.inr (x a))) (hn:l.length<n):
  ct step n (0,[])=some (x ((l.filter p).map f)):=by
 have:=Vh (Q:=λi a=>a.length<=i) (g:=λa z=>if p z then a++[f z] else a) (λi z a d b=>⟨h i z a d b,Pv b⟩) (λa _=>c a) l [] [] n rfl (ξb 0) hn;rw[Hc] at this;exact this
theorem oe {g:α->α} {l:List α} {i:Nat} (h:i<l.length):((l.take i).map g++l.drop i).set i (g l[i])=(l.take (i+1)).map g++l.drop (i+1):=by
 have e:((l.take i).map g).length=i:=by simp;omega
 rw[ζ1 (h:=by omega),e,ζ2,χ h,ζh,List.take_succ_eq_append_getElem h,ζo,ξD];rfl
theorem get_map {g:α->α} {l:List α} {i:Nat} (h:i<l.length):((l.take i).map g++l.drop i)[i]? =some l[i]:=by
 have e:((l.take i).map g).length=i:=by simp;omega
 rw[ξL (by omega),e,ζ2,χ h];rfl
theorem ajP {step:Int×List α->Option ((Int×List α)⊕X)} {g:α->α} {x:List α->X} {l:List α} {n:Nat} (h: ∀(i:Nat) (hi:i<l.length) (a:List α),a[i]? =some l[i]->a.length=l.length->step ((i:Int),a)=some (.inl (((i+1:Nat):Int),a.set i (g l[i])))) (b: ∀a,step ((l.length:Int),a)=some (.inr (x a))) (hn:l.length<n):
  ct step n (0,l)=some (x (l.map g)):=by
 suffices H: ∀(k i n:Nat),i+k=l.length->k<n->ct step n ((i:Int),(l.take i).map g++l.drop i)=some (x (l.map g)) by
  have:=H l.length 0 n (by omega) hn;simpa using this
 intro k
 induction k with
 |zero=>
  intro i n e hn;obtain⟨m,rfl⟩: ∃m,n=m+1:=⟨n-1,by omega⟩;obtain rfl:i=l.length:=by omega
  rw[dw,b];simp
 |succ k c=>
  intro i n e hn;obtain⟨m,rfl⟩: ∃m,n=m+1:=⟨n-1,by omega⟩;have hi:i<l.length:=by omega
  rw[dw,h i hi _ (get_map hi) (by simp;omega),oe hi];exact c (i+1) m (by omega) (by omega)
theorem G_ {p:α->Bool}: ∀ {l:List α},l.find? p=(l.findIdx? p).bind λi=>l[i]?
 |[]=>rfl
 |z::r=>by
  rw[ξK,ξO];cases hp:p z with
  |true=>rfl
  |false=>
   rw[G_];cases r.findIdx? p<;>rfl
theorem findIdx_take {p:α->Bool}: ∀ {l:List α},l.take ((l.findIdx? p).getD l.length)=l.takeWhile (λz=>!p z)/\l.drop ((l.findIdx? p).getD l.length)=l.dropWhile (λz=>!p z)
 |[]=>⟨rfl,rfl⟩
 |z::r=>by
  rw[ξO,ξ1,ξ5];cases hp:p z with
  |true=>exact⟨rfl,rfl⟩
  |false=>
   have:=findIdx_take (p:=p) (l:=r);cases e:r.findIdx? p with
   |none=>
    rw[e] at this;simpa using this
   |some i=>
    rw[e] at this;simpa using this
end
theorem FA {X:Type} {step:Int×Int->Option ((Int×Int)⊕X)} {q:Nat->Bool} {N c:Nat} {x:X} (g:c<=N) (h1: ∀i,i<c->q i=true) (b: ∀i,c<=i->i<N->q i=false)
  (h: ∀lo hi:Nat,lo<hi->hi<=N->step ((lo:Int),(hi:Int))=some (.inl (if q ((lo+hi)/2) then((((lo+hi)/2+1:Nat):Int),(hi:Int)) else((lo:Int),(((lo+hi)/2:Nat):Int)))))
  (f:step ((c:Int),(c:Int))=some (.inr x)): ∀(d lo hi n:Nat),hi-lo<=d->d<n->lo<=c->c<=hi->hi<=N->ct step n ((lo:Int),(hi:Int))=some x
 |d,lo,hi,0,_,hn,_,_,_=>by omega
 |d,lo,hi,n+1,l,hn,hl,j,hm=>by
  rw[dw]
  by_cases e:lo=hi
  ·obtain rfl:lo=c:=by omega
   obtain rfl:lo=hi:=e;rw[f];rfl
  ·rw[h lo hi (by omega) hm,γ];cases a:q ((lo+hi)/2) with
   |true=>
    have:(lo+hi)/2<c:=Nat.lt_of_not_le λhle=>by rw[b _ hle (by omega)] at a;cases a
    exact FA g h1 b h f (d-1) _ hi n (by omega) (by omega) (by omega) j hm
   |false=>
    have:c<=(lo+hi)/2:=Nat.le_of_not_lt λk=>by rw[h1 _ k] at a;cases a
    exact FA g h1 b h f (d-1) lo _ n (by omega) (by omega) hl this (by omega)
theorem half {lo hi:Nat} (h:lo+hi<4611686018427387904):ζ.wrap ((τ.wrap (ζ.wrap ((lo:Int)+(hi:Int)))).fdiv 2)=(((lo+hi)/2:Nat):Int):=by
 rw[cC (x:=(lo:Int)+hi) (by omega) (by omega),gm (x:=(lo:Int)+hi) (by omega) (by omega),Int.fdiv_eq_ediv_of_nonneg _ (by omega),cC (by omega) (by omega)];omega
theorem Fv {α:Type} {lt:α->Bool}: ∀ {l:List α},l.Pairwise (λa b=>lt b=true->lt a=true)-> ∀(i:Nat) z,l[i]? =some z->(lt z=true↔i<(l.takeWhile lt).length)
 |[],_,i,z,h=>by simp at h
 |y::r,c,i,z,h=>by
  rw[ξ7] at c;rw[ξ1];cases d:lt y with
  |true=>
   cases i with
   |zero=>simp at h;subst h;simp[d]
   |succ i=>simpa using Fv c.2 i z (by simpa using h)
  |false=>
   simp only[ξr,if_false,ζp,Nat.not_lt_zero,iff_false];intro e;cases i with
   |zero=>simp at h;subst h;rw[d] at e;cases e
   |succ i=>
    have:=c.1 z (ν (by simpa using h:r[i]? =some z)) e;rw[d] at this;cases this
theorem g_ {α:Type} {b:Nat} {l:List α} (h:l.length*b<=140737488355328):app b [] l=some l:=by
 rw[uG (by simpa using h)];rfl
theorem hK {α:Type} {b i n:Nat} {a:List α} {z:α} (h1:a.length<=i) (d:i<n) (c:(n+1)*b<=140737488355328):app b a [z]=some (a++[z]):=
 uG (ξE (Nat.mul_le_mul_right b (by simp;omega)) c)
theorem O3 {p:br} (h:db p):zl p:=⟨h.u,by have:=h.len;unfold maxLen;omega⟩
theorem f46 {p:br} (h:db p):kt ab p=some 0:=by rw[v46 (O3 h),Th h];rfl
theorem aeM (l:List ah) (pid:Int):eu l pid=(l.findIdx? λz=>z.aa==pid).bind λi=>l[i]? :=G_
theorem I3 {S:Int->ah->Unit->T (Unit⊕Nat⊕(Bool×Int))} {F:Int->Unit->T (Nat⊕(Bool×Int))} {l:List ah} {pid:Int}
  (b:(F (l.length:Int) ()).val=some (.inr (false,(l.length:Int))))
  (c: ∀(i:Int) z,(S i z ()).val=(l[i.toNat]?).bind λf=>bif f.aa==pid then some (.inr (.inl i.toNat)) else some (.inl ())):
  bB (λi z a=>(S i z a).val) (λi a=>(F i a).val) 0 l ()=match l.findIdx? (λz=>z.aa==pid) with|some i=>some (.inl i)|none=>some (.inr (false,(l.length:Int))):=by
 rw[n' (p:=λz=>z.aa==pid) (e:=λi=>.inl i) λi z d=>by rw[c,θ,d];rfl,b]
 first|done|(cases l.findIdx? (λz=>z.aa==pid)<;>rfl)
theorem Yx (g:Γa) (l:List ah) (pid:Int):B9 ab g l pid=match l.findIdx? (λz=>z.aa==pid) with|some i=>some (.inl i)|none=>some (.inr (false,(l.length:Int))):=
 I3 (by unfold y1;simp) λi z=>rfl
theorem Yy (g:Γa) (l:List ah) (pid:Int):B_ ab g l pid=match l.findIdx? (λz=>z.aa==pid) with|some i=>some (.inl i)|none=>some (.inr (false,(l.length:Int))):=
 I3 (by unfold y2;simp) λi z=>rfl
theorem Yz (g:Γa) (l:List ah) (pid:Int):td ab g l pid=match l.findIdx? (λz=>z.aa==pid) with|some i=>some (.inl i)|none=>some (.inr (false,(l.length:Int))):=
 I3 (by unfold y3;simp) λi z=>rfl
theorem v72 {p:br} (h:db p) (pid:Int):Gc ab p pid=some (match eu p.ae pid with|some z=>(z,true)|none=>(⟨0,0,false,0⟩,false)):=by
 show(DG ab p pid).val=_;unfold DG;have b:B8 ab p.aH p.ae pid=match p.ae.find? (λz=>z.aa==pid) with|some z=>some (.inl z)|none=>some (.inr (false,(p.ae.length:Int))):=by
  show bB (λi z a=>(tB ab p.aH p.ae pid i z a).val) (λi a=>(rT ab p.aH p.ae pid i a).val) 0 p.ae ()=_;rw[jd (p:=λz=>z.aa==pid) (e:=λz=>.inl z)]
  ·cases p.ae.find? (λz=>z.aa==pid) with
   |none=>unfold rT;simp
   |some z=>rfl
  ·intro i z _;unfold tB;cases h:z.aa==pid<;>simp
 simp only[T.aG,T.az,T.bw,T.ch,T.av,f46 h,γ,b,eu];cases p.ae.find? (λz=>z.aa==pid)<;>rfl
theorem v28 {p:br} (h:db p) (pid:Int):pR ab p pid=some (b1 p.ae pid):=by
 show(Fe ab p pid).val=_;unfold Fe b1;simp only[T.aG,v72 h,γ];cases eu p.ae pid<;>rfl
def ov:br:=⟨[0,0,0,0,0,0,0,0,0,0,0,0,0,0,0,0],[]⟩
theorem yl (l:List ah) (pid:Int):(l.findIdx? (λz=>z.aa==pid)=none/\b1 l pid=false/\eu l pid=none)\/ ∃i x,l.findIdx? (λz=>z.aa==pid)=some i/\l[i]? =some x/\b1 l pid=(!x.bb)/\eu l pid=some x/\x.aa=pid:=by
 have h:=aeM l pid;cases e:l.findIdx? (λz=>z.aa==pid) with
 |none=>
  rw[e] at h;exact .inl ⟨rfl,by unfold b1;rw[h];rfl,h⟩
 |some i=>
  rw[e] at h;obtain⟨hi,hp,_⟩:=ξh.1 e;have a:l[i]? =some l[i]:=η hi;rw[γ,a] at h;exact .inr ⟨i,l[i],rfl,a,by unfold b1;rw[h],h,by simpa using hp⟩
theorem YE (l:List ah) {a:Nat} (d:a<16):CM ab l (a:Int)=match l.findIdx? (λz=>ix z.aa==(a:Int)+1) with|some i=>some (.inl (i:Int))|none=>some (.inr (false,(l.length:Int))):=by
 show bB (λi z b=>(tZ ab l a i z b).val) (λi b=>(si ab l a i b).val) 0 l ()=_;rw[n' (p:=λz=>ix z.aa==(a:Int)+1) (e:=λi=>.inl (i:Int))]
 ·unfold si;cases l.findIdx? (λz=>ix z.aa==(a:Int)+1)<;>simp
 ·intro i z c;unfold tZ;simp only[T.aG,T.az,T.av,θ,c,v93,γ];rw[cC (by omega) (by omega)]
theorem aba {α:Type} {p:α->Bool} {l:List α}:l.any p=(l.findIdx? p).isSome:=by rw[μ,ξp,List.findIdx?_isSome,ξp]
theorem YR {p:br} (h:db p) {a:Nat} (c:a<16):(mD ab p.aH p.ae (a:Int)).val=bif !(!(p.ae.any λx=>ix x.aa==(a:Int)+1)&&decide (ao p.aH a<=65535)) then some (.inl ((a+1:Nat):Int)) else some (.inr (.inr (true,ao p.aH a,a,(a:Int),true,false,true))):=by
 unfold mD;have d:decide ((a:Int)<16)=true:=decide_eq_true (by omega);have hw:ζ.wrap ((a:Int)+1)=((a+1:Nat):Int):=cC (by omega) (by omega);have hn:c6 (a:Int) 16=some a:=by rw[kE (by omega) (by omega),θ]
 simp only[T.aG,T.az,T.av,T.bw,T.ch,d,hw,hn,YE p.ae c,aba,ι,cond_false,γ];cases e:p.ae.findIdx? (λz=>ix z.aa==(a:Int)+1) with
 |some i=>
  have:decide ((i:Int)>=0)=true:=decide_eq_true (by omega);simp[this]
 |none=>
  cases b:decide (ao p.aH a<=65535)<;>simp[b]
theorem YB {p:br} (h:db p):Cg ab p.aH p.ae 0=match gK p with|some i=>some (.inr (true,ao p.aH i,i,(i:Int),true,false,true))|none=>some (.inl (false,16)):=by
 show ct (λa=>(mD ab p.aH p.ae a).val) 1000000 ((0:Nat):Int)=_;rw[oq (q:=λa:Nat=>!(!(p.ae.any λx=>ix x.aa==(a:Int)+1)&&decide (ao p.aH a<=65535))) (x:=λa=>.inr (true,ao p.aH a,a,(a:Int),true,false,true)) (y:=.inl (false,16)) (N:=16) (λa b=>YR h b) (by unfold mD;rfl) (k:=16) (by omega) (by omega)];unfold gK;rw[ξv];simp only[ξP];cases (ζa 0 16).find? (λi:Nat=>!(p.ae.any λx=>ix x.aa==(i:Int)+1)&&decide (ao p.aH i<=65535))<;>rfl
theorem YF (l:List ah) (a b:Int):CN ab l a b=match l.findIdx? (λz=>decide (ix z.aa>ix a)) with|some i=>some (.inl (i:Int))|none=>some (.inr (false,(l.length:Int))):=by
 show bB (λi z c=>(t_ ab l a b i z c).val) (λi c=>(sj ab l a b i c).val) 0 l ()=_;rw[n' (p:=λz=>decide (ix z.aa>ix a)) (e:=λi=>.inl (i:Int))]
 ·unfold sj;cases l.findIdx? (λz=>decide (ix z.aa>ix a))<;>simp
 ·intro i z d;unfold t_;simp only[T.aG,T.az,T.av,θ,d,v93,γ]
theorem adQ {α:Type} {b:Nat} {l:List α} {p lt:α->Bool} {x:α} (hl:(l.length+1)*b<=1099511627776) (hp: ∀z,lt z=!p z):
  Go.Dc.hS b l (((l.findIdx? p).getD l.length:Nat):Int) [x]=some (b5 lt x l):=by
 obtain rfl:lt=λz=>!p z:=funext hp;obtain⟨h1,a⟩:=findIdx_take (p:=p) (l:=l);have hlen:(l.findIdx? p).getD l.length<=l.length:=by
  cases e:l.findIdx? p with
  |none=>exact ξb _
  |some i=>exact Nat.le_of_lt (ξh.1 e).1
 unfold Go.Dc.hS b5;rw[if_pos ⟨by omega,by omega,by simpa using hl⟩,θ,h1,a];simp
theorem ajo {p:br} (h:db p) (parent:Int):u_ ab p parent=some (match hz p parent with| .ok (q,v)=>(q,v,0)| .error e=>(ov,0,e)):=by
 show(DS ab p parent).val=_;unfold DS;have hlen:=h.len;simp only[T.aG,T.az,T.av,T.bw,T.ch,T.mg,f46 h,g_ (b:=32) (l:=p.ae) (by omega),Yx,γ,show(!((0:Int)==0))=false from rfl,cond_false];unfold hz;rcases yl p.ae parent with⟨c,d,_⟩|⟨j,x,c,d,f,_⟩
 ·simp only[c,d,γ,cond_false];rfl
 ·simp only[c,d,f,γ,ξP];cases o:x.bb with
  |true=>rfl
  |false=>
   simp only[YB h,cond_false,cond_true,ο,T.aG,T.az,T.av,T.bw,T.ch,T.mg];cases hl:gK p with
   |none=>rfl
   |some i=>
    obtain⟨h1,m,n⟩:=xl hl;obtain⟨n0,n1,n2,s⟩:=Ij h hl;have r:=h.jK i h1;have hn:c6 (i:Int) 16=some i:=by rw[kE (by omega) (by omega),θ]
    have hw:τ.wrap (ζ.wrap (ζ.wrap (ζ.wrap (ao p.aH i*64)+i)+1))=cE p i:=by
     unfold cE;rw[cC (x:=ao p.aH i*64) (by omega) (by omega),cC (x:=ao p.aH i*64+i) (by omega) (by omega),cC (by omega) (by omega),gm (by omega) (by omega)]
    have g:ζ.wrap (ao p.aH i+1)=ao p.aH i+1:=cC (by omega) (by omega);have a:=adQ (b:=32) (l:=p.ae) (p:=λz=>decide (ix z.aa>ix (cE p i))) (lt:=λy=>decide (ix y.aa<=i+1)) (x:=ah.mk (cE p i) parent false 0) (by omega) (λz=>by rw[n2,μ];simp);simp only[γ,hn,hw,g,YF,h.gl,ξi,show Nat.beq 16 16=true from rfl,cond_true,lP];cases e:p.ae.findIdx? (λz=>decide (ix z.aa>ix (cE p i))) with
    |none=>
     rw[e,ξI] at a;simp only[γ,a]
    |some k=>
     rw[e,ξ9] at a;have hk:decide ((k:Int)<0)=false:=decide_eq_false (by omega);simp only[γ,a,hk,cond_false]
theorem ajq {p:br} (h:db p) (pid child:Int):vh ab p pid child=some (match hB p pid child with| .ok (q,v)=>(q,v,0)| .error e=>(ov,0,e)):=by
 show(DW ab p pid child).val=_;unfold DW;have hlen:=h.len;have o:Ci ab p.ae child []=some (false,(p.ae.length:Int),p.ae.filter λy=>!(y.aa==child)):=by
  show bB (λi z a=>(tF ab p.ae child i z a).val) (λi a=>(rY ab p.ae child i a).val) 0 p.ae []=_;rw[l7 (p:=λy=>!(y.aa==child)) (f:=id)]
  ·unfold rY;simp
  ·intro i z a g r;unfold tF;have hi:=(δ.1 g).1;simp only[T.aG,T.az,T.av,θ,g,γ,hK (b:=32) (z:=z) r hi (by omega)];cases e:z.aa==child<;>simp[bne,e]
 simp only[T.aG,T.az,T.av,T.bw,T.ch,T.mg,f46 h,g_ (b:=32) (l:=p.ae) (by omega),Yz,γ,show(!((0:Int)==0))=false from rfl,cond_false,o];unfold hB;rcases yl p.ae pid with⟨c,d,_⟩|⟨j,x,c,d,n,_⟩
 ·simp only[c,d,γ,cond_false];rfl
 ·simp only[c,d,n,γ,ξP];cases s:x.bb with
  |true=>rfl
  |false=>
   simp only[cond_false,cond_true,ο];rcases yl p.ae child with⟨c1,_,c2⟩|⟨k,y,c1,c2,_,m,_⟩
   ·simp only[c1,c2,γ];rfl
   ·simp only[c1,c2,m,γ];cases y.aP==pid<;>cases y.bb<;>rfl
def xq (pid code:Int) (z:ah):ah:=bif z.aa==pid then⟨z.aa,z.aP,true,code⟩ else z
def qN (pid:Int) (o:Bool) (z:ah):Bool:=(!(z.aa==pid)||!o)&&(!(z.aP==pid)||!z.bb)
def pW (pid:Int) (z:ah):ah:=bif z.aP==pid then⟨z.aa,0,z.bb,z.bV⟩ else z
theorem Oo {α β:Type} {m:α->β} {k:β->Bool} {g:β->β}: ∀l:List α,((l.map m).filter k).map g=l.filterMap λz=>if k (m z) then some (g (m z)) else none
 |[]=>rfl
 |z::r=>by
  rw[ζw,ξ8,ξg,<-Oo r];cases k (m z)<;>rfl
theorem Ox {α β:Type} {f g:α->Option β}: ∀ {l:List α},(∀z∈l,f z=g z)->l.filterMap f=l.filterMap g
 |[],_=>rfl
 |z::r,h=>by rw[ξg,ξg,h z ξc,Ox λy a=>h y (ψ _ a)]
theorem dV {α:Type} {l:List α} {i:Nat} {z:α} (h:l[i]? =some z):idx l (i:Int)=some z:=by
 unfold idx;rw[if_pos (by omega),θ,h]
theorem acH {p:br} (h:db p) {pid code:Int} {i:Nat} {x:ah} (b:p.ae[i]? =some x) (hp:x.aa=pid):
  ((p.ae.set i ⟨x.aa,x.aP,true,code⟩).filter (qN pid (x.aP==0))).map (pW pid)=p.ae.filterMap (fp pid code):=by
 have hm:p.ae.set i ⟨x.aa,x.aP,true,code⟩=p.ae.map (xq pid code):=by
  refine ζl λj=>?_;rw[ξC,ξ6]
  by_cases e:i=j
  ·subst e;rw[if_pos rfl,if_pos (δ.1 b).1,b];simp[xq,hp]
  ·rw[if_neg e];cases o:p.ae[j]? with
   |none=>rfl
   |some z=>
    have:z.aa≠pid:=λa=>by
     obtain⟨h1,d⟩:=δ.1 b;obtain⟨f,g⟩:=δ.1 o;have:=ξ2.1 h.ord;rcases Nat.lt_or_gt_of_ne e with k|k
     ·have:=this i j h1 f k;rw[d,g,hp,a] at this;omega
     ·have:=this j i f h1 k;rw[d,g,hp,a] at this;omega
    have m:(z.aa==pid)=false:=by simpa using this
    simp[xq,m]
 rw[hm,Oo];refine Ox λz l=>?_;have q:=ν b;unfold xq fp qN pW;cases c:z.aa==pid with
 |true=>
  have:z=x:=xS h.ord l q ((eq_of_beq c).trans hp.symm);subst this;have:(z.aP==pid)=false:=by have:=(h.one z l).self;rw[<-hp];simpa using this
  cases a:z.aP==0<;>simp[c,this]
 |false=>
  cases a:z.aP==pid<;>cases n:z.bb<;>simp[c,a,n]
theorem ajp {p:br} (h:db p) (pid code:Int):u' ab p pid code=some (match hd p pid code with| .ok q=>(q,0)| .error e=>(ov,e)):=by
 show(DT ab p pid code).val=_;unfold DT;have hlen:=h.len;have w: ∀(l:List ah) (o:Bool),l.length<=16->Ch ab l pid o (l.length:Int) 0 []=some (false,(l.length:Int),l.filter (qN pid o)):=by
  intro l o hl;show ct (λa=>(oP ab l pid o (l.length:Int) a).val) 1000000 (0,[])=_;rw[mi (p:=qN pid o) (f:=id) (x:=λa=>(false,(l.length:Int),a)) (l:=l) (λi z a s B=>?_) (λa=>?_) (by omega),ζq]
  ·have hi:=(δ.1 s).1;have n:decide ((i:Int)<(l.length:Int))=true:=decide_eq_true (by omega);have hw:ζ.wrap ((i:Int)+1)=((i+1:Nat):Int):=cC (by omega) (by omega);unfold oP qN;simp only[T.aG,T.az,T.av,n,cond_true,dV s,θ,s,γ,hw,bne,hK (b:=32) (z:=z) B hi (by omega)];cases z.aa==pid<;>cases z.aP==pid<;>cases z.bb<;>cases o<;>rfl
  ·unfold oP;simp
 have A: ∀(a:Γa) (b:List ah) (c d:Int) (l:List ah),l.length<=16->B' ab a b pid d l 0 l=some (false,(l.length:Int),l.map (pW pid)):=by
  intro a b c d l hl;show ct (λx=>(oL ab a b pid d l x).val) 1000000 (0,l)=_;rw[ajP (g:=pW pid) (x:=λa=>(false,(l.length:Int),a)) (l:=l) (λi hi y r D=>?_) (λa=>?_) (by omega)]
  ·have n:decide ((i:Int)<(l.length:Int))=true:=decide_eq_true (by omega);have hw:ζ.wrap ((i:Int)+1)=((i+1:Nat):Int):=cC (by omega) (by omega);unfold oL pW;simp only[T.aG,T.az,T.av,n,cond_true,dV r,θ,r,γ,hw];cases e:l[i].aP==pid with
   |true=>rfl
   |false=>
    have:y.set i l[i]=y:=ζl λj=>by
     rw[ξC]
     by_cases e:i=j
     ·subst e;rw[if_pos rfl,if_pos (by omega),r]
     ·rw[if_neg e]
    simp[this]
  ·unfold oL;simp
 simp only[T.aG,T.az,T.av,T.bw,T.ch,T.mg,f46 h,g_ (b:=32) (l:=p.ae) (by omega),Yy,γ,show(!((0:Int)==0))=false from rfl,cond_false];unfold hd;rcases yl p.ae pid with⟨m,k,_⟩|⟨i,x,m,k,u,_,v⟩
 ·simp only[m,k,γ,cond_false];rfl
 ·simp only[m,k,u,γ,ξP];have hi:=(δ.1 k).1;cases C:x.bb with
  |true=>rfl
  |false=>
   cases t:pid==1 with
   |true=>
    simp only[bne,t,cond_false,cond_true,ο,ι];rfl
   |false=>
    simp only[bne,t,cond_false,cond_true,ο,ι,List.set_set,List.getElem?_set_self hi,γ];rw[w _ _ (by simpa using hlen)];simp only[γ];rw[A _ _ pid _ _ (ξE (ω _ _) (by simpa using hlen))];simp only[γ];rw[acH h k v]
theorem f47 {l:List ai} (h:eG l):iK ab l=some 0:=by
 rw[U1 (by have:=h.len;unfold maxLen;omega),Te.2 h];rfl
theorem v29 {l:List ai} (h:eG l) (pid:Int):vf ab l pid=some (kp l pid,(l.length:Int)-(kp l pid).length):=by
 show(DV ab l pid).val=_;unfold DV kp;have hlen:=h.len;have c:Cj ab l pid []=some (false,(l.length:Int),l.filter λd=>!(d.aa==pid)):=by
  show bB (λi z a=>(tG ab l pid i z a).val) (λi a=>(rZ ab l pid i a).val) 0 l []=_;rw[l7 (p:=λd=>!(d.aa==pid)) (f:=id)]
  ·unfold rZ;simp
  ·intro i z a g e;have hi:=(δ.1 g).1;unfold tG;simp only[T.aG,T.az,T.av,bne,hK (b:=24) (z:=z) e hi (by omega),γ];cases z.aa==pid<;>rfl
 have:=ω (λd:ai=>!(d.aa==pid)) l;simp only[T.aG,T.az,T.bw,T.av,f47 h,c,γ,show((0:Int) !=0)=false from rfl,cond_false];rw[cC (by omega) (by omega)]
theorem v232 {l:List ai} (h:eG l) (pid fd:Int):ks ab l pid fd=some (match cB l pid fd with|some w=>(w,true)|none=>(0,false)):=by
 show(Ek ab l pid fd).val=_;unfold Ek cB;have b:CQ ab l fd pid=match l.find? (λd=>d.aa==pid&&d.bo==fd) with|some z=>some (.inl z.b')|none=>some (.inr (false,(l.length:Int))):=by
  show bB (λi z a=>(ub ab l fd pid i z a).val) (λi a=>(sk ab l fd pid i a).val) 0 l ()=_;rw[jd (p:=λd=>d.aa==pid&&d.bo==fd) (e:=λz=>.inl z.b')]
  ·unfold sk;cases l.find? (λd=>d.aa==pid&&d.bo==fd)<;>simp
  ·intro i z _;unfold ub;simp only[T.az,T.av];cases z.aa==pid<;>cases z.bo==fd<;>rfl
 simp only[T.aG,T.az,T.bw,T.ch,T.av,f47 h,b,γ,show((0:Int) !=0)=false from rfl,cond_false];cases l.find? (λd=>d.aa==pid&&d.bo==fd)<;>rfl
theorem ajv {l:List ai} (h:eG l) (aS:Int):vp ab l aS=some (hb l aS:Int):=by
 show(D3 ab l aS).val=_;unfold D3 hb;have hlen:=h.len;have c:Cl ab l aS []=some (false,(l.length:Int),l.filter λd=>d.b'==aS):=by
  show bB (λi z a=>(tI ab l aS i z a).val) (λi a=>(r1 ab l aS i a).val) 0 l []=_;rw[l7 (p:=λd=>d.b'==aS) (f:=id)]
  ·unfold r1;simp
  ·intro i z a g e;have hi:=(δ.1 g).1;unfold tI;simp only[T.aG,T.az,T.av,hK (b:=24) (z:=z) e hi (by omega),γ];cases z.b'==aS<;>rfl
 simp only[T.aG,T.az,T.bw,T.av,f47 h,c,γ,show((0:Int) !=0)=false from rfl,cond_false]
theorem Us {α:Type} (p:α->Bool) (l:List α):l.take (l.takeWhile p).length=l.takeWhile p/\l.drop (l.takeWhile p).length=l.dropWhile p:=by
 have h:=take_drop p l;constructor
 ·conv=>lhs;arg 2;rw[<-h]
  exact List.take_left
 ·conv=>lhs;arg 2;rw[<-h]
  exact List.drop_left
theorem HP {α:Type} {b:Nat} {l:List α} {lt:α->Bool} {x:α} (hl:(l.length+1)*b<=1099511627776):Go.Dc.hS b l ((l.takeWhile lt).length:Int) [x]=some (b5 lt x l):=by
 obtain⟨h1,a⟩:=Us lt l;have:=(ξA (l:=l) lt).length_le;unfold Go.Dc.hS b5;rw[if_pos ⟨by omega,by omega,by simpa using hl⟩,θ,h1,a];simp
theorem RG {α:Type} {b:Nat} {l:List α} {c:Int} {z:α} (d:(l.length:Int)<=c) (a:(b:Int)*c<=281474976710656) (h:c<=281474976710656):kI b (l.length:Int) c z=some (ζt l.length z)/\c5 (ζt l.length z) l=l:=by
 constructor
 ·unfold kI;rw[if_pos ⟨by omega,d,a,h⟩,θ]
 ·unfold c5;simp
theorem pq {α X:Type} {step:Int×Int->Option ((Int×Int)⊕X)} {l:List α} {lt:α->Bool} {x:Nat->X} (j:l.Pairwise λa b=>lt b=true->lt a=true) (hl:l.length<=100)
  (h: ∀lo hi m:Nat,lo<hi->hi<=l.length->m=(lo+hi)/2-> ∀(hm:m<l.length),ζ.wrap ((τ.wrap (ζ.wrap ((lo:Int)+(hi:Int)))).fdiv 2)=(m:Int)->ζ.wrap ((m:Int)+1)=((m+1:Nat):Int)->step ((lo:Int),(hi:Int))=bif lt l[m] then some (.inl (((m+1:Nat):Int),(hi:Int))) else some (.inl ((lo:Int),(m:Int))))
  (k: ∀c:Nat,step ((c:Int),(c:Int))=some (.inr (x c))):ct step 1000000 (0,(l.length:Int))=some (x (l.takeWhile lt).length):=by
 have g:(l.takeWhile lt).length<=l.length:=(ξA (l:=l) lt).length_le;refine FA (q:=λi=>match l[i]? with|some z=>lt z|none=>false) g (λi hi=>?_) (λi hi f=>?_) (λlo hi f hle=>?_) (k _) l.length 0 l.length 1000000 (by omega) (by omega) (by omega) g (ξb _)
 ·have d:l[i]? =some l[i]:=η (by omega);simp only[d];exact(Fv j i _ d).2 hi
 ·have d:l[i]? =some l[i]:=η f;simp only[d];cases e:lt l[i] with
  |false=>rfl
  |true=>have:=(Fv j i _ d).1 e;omega
 ·have hm:(lo+hi)/2<l.length:=by omega
  rw[h lo hi _ f hle rfl hm (half (by omega)) (cC (by omega) (by omega)),η hm];cases n:lt l[(lo+hi)/2]<;>simp[n]
theorem aa8 {l:List ai} (h:l.Pairwise λa b=>cF a b=true) (n:ai):l.Pairwise λa b=>cF b n=true->cF a n=true:=h.imp λ{a b} h1 c=>Fw a b n h1 c
theorem aiL {l:List ai} (pid:Int): ∀ {a:List Bool} {j:Nat},a.length=8->(∀d∈l,0<=d.bo/\d.bo<=7)->j<8->
  ck (l.foldl (λa z=>bif z.aa==pid then a.set z.bo.toNat true else a) a) j=(ck a j||(cB l pid j).isSome):=by
 unfold cB
 induction l with
 |nil=>intro a j _ _ _;simp
 |cons z r h=>
  intro a j c b g;have m:=b z ξc;rw[ξt,h (by cases z.aa==pid<;>simp[c]) (λd f=>b d (ψ _ f)) g,ξK];cases e:z.aa==pid with
  |false=>rfl
  |true=>
   have:ck (a.set z.bo.toNat true) j=(ck a j||(z.bo==(j:Int))):=by
    unfold ck;rw[ξC]
    by_cases k:z.bo.toNat=j
    ·rw[if_pos k,if_pos (by omega),show(z.bo==(j:Int))=true by simp;omega];simp
    ·rw[if_neg k,show(z.bo==(j:Int))=false by simp;omega];simp
   rw[cond_true,this];cases i:z.bo==(j:Int)<;>simp
theorem UY {l:List ai} (h:eG l) {pid:Int} (hp:pid<4294967296) (aS:Int):pF ab l pid aS=some (match fG l pid aS with| .ok (q,v)=>(q,v,0)| .error e=>([],0,e)):=by
 show(DY ab l pid aS).val=_;unfold DY fG;have hlen:=h.len;have t: ∀d∈l,0<=d.bo/\d.bo<=7:=λd f=>by have:=h.is d f;simp[hj] at this;omega
 have A:CP ab l pid aS [false,false,false,false,false,false,false,false]=some (false,(l.length:Int),l.foldl (λa z=>bif z.aa==pid then a.set z.bo.toNat true else a) [false,false,false,false,false,false,false,false]):=by
  show bB (λi z a=>(ua ab l pid aS i z a).val) (λi a=>(oz ab l pid aS i a).val) 0 l _=_;refine(yg (fin:=λi a=>(oz ab l pid aS i a).val) (Q:=λ_ a=>a.length=8) (g:=λa z=>bif z.aa==pid then a.set z.bo.toNat true else a) (λi z a I u=>?_) l [] _ rfl rfl).trans (by unfold oz;simp);have J:=t z (ν I);refine⟨?_,by cases z.aa==pid<;>simp[u]⟩;unfold ua;simp only[T.aG,T.az,T.av,T.mg,kE (n:=8) J.1 (by omega),γ,u,show Nat.beq 8 8=true from rfl,cond_true];cases z.aa==pid<;>rfl
 have B:Cn ab (l.foldl (λa z=>bif z.aa==pid then a.set z.bo.toNat true else a) [false,false,false,false,false,false,false,false]) 0=match gf l pid with|some i=>some (.inl (i:Int))|none=>some (.inr (false,8)):=by
  show ct (λa=>(oQ ab _ a).val) 1000000 ((0:Nat):Int)=_;rw[oq (q:=λi:Nat=>(cB l pid i).isSome) (x:=λi=>.inl (i:Int)) (y:=.inr (false,8)) (N:=8) (λa s=>?_) (by unfold oQ;rfl) (k:=8) (by omega) (by omega)]
  ·unfold gf;rw[ξv];simp only[Option.not_isSome];cases (ζa 0 8).find? (λi:Nat=>(cB l pid i).isNone)<;>rfl
  ·unfold oQ;have f:decide ((a:Int)<8)=true:=decide_eq_true (by omega);have w:ck [false,false,false,false,false,false,false,false] a=false:=by
    have: ∀b:Nat,b<8->ck [false,false,false,false,false,false,false,false] b=false:=by decide
    exact this a s
   simp only[T.aG,T.az,T.av,f,cond_true,kE (j:=(a:Int)) (n:=8) (by omega) (by omega),θ,γ,aiL pid (a:=[false,false,false,false,false,false,false,false]) rfl t s,w,ξn,show ζ.wrap ((a:Int)+1)=((a+1:Nat):Int) from cC (by omega) (by omega)];cases (cB l pid a).isSome<;>rfl
 have G:decide (pid>=4294967296)=false:=decide_eq_false (by omega);obtain⟨D,E⟩:=RG (b:=24) (l:=l) (c:=(l.length:Int)) (z:=ai.mk 0 0 0) (by omega) (by omega) (by omega);simp only[T.aG,T.az,T.bw,T.ch,T.av,f47 h,A,B,G,γ,show((0:Int) !=0)=false from rfl,cond_false];cases K:gf l pid with
 |none=>rfl
 |some i=>
  have hi:decide ((i:Int)<0)=false:=decide_eq_false (by omega);simp only[γ,hi,cond_false];cases r:l.length==64 with
  |true=>
   have:((l.length:Int)==64)=true:=by simp at r ⊢;omega
   simp only[this,cond_true]
  |false=>
   have:((l.length:Int)==64)=false:=by simp at r ⊢;omega
   simp only[this,cond_false,D,E,γ];have C:Co ab l pid i aS (l.length:Int) (l.length:Int) 0=some (false,((l.takeWhile λy=>cF y ⟨pid,i,aS⟩).length:Int),((l.takeWhile λy=>cF y ⟨pid,i,aS⟩).length:Int)):=by
    show ct (λa=>(oR ab l pid i aS (l.length:Int) a).val) 1000000 (0,(l.length:Int))=_;refine pq (lt:=λy=>cF y ⟨pid,i,aS⟩) (x:=λc=>(false,(c:Int),(c:Int))) (aa8 h.ord _) (by omega) (λlo hi m L hle hm F hw H=>?_) λc=>?_
    ·unfold oR;have f:decide ((lo:Int)<(hi:Int))=true:=decide_eq_true (by omega);have o:l[m]? =some l[m]:=η F;have p:decide (pt l[m] ⟨pid,i,aS⟩<0)=cF l[m] ⟨pid,i,aS⟩:=by
      have:=NI l[m] ⟨pid,i,aS⟩;rw[μ] at this ⊢;simp at this ⊢;rw[<-Bool.not_eq_false,<-this];omega
     simp only[T.aG,T.az,T.av,f,cond_true,hw,H,dV o,θ,o,γ,Ke,p]
    ·unfold oR;simp
   rw[C];simp only[γ,nB,HP (b:=24) (l:=l) (lt:=λy=>cF y ⟨pid,i,aS⟩) (x:=ai.mk pid i aS) (by omega)]
   by_cases p:(l.takeWhile λy=>cF y ⟨pid,i,aS⟩).length<l.length
   ·have f:decide (((l.takeWhile λy=>cF y ⟨pid,i,aS⟩).length:Int)<(l.length:Int))=true:=decide_eq_true (by omega);have o:=η p;simp only[f,cond_true,dV o,θ,o,γ,Ke]
   ·have f:decide (((l.takeWhile λy=>cF y ⟨pid,i,aS⟩).length:Int)<(l.length:Int))=false:=decide_eq_false (by omega);simp only[f,cond_false]
theorem ajs {l:List ai} (h:eG l) {pid:Int} (hp:pid<4294967296) (fd:Int):vk ab l pid fd=some (match fO l pid fd with| .ok (q,v)=>(q,v,0)| .error e=>([],0,e)):=by
 show(D0 ab l pid fd).val=_;unfold D0 fO;have a:decide (pid>=4294967296)=false:=decide_eq_false (by omega);simp only[T.aG,T.az,T.av,f47 h,v232 h,a,γ,show((0:Int) !=0)=false from rfl,cond_false];cases cB l pid fd with
 |none=>rfl
 |some w=>
  simp only[UY h hp,γ,ι,cond_false]
theorem ajr {l:List ai} (h:eG l) (pid fd:Int):vj ab l pid [fd]=some (match gy l pid fd with| .ok q=>(q,0)| .error e=>([],e)):=by
 show(DZ ab l pid [fd]).val=_;unfold DZ gy;have hlen:=h.len;have n: ∀w,cB l pid fd=some w->Ck ab l pid fd w []=some (false,(l.length:Int),l.filter λd=>!(d.aa==pid&&d.bo==fd)):=by
  intro w hw;show bB (λi z a=>(tH ab l pid fd w i z a).val) (λi a=>(r0 ab l pid fd w i a).val) 0 l []=_;rw[l7 (p:=λd=>!(d.aa==pid&&d.bo==fd)) (f:=id)]
  ·unfold r0;simp
  ·intro i z a g r;have hi:=(δ.1 g).1;have he:gB z ⟨pid,fd,w⟩=(z.aa==pid&&z.bo==fd):=by
    unfold gB;cases e:z.aa==pid&&z.bo==fd with
    |false=>simp[e]
    |true=>
     obtain⟨d,s,j,k,m⟩:=Pa hw;have c:=e;rw[κ] at c;have:=abZ h (ν g) s ((eq_of_beq c.1).trans j.symm) ((eq_of_beq c.2).trans k.symm);subst this;simp[m]
   unfold tH;simp only[T.aG,T.az,T.av,θ,g,he,hK (b:=24) (z:=z) r hi (by omega),γ];cases z.aa==pid&&z.bo==fd<;>rfl
 have o:Cd ab pid [fd] l true=match cB l pid fd with
   |some w=>some (.inr (false,true,1,l.filter λd=>!(d.aa==pid&&d.bo==fd)))
   |none=>some (.inl (true,false,0,fd,true,true,0,l)):=by
  show bB (λi z a=>(tE ab pid [fd] i z a).val) (λi a=>(y5 ab pid [fd] i a).val) 0 [fd] (true,l)=_;unfold bB tE;simp only[T.aG,T.az,T.bw,T.av,v232 h,γ];cases t:cB l pid fd with
  |none=>rfl
  |some w=>
   simp only[n w t,γ,ι,cond_false];rfl
 simp only[T.aG,T.az,T.bw,T.ch,T.av,f47 h,o,g_ (b:=24) (l:=l) (by omega),γ,show((0:Int) !=0)=false from rfl,cond_false];cases cB l pid fd<;>rfl
theorem OY {m:bz} (h:eH m):K' b2 m:=⟨λz a=>Sn (h.path z a).1,by have:=h.len;unfold maxLen;omega⟩
theorem yI {m:bz} (h:eH m) {w:Int} (hw:cz w):ni ab m w=some (bif b2 w then 0 else 310):=by
 show(Ei ab m w).val=_;unfold Ei;simp only[T.aG,T.az,T.av,U2 (OY h),(Tg λx a=>(h.path x a).1).2 h,Sn hw,γ];rfl
theorem Kd {w:Int} (hw:cz w):lD ab w=some (bif b2 w then⟨(bE w).map bs,w⟩ else⟨[],0⟩,b2 w):=by
 obtain⟨n,rfl⟩:=ξo hw.1;exact v131 (by have:=hw.2;omega)
theorem kP {w:Int} (hw:b2 w=true):(bE w).all cY=true/\(∀p∈bE w,(∀x∈p,x<256)/\p.length<=100)/\(bE w).length<=4/\(jt (bE w)).length<=8:=by
 unfold b2 at hw;rw[κ] at hw;have c:=mS w.toNat;have hl:=ko 8 w.toNat;unfold bE lV;generalize dg 8 w.toNat=d at*
 have a:=hw.2;unfold iV at a
 by_cases e:d=[47]
 ·rw[if_pos e];exact⟨rfl,by simp,by simp,by simp[jt]⟩
 ·rw[if_neg e];rw[decide_eq_false e,ξn] at a;cases d with
  |nil=>cases a
  |cons x t=>
   split at a
   ·rename_i t' b;rw[κ,decide_eq_true_eq] at a;refine⟨a.1,λp hp=>RD c hl ⟨_,b⟩ hp,a.2,?_⟩;rw[qL _ (x::t) (ξb _) (.inr ⟨_,b⟩)];exact hl
   ·cases a
theorem ajk {w:Int} (hw:b2 w=true) (k:Nat):jH ab (((bE w).map bs).take k)=some (e9 ((bE w).take k),(iF (bs (tx ((bE w).take k)))).2==0&&decide (((bE w).take k).length<=4)):=by
 obtain⟨h1,c,d,e⟩:=kP hw;rw[<-ζx];have f:(jt ((bE w).take k)).length<=8:=by
  have:jt (bE w)=jt ((bE w).take k)++jt ((bE w).drop k):=by rw[<-HX,ξF]
  have:=congrArg ζH this;rw[υ] at this;omega
 refine yH (ξ4.2 λp hp=>ξ4.1 h1 p (ξw hp)) (λp hp=>c p (ξw hp)) ?_ (by simp;omega);generalize (bE w).take k=ps at*
 cases ps with
 |nil=>simp[tx]
 |cons a b=>show(jt (a::b)).length<=500;omega
theorem v226 {w:Int} (hw:cz w) (hp:b2 w=true):Gs ab w=some (k2 w,0):=by
 show(Ej ab w).val=_;unfold Ej;obtain⟨h1,l,o,p⟩:=kP hp;have f: ∀(k n:Nat) (acc:Γa),k<n->acc.length+k<=20->k<=(bE w).length+1->ct (λa=>(mE ab ((bE w).map bs) w a).val) n ((k:Int)-1,acc)=some (false,-1,acc++(ζm k).reverse.map λj=>e9 ((bE w).take j)):=by
  intro k
  induction k with
  |zero=>
   intro n acc hn _ _;obtain⟨n,rfl⟩: ∃m,n=m+1:=⟨n-1,by omega⟩;rw[dw];unfold mE;simp
  |succ k h=>
   intro n acc hn q hk;obtain⟨n,rfl⟩: ∃m,n=m+1:=⟨n-1,by omega⟩;rw[dw];have e:decide (((k+1:Nat):Int)-1>=0)=true:=decide_eq_true (by omega);have d:dF ((bE w).map bs) none (some (((k+1:Nat):Int)-1)) (some (((k+1:Nat):Int)-1))=some (((bE w).map bs).take k):=by
    rw[show((k+1:Nat):Int)-1=(k:Int) by omega];unfold dF;simp only[ξI,ξ9];rw[if_pos ⟨by omega,by omega,by simp;omega,by omega,by simp;omega,by simp⟩,θ];rfl
   have g:(mE ab ((bE w).map bs) w (((k+1:Nat):Int)-1,acc)).val=some (.inl ((k:Int)-1,acc++[e9 ((bE w).take k)])):=by
    unfold mE;simp only[T.aG,T.az,T.av,e,cond_true,d,ajk hp k,γ,hK (b:=8) (i:=20) (n:=21) (a:=acc) (z:=e9 ((bE w).take k)) (by omega) (by omega) (by omega)];rw[show((k+1:Nat):Int)-1-1=(k:Int)-1 by omega,cC (x:=(k:Int)-1) (by omega) (by omega)]
   simp only[g,γ];rw[h n _ (by omega) (by rw[υ,ξ0];omega) (by omega),ζr,ζb,ξY,ξG,ζw,ξD];rfl
 have c:Cm ab ((bE w).map bs) w (((bE w).map bs).length:Int) []=some (false,-1,k2 w):=by
  have:=f ((bE w).length+1) 1000000 [] (by omega) (by simp;omega) (by omega);rw[show(((bE w).length+1:Nat):Int)-1=(((bE w).map bs).length:Int) by simp] at this;exact this
 simp only[T.aG,T.az,T.bw,T.av,Kd hw,hp,cond_true,γ,ι,cond_false,c]
theorem Ny {p q:Γ} (hp: ∀x∈p,x<256) (c: ∀x∈q,x<256):((bs p).toList==(bs q).toList)=decide (p=q):=by
 rw[ζc,ζc,μ,beq_iff_eq,decide_eq_true_eq];constructor
 ·intro e;have e:p.map ζd=q.map ζd:=by simpa[bs] using e
  have a:=congrArg (ζ4 ζI) e;have b: ∀l:Γ,(∀x∈l,x<256)->(l.map ζd).map ζI=l:=by
   intro l hl;rw[List.map_map]
   conv=>rhs;rw[<-ζq l]
   refine List.map_congr_left λx d=>?_;have:=hl x d;simp;omega
  rw[b p hp,b q c] at a;exact a
 ·rintro rfl;rfl
theorem ajy {a b:Int} (r:cz a) (s:cz b):GD ab a b=some (dx a b):=by
 show(EJ ab a b).val=_;unfold EJ dx;simp only[T.aG,T.az,T.bw,T.av,T.ch,Kd r,Kd s,γ];cases m:b2 a with
 |false=>rfl
 |true=>
  cases n:b2 b with
  |false=>rfl
  |true=>
   simp only[cond_true,ξi,ξy];obtain⟨_,a2,a3,_⟩:=kP m;obtain⟨_,l,v,_⟩:=kP n;generalize bE a=p at*
   generalize bE b=q at*
   by_cases hl:p.length<=q.length
   ·have d:decide ((p.length:Int)<=(q.length:Int))=true:=decide_eq_true (by omega);have t:dF (q.map bs) none (some (p.length:Int)) none=some ((q.take p.length).map bs):=by rw[FT (by simpa using hl),ζx]
    have hn:((p.length:Int) !=(((q.take p.length).map bs).length:Int))=false:=by simp;omega
    have o:C6 ab (p.map bs) ((q.take p.length).map bs)=bif decide (q.take p.length=p) then some (.inr (false,(p.length:Int))) else some (.inl ()):=by
     show bB (λi z c=>(uk ab (p.map bs) ((q.take p.length).map bs) i z c).val) (λi c=>(sx ab (p.map bs) ((q.take p.length).map bs) i c).val) 0 (p.map bs) ()=_;rw[h2 (q:=λi z=>match((q.take p.length).map bs)[i]? with|some y=>z.toList==y.toList|none=>false) (x:=.inl ()) λi z f=>?_]
     ·have:allI (λi z=>match((q.take p.length).map bs)[i]? with|some y=>z.toList==y.toList|none=>false) 0 (p.map bs)=decide (q.take p.length=p):=by
       rw[μ,fX,decide_eq_true_eq];constructor
       ·intro h;refine List.ext_getElem (by simp;omega) λi h1 g=>?_;have:=h i (bs p[i]) (by rw[ξ6,η g];rfl);rw[ξ3,ξ6,η h1,ξJ] at this;have:=(Ny (a2 _ (ξX g)).1 (l _ (ξw (ξX h1))).1).symm.trans this;exact(of_decide_eq_true this).symm
       ·intro h k z f;rw[ξ3,h,f];exact beq_self_eq_true _
      rw[this];unfold sx;simp
     ·unfold uk;have hi:=(δ.1 f).1;have u:i<((q.take p.length).map bs).length:=by simp at hi ⊢;omega
      have j:((q.take p.length).map bs)[i]? =some ((q.take p.length).map bs)[i]:=η u;simp only[T.aG,T.az,T.av,dV j,j,γ];cases z.toList==((q.take p.length).map bs)[i].toList<;>rfl
    have e:p.isPrefixOf q=decide (q.take p.length=p):=by
     rw[μ,ξa,ξW,decide_eq_true_eq];exact eq_comm
    rw[d,t,e];simp only[cond_true,γ,hn,cond_false,o];cases decide (q.take p.length=p)<;>rfl
   ·have d:decide ((p.length:Int)<=(q.length:Int))=false:=decide_eq_false (by omega);have e:p.isPrefixOf q=false:=by
     rw[<-Bool.not_eq_true,ξa];intro h;exact hl h.length_le
    rw[d,e];rfl
theorem Rt (j:Int): ∀(l:List ay) (m:Γc),l.Pairwise (λa b=>a.aN≠b.aN)->bG (mapM m l) j=match l.find? (λx=>x.aN==j) with|some x=>some x.aY|none=>bG m j
 |[],m,_=>rfl
 |z::r,m,h=>by
  rw[ξ7] at h;show bG (mapM (cp m z.aN z.aY) r) j=_;rw[Rt j r _ h.2,ξK,nH];cases e:z.aN==j with
  |true=>
   have e:=eq_of_beq e;rw[kv.2 λy c=>by have:=h.1 y c;rw[e] at this;simpa using λk=>this k.symm];simp[e]
  |false=>
   have: ¬j=z.aN:=λk=>by rw[k] at e;simp at e
   simp only[if_neg this]
theorem w6 {m:bz} (h:eH m) (w:Int):bG (m.ae.foldl (λa z=>cp a z.aN z.aY) []) w=cr m w:=by
 rw[fold_map,Rt w _ _ h.new];unfold cr;cases m.ae.find? (λx=>x.aN==w)<;>rfl
theorem xp {X:Type} {S:Int->ay->Γc->T (Γc⊕X)} {F:Int->Γc->T X} {l:List ay} (b: ∀i z a,(S i z a).val=some (.inl (cp a z.aN z.aY))):
  bB (λi z a=>(S i z a).val) (λi a=>(F i a).val) 0 l []=(F (l.length:Int) (l.foldl (λa z=>cp a z.aN z.aY) [])).val:=by
 rw[l6 (g:=λa z=>cp a z.aN z.aY) λi z a _=>b i z a];simp
def yR:bz:=⟨[],0⟩
theorem ajt {m:bz} (h:eH m) {w:Int} (hw:cz w):vm ab m w=some (match gu m w with| .ok (q,v)=>(q,v,0)| .error e=>(yR,0,e)):=by
 show(D1 ab m w).val=_;unfold D1 gu;have hlen:=h.len;have p:=h.n1;have r:=h.n2;have f:BZ ab m.ae []=some (false,(m.ae.length:Int),m.ae.foldl (λa z=>cp a z.aN z.aY) []):=by
  refine(xp λi z a=>rfl).trans ?_;unfold yY;simp
 obtain⟨g,j⟩:=RG (b:=16) (l:=m.ae) (c:=ζ.wrap ((m.ae.length:Int)+1)) (z:=ay.mk 0 0) (by rw[cC (by omega) (by omega)];omega) (by rw[cC (by omega) (by omega)];omega) (by rw[cC (by omega) (by omega)];omega);simp only[T.aG,T.az,T.bw,T.av,yI h hw,γ,f,w6 h,g,j];cases hp:b2 w with
 |false=>rfl
 |true=>
  simp only[cond_true,cond_false,show((0:Int) !=0)=false from rfl];cases hi:cr m w with
  |some i=>rfl
  |none=>
   have d:((m.ae.length:Int)==16)=(m.ae.length==16):=by rw[μ];simp;omega
   simp only[ζi,cond_false,d];cases o:m.ae.length==16 with
   |true=>rfl
   |false=>
    cases hn:decide (m.ba>1073741824) with
    |true=>rfl
    |false=>
     have:app 16 m.ae [ay.mk w m.ba]=some (m.ae++[ay.mk w m.ba]):=hK (i:=16) (n:=17) hlen (by omega) (by omega);have k:τ.wrap (m.ba+1)=m.ba+1:=gm (by omega) (by omega);simp only[cond_false,this,γ,k,ζy]
theorem aju {m:bz} (h:eH m) {w:Int} (hw:cz w):vn ab m w=some (match im m w with| .ok v=>(v,0)| .error e=>(0,e)):=by
 show(D2 ab m w).val=_;unfold D2 im;have b:B0 ab m.ae []=some (false,(m.ae.length:Int),m.ae.foldl (λa z=>cp a z.aN z.aY) []):=by
  refine(xp λi z a=>rfl).trans ?_;unfold yZ;simp
 simp only[T.aG,T.az,T.bw,T.av,yI h hw,γ,b,w6 h];cases b2 w with
 |false=>rfl
 |true=>cases cr m w<;>rfl
theorem v193 {m:bz} (h:eH m) {w:Int} (hw:cz w):vq ab m w=some (match hA m w with| .ok v=>(v,0)| .error e=>(yR,e)):=by
 show(D4 ab m w).val=_;unfold D4 hA;have hlen:=h.len;have j:B1 ab m.ae []=some (false,(m.ae.length:Int),m.ae.foldl (λa z=>cp a z.aN z.aY) []):=by
  refine(xp λi z a=>rfl).trans ?_;unfold y0;simp
 have d:CR ab m.ae m.ba w=bif hL m w then some (.inl ()) else some (.inr (false,(m.ae.length:Int))):=by
  show bB (λi z a=>(uc ab m.ae m.ba w i z a).val) (λi a=>(sm ab m.ae m.ba w i a).val) 0 m.ae ()=_;unfold hL;rw[jd (p:=λx=>!(x.aN==w)&&dx w x.aN) (e:=λ_=>.inl ()),<-acO]
  ·unfold sm;cases m.ae.find? (λx=>!(x.aN==w)&&dx w x.aN)<;>simp
  ·intro i z c;unfold uc;simp only[T.aG,T.az,T.av,ajy hw (h.path z c).1,γ,bne];cases z.aN==w<;>cases dx w z.aN<;>rfl
 have g:Cp ab m.ae w []=some (false,(m.ae.length:Int),m.ae.filter λx=>!(x.aN==w)):=by
  show bB (λi z a=>(tJ ab m.ae w i z a).val) (λi a=>(r2 ab m.ae w i a).val) 0 m.ae []=_;rw[l7 (p:=λx=>!(x.aN==w)) (f:=id)]
  ·unfold r2;simp
  ·intro i z a c k;have hi:=(δ.1 c).1;unfold tJ;simp only[T.aG,T.az,T.av,bne,hK (b:=16) (z:=z) k hi (by omega),γ];cases z.aN==w<;>rfl
 simp only[T.aG,T.az,T.bw,T.ch,T.av,yI h hw,γ,j,w6 h,d,g];cases b2 w with
 |false=>rfl
 |true=>
  cases cr m w with
  |none=>rfl
  |some i=>cases hL m w<;>rfl
def IS:(Bool×Int×Int×Bool×Int×Int)⊕(Bool×Int×Int)->Int
 | .inl y=>y.2.1
 | .inr y=>y.2.1
theorem v183 {m:bz} (h:eH m) {w:Int} (hw:cz w):nf ab m w=some (match fx m w with| .ok v=>(v,0)| .error e=>(0,e)):=by
 show(DX ab m w).val=_;unfold DX fx jl;have k:BY ab m.ae []=some (false,(m.ae.length:Int),m.ae.foldl (λa z=>cp a z.aN z.aY) []):=by
  refine(xp λi z a=>rfl).trans ?_;unfold yX;simp
 have f: ∀ {u i},cr m u=some i->0<i:=λe=>by
  obtain⟨x,q,_,rfl⟩:=nA e;have:=h.id x q;omega
 have n: ∀(l:Γa) (c:Γa) (j:Nat),∃y,bB (λi z a=>(oN ab c (m.ae.foldl (λa z=>cp a z.aN z.aY) []) i z a).val) (λi a=>(y4 ab c (m.ae.foldl (λa z=>cp a z.aN z.aY) []) i a).val) j l 0=some y/\IS y=(l.findSome? (cr m)).getD 0:=by
  intro l c
  induction l with
  |nil=>intro j;exact⟨_,rfl,rfl⟩
  |cons u r t=>
   intro j;have p:(oN ab c (m.ae.foldl (λa z=>cp a z.aN z.aY) []) j u 0).val=bif decide ((cr m u).getD 0>0) then some (.inr (.inl (decide ((cr m u).getD 0>0),(cr m u).getD 0,u,decide ((j:Int)<(c.length:Int)),0,(j:Int)))) else some (.inl ((cr m u).getD 0)):=by
    unfold oN;simp only[T.az,T.av,w6 h]
   rw[hx,ζe,p];cases e:cr m u with
   |some i=>
    have:decide ((some i).getD 0>0)=true:=decide_eq_true (f e);rw[this];exact⟨_,rfl,rfl⟩
   |none=>
    have:decide ((none:Option Int).getD 0>0)=false:=rfl;rw[this];exact t (j+1)
 simp only[T.aG,T.az,T.bw,T.ch,T.av,yI h hw,γ,k];cases hp:b2 w with
 |false=>rfl
 |true=>
  obtain⟨y,d,o⟩:=n (k2 w) (k2 w) 0;have d:Cc ab (k2 w) (m.ae.foldl (λa z=>cp a z.aN z.aY) []) 0=some y:=d;simp only[cond_true,cond_false,show((0:Int) !=0)=false from rfl,v226 hw hp,γ,d];have s: ∀(x:Int),(bif x==0 then some ((0:Int),(4:Int)) else some (x,0))=some (if x=0 then(0,4) else(x,0)):=λx=>by
   by_cases e:x=0
   ·simp[e]
   ·rw[show(x==0)=false by simpa using e,if_neg e];rfl
  refine Eq.trans (b:=some (if IS y=0 then((0:Int),(4:Int)) else(IS y,0))) (by cases y<;>exact s _) ?_;rw[o];cases g:(k2 w).findSome? (cr m) with
  |none=>rfl
  |some i=>
   obtain⟨u,_,hu⟩:=ξk g;have:=f hu;have: ¬i=0:=by omega
   simp[this]
theorem f49 {s:aL} (h:ek s) (b:s.an.length<=16):jI ab s=some 0:=by
 rw[v49 ⟨λz a=>(h.name z a).1,by have:=h.len;unfold maxLen;omega,by unfold maxLen;omega⟩,(Tf λz a=>(h.name z a).1).2 h];rfl
section
variable {α:Type} {key:α->Int} {l:List α} {n:Int}
theorem J0 (c:l.Pairwise λa b=>key a<key b):l.takeWhile (λz=>decide (key z<n))=l.filter (λz=>decide (key z<n))/\l.dropWhile (λz=>decide (key z<n))=l.filter (λz=>!decide (key z<n)):=by
 induction l with
 |nil=>exact⟨rfl,rfl⟩
 |cons z r i=>
  rw[ξ7] at c;obtain⟨h1,f⟩:=i c.2;rw[ξ1,ξ5,ξ8,ξ8];cases e:decide (key z<n) with
  |true=>simp only[if_true,h1,f,ι,ξr,if_false];exact⟨trivial,trivial⟩
  |false=>
   have e:=of_decide_eq_false e;have g:r.filter (λz=>decide (key z<n))=[]:=List.filter_eq_nil_iff.2 λy d=>by have:=c.1 y d;simp;omega
   have h:r.filter (λz=>!decide (key z<n))=r:=filter_all λy d=>by have:=c.1 y d;simp;omega
   simp[g,h]
theorem rk (e:l.Pairwise λa b=>key a<key b):
  (l.find? (λz=>key z==n)=none/\(∀z,l[(l.takeWhile λz=>decide (key z<n)).length]? =some z->key z≠n)/\l.dropWhile (λz=>decide (key z<n))=l.filter λz=>decide (n<key z))\/
  ∃z,l.find? (λz=>key z==n)=some z/\key z=n/\l[(l.takeWhile λz=>decide (key z<n)).length]? =some z/\l.dropWhile (λz=>decide (key z<n))=z::l.filter λz=>decide (n<key z):=by
 induction l with
 |nil=>exact .inl ⟨rfl,by simp,rfl⟩
 |cons z r j=>
  rw[ξ7] at e;rw[ξK,ξ1,ξ5,ξ8]
  by_cases h1:key z<n
  ·have f:(key z==n)=false:=by simp;omega
   have g:decide (n<key z)=false:=by simp;omega
   simp only[f,g,decide_eq_true h1,if_true,ξd,List.getElem?_cons_succ,ξr,if_false];exact j e.2
  ·have h:decide (key z<n)=false:=decide_eq_false h1;have i:r.filter (λz=>decide (n<key z))=r:=filter_all λy d=>by have:=e.1 y d;simp;omega
   simp only[h,ξr,if_false,ζp,List.getElem?_cons_zero,i]
   by_cases c:key z=n
   ·right;exact⟨z,by simp[c],c,rfl,by simp[c]⟩
   ·left;have f:(key z==n)=false:=by simpa using c
    have g:decide (n<key z)=true:=by simp;omega
    simp only[f,g,if_true];refine⟨kv.2 λy d=>by have:=e.1 y d;simp;omega,λy d=>?_,trivial⟩;cases d;exact c
end
theorem uQ (x y:Int):decide (ha x y<0)=decide (x<y):=by
 unfold ha;rw[μ,decide_eq_true_eq,decide_eq_true_eq];split
 ·simp[*]
 ·split
  ·simp;omega
  ·simp;omega
theorem cmp_eq (x y:Int):(ha x y==0)=decide (x=y):=by
 unfold ha;rw[μ,decide_eq_true_eq,beq_iff_eq];split
 ·constructor
  ·intro h;omega
  ·intro h;omega
 ·split
  ·constructor
   ·intro h;omega
   ·intro h;omega
  ·constructor
   ·intro _;omega
   ·intro _;rfl
theorem xg {α:Type} {key:α->Int} {l:List α} {n:Int} (d:l.Pairwise λa b=>key a<key b):l.Pairwise λa b=>decide (key b<n)=true->decide (key a<n)=true:=d.imp λ{a b} h1 c=>decide_eq_true (by have:=of_decide_eq_true c;omega)
theorem v31 {s:aL} (h:ek s) (g:s.an.length<=16) (pid:Int):ve ab s pid=some (hh s pid):=by
 show(DU ab s pid).val=_;unfold DU hh;have hlen:=h.len;have d:CO ab s.ak s.an pid (s.ak.length:Int) 0 []=some (false,(s.ak.length:Int),(s.ak.filter λy=>y.aa==pid).map au.aW):=by
  show ct (λa=>(oZ ab s.ak s.an pid (s.ak.length:Int) a).val) 1000000 (0,[])=_;rw[mi (p:=λy=>y.aa==pid) (f:=au.aW) (x:=λa=>(false,(s.ak.length:Int),a)) (l:=s.ak) (λi z a c e=>?_) (λa=>?_) (by omega)]
  ·have hi:=(δ.1 c).1;have j:decide ((i:Int)<(s.ak.length:Int))=true:=decide_eq_true (by omega);have hw:ζ.wrap ((i:Int)+1)=((i+1:Nat):Int):=cC (by omega) (by omega);unfold oZ;simp only[T.aG,T.az,T.av,j,cond_true,dV c,γ,hw,hK (b:=8) (z:=z.aW) e hi (by omega)];cases z.aa==pid<;>rfl
  ·unfold oZ;simp
 simp only[T.aG,T.az,T.bw,T.av,f49 h g,γ,d,show((0:Int) !=0)=false from rfl,cond_false]
theorem v196 {s:aL} (h:ek s) (o:s.an.length<=16) {n:Int} (hn:cz n):ng ab s n=some (match fP s n with| .ok p=>(p,0)| .error e=>(0,e)):=by
 show(D7 ab s n).val=_;unfold D7 fP er;have hlen:=h.len;have k:CU ab s.ak n 0 (s.ak.length:Int)=some (false,((s.ak.takeWhile λz=>decide (z.aW<n)).length:Int),((s.ak.takeWhile λz=>decide (z.aW<n)).length:Int)):=by
  show ct (λa=>(o3 ab s.ak n a).val) 1000000 (0,(s.ak.length:Int))=_;refine pq (l:=s.ak) (lt:=λz=>decide (z.aW<n)) (x:=λc=>(false,(c:Int),(c:Int))) (xg (key:=au.aW) h.ja) (by omega) (λlo hi m u hle hm q hw t=>?_) λc=>?_
  ·unfold o3;have b:decide ((lo:Int)<(hi:Int))=true:=decide_eq_true (by omega);have d:s.ak[m]? =some s.ak[m]:=η q;simp only[T.aG,T.az,T.av,b,cond_true,hw,t,dV d,θ,d,γ,h4,uQ]
  ·unfold o3;simp
 simp only[T.aG,T.az,T.bw,T.av,f49 h o,yJ hn,γ,k,show((0:Int) !=0)=false from rfl,cond_false];cases dv n with
 |false=>rfl
 |true=>
  simp only[ι,cond_true,cond_false];rcases rk (key:=au.aW) (n:=n) h.ja with⟨f,g,_⟩|⟨z,f,g,i,_⟩
  ·rw[f]
   by_cases j:(s.ak.takeWhile λz=>decide (z.aW<n)).length<s.ak.length
   ·have d:=η j;have r:=g _ d;have b:decide (((s.ak.takeWhile λz=>decide (z.aW<n)).length:Int)<(s.ak.length:Int))=true:=decide_eq_true (by omega);simp only[b,cond_true,dV d,γ,h4,cmp_eq,decide_eq_false r];rfl
   ·have b:decide (((s.ak.takeWhile λz=>decide (z.aW<n)).length:Int)<(s.ak.length:Int))=false:=decide_eq_false (by omega);simp only[b,cond_false];rfl
  ·rw[f];have j:=(δ.1 i).1;have b:decide (((s.ak.takeWhile λz=>decide (z.aW<n)).length:Int)<(s.ak.length:Int))=true:=decide_eq_true (by omega);simp only[b,cond_true,dV i,γ,h4,cmp_eq,decide_eq_true g];rfl
theorem FM {S:Int×List ar->T ((Int×List ar)⊕(Bool×Int×List ar))} {s:aL} (h:ek s) (k:s.an.length<=16)
  (d: ∀a,(S a).val=bif decide (a.1<(s.an.length:Int)) then(idx s.an a.1).bind λz0=>(app 8 [] z0.bj).bind λj=>(app 32 a.2 [ar.mk z0.aa j]).bind λz2=>some (.inl (ζ.wrap (a.1+1),z2)) else some (.inr (decide (a.1<(s.an.length:Int)),a.1,a.2))):
  ct (λa=>(S a).val) 1000000 (0,[])=some (false,(s.an.length:Int),s.an):=by
 rw[mi (p:=λ_=>true) (f:=id) (x:=λa=>(false,(s.an.length:Int),a)) (l:=s.an) (λi z a c e=>?_) (λa=>?_) (by omega)]
 ·rw[filter_all λ_ _=>rfl,ζq]
 ·have hi:=(δ.1 c).1;have g:decide ((i:Int)<(s.an.length:Int))=true:=decide_eq_true (by omega);have hw:ζ.wrap ((i:Int)+1)=((i+1:Nat):Int):=cC (by omega) (by omega);have m:=(h.box z (ν c)).2.2;rw[d];simp only[g,cond_true,dV c,γ,g_ (b:=8) (l:=z.bj) (by omega),hw,hK (b:=32) (z:=z) e hi (by omega)];rfl
 ·rw[d];simp
theorem v194 {s:aL} (h:ek s) (k:s.an.length<=16) {n:Int} (hn:cz n) (pid:Int):vr ab s n pid=some (match gQ s n pid with| .ok q=>(q,0)| .error e=>(⟨[],[]⟩,e)):=by
 show(D5 ab s n pid).val=_;unfold D5 gQ er;have hlen:=h.len;have r:Cq ab s.an s.ak (s.an.length:Int) 0 []=some (false,(s.an.length:Int),s.an):=FM h k λa=>rfl;have t:CS ab n s.ak 0 (s.ak.length:Int)=some (false,((s.ak.takeWhile λz=>decide (z.aW<n)).length:Int),((s.ak.takeWhile λz=>decide (z.aW<n)).length:Int)):=by
  show ct (λa=>(o1 ab n s.ak a).val) 1000000 (0,(s.ak.length:Int))=_;refine pq (l:=s.ak) (lt:=λz=>decide (z.aW<n)) (x:=λc=>(false,(c:Int),(c:Int))) (xg (key:=au.aW) h.ja) (by omega) (λlo hi m B hle hm v hw A=>?_) λc=>?_
  ·unfold o1;have d:decide ((lo:Int)<(hi:Int))=true:=decide_eq_true (by omega);have f:s.ak[m]? =some s.ak[m]:=η v;simp only[T.aG,T.az,T.av,d,cond_true,hw,A,dV f,θ,f,γ,h4,uQ]
  ·unfold o1;simp
 have u:=HP (b:=16) (l:=s.ak) (lt:=λy=>decide (y.aW<n)) (x:=au.mk n pid) (by omega);have p:((s.ak.length:Int)==16)=(s.ak.length==16):=by rw[μ];simp;omega
 simp only[T.aG,T.az,T.bw,T.av,T.mg,f49 h k,g_ (b:=16) (l:=s.ak) (by omega),yJ hn,Kg,γ,r,t,p,nC,u,show((0:Int) !=0)=false from rfl,cond_false];cases dv n with
 |false=>rfl
 |true=>
  cases dI pid with
  |false=>rfl
  |true=>
   simp only[ι,cond_true,cond_false];rcases rk (key:=au.aW) (n:=n) h.ja with⟨g,i,_⟩|⟨z,g,i,j,_⟩
   ·rw[g]
    by_cases o:(s.ak.takeWhile λz=>decide (z.aW<n)).length<s.ak.length
    ·have f:=η o;have w:=i _ f;have d:decide (((s.ak.takeWhile λz=>decide (z.aW<n)).length:Int)<(s.ak.length:Int))=true:=decide_eq_true (by omega);simp only[d,cond_true,dV f,θ,f,γ,h4,cmp_eq,decide_eq_false w,cond_false];cases s.ak.length==16<;>rfl
    ·have d:decide (((s.ak.takeWhile λz=>decide (z.aW<n)).length:Int)<(s.ak.length:Int))=false:=decide_eq_false (by omega);simp only[d,cond_false];cases s.ak.length==16<;>rfl
   ·rw[g];have o:=(δ.1 j).1;have d:decide (((s.ak.takeWhile λz=>decide (z.aW<n)).length:Int)<(s.ak.length:Int))=true:=decide_eq_true (by omega);simp only[d,cond_true,dV j,θ,j,γ,h4,cmp_eq,decide_eq_true i];rfl
theorem ajw {s:aL} (h:ek s) (o:s.an.length<=16) {n p:Int} (hn:cz n) (h1:dv n=true) (e:er s.ak n=some p):vt ab s n=some (mc s n,0):=by
 show(D6 ab s n).val=_;unfold D6 mc;unfold er at e;have hlen:=h.len;have u:Cr ab s.an s.ak (s.an.length:Int) 0 []=some (false,(s.an.length:Int),s.an):=FM h o λa=>rfl;have v:CT ab n s.ak 0 (s.ak.length:Int)=some (false,((s.ak.takeWhile λz=>decide (z.aW<n)).length:Int),((s.ak.takeWhile λz=>decide (z.aW<n)).length:Int)):=by
  show ct (λa=>(o2 ab n s.ak a).val) 1000000 (0,(s.ak.length:Int))=_;refine pq (l:=s.ak) (lt:=λz=>decide (z.aW<n)) (x:=λc=>(false,(c:Int),(c:Int))) (xg (key:=au.aW) h.ja) (by omega) (λlo hi m E hle hm B hw C=>?_) λc=>?_
  ·unfold o2;have f:decide ((lo:Int)<(hi:Int))=true:=decide_eq_true (by omega);have q:s.ak[m]? =some s.ak[m]:=η B;simp only[T.aG,T.az,T.av,f,cond_true,hw,C,dV q,θ,q,γ,h4,uQ]
  ·unfold o2;simp
 rcases rk (key:=au.aW) (n:=n) h.ja with⟨i,_,_⟩|⟨z,i,j,d,k⟩
 ·rw[i] at e;cases e
 have D:=(δ.1 d).1;have f:decide (((s.ak.takeWhile λz=>decide (z.aW<n)).length:Int)<(s.ak.length:Int))=true:=decide_eq_true (by omega);have hw:ζ.wrap (((s.ak.takeWhile λz=>decide (z.aW<n)).length:Int)+1)=(((s.ak.takeWhile λz=>decide (z.aW<n)).length+1:Nat):Int):=cC (by omega) (by omega);have w:s.ak.take (s.ak.takeWhile λz=>decide (z.aW<n)).length++s.ak.drop ((s.ak.takeWhile λz=>decide (z.aW<n)).length+1)=s.ak.filter λy=>!(y.aW==n):=by
  obtain⟨t1,t2⟩:=Us (λz:au=>decide (z.aW<n)) s.ak;rw[t1,<-List.drop_drop,t2,k];have hl:=take_drop (λz:au=>decide (z.aW<n)) s.ak;rw[k] at hl;have A:s.ak.filter (λy=>!(y.aW==n))=(s.ak.takeWhile (λz=>decide (z.aW<n))++z::s.ak.filter λy=>decide (n<y.aW)).filter λy=>!(y.aW==n):=by rw[hl]
  have r:(s.ak.takeWhile λz=>decide (z.aW<n)).filter (λy=>!(y.aW==n))=s.ak.takeWhile λz=>decide (z.aW<n):=filter_all λy g=>by
   have:y.aW<n:=by simpa using RF g
   simp;omega
  have t:(s.ak.filter λy=>decide (n<y.aW)).filter (λy=>!(y.aW==n))=s.ak.filter λy=>decide (n<y.aW):=filter_all λy g=>by
   have:=of_decide_eq_true (ξ.1 g).2;simp;omega
  rw[A,ξQ,List.filter_cons_of_neg (by simp[j]),r,t];rfl
 simp only[T.aG,T.az,T.bw,T.av,f49 h o,g_ (b:=16) (l:=s.ak) (by omega),yJ hn,h1,γ,u,v,f,hw,cond_true,ι,dV d,θ,d,h4,cmp_eq,decide_eq_true j,show((0:Int) !=0)=false from rfl,cond_false,px,ym];rw[if_pos ⟨by omega,by omega,by omega⟩];simp only[γ,θ,w]
theorem v168 (b:ar):vG ab b=some b.aa:=rfl
theorem v167 {s:aL} (h:ek s) (q:s.an.length<=16) (pid:Int):GL ab s.an pid=some (((s.an.takeWhile λz=>decide (z.aa<pid)).length:Int),(s.an.find? λz=>z.aa==pid).isSome):=by
 show(uB ab s.an pid).val=_;unfold uB;have j:C5 ab s.an pid 0 (s.an.length:Int)=some (false,((s.an.takeWhile λz=>decide (z.aa<pid)).length:Int),((s.an.takeWhile λz=>decide (z.aa<pid)).length:Int)):=by
  show ct (λa=>(o5 ab s.an pid a).val) 1000000 (0,(s.an.length:Int))=_;refine pq (l:=s.an) (lt:=λz=>decide (z.aa<pid)) (x:=λc=>(false,(c:Int),(c:Int))) (xg (key:=ar.aa) h.kN) (by omega) (λlo hi m r hle hm k hw p=>?_) λc=>?_
  ·unfold o5;have b:decide ((lo:Int)<(hi:Int))=true:=decide_eq_true (by omega);have d:s.an[m]? =some s.an[m]:=η k;simp only[T.aG,T.az,T.av,b,cond_true,hw,p,dV d,θ,d,γ,h4,v168,uQ]
  ·unfold o5;simp
 simp only[T.aG,T.az,T.bw,T.av,γ,j,v168,h4,cmp_eq];rcases rk (key:=ar.aa) (n:=pid) h.kN with⟨e,f,_⟩|⟨z,e,f,g,_⟩
 ·rw[e]
  by_cases i:(s.an.takeWhile λz=>decide (z.aa<pid)).length<s.an.length
  ·have d:=η i;have o:=f _ d;have b:decide (((s.an.takeWhile λz=>decide (z.aa<pid)).length:Int)<(s.an.length:Int))=true:=decide_eq_true (by omega);simp only[b,cond_true,dV d,γ,decide_eq_false o];rfl
  ·have b:decide (((s.an.takeWhile λz=>decide (z.aa<pid)).length:Int)<(s.an.length:Int))=false:=decide_eq_false (by omega);simp only[b,cond_false];rfl
 ·rw[e];have i:=(δ.1 g).1;have b:decide (((s.an.takeWhile λz=>decide (z.aa<pid)).length:Int)<(s.an.length:Int))=true:=decide_eq_true (by omega);simp only[b,cond_true,dV g,γ,decide_eq_true f];rfl
theorem Sm: ∀(l a:List ar),(∀b∈l,b.bj.length<=4)->a.length+l.length<=100->nz l a=some (a++l)
 |[],a,_,_=>by rw[ξs];rfl
 |z::r,a,h,hl=>by
  have d:=h z ξc;rw[ξd] at hl;unfold nz JJ;rw[g_ (by omega),γ,hK (i:=100) (n:=101) (by omega) (by omega) (by omega),γ,Sm r _ (λb c=>h b (ψ _ c)) (by rw[υ,ξ0];omega),ξD];rfl
theorem Fz {s:aL} (h:ek s) (c:s.an.length<=16) {pid:Int} (hp:dI pid=true):
  lO ab s pid=some (⟨s.ak,(s.an.filter λb=>decide (b.aa<pid))++⟨pid,cM s pid⟩::s.an.filter λb=>decide (pid<b.aa)⟩,((s.an.filter λb=>decide (b.aa<pid)).length:Int),0):=by
 have hlen:=h.len;have g:qH ab s=some (s,0):=by
  unfold qH HF JK;rw[f49 h c,g_ (by omega),Sm _ [] (λb c=>(h.box b c).2.2) (by simp;omega)];rfl
 have i:kD pid=true:=by
  unfold kD;unfold dI at hp;rw[κ] at hp;rw[hp.1,hp.2];rfl
 unfold lO w5 HH;rw[g,γ];simp only[show(!((0:Int)==0))=false from rfl,cond_false,i,ι,v167 h c,γ];obtain⟨t1,t2⟩:=J0 (n:=pid) h.kN;have hl:=take_drop (λz:ar=>decide (z.aa<pid)) s.an;rcases rk (key:=ar.aa) (n:=pid) h.kN with⟨a,_,d⟩|⟨z,a,e,d,f⟩
 ·rw[a];have hw:cM s pid=[]:=by unfold cM;rw[a]
  simp only[ζi,ο,cond_true];rw[HP (b:=32) (lt:=λz:ar=>decide (z.aa<pid)) (by omega),hw];unfold b5;rw[d,t1];rfl
 ·rw[a];have hw:cM s pid=z.bj:=by unfold cM;rw[a]
  simp only[Option.isSome_some,ι,cond_false,γ];rw[f,t1] at hl;rw[hw,t1]
  conv=>lhs;arg 1;arg 1;rw[show s=⟨s.ak,s.an⟩ from rfl,<-hl]
  rw[<-e]
theorem I6 {s:aL} (h:ek s) {pid:Int} {c ws:Γa}:
  mb (aL.mk s.ak (((s.an.filter λb=>decide (b.aa<pid))++⟨pid,c⟩::s.an.filter λb=>decide (pid<b.aa)).set (s.an.filter λb=>decide (b.aa<pid)).length ⟨pid,ws⟩))=fi s pid ws:=by
 have hk: ∀(p:ar->Bool),(s.an.filter p).filter (λz=>!(z.bj.length==0))=s.an.filter p:=λp=>filter_all λz a=>by
  have:=(h.box z (ξ.1 a).1).2.1;simp;intro e;rw[e] at this;simp at this
 unfold mb fi;rw[ζ1 (h:=ξb _),ζ2,ζh];simp only;rw[ξQ,hk,ξ8,hk]
 congr 2
 by_cases e:ws=[]
 ·simp[e]
 ·have:(ws.length==0)=false:=by simpa using e
  simp[e,this]
theorem get_at {α:Type} {a b:List α} {z:α}:idx (a++z::b) (a.length:Int)=some z:=dV (by rw[ξL (ξb _),ζ2];rfl)
theorem v30 {s:aL} (h:ek s) (a:s.an.length<=16) {pid:Int} (hp:dI pid=true):vg ab s pid=some (fi s pid [],((cM s pid).length:Int),0):=by
 show qE ab s pid=_;unfold qE;rw[Fz h a hp,γ];simp only[show(!((0:Int)==0))=false from rfl,cond_false,get_at,γ,θ,I6 h]
theorem v198 {s:aL} (h:ek s) (a:s.an.length<=16) {pid:Int} (hp:dI pid=true):vw ab s pid=some (match cM s pid with|w::r=>(fi s pid r,w,0)|[]=>(⟨[],[]⟩,0,4)):=by
 show qF ab s pid=_;unfold qF;rw[Fz h a hp,γ];simp only[show(!((0:Int)==0))=false from rfl,cond_false,get_at,γ,θ,I6 h];cases cM s pid with
 |nil=>rfl
 |cons w r=>
  have:(((w::r).length:Int)==0)=false:=by simp;omega
  simp only[this,cond_false];rfl
theorem ajx {s:aL} (h:ek s) (b:s.an.length<=16) {pid:Int} (hp:dI pid=true) (w:Int):vv ab s pid [w]=some (if(cM s pid).length=4 then(⟨[],[]⟩,6) else(fi s pid (cM s pid++[w]),0)):=by
 show qG ab s pid [w]=_;unfold qG;have hw:=rD h pid;rw[Fz h b hp,γ];simp only[show(!((0:Int)==0))=false from rfl,cond_false,get_at,γ,θ,I6 h,ξ0];have a:ζ.wrap (((cM s pid).length:Int)+((1:Nat):Int))=((cM s pid).length:Int)+1:=cC (by omega) (by omega);simp only[a]
 by_cases e:(cM s pid).length=4
 ·rw[if_pos e,e];rfl
 ·rw[if_neg e,decide_eq_false (by omega),cond_false,hK (i:=4) (n:=5) hw (by omega) (by omega),γ]
theorem RO {α:Type} [DecidableEq α]: ∀ {l m:List α},l.Pairwise (λa b=>a≠b)->(∀x∈l,x∈m)->l.length<=m.length
 |[],_,_,_=>ζ9 _
 |x::r,m,hn,h=>by
  rw[ξ7] at hn;have c:=h x ξc;have:=RO (m:=m.erase x) hn.2 λy d=>(List.mem_erase_of_ne λe=>hn.1 y d e.symm).2 (h y (ψ _ d));rw[List.length_erase_of_mem c] at this;have:=ξZ c;rw[ξd];omega
theorem dn.lb {s:aZ} (h:dn s):s.aw.an.length<=16:=by
 have h1:=RO (l:=s.aw.an.map ar.aa) (m:=s.ax.ae.map ah.aa) (List.pairwise_map.2 (h.i.kN.imp λ{a b} k=>by omega)) λx d=>by
  obtain⟨b,c,rfl⟩:=ζ0.1 d;obtain⟨y,f,e,_⟩:=h.boxes b c;exact ζ0.2 ⟨y,f,e⟩
 rw[ξy,ξy] at h1;exact ξE h1 h.p.len
structure gY (c:b3):Prop where
 p:cz (ao c.fArgs 0)
 a:cz (ao c.fArgs 1)
theorem v22 (c:b3):GY ab c=some (hv c):=by
 show(Ff ab c).val=_;unfold Ff hv;simp only[T.az,T.av];cases c.aQ==9<;>rfl
theorem Im {l:List ai} (h:eG l) {p a:Int} (c:8<=a):cB l p a=none:=by
 unfold cB;rw[kv.2 λd b=>?_]
 ·rfl
 ·have:=h.is d b;simp[hj] at this;simp;omega
theorem v67 {s:aZ} (h:dn s) {c:b3} (A:gY c):GP ab s c=some (gA s c):=by
 show(E2 ab s c).val=_;unfold E2 gA kj
 by_cases h1:1<=c.aQ
 ·by_cases z:c.aQ<=14
  ·rw[T.az,decide_eq_true h1,cond_true,T.az,decide_eq_true z,ι,cond_false,T.aG,v22,γ,if_pos ⟨h1,z⟩];have hp:=A.p;have o:=A.a;have r:=h.lb;generalize ao c.fArgs 0=p at*
   generalize ao c.fArgs 1=a at*
   generalize ao c.fArgs 2=b at*
   have hk:c.aQ=1\/c.aQ=2\/c.aQ=3\/c.aQ=4\/c.aQ=5\/c.aQ=6\/c.aQ=7\/c.aQ=8\/c.aQ=9\/c.aQ=10\/c.aQ=11\/c.aQ=12\/c.aQ=13\/c.aQ=14:=by omega
   have E:hv c=(c.aQ==9||c.aQ==12):=rfl;unfold fb;rw[E];rcases hk with e|e|e|e|e|e|e|e|e|e|e|e|e|e<;>
    simp only[e,T.az,T.av,T.aG,T.mg,ξz,ξH,Bool.or_false,ξn,ζy,Bool.or_true,ζz,cond_true,cond_false,if_true,if_false,v28 h.p,γ]
   ·cases j:b1 s.ax.ae p with
    |false=>rfl
    |true=>
     simp only[ι,cond_true,cond_false,ajo h.p,γ];cases f:hz s.ax p with
     |error x=>simp only[gC (Ud f),ο,cond_true]
     |ok x=>rfl
   ·cases j:b1 s.ax.ae p with
    |false=>rfl
    |true=>
     have q:=(hy h.p.ord).1 j;simp only[ι,cond_true,cond_false,ajp h.p,γ];cases f:hd s.ax p a with
     |error x=>simp only[gC (F' f),ο,cond_true]
     |ok x=>
      simp only[v31 h.i r,v29 h.d,v30 h.i r (je h.p q).1,γ,beq_self_eq_true,ι,cond_false]
      by_cases g:hh s.aw p=[]
      ·rw[if_pos g,g];rfl
      ·have:(((hh s.aw p).length:Int)==0)=false:=by
        have:=ζf.2 g;simp;omega
       rw[if_neg g,this];rfl
   ·cases j:b1 s.ax.ae p with
    |false=>rfl
    |true=>
     simp only[ι,cond_true,cond_false,ajq h.p,γ];cases f:hB s.ax p a with
     |error x=>simp only[gC (U' f),ο,cond_true]
     |ok x=>rfl
   ·cases j:b1 s.ax.ae p with
    |false=>rfl
    |true=>
     have q:=(hy h.p.ord).1 j;simp only[ι,cond_true,cond_false,v183 h.m o,γ];cases f:fx s.aC a with
     |error x=>simp only[gC (ye f),ο,cond_true]
     |ok x=>
      simp only[UY h.d (je h.p q).2.1,γ,beq_self_eq_true,ι,cond_false];cases n:fG s.aI p x with
      |error y=>simp only[gC (IL n),ο,cond_true]
      |ok y=>
       obtain⟨l,v⟩:=y;obtain⟨i,t,_,rfl,_⟩:=qZ n;have:=(pX t).1;simp only[beq_self_eq_true,ι,cond_false,gm (x:=(i:Int)) (by omega) (by omega)]
   ·cases j:b1 s.ax.ae p with
    |false=>rfl
    |true=>
     simp only[ι,cond_true,cond_false]
     by_cases u:a<8
     ·simp only[decide_eq_true u,ι,cond_false,cC (x:=a) (by omega) (by omega),v232 h.d,ajr h.d,γ];cases f:gy s.aI p a with
      |error x=>
       cases n:cB s.aI p a with
       |some w=>unfold gy at f;rw[n] at f;cases f
       |none=>unfold gy at f;rw[n] at f;cases f;rfl
      |ok x=>
       obtain⟨w,n,_⟩:=NG f;rw[n];rfl
     ·have:cB s.aI p a=none:=Im h.d (by omega);unfold gy;simp only[decide_eq_false u,ο,cond_true,this]
   ·cases j:b1 s.ax.ae p with
    |false=>rfl
    |true=>
     have q:=(hy h.p.ord).1 j;simp only[ι,cond_true,cond_false]
     by_cases u:a<8
     ·simp only[decide_eq_true u,ι,cond_false,cC (x:=a) (by omega) (by omega),v232 h.d,ajs h.d (je h.p q).2.1,γ];cases f:fO s.aI p a with
      |error x=>
       cases n:cB s.aI p a with
       |some w=>simp only[gC (NY f),ο,ι,cond_false,cond_true]
       |none=>unfold fO at f;rw[n] at f;cases f;rfl
      |ok x=>
       obtain⟨l,v⟩:=x;obtain⟨w,n,B⟩:=NZ f;obtain⟨i,t,_,rfl,_⟩:=qZ B;have:=(pX t).1;simp only[n,beq_self_eq_true,ι,cond_false,gm (x:=(i:Int)) (by omega) (by omega)]
     ·have:cB s.aI p a=none:=Im h.d (by omega);unfold fO;simp only[decide_eq_false u,ο,cond_true,this]
   ·cases j:b1 s.ax.ae p with
    |false=>rfl
    |true=>
     simp only[ι,cond_true,cond_false,ajt h.m o,γ];cases f:gu s.aC a with
     |error x=>simp only[gC (Nd f),ο,cond_true]
     |ok x=>rfl
   ·cases j:b1 s.ax.ae p with
    |false=>rfl
    |true=>
     simp only[ι,cond_true,cond_false,aju h.m o,γ];cases f:im s.aC a with
     |error x=>simp only[gC (RY f),ο,cond_true]
     |ok x=>
      simp only[ajv h.d,v193 h.m o,γ,beq_self_eq_true,ι,cond_false]
      by_cases g:hb s.aI x=0
      ·rw[if_pos g,g];simp only[show(((0:Nat):Int)==0)=true from rfl,ι,cond_false];cases n:hA s.aC a with
       |error y=>simp only[gC (UN n),ο,cond_true]
       |ok y=>rfl
      ·have:((hb s.aI x:Int)==0)=false:=by simp;omega
       rw[if_neg g,this];rfl
   ·simp only[v183 h.m o,γ];cases f:fx s.aC a with
    |error x=>simp only[gC (ye f),ο,cond_true]
    |ok x=>rfl
   ·cases j:b1 s.ax.ae p with
    |false=>rfl
    |true=>
     simp only[ι,cond_true,cond_false,v194 h.i r o,γ];cases f:gQ s.aw a p with
     |error x=>simp only[gC (S1 f),ο,cond_true]
     |ok x=>rfl
   ·cases j:b1 s.ax.ae p with
    |false=>rfl
    |true=>
     simp only[ι,cond_true,cond_false,v196 h.i r o,γ];cases f:fP s.aw a with
     |error x=>simp only[gC (xo f),ο,cond_true]
     |ok x=>
      obtain⟨t,C⟩:=qP f;simp only[ajw h.i r o t C,γ,beq_self_eq_true,ι,cond_false]
      by_cases g:x=p
      ·rw[if_pos g,g];simp
      ·have:(x==p)=false:=by simpa using g
       rw[if_neg g,this];rfl
   ·simp only[v196 h.i r o,γ];cases f:fP s.aw a with
    |error x=>simp only[gC (xo f),ο,cond_true]
    |ok x=>rfl
   ·cases j:b1 s.ax.ae p with
    |false=>rfl
    |true=>
     simp only[ι,cond_true,cond_false];cases D:b1 s.ax.ae a with
     |false=>rfl
     |true=>
      have q:=(hy h.p.ord).1 D;unfold j0;simp only[ajx h.i r (je h.p q).1,γ,ι,cond_true,cond_false]
      by_cases g:(cM s.aw a).length=4
      ·rw[if_pos g,g];rfl
      ·have:((cM s.aw a).length==4)=false:=by simpa using g
       rw[if_neg g,this];rfl
   ·cases j:b1 s.ax.ae p with
    |false=>rfl
    |true=>
     have q:=(hy h.p.ord).1 j;unfold jS;simp only[v198 h.i r (je h.p q).1,γ,ι,cond_true,cond_false];cases cM s.aw p<;>rfl
  ·rw[T.az,decide_eq_true h1,cond_true,T.az,decide_eq_false z,if_neg λk=>z k.2];rfl
 ·rw[T.az,decide_eq_false h1,if_neg λk=>h1 k.1];rfl
theorem v68 {s:aZ} (h:dn s):GQ ab s=some s:=by
 show(E3 ab s).val=_;unfold E3;have h1:=h.p.len;have f:=h.d.len;have g:=h.m.len;have j:=h.i.len;have c:=h.lb;have e:C8 ab s.aw.an s.ax.aH s.aC.ba s.ax.ae s.aI s.aC.ae s.aw.ak (s.aw.an.length:Int) 0 []=some (false,(s.aw.an.length:Int),s.aw.an):=FM h.i c λa=>rfl;simp only[T.aG,T.bw,T.av,g_ (b:=32) (l:=s.ax.ae) (by omega),g_ (b:=24) (l:=s.aI) (by omega),g_ (b:=16) (l:=s.aC.ae) (by omega),g_ (b:=16) (l:=s.aw.ak) (by omega),γ,e]
theorem ads {s:aZ} (h:dn s):La s where
 p:=O3 h.p
 d:=by have:=h.d.len;unfold maxLen;omega
 i:=⟨λz a=>(h.i.name z a).1,by have:=h.i.len;unfold maxLen;omega,by have:=h.lb;unfold maxLen;omega⟩
theorem f11 {s:aZ} (h:dn s):vI ab s=some 0:=by
 rw[v11 (ads h) (U2 (OY h.m))];have:=(ND (adT h)).2 h;unfold FF at this;rw[this];rfl
theorem UZ {s:aZ} (h:dn s) {c:b3} (a:gY c):Gr ab s c=some ((gA s c).1,(gA s c).2,0):=by
 show(Eg ab s c).val=_;unfold Eg;simp only[T.aG,T.az,T.av,f11 h,v68 h,v67 h a,γ];rfl
theorem ab1 {s:aZ} (h:dn s) (c:b3):((gA s c).2.b0≠0/\(gA s c).1=s)\/((gA s c).2.b0=0/\Step s (ao c.fArgs 0) (ao c.fArgs 1) (ao c.fArgs 2) c.aQ (gA s c).1 (gA s c).2.b8/\(c.aQ≠9->c.aQ≠12->dr s.ax.ae (ao c.fArgs 0))):=by
 unfold gA;cases e:kj s c with
 |error x=>exact .inl ⟨F5 (abp e),rfl⟩
 |ok r=>exact .inr ⟨rfl,abq h e⟩
end Go.Proofs.YtoggponeookhbaaGreatDoor
end
section
namespace Go.Proofs.YtoggponeookhbaaGreatDoor
open Go.RowKit Go.Dc Go.Vx
variable (U:Sh)
def E0 (U:Sh) (a b:aA):T Bool:=.bf (a.bc !=0) (.ok (decide (a.bc<b.bK)))<|.ok false
def pO (a b:aA):=U.s _ (E0 U a b).val
def Mf:=a6 (bU KK 38 42 42 (pO U) (bH KK 4)) (LP U)
theorem Mg:ag (Mf shut) ε:=bZ (rs:=[4]) LQ (ag.all LQ rfl) rfl rfl λa b k=>by kernel_rfl
def jv (U:Sh) (d:aA):T Bool:=.bf (d.a8==0) (.bf (decide (d.bS>=0)) (.bf (decide (d.bS<8)) (.bf (decide (d.bK>=1)) (.bf (d.bc==0) (.bf (dT d.bt (cu.mk 0 0)) (.ok true)<|.bf (!d.bc==0) (.ok (decide (d.bc>=d.bK)))<|.ok false)<|.bf (!d.bc==0) (.ok (decide (d.bc>=d.bK)))<|.ok false)<|.ok false)<|.ok false)<|.ok false)<|.bf (decide (d.a8>=d.bK)) (.bf (d.bc==0) (.bf (decide (d.bS>=0)) (.bf (decide (d.bS<8)) (.bf (decide (d.bK>=1)) (.bf (d.bc==0) (.bf (dT d.bt (cu.mk 0 0)) (.ok true)<|.bf (!d.bc==0) (.ok (decide (d.bc>=d.bK)))<|.ok false)<|.bf (!d.bc==0) (.ok (decide (d.bc>=d.bK)))<|.ok false)<|.ok false)<|.ok false)<|.ok false)<|.bf (decide (d.bS>=0)) (.bf (decide (d.bS<8)) (.bf (decide (d.bK>=1)) (.bf (decide (d.a8<=d.bc)) (.bf (d.bc==0) (.bf (dT d.bt (cu.mk 0 0)) (.ok true)<|.bf (!d.bc==0) (.ok (decide (d.bc>=d.bK)))<|.ok false)<|.bf (!d.bc==0) (.ok (decide (d.bc>=d.bK)))<|.ok false)<|.ok false)<|.ok false)<|.ok false)<|.ok false)<|.bf (decide (d.bS>=0)) (.bf (decide (d.bS<8)) (.bf (decide (d.bK>=1)) (.ok false)<|.ok false)<|.ok false)<|.ok false
def pP (d:aA):=U.s _ (jv U d).val
def Mr:=a6 (cR KK 49 42 (pP U) (bH KK 4)) (Mf U)
theorem Ms:ag (Mr shut) ε:=cX (rs:=[4]) Mg (ag.all Mg rfl) rfl rfl λd k=>by kernel_rfl
def E8 (U:Sh) (r:cu):T Bool:=.bf (dT r (cu.mk 363 0)) (.ok true)<|.ok (dT r (cu.mk 364 0))
def GW (r:cu):=U.s _ (E8 U r).val
def Mt:=a6 (cR KK 52 40 (GW U) (bH KK 4)) (Mr U)
theorem Mu:ag (Mt shut) ε:=cX (rs:=[4]) Ms (ag.all Ms rfl) rfl rfl λr k=>by kernel_rfl
def o_ (s:aZ) (d:aA):T (aZ×Bool):=.bd (Gr U s d.bP) λz0=>.bf (d.bc==0) (.ok (z0.fst,z0.snd.fst.b0==0))<|.bd (GW U d.bt) λa=>.bf (a) (.bf (z0.snd.fst.b0==0) (.bd (kr U z0.fst s) λz2=>.ok (s,!z2))<|.ok (s,false))<|.ok (z0.fst,dT z0.snd.fst d.bt)
def hN (s:aZ) (d:aA):=U.s _ (o_ U s d).val
def A4:=a6 (bU KK 27 60 42 (hN U) (dy KK 60 4)) (Mt U)
theorem s4:ag (A4 shut) ε:=bZ (rs:=[60,4]) Mu (ag.all Mu rfl) rfl rfl λs d k=>by kernel_rfl
end Go.Proofs.YtoggponeookhbaaGreatDoor
end
section
namespace Go.Proofs.YtoggponeookhbaaGreatDoor
open Go.RowKit Go.Dc Go.Vx
variable (U:Sh)
def p5 (a:List aA) (p1:Int):AS SS:=⟨[(0,vd 22 a),(1,vc 0),(7,vl a),(8,vi p1)],[some (.a7 88 [] [.one (.aM 1 0)]),bX 84 [.v (.func (.func 49) (.mk []) (.mk []))]],2,none,false,[],[]⟩
def tw (c:List aA) (p1:Int) (z0:aA) (a:Unit):T (Unit⊕Int⊕(Bool×Int)):=.bd (pP U z0) λb=>.bf (!b) (.ok (.inr (.inl p1)))<|.ok (.inl ())
def rM (U:Sh) (b:List aA) (p1:Int) (a:Unit):T (Int⊕(Bool×Int)):=.ok (.inr (decide (p1<(↑b.length:Int)),p1))
def tb (a:List aA):=bC U (tw U a) (rM U a) a ()
def Zm {R} (k:KX SS R) (a:List aA) (x:Int⊕(Bool×Int)):Option R:=x.elim (λv=>k .ret {p5 a v with env:=[(4,vi v)]}) (λv=>k (.exit 0) (xe [(9,vb v.1)] (p5 a v.2)))
def PS:aX SS:=bh 3 (gq (λst=>(cG st 0 88).bind λ_=>Pc st 1 49) (sD 22 0)) (λp=>p5 p 0) (λp=>tb shut p) (λk p=>Zm k p)
theorem afQ:LS KK ε aq ζA 123 3 PS:=
 aO.bI (π:=List aA) (ag.all s4 rfl) (aF.nil) rfl 60 (λp i a=>p5 p i) (λp=>p) (λp=>()) (St:=λp=>tw shut p) (F:=λp=>rM shut p) (λp=>rfl)
  (λm p i a k=>by kernel_rfl) (by rintro p (x|x)<;>exact⟨_,_,λ_=>rfl⟩) (λp N C A O w a b=>bT b (t:=22) (sl:=0) rfl λv h=>h)
def p6 (a:List aA) (p1 p2:Int) (b:Γa) (c d e f g h:Int):AS SS:=⟨[(0,vd 22 a),(1,vc 0),(7,vl a),(8,vi h)],[some (.a7 88 [] [.one (.aM 1 0)]),bX 84 [.a7 2],some (.a7 50 [] [.one (.aM 3 0)]),bX 42 [li p1,lu p2,.bA .u64 4 b,li c,lu d,li e,li f,li g]],4,none,false,[],[]⟩
def tz (k:List aA) (p1 p2:Int) (b:Γa) (c d e f g h:Int) (z0:aA) (a:Unit):T (Unit⊕Int⊕(Bool×Int)):=.bf (z0.bS !=p1) (.ok (.inl ()))<|.bd (pO U z0 (aA.mk p1 (b3.mk p2 b) (cu.mk c d) e f g)) λi=>.bf (i) (.ok (.inl ()))<|.bd (pO U (aA.mk p1 (b3.mk p2 b) (cu.mk c d) e f g) z0) λj=>.bf (!j) (.ok (.inr (.inl h)))<|.ok (.inl ())
def rN (U:Sh) (c:List aA) (p1 p2:Int) (d:Γa) (e f g h i b:Int) (a:Unit):T (Int⊕(Bool×Int)):=.ok (.inr (decide (b<(↑c.length:Int)),b))
def tc (a:List aA) (p1 p2:Int) (b:Γa) (c d e f g:Int):=bC U (tz U a p1 p2 b c d e f g) (rN U a p1 p2 b c d e f g) a ()
def Zn {R} (k:KX SS R) (a:List aA) (p1 p2:Int) (b:Γa) (c d e f g:Int) (x:Int⊕(Bool×Int)):Option R:=x.elim (λv=>k .ret {p6 a p1 p2 b c d e f g p1 with env:=[(4,vi v)]}) (λv=>k (.exit 0) {p6 a p1 p2 b c d e f g p1 with env:=[(9,vb v.1),(0,vd 22 a),(1,vc 0),(7,vl a),(8,vi v.2)]})
def PT:aX SS:=bh 3 (gq (λst=>(cG st 0 88).bind λ_=>cG st 2 50) (sq (sD 22 0) (sq (hI 3 0) (sq (hI 3 1) (sq (hX ea 3 2) (sq (hI 3 3) (sq (hI 3 4) (sq (hI 3 5) (sq (hI 3 6) (hI 3 7)))))))))) (λp=>u9 p6 p 0) (u9 (tc shut)) (λk=>u9 (Zn k))
theorem afR:LS KK ε aq ζA 123 3 PT:=
 aO.bI (ag.all s4 rfl) (aF.nil) rfl 60 (λp i a=>u9 p6 p i) (λp=>p.1) (λp=>()) (St:=u9 (tz shut)) (F:=u9 (rN shut)) (λp=>rfl)
  (λm p i a k=>by kernel_rfl) (by rintro p (x|x)<;>exact⟨_,_,λ_=>rfl⟩) (λp N C A O w a b=>bT b (t:=22) (sl:=0) rfl λv h=>h)
def Hw (a:List aA) (p1:Int) (p2:Γc):AS SS:=⟨[(1,va 0 0),(3,vs (.mp 1)),(19,vd 22 a),(20,vl a),(21,vi p1)],[bX 24 [.aJ 22 a],some (.map .i64 .i64 p2)],0,none,false,[],[]⟩
def JI (a:List aA) (p2:Γc):AS SS:=Hw a 0 p2
def oV (d:List aA) (p1:Int) (z0:aA) (a:(Γc)):T (((Γc))⊕Unit⊕(Bool×Int×(Γc))):=.bd (dF d none (some p1) none) λc=>.gd (p6 c z0.bS z0.bP.aQ z0.bP.fArgs z0.bt.b0 z0.bt.b8 z0.bK z0.a8 z0.bc 0)<|.bd (tc U c z0.bS z0.bP.aQ z0.bP.fArgs z0.bt.b0 z0.bt.b8 z0.bK z0.a8 z0.bc) λe=>.cs e (λb=>.bf (!!decide (b>=0)) (.ok (.inr (.inl ())))<|.bf (z0.a8 !=0) (.bf (decide ((bG (cp a z0.a8 (ζ.wrap ((bG a z0.a8).getD 0+1))) z0.a8).getD 0>1)) (.ok (.inr (.inl ())))<|.ok (.inl (cp a z0.a8 (ζ.wrap ((bG a z0.a8).getD 0+1)))))<|.ok (.inl (cp a z0.a8 (ζ.wrap ((bG a z0.a8).getD 0+1))))) λb=>.bf (z0.a8 !=0) (.bf (decide ((bG (cp a z0.a8 (ζ.wrap ((bG a z0.a8).getD 0+1))) z0.a8).getD 0>1)) (.ok (.inr (.inl ())))<|.ok (.inl (cp a z0.a8 (ζ.wrap ((bG a z0.a8).getD 0+1)))))<|.ok (.inl (cp a z0.a8 (ζ.wrap ((bG a z0.a8).getD 0+1))))
def sb (U:Sh) (b:List aA) (p1:Int) (a:(Γc)):T (Unit⊕(Bool×Int×(Γc))):=.ok (.inr (decide (p1<(↑b.length:Int)),p1,a))
def oH (a:List aA) (p2:Γc):Option (Unit⊕(Bool×Int×(Γc))):=bC U (oV U a) (sb U a) a p2
def Z8 {R} (k:KX SS R) (a:List aA) (x:Unit⊕(Bool×Int×(Γc))):Option R:=x.elim (λv=>k .ret ⟨[(2,vi 390)],[],0,none,false,[],[]⟩) (λv=>k (.exit 0) (xe [(22,vb v.1)] (Hw a v.2.1 v.2.2)))
def Qx:aX SS:=bh 6 (sq (sD 22 19) (λst=>gG st 1)) (u2 JI) (u2 (oH shut)) (λk p=>Z8 k p.1)
def KR:=bq (A4 shut) aq ζA 123 [ke (λst=>(cG st 0 88).bind λ_=>Pc st 1 49) PS (PT)]
theorem KS:aR KR ε:=bu (ag.all s4 rfl) Tryz.func123 rfl aT (by kernel_rfl) (aO.alt afQ afR)
theorem agx:LS KK ε aq Tryz.f23 23 6 Qx:=
 aO.bI (π:=List aA×(Γc)) (σ:=(Γc)) KS (aF.nil) rfl 60 (λp i a=>Hw p.1 i a) (λp=>p.1) (λp=>p.2) (St:=λp=>oV shut p.1) (F:=λp=>sb shut p.1) (λp=>rfl)
  (λm p i a k=>by kernel_rfl) (by rintro p (x|x)<;>exact⟨_,_,λ_=>rfl⟩) (λp N C A O w a b=>bT b (t:=22) (sl:=19) rfl λv h=>h)
def W8:=bq KR aq Tryz.f23 23 [Qx]
theorem W9:aR W8 ε:=bu KS Tryz.func23 rfl aT (by kernel_rfl) agx
def ju (h:dm):T Int:=.bf (decide ((↑h.cL.length:Int)>64)) (.ok 390)<|.gd (p5 h.cL 0)<|.bd (tb U h.cL) λc=>.cs c (λb=>.bf (!!decide (b>=0)) (.ok 390)<|.gd (JI h.cL [])<|.bd (oH U h.cL []) λa=>.cs a (λ_=>.ok 390) λd=>.ok 0) λb=>.gd (JI h.cL [])<|.bd (oH U h.cL []) λa=>.cs a (λ_=>.ok 390) λd=>.ok 0
def nj (h:dm):=U.s _ (ju U h).val
def Ax:=a6 (cR KK 23 24 (nj U) (bH KK 27)) (A4 U)
theorem AL:ag (Ax shut) ε:=cX (rs:=[27]) s4 W9 rfl rfl λh k=>by kernel_rfl
def wS (a:Γa) (p1:List aA) (p2:List aZ) (b:Int):AS SS:=⟨[(2,va 0 0),(6,vo 1),(14,vd 31 a),(15,vl a),(16,vi b)],[bX 24 [.aJ 22 p1],rX 60 p2],0,none,false,[],[]⟩
def M_ (d:Γa) (p1:List aA) (e z0:Int) (a:List aZ):T (List aZ⊕Unit⊕(Bool×Int×List aZ)):=.bd (idx a (ζ.wrap ((↑a.length:Int)-1))) λf=>.bd (a[(ζ.wrap ((↑a.length:Int)-1)).toNat]?) λz2=>.bd (idx p1 z0) λz3=>.bd (hN U z2 z3) λb=>.bf (!b.2) (.ok (.inr (.inl ())))<|.bd (kr U b.1 z2) λz5=>.bf (z5) (.ok (.inr (.inl ())))<|.bd (app 256 a [b.1]) λc=>.ok (.inl c)
def K6 (U:Sh) (c:Γa) (p1:List aA) (b:Int) (a:List aZ):T (Unit⊕(Bool×Int×List aZ)):=.ok (.inr (decide (b<(↑c.length:Int)),b,a))
def MQ (a:Γa) (p1:List aA) (p2:List aZ):=bC U (M_ U a p1) (K6 U a p1) a p2
def aaF {R} (k:KX SS R) (a:Γa) (p1:List aA) (x:Unit⊕(Bool×Int×List aZ)):Option R:=x.elim (λv=>k .ret ⟨[(4,vo 0),(5,vb false)],[rX 60 []],0,none,false,[],[]⟩) (λv=>k (.exit 0) (xe [(17,vb v.1)] (wS a p1 v.2.2 v.2.1)))
def Q3:aX SS:=bh 4 (sq (sD 31 14) (sq (hD 22 0 0) (hR 1 60))) (λp=>u3 wS p 0) (u3 (MQ shut)) (λk p=>aaF k p.1 p.2.1)
theorem ag5:LS KK ε aq Tryz.f33 33 4 Q3:=
 aO.bI (π:=Γa×List aA×List aZ) (σ:=List aZ) (ag.all AL rfl) (aF.nil) rfl 60 (λp i a=>wS p.1 p.2.1 a i) (λp=>p.1) (λp=>p.2.2) (St:=λp=>M_ shut p.1 p.2.1) (F:=λp=>K6 shut p.1 p.2.1) (λp=>rfl)
  (λm p i a k=>by kernel_rfl) (by rintro p (x|x)<;>exact⟨_,_,λ_=>rfl⟩) (λp N C A O w a b=>bT b (t:=31) (sl:=14) rfl λv h=>h)
def XM:=bq (Ax shut) aq Tryz.f33 33 [Q3]
theorem XN:aR XM ε:=bu (ag.all AL rfl) Tryz.func33 rfl aT (by kernel_rfl) ag5
def Y7 (h:dm) (l:Γa):T (List aZ×Bool):=.bd (vx U) λz0=>.gd (wS l h.cL [z0] 0)<|.bd (MQ U l h.cL [z0]) λa=>.cs a (λ_=>.ok ([],false)) λb=>.ok (b.2.2,true)
def acJ (h:dm) (l:Γa):=U.s _ (Y7 U h l).val
def Bs:=a6 (bU KK 33 24 31 (acJ U) (dy KK 89 4)) (Ax U)
theorem Bt:ag (Bs shut) ε:=bZ (rs:=[89,4]) AL XN rfl rfl λh l k=>by kernel_rfl
def wT (a:Γa) (p1:List aZ) (p2:Int) (e:List aA) (f g:Int) (h:Γa) (i j k b c d:Int):AS SS:=⟨[(1,vd 31 a),(2,vd 89 p1),(4,va 0 0),(7,va 1 0),(15,vi p2),(16,vi d)],[bX 24 [.aJ 22 e],bX 42 [li f,lu g,.bA .u64 4 h,li i,lu j,li k,li b,li c]],0,none,false,[],[]⟩
def M' (c:Γa) (p1:List aZ) (p2:Int) (l:List aA) (g h:Int) (i:Γa) (j k b f d a:Int):T (Int⊕Int⊕(Bool×Int)):=.bf (decide (a<p2)) (.bf (decide (a>0)) (.bd (idx c (ζ.wrap (a-1))) λz0=>.bd (idx l z0) λm=>.bf (decide (m.a8>d)) (.ok (.inl (ζ.wrap (a+1))))<|.bf (decide (a<(↑c.length:Int))) (.bd (idx c a) λz2=>.bd (idx l z2) λz3=>.bf (decide (z3.a8<b)) (.ok (.inl (ζ.wrap (a+1))))<|.bd (idx p1 a) λz4=>.bd (hN U z4 (aA.mk g (b3.mk h i) (cu.mk j k) b f d)) λo=>.bf (o.2) (.bd (idx p1 a) λp=>.bd (kr U o.1 p) λq=>.bf (q) (.ok (.inr (.inl a)))<|.ok (.inl (ζ.wrap (a+1))))<|.ok (.inl (ζ.wrap (a+1))))<|.bd (idx p1 a) λz2=>.bd (hN U z2 (aA.mk g (b3.mk h i) (cu.mk j k) b f d)) λe=>.bf (e.2) (.bd (idx p1 a) λz4=>.bd (kr U e.1 z4) λz5=>.bf (z5) (.ok (.inr (.inl a)))<|.ok (.inl (ζ.wrap (a+1))))<|.ok (.inl (ζ.wrap (a+1))))<|.bf (decide (a<(↑c.length:Int))) (.bd (idx c a) λz0=>.bd (idx l z0) λm=>.bf (decide (m.a8<b)) (.ok (.inl (ζ.wrap (a+1))))<|.bd (idx p1 a) λz2=>.bd (hN U z2 (aA.mk g (b3.mk h i) (cu.mk j k) b f d)) λe=>.bf (e.2) (.bd (idx p1 a) λz4=>.bd (kr U e.1 z4) λz5=>.bf (z5) (.ok (.inr (.inl a)))<|.ok (.inl (ζ.wrap (a+1))))<|.ok (.inl (ζ.wrap (a+1))))<|.bd (idx p1 a) λz0=>.bd (hN U z0 (aA.mk g (b3.mk h i) (cu.mk j k) b f d)) λn=>.bf (n.2) (.bd (idx p1 a) λz2=>.bd (kr U n.1 z2) λz3=>.bf (z3) (.ok (.inr (.inl a)))<|.ok (.inl (ζ.wrap (a+1))))<|.ok (.inl (ζ.wrap (a+1))))<|.ok (.inr (.inr (decide (a<p2),a)))
def MR (a:Γa) (p1:List aZ) (p2:Int) (e:List aA) (f g:Int) (h:Γa) (i j k b c d:Int):=bQ U (M' U a p1 p2 e f g h i j k b c) 1000000 d
def aaG {R} (k:KX SS R) (a:Γa) (p1:List aZ) (p2:Int) (d:List aA) (e f:Int) (g:Γa) (h i j b c:Int) (x:Int⊕(Bool×Int)):Option R:=x.elim (λv=>k .ret ⟨[(8,vi v),(9,vb true)],[],0,none,false,[],[]⟩) (λv=>k (.exit 0) {wT a p1 p2 d e f g h i j b c p2 with env:=[(17,vb v.1),(1,vd 31 a),(2,vd 89 p1),(4,va 0 0),(7,va 1 0),(15,vi p2),(16,vi v.2)]})
def Q4:aX SS:=bh 3 (sq (sD 31 1) (sq (sD 89 2) (sq (sI 15) (sq (hD 22 0 0) (sq (hI 1 0) (sq (hI 1 1) (sq (hX ea 1 2) (sq (hI 1 3) (sq (hI 1 4) (sq (hI 1 5) (sq (hI 1 6) (sq (hI 1 7) (sI 16))))))))))))) (Uy wT) (Uy (MR shut)) (λk p=>aaG k p.1 p.2.1 p.2.2.1 p.2.2.2.1 p.2.2.2.2.1 p.2.2.2.2.2.1 p.2.2.2.2.2.2.1 p.2.2.2.2.2.2.2.1 p.2.2.2.2.2.2.2.2.1 p.2.2.2.2.2.2.2.2.2.1 p.2.2.2.2.2.2.2.2.2.2.1 p.2.2.2.2.2.2.2.2.2.2.2.1)
theorem ag6:LS KK ε aq Tryz.f34 34 3 Q4:=
 aO.bQ (π:=Γa×List aZ×Int×List aA×Int×Int×Γa×Int×Int×Int×Int×Int×Int) (σ:=Int) (ag.all Bt rfl) (aF.nil) rfl 60 (λp a=>wT p.1 p.2.1 p.2.2.1 p.2.2.2.1 p.2.2.2.2.1 p.2.2.2.2.2.1 p.2.2.2.2.2.2.1 p.2.2.2.2.2.2.2.1 p.2.2.2.2.2.2.2.2.1 p.2.2.2.2.2.2.2.2.2.1 p.2.2.2.2.2.2.2.2.2.2.1 p.2.2.2.2.2.2.2.2.2.2.2.1 a) (λp=>p.2.2.2.2.2.2.2.2.2.2.2.2) (St:=λp=>M' shut p.1 p.2.1 p.2.2.1 p.2.2.2.1 p.2.2.2.2.1 p.2.2.2.2.2.1 p.2.2.2.2.2.2.1 p.2.2.2.2.2.2.2.1 p.2.2.2.2.2.2.2.2.1 p.2.2.2.2.2.2.2.2.2.1 p.2.2.2.2.2.2.2.2.2.2.1 p.2.2.2.2.2.2.2.2.2.2.2.1) (λp=>1000000) (λp=>rfl)
  (λm p a k=>by kernel_rfl)
def XO:=bq (Bs shut) aq Tryz.f34 34 [Q4]
theorem XP:aR XO ε:=bu (ag.all Bt rfl) Tryz.func34 rfl aT (by kernel_rfl) ag6
def Y8 (h:dm) (l:Γa) (s:List aZ) (d:aA):T (Int×Bool):=.gd (wT l s (ζ.wrap ((↑l.length:Int)+1)) h.cL d.bS d.bP.aQ d.bP.fArgs d.bt.b0 d.bt.b8 d.bK d.a8 d.bc 0)<|.bd (MR U l s (ζ.wrap ((↑l.length:Int)+1)) h.cL d.bS d.bP.aQ d.bP.fArgs d.bt.b0 d.bt.b8 d.bK d.a8 d.bc 0) λb=>.cs b (λa=>.ok (a,true)) λa=>.ok (0,false)
def acK (h:dm) (l:Γa) (s:List aZ) (d:aA):=U.s _ (Y8 U h l s d).val
def Bu:=a6 (FO KK 34 24 31 89 42 (acK U) (dy KK 3 4)) (Bs U)
theorem Bv:ag (Bu shut) ε:=abE (rs:=[3,4]) Bt XP rfl rfl λh l s d k=>by kernel_rfl
end Go.Proofs.YtoggponeookhbaaGreatDoor
end
section
namespace Go.Proofs.YtoggponeookhbaaGreatDoor
open Go.RowKit Go.Dc Go.Vx
variable (U:Sh)
def Y6 (U:Sh) (pid:Int):T Int:=.ok (ζ.wrap (pid.tmod 64))
def lG (pid:Int):=U.s _ (Y6 U pid).val
def Bh:=a6 (cR KK 298 35 (lG U) (bH KK 3)) (Bu U)
theorem Bi:ag (Bh shut) ε:=cX (rs:=[3]) Bv (ag.all Bv rfl) rfl rfl λpid k=>by kernel_rfl
def wo (a:Int) (p1:List ah) (p2:Int):AS SS:=⟨[(1,vu a),(4,va 0 0),(8,vd 48 p1),(9,vl p1),(10,vi p2)],[bX 115 [lu 0,lu 0,.v (.bool false),lu 0]],0,none,false,[],[]⟩
def tK (U:Sh) (b:Int) (p1:List ah) (p2:Int) (z0:ah) (a:Unit):T (Unit⊕(Int×Int×Bool×Int)⊕(Bool×Int)):=.bf (z0.aa==b) (.ok (.inr (.inl (z0.aa,z0.aP,z0.bb,z0.bV))))<|.ok (.inl ())
def r3 (U:Sh) (b:Int) (p1:List ah) (p2:Int) (a:Unit):T ((Int×Int×Bool×Int)⊕(Bool×Int)):=.ok (.inr (decide (p2<(↑p1.length:Int)),p2))
def Cs (a:Int) (p1:List ah):=bC U (tK U a p1) (r3 U a p1) p1 ()
def ZU {R} (k:KX SS R) (a:Int) (p1:List ah) (x:(Int×Int×Bool×Int)⊕(Bool×Int)):Option R:=x.elim (λv=>k .ret ⟨[(4,va 0 0),(5,vb true)],[bX 115 [lu v.1,lu v.2.1,.v (.bool v.2.2.1),lu v.2.2.2]],0,none,false,[],[]⟩) (λv=>k (.exit 0) {wo a p1 a with env:=[(11,vb v.1),(1,vu a),(4,va 0 0),(8,vd 48 p1),(9,vl p1),(10,vi v.2)]})
def Qj:aX SS:=bh 3 (sq (sI 1) (sD 48 8)) (λp=>u2 wo p 0) (u2 (Cs shut)) (λk=>u2 (ZU k))
theorem agh:LS KK ε aq Tryz.f224 224 3 Qj:=
 aO.bI (ag.all Bi rfl) (aF.nil) rfl 60 (λp i a=>u2 wo p i) (λp=>p.2) (λp=>()) (St:=u2 (tK shut)) (F:=u2 (r3 shut)) (λp=>rfl)
  (λm p i a k=>by kernel_rfl) (by rintro p (x|x)<;>exact⟨_,_,λ_=>rfl⟩) (λp N C A O w a b=>bT b (t:=48) (sl:=8) rfl λv h=>h)
def WJ:=bq (Bh shut) aq Tryz.f224 224 [Qj]
theorem WK:aR WJ ε:=bu (ag.all Bi rfl) Tryz.func224 rfl aT (by kernel_rfl) agh
def Em (l:List ah) (pid:Int):T (ah×Bool):=.gd (wo pid l 0)<|.bd (Cs U pid l) λb=>.cs b (λa=>.ok (⟨a.1,a.2.1,a.2.2.1,a.2.2.2⟩,true)) λa=>.ok (⟨0,0,false,0⟩,false)
def vz (l:List ah) (pid:Int):=U.s _ (Em U l pid).val
def LW:=a6 (bU KK 224 48 35 (vz U) (dy KK 115 4)) (Bh U)
theorem LX:ag (LW shut) ε:=bZ (rs:=[115,4]) Bi WK rfl rfl λl pid k=>by kernel_rfl
def D8 (l:List ah) (pid:Int):T Bool:=.bd (vz U l pid) λa=>.bf (a.2) (.ok (!a.1.bb))<|.ok false
def nh (l:List ah) (pid:Int):=U.s _ (D8 U l pid).val
def z_:=a6 (bU KK 172 48 35 (nh U) (bH KK 4)) (LW U)
theorem z':ag (z_ shut) ε:=bZ (rs:=[4]) LX (ag.all LX rfl) rfl rfl λl pid k=>by kernel_rfl
def qn (a:Int) (p1:List ah) (p2:Int):AS SS:=⟨[(1,vi a),(7,vd 48 p1),(8,vl p1),(9,vi p2)],[],0,none,false,[],[]⟩
def ud (b:Int) (p1:List ah) (p2:Int) (z0:ah) (a:Unit):T (Unit⊕Unit⊕(Bool×Int)):=.bd (lG U z0.aa) λc=>.bf (c==b) (.ok (.inr (.inl ())))<|.ok (.inl ())
def sn (U:Sh) (b:Int) (p1:List ah) (p2:Int) (a:Unit):T (Unit⊕(Bool×Int)):=.ok (.inr (decide (p2<(↑p1.length:Int)),p2))
def CV (a:Int) (p1:List ah):=bC U (ud U a p1) (sn U a p1) p1 ()
def aaq {R} (k:KX SS R) (a:Int) (p1:List ah) (x:Unit⊕(Bool×Int)):Option R:=x.elim (λv=>k .ret {qn a p1 a with env:=[(4,vb true)]}) (λv=>k (.exit 0) {qn a p1 a with env:=[(10,vb v.1),(1,vi a),(7,vd 48 p1),(8,vl p1),(9,vi v.2)]})
def QP:aX SS:=bh 3 (sq (sI 1) (sD 48 7)) (λp=>u2 qn p 0) (u2 (CV shut)) (λk=>u2 (aaq k))
theorem agP:LS KK ε aq Tryz.f273 273 3 QP:=
 aO.bI (ag.all z' rfl) (aF.nil) rfl 60 (λp i a=>u2 qn p i) (λp=>p.2) (λp=>()) (St:=u2 (ud shut)) (F:=u2 (sn shut)) (λp=>rfl)
  (λm p i a k=>by kernel_rfl) (by rintro p (x|x)<;>exact⟨_,_,λ_=>rfl⟩) (λp N C A O w a b=>bT b (t:=48) (sl:=7) rfl λv h=>h)
def Xs:=bq (z_ shut) aq Tryz.f273 273 [QP]
theorem Xt:aR Xs ε:=bu (ag.all z' rfl) Tryz.func273 rfl aT (by kernel_rfl) agP
def EK (l:List ah) (index:Int):T Bool:=.gd (qn index l 0)<|.bd (CV U index l) λa=>.cs a (λ_=>.ok true) λb=>.ok false
def GF (l:List ah) (index:Int):=U.s _ (EK U l index).val
def A5:=a6 (bU KK 273 48 3 (GF U) (bH KK 4)) (z_ U)
theorem s3:ag (A5 shut) ε:=bZ (rs:=[4]) z' Xt rfl rfl λl index k=>by kernel_rfl
def Hy (a:List ah) (p1 p2:Int) (b:Bool) (c d:Int) (e:List ah):AS SS:=⟨[(0,vd 48 a),(3,va 0 0),(5,vo 1),(10,vd 48 a),(11,vl a),(12,vi d)],[bX 115 [lu p1,lu p2,.v (.bool b),lu c],rX 115 e],0,none,false,[],[]⟩
def T1 (a:List ah) (p1 p2:Int) (b:Bool) (c:Int) (d:List ah):AS SS:=Hy a p1 p2 b c 0 d
def uf (d:List ah) (p1 p2:Int) (e:Bool) (f g:Int) (z0:ah) (a:List ah):T (List ah⊕(Bool×Int×List ah)):=.bd (lG U z0.aa) λb=>.bd (lG U p1) λc=>.bf (decide (b<c)) (.bd (app 32 a [z0]) λz3=>.ok (.inl z3))<|.ok (.inl a)
def sr (U:Sh) (c:List ah) (p1 p2:Int) (d:Bool) (e b:Int) (a:List ah):T ((Bool×Int×List ah)):=.ok (decide (b<(↑c.length:Int)),b,a)
def CX (a:List ah) (p1 p2:Int) (b:Bool) (c:Int) (d:List ah):=bC U (uf U a p1 p2 b c) (sr U a p1 p2 b c) a d
def aas {R} (k:KX SS R) (a:List ah) (p1 p2:Int) (b:Bool) (c:Int) (x:(Bool×Int×List ah)):Option R:=(λv=>k (.exit 0) {Hy a p1 p2 b c p1 v.2.2 with env:=[(13,vb v.1),(0,vd 48 a),(3,va 0 0),(5,vo 1),(10,vd 48 a),(11,vl a),(12,vi v.2.1)]}) x
def QR:aX SS:=bh 4 (sq (sD 48 0) (sq (hI 0 0) (sq (hI 0 1) (sq (hX gD 0 2) (sq (hI 0 3) (hR 1 115)))))) (u6 T1) (u6 (CX shut)) (λk p=>aas k p.1 p.2.1 p.2.2.1 p.2.2.2.1 p.2.2.2.2.1)
theorem agR:LS KK ε aq ζB 274 4 QR:=
 aO.bI (π:=List ah×Int×Int×Bool×Int×List ah) (σ:=List ah) (ag.all s3 rfl) (aF.nil) rfl 60 (λp i a=>Hy p.1 p.2.1 p.2.2.1 p.2.2.2.1 p.2.2.2.2.1 i a) (λp=>p.1) (λp=>p.2.2.2.2.2) (St:=λp=>uf shut p.1 p.2.1 p.2.2.1 p.2.2.2.1 p.2.2.2.2.1) (F:=λp=>sr shut p.1 p.2.1 p.2.2.1 p.2.2.2.1 p.2.2.2.2.1) (λp=>rfl)
  (λm p i a k=>by kernel_rfl) (λp x=>⟨_,_,λ_=>rfl⟩) (λp N C A O w a b=>bT b (t:=48) (sl:=0) rfl λv h=>h)
def wM (a:List ah) (p1 p2:Int) (b:Bool) (c:Int) (d:List ah) (e:Int):AS SS:=⟨[(3,va 0 0),(5,vo 1),(32,vd 48 a),(33,vl a),(34,vi e)],[bX 115 [lu p1,lu p2,.v (.bool b),lu c],rX 115 d],0,none,false,[],[]⟩
def ue (d:List ah) (p1 p2:Int) (e:Bool) (f g:Int) (z0:ah) (a:List ah):T (List ah⊕(Bool×Int×List ah)):=.bd (lG U z0.aa) λb=>.bd (lG U p1) λc=>.bf (decide (b>c)) (.bd (app 32 a [z0]) λz3=>.ok (.inl z3))<|.ok (.inl a)
def so (U:Sh) (c:List ah) (p1 p2:Int) (d:Bool) (e b:Int) (a:List ah):T ((Bool×Int×List ah)):=.ok (decide (b<(↑c.length:Int)),b,a)
def CW (a:List ah) (p1 p2:Int) (b:Bool) (c:Int) (d:List ah):=bC U (ue U a p1 p2 b c) (so U a p1 p2 b c) a d
def aar {R} (k:KX SS R) (a:List ah) (p1 p2:Int) (b:Bool) (c:Int) (x:(Bool×Int×List ah)):Option R:=(λv=>k (.exit 2) {wM a p1 p2 b c v.2.2 p1 with env:=[(35,vb v.1),(3,va 0 0),(5,vo 1),(32,vd 48 a),(33,vl a),(34,vi v.2.1)]}) x
def QQ:aX SS:=bh 11 (sq (sD 48 32) (sq (hI 0 0) (sq (hI 0 1) (sq (hX gD 0 2) (sq (hI 0 3) (hR 1 115)))))) (λp=>u6 wM p 0) (u6 (CW shut)) (λk p=>aar k p.1 p.2.1 p.2.2.1 p.2.2.2.1 p.2.2.2.2.1)
theorem agQ:LS KK ε aq ζB 274 11 QQ:=
 aO.bI (π:=List ah×Int×Int×Bool×Int×List ah) (σ:=List ah) (ag.all s3 rfl) (aF.nil) rfl 60 (λp i a=>wM p.1 p.2.1 p.2.2.1 p.2.2.2.1 p.2.2.2.2.1 a i) (λp=>p.1) (λp=>p.2.2.2.2.2) (St:=λp=>ue shut p.1 p.2.1 p.2.2.1 p.2.2.2.1 p.2.2.2.2.1) (F:=λp=>so shut p.1 p.2.1 p.2.2.1 p.2.2.2.1 p.2.2.2.2.1) (λp=>rfl)
  (λm p i a k=>by kernel_rfl) (λp x=>⟨_,_,λ_=>rfl⟩) (λp N C A O w a b=>bT b (t:=48) (sl:=32) rfl λv h=>h)
def Xu:=bq (A5 shut) aq ζB 274 [QR,QQ]
theorem Xv:aR Xu ε:=(aR.fz (ag.all s3 rfl) Tryz.func274 rfl aT λc a=>by cases a;exact aF.cons (aF.cons (aF.nil) (by kernel_rfl) agQ) (by kernel_rfl) agR)
def EL (l:List ah) (x:ah):T (List ah):=.gd (T1 l x.aa x.aP x.bb x.bV [])<|.bd (CX U l x.aa x.aP x.bb x.bV []) λb=>.bd (app 32 b.2.2 [x]) λa=>.gd (wM l x.aa x.aP x.bb x.bV a 0)<|.bd (CW U l x.aa x.aP x.bb x.bV a) λc=>.ok c.2.2
def GG (l:List ah) (x:ah):=U.s _ (EL U l x).val
def A6:=a6 (bU KK 274 48 115 (GG U) (bH KK 48)) (A5 U)
theorem A7:ag (A6 shut) ε:=bZ (rs:=[48]) s3 Xv rfl rfl λl x k=>by kernel_rfl
def wq (a:Int) (p1:Γa) (p2:List ah) (b:Int):AS SS:=⟨[(1,vu a),(2,va 0 0),(4,va 1 0),(15,vi b)],[bX 50 [.bA .i64 16 p1,.aJ 48 p2],bX 50 [li 0,li 0,li 0,li 0,li 0,li 0,li 0,li 0,li 0,li 0,li 0,li 0,li 0,li 0,li 0,li 0,.v (.slice none 0 0)]],0,none,false,[],[]⟩
def mF (b:Int) (p1:Γa) (p2:List ah) (a:Int):T (Int⊕(Int×Γa×List ah)⊕(Bool×Int)):=.bf (decide (a<16)) (.bd (GF U p2 (ζ.wrap (a+1))) λc=>.bf (c) (.ok (.inl (ζ.wrap (a+1))))<|.bd (c6 a 16) λe=>.bf (decide (ao p1 e>65535)) (.ok (.inl (ζ.wrap (a+1))))<|.bd (c6 a 16) λz2=>.bd (c6 a 16) λz3=>.bd (c6 a 16) λz4=>.bf (true&&p1.length.beq 16) (.bd (GG U p2 (ah.mk (τ.wrap (τ.wrap (τ.wrap (τ.wrap (ao p1 z2)*64)+τ.wrap a)+1)) b false 0)) λd=>.ok (.inr (.inl (τ.wrap (τ.wrap (τ.wrap (τ.wrap (ao p1 z2)*64)+τ.wrap a)+1),p1.set z4 (ζ.wrap (ao p1 z3+1)),d))))<|.no)<|.ok (.inr (.inr (decide (a<16),a)))
def Ct (a:Int) (p1:Γa) (p2:List ah) (b:Int):=bQ U (mF U a p1 p2) 1000000 b
def ZV {R} (k:KX SS R) (a:Int) (p1:Γa) (p2:List ah) (x:(Int×Γa×List ah)⊕(Bool×Int)):Option R:=x.elim (λv=>k .ret ⟨[(4,va 0 0),(5,vu v.1),(6,vi 0)],[bX 50 [.bA .i64 16 v.2.1,.aJ 48 v.2.2]],0,none,false,[],[]⟩) (λv=>k (.exit 0) {wq a p1 p2 a with env:=[(16,vb v.1),(1,vu a),(2,va 0 0),(4,va 1 0),(15,vi v.2)]})
def Qk:aX SS:=bh 5 (sq (sI 1) (sq (hX ea 0 0) (sq (hD 48 0 1) (sI 15)))) (u4 wq) (u4 (Ct shut)) (λk p=>ZV k p.1 p.2.1 p.2.2.1)
theorem agi:LS KK ε aq Tryz.f225 225 5 Qk:=
 aO.bQ (π:=Int×Γa×List ah×Int) (σ:=Int) (ag.all A7 rfl) (aF.nil) rfl 60 (λp a=>wq p.1 p.2.1 p.2.2.1 a) (λp=>p.2.2.2) (St:=λp=>mF shut p.1 p.2.1 p.2.2.1) (λp=>1000000) (λp=>rfl)
  (λm p a k=>by kernel_rfl)
def WL:=bq (A6 shut) aq Tryz.f225 225 [Qk]
theorem WM:aR WL ε:=bu (ag.all A7 rfl) Tryz.func225 rfl aT (by kernel_rfl) agi
def En (p:br) (parent:Int):T (br×Int×Int):=.bd (nh U p.ae parent) λc=>.bf (!c) (.ok (⟨[0,0,0,0,0,0,0,0,0,0,0,0,0,0,0,0],[]⟩,0,321))<|.gd (wq parent p.aH p.ae 0)<|.bd (Ct U parent p.aH p.ae 0) λb=>.cs b (λa=>.ok (⟨a.2.1,a.2.2⟩,a.1,0)) λa=>.ok (⟨[0,0,0,0,0,0,0,0,0,0,0,0,0,0,0,0],[]⟩,0,322)
def Gt (p:br) (parent:Int):=U.s _ (En U p parent).val
def Ao:=a6 (bU KK 225 50 35 (Gt U) (fF KK 50 35 27)) (A6 U)
theorem Ap:ag (Ao shut) ε:=bZ (rs:=[50,35,27]) A7 WM rfl rfl λp parent k=>by kernel_rfl
def Hr (a:Int) (p1:List ah) (p2:Γa) (b c:Int) (d:Bool) (e f:Int) (g:List ah):AS SS:=⟨[(2,vu a),(3,va 0 0),(6,va 1 0),(9,va 2 0),(11,vo 3),(41,vd 48 p1),(42,vl p1),(43,vi f)],[bX 50 [.bA .i64 16 p2,.aJ 48 p1],bX 50 [li 0,li 0,li 0,li 0,li 0,li 0,li 0,li 0,li 0,li 0,li 0,li 0,li 0,li 0,li 0,li 0,.v (.slice none 0 0)],bX 115 [lu b,lu c,.v (.bool d),lu e],rX 115 g],0,none,false,[],[]⟩
def TU (a:Int) (p1:List ah) (p2:Γa) (b c:Int) (d:Bool) (e:Int) (f:List ah):AS SS:=Hr a p1 p2 b c d e 0 f
def tL (U:Sh) (b:Int) (p1:List ah) (p2:Γa) (d e:Int) (f:Bool) (g h:Int) (z0:ah) (a:List ah):T (List ah⊕(Bool×Int×List ah)):=.bf (z0.aa !=b) (.bd (app 32 a [z0]) λc=>.ok (.inl c))<|.ok (.inl a)
def r4 (U:Sh) (c:Int) (p1:List ah) (p2:Γa) (d e:Int) (f:Bool) (g b:Int) (a:List ah):T ((Bool×Int×List ah)):=.ok (decide (b<(↑p1.length:Int)),b,a)
def Cu (a:Int) (p1:List ah) (p2:Γa) (b c:Int) (d:Bool) (e:Int) (f:List ah):=bC U (tL U a p1 p2 b c d e) (r4 U a p1 p2 b c d e) p1 f
def ZW {R} (k:KX SS R) (a:Int) (p1:List ah) (p2:Γa) (b c:Int) (d:Bool) (e:Int) (x:(Bool×Int×List ah)):Option R:=(λv=>k (.exit 0) {Hr a p1 p2 b c d e a v.2.2 with env:=[(44,vb v.1),(2,vu a),(3,va 0 0),(6,va 1 0),(9,va 2 0),(11,vo 3),(41,vd 48 p1),(42,vl p1),(43,vi v.2.1)]}) x
def Ql:aX SS:=bh 11 (sq (sI 2) (sq (sD 48 41) (sq (hX ea 0 0) (sq (hI 2 0) (sq (hI 2 1) (sq (hX gD 2 2) (sq (hI 2 3) (hR 3 115)))))))) (u8 TU) (u8 (Cu shut)) (λk p=>ZW k p.1 p.2.1 p.2.2.1 p.2.2.2.1 p.2.2.2.2.1 p.2.2.2.2.2.1 p.2.2.2.2.2.2.1)
theorem agj:LS KK ε aq Tryz.f226 226 11 Ql:=
 aO.bI (π:=Int×List ah×Γa×Int×Int×Bool×Int×List ah) (σ:=List ah) (ag.all Ap rfl) (aF.nil) rfl 60 (λp i a=>Hr p.1 p.2.1 p.2.2.1 p.2.2.2.1 p.2.2.2.2.1 p.2.2.2.2.2.1 p.2.2.2.2.2.2.1 i a) (λp=>p.2.1) (λp=>p.2.2.2.2.2.2.2) (St:=λp=>tL shut p.1 p.2.1 p.2.2.1 p.2.2.2.1 p.2.2.2.2.1 p.2.2.2.2.2.1 p.2.2.2.2.2.2.1) (F:=λp=>r4 shut p.1 p.2.1 p.2.2.1 p.2.2.2.1 p.2.2.2.2.1 p.2.2.2.2.2.1 p.2.2.2.2.2.2.1) (λp=>rfl)
  (λm p i a k=>by kernel_rfl) (λp x=>⟨_,_,λ_=>rfl⟩) (λp N C A O w a b=>bT b (t:=48) (sl:=41) rfl λv h=>h)
def WN:=bq (Ao shut) aq Tryz.f226 226 [Ql]
theorem WR:aR WN ε:=bu (ag.all Ap rfl) Tryz.func226 rfl aT (by kernel_rfl) agj
def Eo (p:br) (pid child:Int):T (br×Int×Int):=.bd (nh U p.ae pid) λb=>.bf (!b) (.ok (⟨[0,0,0,0,0,0,0,0,0,0,0,0,0,0,0,0],[]⟩,0,321))<|.bd (vz U p.ae child) λa=>.bf (!a.2) (.ok (⟨[0,0,0,0,0,0,0,0,0,0,0,0,0,0,0,0],[]⟩,0,324))<|.bf (a.1.aP !=pid) (.ok (⟨[0,0,0,0,0,0,0,0,0,0,0,0,0,0,0,0],[]⟩,0,324))<|.bf (!a.1.bb) (.ok (⟨[0,0,0,0,0,0,0,0,0,0,0,0,0,0,0,0],[]⟩,0,322))<|.gd (TU child p.ae p.aH a.1.aa a.1.aP a.1.bb a.1.bV [])<|.bd (Cu U child p.ae p.aH a.1.aa a.1.aP a.1.bb a.1.bV []) λc=>.ok (⟨p.aH,c.2.2⟩,a.1.bV,0)
def Gu (p:br) (pid child:Int):=U.s _ (Eo U p pid child).val
def Aq:=a6 (fN KK 226 50 35 35 (Gu U) (fF KK 50 35 27)) (Ao U)
theorem Ar:ag (Aq shut) ε:=gz (rs:=[50,35,27]) Ap WR rfl rfl λp pid child k=>by kernel_rfl
def Hs (a p1:Int) (p2:List ah) (b:Γa) (c:Int) (d:List ah):AS SS:=⟨[(1,vu a),(2,vu p1),(3,va 0 0),(6,va 1 0),(8,vo 2),(21,vd 48 p2),(22,vl p2),(23,vi c)],[bX 50 [.bA .i64 16 b,.aJ 48 p2],bX 50 [li 0,li 0,li 0,li 0,li 0,li 0,li 0,li 0,li 0,li 0,li 0,li 0,li 0,li 0,li 0,li 0,.v (.slice none 0 0)],rX 115 d],0,none,false,[],[]⟩
def TV (a p1:Int) (p2:List ah) (b:Γa) (c:List ah):AS SS:=Hs a p1 p2 b 0 c
def tM (U:Sh) (c p1:Int) (p2:List ah) (d:Γa) (e:Int) (z0:ah) (a:List ah):T (List ah⊕(Bool×Int×List ah)):=.bf (z0.aa==c) (.bf (z0.aP==0) (.ok (.inl a))<|.bf (z0.aP==c) (.bf (z0.bb) (.ok (.inl a))<|.bf (z0.aa==c) (.bd (app 32 a [ah.mk z0.aa z0.aP true p1]) λb=>.ok (.inl b))<|.bf (z0.aP==c) (.bd (app 32 a [ah.mk z0.aa 0 z0.bb z0.bV]) λb=>.ok (.inl b))<|.bd (app 32 a [z0]) λb=>.ok (.inl b))<|.bf (z0.aa==c) (.bd (app 32 a [ah.mk z0.aa z0.aP true p1]) λb=>.ok (.inl b))<|.bf (z0.aP==c) (.bd (app 32 a [ah.mk z0.aa 0 z0.bb z0.bV]) λb=>.ok (.inl b))<|.bd (app 32 a [z0]) λb=>.ok (.inl b))<|.bf (z0.aP==c) (.bf (z0.bb) (.ok (.inl a))<|.bf (z0.aa==c) (.bd (app 32 a [ah.mk z0.aa z0.aP true p1]) λb=>.ok (.inl b))<|.bf (z0.aP==c) (.bd (app 32 a [ah.mk z0.aa 0 z0.bb z0.bV]) λb=>.ok (.inl b))<|.bd (app 32 a [z0]) λb=>.ok (.inl b))<|.bf (z0.aa==c) (.bd (app 32 a [ah.mk z0.aa z0.aP true p1]) λb=>.ok (.inl b))<|.bf (z0.aP==c) (.bd (app 32 a [ah.mk z0.aa 0 z0.bb z0.bV]) λb=>.ok (.inl b))<|.bd (app 32 a [z0]) λb=>.ok (.inl b)
def r5 (U:Sh) (c p1:Int) (p2:List ah) (d:Γa) (b:Int) (a:List ah):T ((Bool×Int×List ah)):=.ok (decide (b<(↑p2.length:Int)),b,a)
def Cv (a p1:Int) (p2:List ah) (b:Γa) (c:List ah):=bC U (tM U a p1 p2 b) (r5 U a p1 p2 b) p2 c
def ZX {R} (k:KX SS R) (a p1:Int) (p2:List ah) (b:Γa) (x:(Bool×Int×List ah)):Option R:=(λv=>k (.exit 0) {Hs a p1 p2 b a v.2.2 with env:=[(24,vb v.1),(1,vu a),(2,vu p1),(3,va 0 0),(6,va 1 0),(8,vo 2),(21,vd 48 p2),(22,vl p2),(23,vi v.2.1)]}) x
def Qm:aX SS:=bh 8 (sq (sI 1) (sq (sI 2) (sq (sD 48 21) (sq (hX ea 0 0) (hR 2 115))))) (u5 TV) (u5 (Cv shut)) (λk p=>ZX k p.1 p.2.1 p.2.2.1 p.2.2.2.1)
theorem agk:LS KK ε aq Tryz.f227 227 8 Qm:=
 aO.bI (π:=Int×Int×List ah×Γa×List ah) (σ:=List ah) (ag.all Ar rfl) (aF.nil) rfl 60 (λp i a=>Hs p.1 p.2.1 p.2.2.1 p.2.2.2.1 i a) (λp=>p.2.2.1) (λp=>p.2.2.2.2) (St:=λp=>tM shut p.1 p.2.1 p.2.2.1 p.2.2.2.1) (F:=λp=>r5 shut p.1 p.2.1 p.2.2.1 p.2.2.2.1) (λp=>rfl)
  (λm p i a k=>by kernel_rfl) (λp x=>⟨_,_,λ_=>rfl⟩) (λp N C A O w a b=>bT b (t:=48) (sl:=21) rfl λv h=>h)
def WS:=bq (Aq shut) aq Tryz.f227 227 [Qm]
theorem WT:aR WS ε:=bu (ag.all Ar rfl) Tryz.func227 rfl aT (by kernel_rfl) agk
def Ep (p:br) (pid code:Int):T (br×Int):=.bd (nh U p.ae pid) λa=>.bf (!a) (.ok (⟨[0,0,0,0,0,0,0,0,0,0,0,0,0,0,0,0],[]⟩,321))<|.bf (pid==1) (.ok (⟨[0,0,0,0,0,0,0,0,0,0,0,0,0,0,0,0],[]⟩,323))<|.gd (TV pid code p.ae p.aH [])<|.bd (Cv U pid code p.ae p.aH []) λb=>.ok (⟨p.aH,b.2.2⟩,0)
def Gv (p:br) (pid code:Int):=U.s _ (Ep U p pid code).val
def LY:=a6 (fN KK 227 50 35 35 (Gv U) (dy KK 50 27)) (Aq U)
theorem LZ:ag (LY shut) ε:=gz (rs:=[50,27]) Ar WT rfl rfl λp pid code k=>by kernel_rfl
end Go.Proofs.YtoggponeookhbaaGreatDoor
end
section
namespace Go.Proofs.YtoggponeookhbaaGreatDoor
open Go.RowKit Go.Dc Go.Vx
variable (U:Sh)
def ER (U:Sh) (a b:ai):T Bool:=.bf (decide (a.aa<b.aa)) (.ok true)<|.bf (a.aa==b.aa) (.ok (decide (a.bo<b.bo)))<|.ok false
def vF (a b:ai):=U.s _ (ER U a b).val
def Bb:=a6 (bU KK 279 105 105 (vF U) (bH KK 4)) (LY U)
theorem Bc:ag (Bb shut) ε:=bZ (rs:=[4]) LZ (ag.all LZ rfl) rfl rfl λa b k=>by kernel_rfl
def qg (a p1:Int) (p2:List ai) (b:Int):AS SS:=⟨[(1,vu a),(2,vi p1),(9,vd 51 p2),(10,vl p2),(11,vi b)],[],0,none,false,[],[]⟩
def tT (U:Sh) (b p1:Int) (p2:List ai) (c:Int) (z0:ai) (a:Unit):T (Unit⊕Int⊕(Bool×Int)):=.bf (z0.aa==b) (.bf (z0.bo==p1) (.ok (.inr (.inl c)))<|.ok (.inl ()))<|.ok (.inl ())
def sa (U:Sh) (c p1:Int) (p2:List ai) (b:Int) (a:Unit):T (Int⊕(Bool×Int)):=.ok (.inr (decide (b<(↑p2.length:Int)),b))
def CD (a p1:Int) (p2:List ai):=bC U (tT U a p1 p2) (sa U a p1 p2) p2 ()
def Z6 {R} (k:KX SS R) (a p1:Int) (p2:List ai) (x:Int⊕(Bool×Int)):Option R:=x.elim (λv=>k .ret {qg a p1 p2 a with env:=[(6,vi v)]}) (λv=>k (.exit 0) {qg a p1 p2 a with env:=[(12,vb v.1),(1,vu a),(2,vi p1),(9,vd 51 p2),(10,vl p2),(11,vi v.2)]})
def Qv:aX SS:=bh 3 (sq (sI 1) (sq (sI 2) (sD 51 9))) (λp=>u3 qg p 0) (u3 (CD shut)) (λk=>u3 (Z6 k))
theorem agu:LS KK ε aq Tryz.f234 234 3 Qv:=
 aO.bI (ag.all Bc rfl) (aF.nil) rfl 60 (λp i a=>u3 qg p i) (λp=>p.2.2) (λp=>()) (St:=u3 (tT shut)) (F:=u3 (sa shut)) (λp=>rfl)
  (λm p i a k=>by kernel_rfl) (by rintro p (x|x)<;>exact⟨_,_,λ_=>rfl⟩) (λp N C A O w a b=>bT b (t:=51) (sl:=9) rfl λv h=>h)
def W4:=bq (Bb shut) aq Tryz.f234 234 [Qv]
theorem W5:aR W4 ε:=bu (ag.all Bc rfl) Tryz.func234 rfl aT (by kernel_rfl) agu
def Ex (l:List ai) (pid fd:Int):T Int:=.gd (qg pid fd l 0)<|.bd (CD U pid fd l) λb=>.cs b (λa=>.ok a) λa=>.ok (-1)
def nk (l:List ai) (pid fd:Int):=U.s _ (Ex U l pid fd).val
def AD:=a6 (fN KK 234 51 35 3 (nk U) (bH KK 3)) (Bb U)
theorem oC:ag (AD shut) ε:=gz (rs:=[3]) Bc W5 rfl rfl λl pid fd k=>by kernel_rfl
def wy (a:List ai) (p1 p2 b:Int):AS SS:=⟨[(0,vd 51 a),(1,vu p1),(2,vu p2),(9,vi b)],[],0,none,false,[],[]⟩
def oT (c:List ai) (p1 p2 a:Int):T (Int⊕(Bool×Int×Int)):=.bd (nk U c p1 a) λb=>.bf (decide (b>=0)) (.ok (.inl (ζ.wrap (a+1))))<|.ok (.inr (decide (b>=0),b,a))
def CC (a:List ai) (p1 p2 b:Int):=bQ U (oT U a p1 p2) 1000000 b
def Z5 {R} (k:KX SS R) (a:List ai) (p1 p2:Int) (x:(Bool×Int×Int)):Option R:=(λv=>k (.exit 0) {wy a p1 p2 p1 with env:=[(22,vb v.1),(21,vi v.2.1),(20,vi v.2.2),(19,vu p1),(18,vd 51 a),(0,vd 51 a),(1,vu p1),(2,vu p2),(9,vi v.2.2)]}) x
def Qu:aX SS:=bh 5 (sq (sD 51 0) (sq (sI 1) (sq (sI 2) (sI 9)))) (u4 wy) (u4 (CC shut)) (λk p=>Z5 k p.1 p.2.1 p.2.2.1)
theorem agt:LS KK ε aq ζs 233 5 Qu:=
 aO.bQ (π:=List ai×Int×Int×Int) (σ:=Int) (ag.all oC rfl) (aF.nil) rfl 60 (λp a=>wy p.1 p.2.1 p.2.2.1 a) (λp=>p.2.2.2) (St:=λp=>oT shut p.1 p.2.1 p.2.2.1) (λp=>1000000) (λp=>rfl)
  (λm p a k=>by kernel_rfl)
def Hv (a:List ai) (p1 p2 b c:Int) (d:List ai):AS SS:=⟨[(0,vd 51 a),(9,vi p1),(10,va 0 0),(11,vo 1),(36,vd 51 a),(37,vl a),(38,vi c)],[bX 105 [lu p2,li p1,lu b],rX 105 d],0,none,false,[],[]⟩
def TZ (a:List ai) (p1 p2 b:Int) (c:List ai):AS SS:=Hv a p1 p2 b 0 c
def tR (d:List ai) (p1 p2 b e:Int) (z0:ai) (a:List ai):T (List ai⊕(Bool×Int×List ai)):=.bd (vF U z0 (ai.mk p2 p1 b)) λc=>.bf (c) (.bd (app 24 a [z0]) λz2=>.ok (.inl z2))<|.ok (.inl a)
def r_ (U:Sh) (c:List ai) (p1 p2 d b:Int) (a:List ai):T ((Bool×Int×List ai)):=.ok (decide (b<(↑c.length:Int)),b,a)
def CA (a:List ai) (p1 p2 b:Int) (c:List ai):=bC U (tR U a p1 p2 b) (r_ U a p1 p2 b) a c
def Z3 {R} (k:KX SS R) (a:List ai) (p1 p2 b:Int) (x:(Bool×Int×List ai)):Option R:=(λv=>k (.exit 2) {Hv a p1 p2 b p1 v.2.2 with env:=[(39,vb v.1),(0,vd 51 a),(9,vi p1),(10,va 0 0),(11,vo 1),(36,vd 51 a),(37,vl a),(38,vi v.2.1)]}) x
def Qs:aX SS:=bh 12 (sq (sD 51 0) (sq (sI 9) (sq (hI 0 0) (sq (hI 0 2) (hR 1 105))))) (u5 TZ) (u5 (CA shut)) (λk p=>Z3 k p.1 p.2.1 p.2.2.1 p.2.2.2.1)
theorem agq:LS KK ε aq ζs 233 12 Qs:=
 aO.bI (π:=List ai×Int×Int×Int×List ai) (σ:=List ai) (ag.all oC rfl) (aF.nil) rfl 60 (λp i a=>Hv p.1 p.2.1 p.2.2.1 p.2.2.2.1 i a) (λp=>p.1) (λp=>p.2.2.2.2) (St:=λp=>tR shut p.1 p.2.1 p.2.2.1 p.2.2.2.1) (F:=λp=>r_ shut p.1 p.2.1 p.2.2.1 p.2.2.2.1) (λp=>rfl)
  (λm p i a k=>by kernel_rfl) (λp x=>⟨_,_,λ_=>rfl⟩) (λp N C A O w a b=>bT b (t:=51) (sl:=0) rfl λv h=>h)
def wx (a:Int) (p1:List ai) (p2 b:Int) (c:List ai) (d:Int):AS SS:=⟨[(9,vi a),(10,va 0 0),(11,vo 1),(54,vd 51 p1),(55,vl p1),(56,vi d)],[bX 105 [lu p2,li a,lu b],rX 105 c],0,none,false,[],[]⟩
def tS (b:Int) (p1:List ai) (p2 c e:Int) (z0:ai) (a:List ai):T (List ai⊕(Bool×Int×List ai)):=.bd (vF U (ai.mk p2 b c) z0) λd=>.bf (d) (.bd (app 24 a [z0]) λz2=>.ok (.inl z2))<|.ok (.inl a)
def r' (U:Sh) (c:Int) (p1:List ai) (p2 d b:Int) (a:List ai):T ((Bool×Int×List ai)):=.ok (decide (b<(↑p1.length:Int)),b,a)
def CB (a:Int) (p1:List ai) (p2 b:Int) (c:List ai):=bC U (tS U a p1 p2 b) (r' U a p1 p2 b) p1 c
def Z4 {R} (k:KX SS R) (a:Int) (p1:List ai) (p2 b:Int) (x:(Bool×Int×List ai)):Option R:=(λv=>k (.exit 4) {wx a p1 p2 b v.2.2 a with env:=[(57,vb v.1),(9,vi a),(10,va 0 0),(11,vo 1),(54,vd 51 p1),(55,vl p1),(56,vi v.2.1)]}) x
def Qt:aX SS:=bh 19 (sq (sI 9) (sq (sD 51 54) (sq (hI 0 0) (sq (hI 0 2) (hR 1 105))))) (λp=>u5 wx p 0) (u5 (CB shut)) (λk p=>Z4 k p.1 p.2.1 p.2.2.1 p.2.2.2.1)
theorem ags:LS KK ε aq ζs 233 19 Qt:=
 aO.bI (π:=Int×List ai×Int×Int×List ai) (σ:=List ai) (ag.all oC rfl) (aF.nil) rfl 60 (λp i a=>wx p.1 p.2.1 p.2.2.1 p.2.2.2.1 a i) (λp=>p.2.1) (λp=>p.2.2.2.2) (St:=λp=>tS shut p.1 p.2.1 p.2.2.1 p.2.2.2.1) (F:=λp=>r' shut p.1 p.2.1 p.2.2.1 p.2.2.2.1) (λp=>rfl)
  (λm p i a k=>by kernel_rfl) (λp x=>⟨_,_,λ_=>rfl⟩) (λp N C A O w a b=>bT b (t:=51) (sl:=54) rfl λv h=>h)
def W2:=bq (AD shut) aq ζs 233 [Qu,Qs,Qt]
theorem W3:aR W2 ε:=(aR.fz (ag.all oC rfl) Tryz.func233 rfl aT λc a=>by cases a;exact aF.cons (aF.cons (aF.cons (aF.nil) (by kernel_rfl) ags) (by kernel_rfl) agq) (by kernel_rfl) agt)
def Ew (l:List ai) (pid aS:Int):T (List ai×Int×Int):=.bf (decide (pid>=4294967296)) (.ok ([],0,2))<|.gd (wy l pid aS 0)<|.bd (CC U l pid aS 0) λa=>.bf (a.2.2==8) (.ok ([],0,6))<|.bf ((↑l.length:Int)==64) (.ok ([],0,6))<|.gd (TZ l a.2.2 pid aS [])<|.bd (CA U l a.2.2 pid aS []) λb=>.bd (app 24 b.2.2 [ai.mk pid a.2.2 aS]) λz2=>.gd (wx a.2.2 l pid aS z2 0)<|.bd (CB U a.2.2 l pid aS z2) λc=>.ok (c.2.2,a.2.2,0)
def vB (l:List ai) (pid aS:Int):=U.s _ (Ew U l pid aS).val
def L2:=a6 (fN KK 233 51 35 35 (vB U) (fF KK 51 3 27)) (AD U)
theorem L3:ag (L2 shut) ε:=gz (rs:=[51,3,27]) oC W3 rfl rfl λl pid aS k=>by kernel_rfl
def Ez (l:List ai) (pid fd:Int):T (List ai×Int×Int):=.bf (decide (pid>=4294967296)) (.ok ([],0,2))<|.bd (nk U l pid fd) λb=>.bf (decide (b<0)) (.ok ([],0,4))<|.bd (idx l b) λc=>.bd (vB U l pid c.b') λa=>.ok (a.1,a.2.1,a.2.2)
def Gx (l:List ai) (pid fd:Int):=U.s _ (Ez U l pid fd).val
def AG:=a6 (fN KK 237 51 35 3 (Gx U) (fF KK 51 3 27)) (L2 U)
theorem AI:ag (AG shut) ε:=gz (rs:=[51,3,27]) L3 (ag.all L3 rfl) rfl rfl λl pid fd k=>by kernel_rfl
def Hu (a:Int) (p1:List ai) (p2:Int) (b:List ai):AS SS:=⟨[(1,vu a),(5,vo 0),(8,vd 51 p1),(9,vl p1),(10,vi p2)],[rX 105 b],0,none,false,[],[]⟩
def TY (a:Int) (p1 b:List ai):AS SS:=Hu a p1 0 b
def tO (U:Sh) (b:Int) (p1:List ai) (p2:Int) (z0:ai) (a:List ai):T (List ai⊕(Bool×Int×List ai)):=.bf (z0.aa !=b) (.bd (app 24 a [z0]) λc=>.ok (.inl c))<|.ok (.inl a)
def r7 (U:Sh) (b:Int) (p1:List ai) (p2:Int) (a:List ai):T ((Bool×Int×List ai)):=.ok (decide (p2<(↑p1.length:Int)),p2,a)
def Cx (a:Int) (p1 b:List ai):=bC U (tO U a p1) (r7 U a p1) p1 b
def ZZ {R} (k:KX SS R) (a:Int) (p1:List ai) (x:(Bool×Int×List ai)):Option R:=(λv=>k (.exit 0) {Hu a p1 a v.2.2 with env:=[(11,vb v.1),(1,vu a),(5,vo 0),(8,vd 51 p1),(9,vl p1),(10,vi v.2.1)]}) x
def Qo:aX SS:=bh 4 (sq (sI 1) (sq (sD 51 8) (hR 0 105))) (u3 TY) (u3 (Cx shut)) (λk p=>ZZ k p.1 p.2.1)
theorem agm:LS KK ε aq Tryz.f229 229 4 Qo:=
 aO.bI (π:=Int×List ai×List ai) (σ:=List ai) (ag.all AI rfl) (aF.nil) rfl 60 (λp i a=>Hu p.1 p.2.1 i a) (λp=>p.2.1) (λp=>p.2.2) (St:=λp=>tO shut p.1 p.2.1) (F:=λp=>r7 shut p.1 p.2.1) (λp=>rfl)
  (λm p i a k=>by kernel_rfl) (λp x=>⟨_,_,λ_=>rfl⟩) (λp N C A O w a b=>bT b (t:=51) (sl:=8) rfl λv h=>h)
def WW:=bq (AG shut) aq Tryz.f229 229 [Qo]
theorem WX:aR WW ε:=bu (ag.all AI rfl) Tryz.func229 rfl aT (by kernel_rfl) agm
def Es (l:List ai) (pid:Int):T (List ai):=.gd (TY pid l [])<|.bd (Cx U pid l []) λa=>.ok a.2.2
def pH (l:List ai) (pid:Int):=U.s _ (Es U l pid).val
def Av:=a6 (bU KK 229 51 35 (pH U) (bH KK 51)) (AG U)
theorem Aw:ag (Av shut) ε:=bZ (rs:=[51]) AI WX rfl rfl λl pid k=>by kernel_rfl
def wA (a:Int) (p1:List ai) (p2 b:Int):AS SS:=⟨[(1,vu a),(5,vi p2),(8,vd 51 p1),(9,vl p1),(10,vi b)],[],0,none,false,[],[]⟩
def tU (U:Sh) (b:Int) (p1:List ai) (c:Int) (z0:ai) (a:Int):T (Int⊕(Bool×Int×Int)):=.bf (z0.b'==b) (.ok (.inl (ζ.wrap (a+1))))<|.ok (.inl a)
def sc (U:Sh) (c:Int) (p1:List ai) (b a:Int):T ((Bool×Int×Int)):=.ok (decide (b<(↑p1.length:Int)),a,b)
def CF (a:Int) (p1:List ai) (p2:Int):=bC U (tU U a p1) (sc U a p1) p1 p2
def Z9 {R} (k:KX SS R) (a:Int) (p1:List ai) (x:(Bool×Int×Int)):Option R:=(λv=>k (.exit 0) {wA a p1 a a with env:=[(11,vb v.1),(1,vu a),(5,vi v.2.1),(8,vd 51 p1),(9,vl p1),(10,vi v.2.2)]}) x
def Qy:aX SS:=bh 4 (sq (sI 1) (sq (sD 51 8) (sI 5))) (λp=>u3 wA p 0) (u3 (CF shut)) (λk p=>Z9 k p.1 p.2.1)
theorem agy:LS KK ε aq Tryz.f240 240 4 Qy:=
 aO.bI (π:=Int×List ai×Int) (σ:=Int) (ag.all Aw rfl) (aF.nil) rfl 60 (λp i a=>wA p.1 p.2.1 a i) (λp=>p.2.1) (λp=>p.2.2) (St:=λp=>tU shut p.1 p.2.1) (F:=λp=>sc shut p.1 p.2.1) (λp=>rfl)
  (λm p i a k=>by kernel_rfl) (λp x=>⟨_,_,λ_=>rfl⟩) (λp N C A O w a b=>bT b (t:=51) (sl:=8) rfl λv h=>h)
def W_:=bq (Av shut) aq Tryz.f240 240 [Qy]
theorem W':aR W_ ε:=bu (ag.all Aw rfl) Tryz.func240 rfl aT (by kernel_rfl) agy
def EC (l:List ai) (aS:Int):T Int:=.gd (wA aS l 0 0)<|.bd (CF U aS l 0) λa=>.ok a.2.1
def GA (l:List ai) (aS:Int):=U.s _ (EC U l aS).val
def L6:=a6 (bU KK 240 51 35 (GA U) (bH KK 3)) (Av U)
theorem L7:ag (L6 shut) ε:=bZ (rs:=[3]) Aw W' rfl rfl λl aS k=>by kernel_rfl
def Ey (U:Sh) (w:Int):T Int:=.bf (decide (w>7)) (.ok (-1))<|.ok (ζ.wrap w)
def pI (w:Int):=U.s _ (Ey U w).val
def AE:=a6 (cR KK 235 35 (pI U) (bH KK 3)) (L6 U)
theorem AF:ag (AE shut) ε:=cX (rs:=[3]) L7 (ag.all L7 rfl) rfl rfl λw k=>by kernel_rfl
end Go.Proofs.YtoggponeookhbaaGreatDoor
end
section
namespace Go.Proofs.YtoggponeookhbaaGreatDoor
open Go.RowKit Go.Dc Go.Vx
variable (U:Sh)
def wN (a:Int) (p1:ByteArray):AS SS:=⟨[(0,vu a),(4,vs (.v (.string p1)))],[],0,none,false,[],[]⟩
def o4 (U:Sh) (a:Int×ByteArray):T ((Int×ByteArray)⊕Unit⊕(Bool×Int×ByteArray)):=.bf (decide (a.1>0)) (.bf (a.1.tmod 256==0) (.ok (.inr (.inl ())))<|.bd (jZ a.2 (strOf [ζJ.wrap (a.1.tmod 256)])) λz0=>.ok (.inl (τ.wrap (a.1.tdiv 256),z0)))<|.ok (.inr (.inr (decide (a.1>0),a.1,a.2)))
def CY (a:Int) (p1:ByteArray):=bQ U (o4 U) 1000000 (a,p1)
def aat {R} (k:KX SS R) (x:Unit⊕(Bool×Int×ByteArray)):Option R:=x.elim (λv=>k .ret ⟨[(2,vs (.v (.string (ξj #[])))),(3,vb false)],[],0,none,false,[],[]⟩) (λv=>k (.exit 0) (xe [(6,vb v.1),(5,vu v.2.1)] (wN v.2.1 v.2.2)))
def QS:aX SS:=bh 3 (sq (sI 0) (sX jF 4)) (u2 wN) (u2 (CY shut)) (λk p=>aat k)
theorem agS:LS KK ε aq Tryz.f275 275 3 QS:=
 aO.bQ (π:=Int×ByteArray) (σ:=Int×ByteArray) (ag.all AF rfl) (aF.nil) rfl 60 (λp a=>wN a.1 a.2) (λp=>(p.1,p.2)) (St:=λp=>o4 shut) (λp=>1000000) (λp=>rfl)
  (λm p a k=>by kernel_rfl)
def Xw:=bq (AE shut) aq Tryz.f275 275 [QS]
theorem Xx:aR Xw ε:=bu (ag.all AF rfl) Tryz.func275 rfl aT (by kernel_rfl) agS
def EM (w:Int):T (ByteArray×Bool):=.gd (wN w (ξj #[]))<|.bd (CY U w (ξj #[])) λa=>.cs a (λ_=>.ok (ξj #[],false)) λb=>.ok (b.2.2,true)
def pL (w:Int):=U.s _ (EM U w).val
def A8:=a6 (cR KK 275 35 (pL U) (dy KK 9 4)) (AE U)
theorem A9:ag (A8 shut) ε:=cX (rs:=[9,4]) AF Xx rfl rfl λw k=>by kernel_rfl
def qq (a:ByteArray) (p1 p2:Int):AS SS:=⟨[(0,vs (.v (.string a))),(5,vi p1),(6,vi p2)],[],0,none,false,[],[]⟩
def mI (U:Sh) (b:ByteArray) (p1 a:Int):T (Int⊕Unit⊕(Bool×Int)):=.bf (decide (a<p1)) (.bd (fg b a) λz0=>.bf (decide (z0>=97)) (.bd (fg b a) λc=>.bf (decide (c<=122)) (.ok (.inl (ζ.wrap (a+1))))<|.bd (fg b a) λz2=>.bf (decide (z2>=48)) (.bd (fg b a) λz3=>.bf (!decide (z3<=57)) (.ok (.inr (.inl ())))<|.ok (.inl (ζ.wrap (a+1))))<|.ok (.inr (.inl ())))<|.bd (fg b a) λc=>.bf (decide (c>=48)) (.bd (fg b a) λz2=>.bf (!decide (z2<=57)) (.ok (.inr (.inl ())))<|.ok (.inl (ζ.wrap (a+1))))<|.ok (.inr (.inl ())))<|.ok (.inr (.inr (decide (a<p1),a)))
def C3 (a:ByteArray) (p1 p2:Int):=bQ U (mI U a p1) 1000000 p2
def aay {R} (k:KX SS R) (a:ByteArray) (p1:Int) (x:Unit⊕(Bool×Int)):Option R:=x.elim (λv=>k .ret {qq a p1 p1 with env:=[(2,vb false)]}) (λv=>k (.exit 0) {qq a p1 p1 with env:=[(7,vb v.1),(0,vs (.v (.string a))),(5,vi p1),(6,vi v.2)]})
def QX:aX SS:=bh 3 (sq (sX jF 0) (sq (sI 5) (sI 6))) (u3 qq) (u3 (C3 shut)) (λk p=>aay k p.1 p.2.1)
theorem agX:LS KK ε aq Tryz.f300 300 3 QX:=
 aO.bQ (π:=ByteArray×Int×Int) (σ:=Int) (ag.all A9 rfl) (aF.nil) rfl 60 (λp a=>qq p.1 p.2.1 a) (λp=>p.2.2) (St:=λp=>mI shut p.1 p.2.1) (λp=>1000000) (λp=>rfl)
  (λm p a k=>by kernel_rfl)
def XH:=bq (A8 shut) aq Tryz.f300 300 [QX]
theorem XI:aR XH ε:=bu (ag.all A9 rfl) Tryz.func300 rfl aT (by kernel_rfl) agX
def EX (s:ByteArray):T Bool:=.gd (qq s ((↑s.size:Int)) 0)<|.bd (C3 U s ((↑s.size:Int)) 0) λa=>.cs a (λ_=>.ok false) λb=>.ok (decide ((↑s.size:Int)>0))
def GN (s:ByteArray):=U.s _ (EX U s).val
def Bn:=a6 (cR KK 300 9 (GN U) (bH KK 4)) (A8 U)
theorem Bo:ag (Bn shut) ε:=cX (rs:=[4]) A9 XI rfl rfl λs k=>by kernel_rfl
def wO (a:ByteArray) (p1 p2:Int) (b:List ByteArray):AS SS:=⟨[(0,vs (.v (.string a))),(3,vo 0),(6,vi p1),(7,vi p2)],[rX 9 b],0,none,false,[],[]⟩
def mH (U:Sh) (b:ByteArray) (p1:Int) (a:Int×List ByteArray):T ((Int×List ByteArray)⊕(Bool×Int×List ByteArray)):=.bf (decide (a.1<p1)) (.bd (fg b a.1) λz0=>.bf (z0==47) (.bd (app 16 a.2 [ξj #[]]) λc=>.ok (.inl (ζ.wrap (a.1+1),c)))<|.bf (decide ((↑a.2.length:Int)>0)) (.bd (idx a.2 (ζ.wrap ((↑a.2.length:Int)-1))) λc=>.bd (a.2[(ζ.wrap ((↑a.2.length:Int)-1)).toNat]?) λz2=>.bd (eE b (ζv (λx=>x.snd) (some (ζ,a.1))) (ζv (λx=>x.snd) (some (ζ,ζ.wrap (a.1+1))))) λz3=>.bd (jZ z2 z3) λz4=>.bd (idx a.2 (ζ.wrap ((↑a.2.length:Int)-1))) λz5=>.bd (a.2[(ζ.wrap ((↑a.2.length:Int)-1)).toNat]?) λd=>.ok (.inl (ζ.wrap (a.1+1),a.2.set (ζ.wrap ((↑a.2.length:Int)-1)).toNat z4)))<|.ok (.inl (ζ.wrap (a.1+1),a.2)))<|.ok (.inr (decide (a.1<p1),a.1,a.2))
def C2 (a:ByteArray) (p1 p2:Int) (b:List ByteArray):=bQ U (mH U a p1) 1000000 (p2,b)
def aax {R} (k:KX SS R) (a:ByteArray) (p1:Int) (x:(Bool×Int×List ByteArray)):Option R:=(λv=>k (.exit 0) {wO a p1 p1 v.2.2 with env:=[(8,vb v.1),(0,vs (.v (.string a))),(3,vo 0),(6,vi p1),(7,vi v.2.1)]}) x
def QW:aX SS:=bh 4 (sq (sX jF 0) (sq (sI 6) (sq (sI 7) (hR 0 9)))) (u4 wO) (u4 (C2 shut)) (λk p=>aax k p.1 p.2.1)
theorem agW:LS KK ε aq Tryz.f299 299 4 QW:=
 aO.bQ (π:=ByteArray×Int×Int×List ByteArray) (σ:=Int×List ByteArray) (ag.all Bo rfl) (aF.nil) rfl 60 (λp a=>wO p.1 p.2.1 a.1 a.2) (λp=>(p.2.2.1,p.2.2.2)) (St:=λp=>mH shut p.1 p.2.1) (λp=>1000000) (λp=>rfl)
  (λm p a k=>by kernel_rfl)
def XF:=bq (Bn shut) aq Tryz.f299 299 [QW]
theorem XG:aR XF ε:=bu (ag.all Bo rfl) Tryz.func299 rfl aT (by kernel_rfl) agW
def EW (s:ByteArray):T (List ByteArray):=.gd (wO s ((↑s.size:Int)) 0 [])<|.bd (C2 U s ((↑s.size:Int)) 0 []) λa=>.ok a.2.2
def vH (s:ByteArray):=U.s _ (EW U s).val
def Bj:=a6 (cR KK 299 9 (vH U) (bH KK 192)) (Bn U)
theorem Bl:ag (Bj shut) ε:=cX (rs:=[192]) Bo XG rfl rfl λs k=>by kernel_rfl
def qo (a:ByteArray) (p1:List ByteArray) (p2:Int):AS SS:=⟨[(0,vs (.v (.string a))),(3,vd 192 p1),(10,vd 192 p1),(11,vl p1),(12,vi p2)],[],0,none,false,[],[]⟩
def ug (c:ByteArray) (p1:List ByteArray) (p2:Int) (z0:ByteArray) (a:Unit):T (Unit⊕Unit⊕(Bool×Int)):=.bd (GN U z0) λb=>.bf (!b) (.ok (.inr (.inl ())))<|.ok (.inl ())
def ss (U:Sh) (b:ByteArray) (p1:List ByteArray) (p2:Int) (a:Unit):T (Unit⊕(Bool×Int)):=.ok (.inr (decide (p2<(↑p1.length:Int)),p2))
def CZ (a:ByteArray) (p1:List ByteArray):=bC U (ug U a p1) (ss U a p1) p1 ()
def aau {R} (k:KX SS R) (a:ByteArray) (p1:List ByteArray) (x:Unit⊕(Bool×Int)):Option R:=x.elim (λv=>k .ret {qo a p1 0 with env:=[(2,vb false)]}) (λv=>k (.exit 0) (xe [(13,vb v.1)] (qo a p1 v.2)))
def QT:aX SS:=bh 6 (sq (sX jF 0) (sD 192 3)) (λp=>u2 qo p 0) (u2 (CZ shut)) (λk=>u2 (aau k))
theorem agT:LS KK ε aq Tryz.f276 276 6 QT:=
 aO.bI (ag.all Bl rfl) (aF.nil) rfl 60 (λp i a=>u2 qo p i) (λp=>p.2) (λp=>()) (St:=u2 (ug shut)) (F:=u2 (ss shut)) (λp=>rfl)
  (λm p i a k=>by kernel_rfl) (by rintro p (x|x)<;>exact⟨_,_,λ_=>rfl⟩) (λp N C A O w a b=>bT b (t:=192) (sl:=3) rfl λv h=>h)
def Xy:=bq (Bj shut) aq Tryz.f276 276 [QT]
theorem Xz:aR Xy ε:=bu (ag.all Bl rfl) Tryz.func276 rfl aT (by kernel_rfl) agT
def EN (s:ByteArray):T Bool:=.bf (s.toList==(ξj #[47]).toList) (.ok true)<|.bd (vH U s) λa=>.gd (qo s a 0)<|.bd (CZ U s a) λb=>.cs b (λ_=>.ok false) λc=>.bf (decide ((↑s.size:Int)>0)) (.bf (decide ((↑s.size:Int)<=8)) (.bd (fg s 0) λz2=>.bf (z2==47) (.bf (decide ((↑a.length:Int)>=1)) (.ok (decide ((↑a.length:Int)<=4)))<|.ok false)<|.ok false)<|.ok false)<|.ok false
def GH (s:ByteArray):=U.s _ (EN U s).val
def L9:=a6 (cR KK 276 9 (GH U) (bH KK 4)) (Bj U)
theorem L_:ag (L9 shut) ε:=cX (rs:=[4]) Bl Xz rfl rfl λs k=>by kernel_rfl
def Eu (w:Int):T Bool:=.bd (pL U w) λa=>.bf (a.2) (.bd (GH U a.1) λb=>.ok b)<|.ok false
def lF (w:Int):=U.s _ (Eu U w).val
def L0:=a6 (cR KK 231 35 (lF U) (bH KK 4)) (L9 U)
theorem L1:ag (L0 shut) ε:=cX (rs:=[4]) L_ (ag.all L_ rfl) rfl rfl λw k=>by kernel_rfl
def EY (w:Int):T (List ByteArray):=.bd (pL U w) λa=>.bf (a.1.toList==(ξj #[47]).toList) (.ok [])<|.bd (vH U a.1) λb=>.ok b
def pN (w:Int):=U.s _ (EY U w).val
def Bp:=a6 (cR KK 301 35 (pN U) (bH KK 192)) (L0 U)
theorem Bq:ag (Bp shut) ε:=cX (rs:=[192]) L1 (ag.all L1 rfl) rfl rfl λw k=>by kernel_rfl
def qp (a p1:List ByteArray) (p2:Int):AS SS:=⟨[(6,vd 192 a),(21,vd 192 p1),(22,vl p1),(23,vi p2)],[],0,none,false,[],[]⟩
def uh (U:Sh) (b p1:List ByteArray) (p2:Int) (z0:ByteArray) (a:Unit):T (Unit⊕Unit⊕(Bool×Int)):=.bf (decide (p2>=(↑b.length:Int))) (.ok (.inr (.inl ())))<|.bd (idx b p2) λc=>.bf (!ByteArray.toList c==ByteArray.toList z0) (.ok (.inr (.inl ())))<|.ok (.inl ())
def su (U:Sh) (b p1:List ByteArray) (p2:Int) (a:Unit):T (Unit⊕(Bool×Int)):=.ok (.inr (decide (p2<(↑p1.length:Int)),p2))
def C0 (a p1:List ByteArray):=bC U (uh U a p1) (su U a p1) p1 ()
def aav {R} (k:KX SS R) (a p1:List ByteArray) (x:Unit⊕(Bool×Int)):Option R:=x.elim (λv=>k .ret {qp a p1 0 with env:=[(4,vb false)]}) (λv=>k (.exit 0) (xe [(24,vb v.1)] (qp a p1 v.2)))
def QU:aX SS:=bh 6 (sq (sD 192 6) (sD 192 21)) (λp=>u2 qp p 0) (u2 (C0 shut)) (λk=>u2 (aav k))
theorem agU:LS KK ε aq Tryz.f277 277 6 QU:=
 aO.bI (ag.all Bq rfl) (aF.nil) rfl 60 (λp i a=>u2 qp p i) (λp=>p.2) (λp=>()) (St:=u2 (uh shut)) (F:=u2 (su shut)) (λp=>rfl)
  (λm p i a k=>by kernel_rfl) (by rintro p (x|x)<;>exact⟨_,_,λ_=>rfl⟩) (λp N C A O w a b=>bT b (t:=192) (sl:=21) rfl λv h=>h)
def XA:=bq (Bp shut) aq Tryz.f277 277 [QU]
theorem XB:aR XA ε:=bu (ag.all Bq rfl) Tryz.func277 rfl aT (by kernel_rfl) agU
def EO (a b:Int):T Bool:=.bd (lF U a) λf=>.bf (!f) (.ok false)<|.bd (lF U b) λg=>.bf (!g) (.ok false)<|.bd (pN U a) λc=>.bd (pN U b) λd=>.gd (qp d c 0)<|.bd (C0 U d c) λe=>.cs e (λ_=>.ok false) λh=>.ok true
def vD (a b:Int):=U.s _ (EO U a b).val
def L':=a6 (bU KK 277 35 35 (vD U) (bH KK 4)) (Bp U)
theorem Ma:ag (L' shut) ε:=bZ (rs:=[4]) Bq XB rfl rfl λa b k=>by kernel_rfl
def EP (path:Int):T Int:=.bd (pN U path) λa=>.ok ((↑a.length:Int))
def vE (path:Int):=U.s _ (EP U path).val
def A_:=a6 (cR KK 278 35 (vE U) (bH KK 3)) (L' U)
theorem Ba:ag (A_ shut) ε:=cX (rs:=[3]) Ma (ag.all Ma rfl) rfl rfl λpath k=>by kernel_rfl
def qh (a:Int) (p1:List ay) (p2:Int):AS SS:=⟨[(1,vu a),(8,vd 52 p1),(9,vl p1),(10,vi p2)],[],0,none,false,[],[]⟩
def tV (U:Sh) (b:Int) (p1:List ay) (p2:Int) (z0:ay) (a:Unit):T (Unit⊕Int⊕(Bool×Int)):=.bf (z0.aN==b) (.ok (.inr (.inl z0.aY)))<|.ok (.inl ())
def sd (U:Sh) (b:Int) (p1:List ay) (p2:Int) (a:Unit):T (Int⊕(Bool×Int)):=.ok (.inr (decide (p2<(↑p1.length:Int)),p2))
def CG (a:Int) (p1:List ay):=bC U (tV U a p1) (sd U a p1) p1 ()
def Z_ {R} (k:KX SS R) (a:Int) (p1:List ay) (x:Int⊕(Bool×Int)):Option R:=x.elim (λv=>k .ret {qh a p1 a with env:=[(4,vu v)]}) (λv=>k (.exit 0) {qh a p1 a with env:=[(11,vb v.1),(1,vu a),(8,vd 52 p1),(9,vl p1),(10,vi v.2)]})
def Qz:aX SS:=bh 3 (sq (sI 1) (sD 52 8)) (λp=>u2 qh p 0) (u2 (CG shut)) (λk=>u2 (Z_ k))
theorem agz:LS KK ε aq Tryz.f241 241 3 Qz:=
 aO.bI (ag.all Ba rfl) (aF.nil) rfl 60 (λp i a=>u2 qh p i) (λp=>p.2) (λp=>()) (St:=u2 (tV shut)) (F:=u2 (sd shut)) (λp=>rfl)
  (λm p i a k=>by kernel_rfl) (by rintro p (x|x)<;>exact⟨_,_,λ_=>rfl⟩) (λp N C A O w a b=>bT b (t:=52) (sl:=8) rfl λv h=>h)
def Xa:=bq (A_ shut) aq Tryz.f241 241 [Qz]
theorem Xb:aR Xa ε:=bu (ag.all Ba rfl) Tryz.func241 rfl aT (by kernel_rfl) agz
def ED (m:bz) (path:Int):T Int:=.gd (qh path m.ae 0)<|.bd (CG U path m.ae) λb=>.cs b (λa=>.ok a) λa=>.ok 0
def pJ (m:bz) (path:Int):=U.s _ (ED U m path).val
def AM:=a6 (bU KK 241 54 35 (pJ U) (bH KK 35)) (A_ U)
theorem AN:ag (AM shut) ε:=bZ (rs:=[35]) Ba Xb rfl rfl λm path k=>by kernel_rfl
def wv (a:Int) (p1:List ay) (p2 b c:Int):AS SS:=⟨[(1,vu a),(5,vu p2),(6,vi b),(10,vd 52 p1),(11,vl p1),(12,vi c)],[],0,none,false,[],[]⟩
def tQ (b:Int) (p1:List ay) (f:Int) (z0:ay) (a:Int×Int):T ((Int×Int)⊕(Bool×Int×Int×Int)):=.bd (vD U z0.aN b) λc=>.bf (c) (.bd (vE U z0.aN) λd=>.bf (decide (d>a.2)) (.bd (vE U z0.aN) λe=>.ok (.inl (z0.aY,e)))<|.ok (.inl (a.1,a.2)))<|.ok (.inl (a.1,a.2))
def r9 (U:Sh) (c:Int) (p1:List ay) (b:Int) (a:Int×Int):T ((Bool×Int×Int×Int)):=.ok (decide (b<(↑p1.length:Int)),a.1,a.2,b)
def Cz (a:Int) (p1:List ay) (p2 b:Int):=bC U (tQ U a p1) (r9 U a p1) p1 (p2,b)
def Z2 {R} (k:KX SS R) (a:Int) (p1:List ay) (x:(Bool×Int×Int×Int)):Option R:=(λv=>k (.exit 0) {wv a p1 a a a with env:=[(13,vb v.1),(1,vu a),(5,vu v.2.1),(6,vi v.2.2.1),(10,vd 52 p1),(11,vl p1),(12,vi v.2.2.2)]}) x
def Qr:aX SS:=bh 4 (sq (sI 1) (sq (sD 52 10) (sq (sI 5) (sI 6)))) (λp=>u4 wv p 0) (u4 (Cz shut)) (λk p=>Z2 k p.1 p.2.1)
theorem agp:LS KK ε aq Tryz.f232 232 4 Qr:=
 aO.bI (π:=Int×List ay×Int×Int) (σ:=Int×Int) (ag.all AN rfl) (aF.nil) rfl 60 (λp i a=>wv p.1 p.2.1 a.1 a.2 i) (λp=>p.2.1) (λp=>(p.2.2.1,p.2.2.2)) (St:=λp=>tQ shut p.1 p.2.1) (F:=λp=>r9 shut p.1 p.2.1) (λp=>rfl)
  (λm p i a k=>by kernel_rfl) (λp x=>⟨_,_,λ_=>rfl⟩) (λp N C A O w a b=>bT b (t:=52) (sl:=10) rfl λv h=>h)
def W0:=bq (AM shut) aq Tryz.f232 232 [Qr]
theorem W1:aR W0 ε:=bu (ag.all AN rfl) Tryz.func232 rfl aT (by kernel_rfl) agp
def Ev (m:bz) (path:Int):T Int:=.gd (wv path m.ae 0 (-1) 0)<|.bd (Cz U path m.ae 0 (-1)) λa=>.ok a.2.1
def vA (m:bz) (path:Int):=U.s _ (Ev U m path).val
def AA:=a6 (bU KK 232 54 35 (vA U) (bH KK 35)) (AM U)
theorem AB:ag (AA shut) ε:=bZ (rs:=[35]) AN W1 rfl rfl λm path k=>by kernel_rfl
def Hz (a:Int) (p1:List ay) (p2:Int) (b:Γa):AS SS:=⟨[(1,vu a),(5,vo 0),(9,vd 52 p1),(10,vl p1),(11,vi p2)],[rX 35 b],0,none,false,[],[]⟩
def T2 (a:Int) (p1:List ay) (b:Γa):AS SS:=Hz a p1 0 b
def ui (b:Int) (p1:List ay) (p2:Int) (z0:ay) (a:Γa):T (Γa⊕(Bool×Int×Γa)):=.bf (z0.aN !=b) (.bd (vD U b z0.aN) λc=>.bf (c) (.bd (app 8 a [z0.aY]) λz2=>.ok (.inl z2))<|.ok (.inl a))<|.ok (.inl a)
def sv (U:Sh) (b:Int) (p1:List ay) (p2:Int) (a:Γa):T ((Bool×Int×Γa)):=.ok (decide (p2<(↑p1.length:Int)),p2,a)
def C1 (a:Int) (p1:List ay) (b:Γa):=bC U (ui U a p1) (sv U a p1) p1 b
def aaw {R} (k:KX SS R) (a:Int) (p1:List ay) (x:(Bool×Int×Γa)):Option R:=(λv=>k (.exit 0) {Hz a p1 a v.2.2 with env:=[(12,vb v.1),(1,vu a),(5,vo 0),(9,vd 52 p1),(10,vl p1),(11,vi v.2.1)]}) x
def QV:aX SS:=bh 4 (sq (sI 1) (sq (sD 52 9) (hR 0 35))) (u3 T2) (u3 (C1 shut)) (λk p=>aaw k p.1 p.2.1)
theorem agV:LS KK ε aq Tryz.f280 280 4 QV:=
 aO.bI (π:=Int×List ay×Γa) (σ:=Γa) (ag.all AB rfl) (aF.nil) rfl 60 (λp i a=>Hz p.1 p.2.1 i a) (λp=>p.2.1) (λp=>p.2.2) (St:=λp=>ui shut p.1 p.2.1) (F:=λp=>sv shut p.1 p.2.1) (λp=>rfl)
  (λm p i a k=>by kernel_rfl) (λp x=>⟨_,_,λ_=>rfl⟩) (λp N C A O w a b=>bT b (t:=52) (sl:=9) rfl λv h=>h)
def XC:=bq (AA shut) aq Tryz.f280 280 [QV]
theorem XD:aR XC ε:=bu (ag.all AB rfl) Tryz.func280 rfl aT (by kernel_rfl) agV
def ET (m:bz) (path:Int):T (Γa):=.gd (T2 path m.ae [])<|.bd (C1 U path m.ae []) λa=>.ok a.2.2
def GJ (m:bz) (path:Int):=U.s _ (ET U m path).val
def Mb:=a6 (bU KK 280 54 35 (GJ U) (bH KK 130)) (AA U)
theorem Mc:ag (Mb shut) ε:=bZ (rs:=[130]) AB XD rfl rfl λm path k=>by kernel_rfl
def EA (m:bz) (path:Int):T (bz×Int×Int):=.bd (pJ U m path) λa=>.bf (a !=0) (.ok (⟨[],0⟩,0,5))<|.bf ((↑m.ae.length:Int)==16) (.ok (⟨[],0⟩,0,6))<|.bf (m.ba==1073741825) (.ok (⟨[],0⟩,0,6))<|.bd (app 16 [] m.ae) λb=>.bd (app 16 b [ay.mk path m.ba]) λz2=>.ok (⟨z2,τ.wrap (m.ba+1)⟩,m.ba,0)
def Gy (m:bz) (path:Int):=U.s _ (EA U m path).val
def AJ:=a6 (bU KK 238 54 35 (Gy U) (fF KK 54 35 27)) (Mb U)
theorem AK:ag (AJ shut) ε:=bZ (rs:=[54,35,27]) Mc (ag.all Mc rfl) rfl rfl λm path k=>by kernel_rfl
def wz (a:Int) (p1:List ay) (p2 b c:Int) (d:List ay):AS SS:=⟨[(1,vu a),(4,va 0 0),(6,va 1 0),(24,vd 52 p1),(25,vi b),(26,vi c)],[bX 54 [.v (.slice none 0 0),lu 0],bX 54 [.own 2,lu p2],rX 122 d],0,none,false,[],[]⟩
def oU (U:Sh) (c:Int) (p1:List ay) (p2 b:Int) (a:Int×List ay):T ((Int×List ay)⊕(Bool×Int×List ay)):=.bf (decide (a.1<b)) (.bd (idx p1 a.1) λz0=>.bf (z0.aN !=c) (.bd (app 16 a.2 [z0]) λd=>.ok (.inl (ζ.wrap (a.1+1),d)))<|.ok (.inl (ζ.wrap (a.1+1),a.2)))<|.ok (.inr (decide (a.1<b),a.1,a.2))
def CE (a:Int) (p1:List ay) (p2 b c:Int) (d:List ay):=bQ U (oU U a p1 p2 b) 1000000 (c,d)
def Z7 {R} (k:KX SS R) (a:Int) (p1:List ay) (p2 b:Int) (x:(Bool×Int×List ay)):Option R:=(λv=>k (.exit 0) {wz a p1 p2 b a v.2.2 with env:=[(27,vb v.1),(1,vu a),(4,va 0 0),(6,va 1 0),(24,vd 52 p1),(25,vi b),(26,vi v.2.1)]}) x
def Qw:aX SS:=hq (λst=>gc (aq 239 8) (et 1 0 122 (st)))<|bh 8 (λst=>(cO (cJ st 1 0)).bind λa=>(eo 52 (cJ st 24 0)).bind λp1=>(cO (dH st 1 1)).bind λp2=>(cO (cJ st 25 0)).bind λb=>(cO (cJ st 26 0)).bind λc=>(dU st 2 122).bind λd=>some (a,p1,p2,b,c,d)) (u6 wz) (u6 (CE shut)) (λk p=>Z7 k p.1 p.2.1 p.2.2.1 p.2.2.2.1)
theorem agv:LS KK ε aq Tryz.f239 239 8 Qw:=aO.pre (b_.comp (b_.gc (aq 239 8)) (b_.et 1 0 122))<|
 aO.bQ (π:=Int×List ay×Int×Int×Int×List ay) (σ:=Int×List ay) (ag.all AK rfl) (aF.nil) rfl 60 (λp a=>wz p.1 p.2.1 p.2.2.1 p.2.2.2.1 a.1 a.2) (λp=>(p.2.2.2.2.1,p.2.2.2.2.2)) (St:=λp=>oU shut p.1 p.2.1 p.2.2.1 p.2.2.2.1) (λp=>1000000) (λp=>rfl)
  (λm p a k=>by kernel_rfl)
def W6:=bq (AJ shut) aq Tryz.f239 239 [Qw]
theorem W7:aR W6 ε:=bu (ag.all AK rfl) Tryz.func239 rfl aT (by kernel_rfl) agv
def EB (m:bz) (path:Int):T (bz×Int):=.bd (pJ U m path) λa=>.bf (a==0) (.ok (⟨[],0⟩,4))<|.bd (GJ U m path) λb=>.bf (decide ((↑b.length:Int)>0)) (.ok (⟨[],0⟩,341))<|.gd (wz path m.ae m.ba ((↑m.ae.length:Int)) 0 [])<|.bd (CE U path m.ae m.ba ((↑m.ae.length:Int)) 0 []) λc=>.ok (⟨c.2.2,m.ba⟩,0)
def Gz (m:bz) (path:Int):=U.s _ (EB U m path).val
def L4:=a6 (bU KK 239 54 35 (Gz U) (dy KK 54 27)) (AJ U)
theorem L5:ag (L4 shut) ε:=bZ (rs:=[54,27]) AK W7 rfl rfl λm path k=>by kernel_rfl
end Go.Proofs.YtoggponeookhbaaGreatDoor
end
section
namespace Go.Proofs.YtoggponeookhbaaGreatDoor
open Go.RowKit Go.Dc Go.Vx
variable (U:Sh)
def EU (U:Sh) (w:Int):T Bool:=.bf (decide (w>0)) (.ok (decide (w<4294967296)))<|.ok false
def GK (w:Int):=U.s _ (EU U w).val
def Be:=a6 (cR KK 281 35 (GK U) (bH KK 4)) (L4 U)
theorem Bf:ag (Be shut) ε:=cX (rs:=[4]) L5 (ag.all L5 rfl) rfl rfl λw k=>by kernel_rfl
def wB (a:ByteArray) (p1:Bool) (p2 b:Int):AS SS:=⟨[(3,vs (.v (.string a))),(4,vb p1),(12,vi p2),(13,vi b)],[],0,none,false,[],[]⟩
def mG (U:Sh) (b:ByteArray) (p2:Int) (a:Bool×Int):T ((Bool×Int)⊕(Bool×Bool×Int)):=.bf (decide (a.2<p2)) (.bf (a.1) (.bd (fg b a.2) λz0=>.bf (decide (z0>=97)) (.bd (fg b a.2) λc=>.bf (decide (c<=122)) (.ok (.inl (true,ζ.wrap (a.2+1))))<|.bd (fg b a.2) λz2=>.bf (decide (z2>=48)) (.bd (fg b a.2) λz3=>.ok (.inl (decide (z3<=57),ζ.wrap (a.2+1))))<|.ok (.inl (false,ζ.wrap (a.2+1))))<|.bd (fg b a.2) λc=>.bf (decide (c>=48)) (.bd (fg b a.2) λz2=>.ok (.inl (decide (z2<=57),ζ.wrap (a.2+1))))<|.ok (.inl (false,ζ.wrap (a.2+1))))<|.ok (.inl (false,ζ.wrap (a.2+1))))<|.ok (.inr (decide (a.2<p2),a.1,a.2))
def oI (a:ByteArray) (p1:Bool) (p2 b:Int):=bQ U (mG U a p2) 1000000 (p1,b)
def Z' {R} (k:KX SS R) (a:ByteArray) (p2:Int) (x:(Bool×Bool×Int)):Option R:=(λv=>k (.exit 0) {wB a v.1 p2 p2 with env:=[(14,vb v.1),(3,vs (.v (.string a))),(4,vb v.2.1),(12,vi p2),(13,vi v.2.2)]}) x
def QA:aX SS:=bh 4 (sq (sX jF 3) (sq (sX gD 4) (sq (sI 12) (sI 13)))) (u4 wB) (u4 (oI shut)) (λk p=>Z' k p.1 p.2.2.1)
theorem agA:LS KK ε aq Tryz.f242 242 4 QA:=
 aO.bQ (π:=ByteArray×Bool×Int×Int) (σ:=Bool×Int) (ag.all Bf rfl) (aF.nil) rfl 60 (λp a=>wB p.1 a.1 p.2.2.1 a.2) (λp=>(p.2.1,p.2.2.2)) (St:=λp=>mG shut p.1 p.2.2.1) (λp=>1000000) (λp=>rfl)
  (λm p a k=>by kernel_rfl)
def Xc:=bq (Be shut) aq Tryz.f242 242 [QA]
theorem Xd:aR Xc ε:=bu (ag.all Bf rfl) Tryz.func242 rfl aT (by kernel_rfl) agA
def EE (name:Int):T Bool:=.bd (pL U name) λa=>.gd (wB a.1 a.2 ((↑a.1.size:Int)) 0)<|.bd (oI U a.1 a.2 ((↑a.1.size:Int)) 0) λb=>.bf (b.2.1) (.ok (decide ((↑a.1.size:Int)>0)))<|.ok false
def nm (name:Int):=U.s _ (EE U name).val
def AO:=a6 (cR KK 242 35 (nm U) (bH KK 4)) (Be U)
theorem AP:ag (AO shut) ε:=cX (rs:=[4]) Bf Xd rfl rfl λname k=>by kernel_rfl
def qi (a:Int) (p1:List au) (p2:Int):AS SS:=⟨[(1,vu a),(9,vd 55 p1),(10,vl p1),(11,vi p2)],[],0,none,false,[],[]⟩
def tW (U:Sh) (b:Int) (p1:List au) (p2:Int) (z0:au) (a:Unit):T (Unit⊕Int⊕(Bool×Int)):=.bf (z0.aW==b) (.ok (.inr (.inl z0.aa)))<|.ok (.inl ())
def se (U:Sh) (b:Int) (p1:List au) (p2:Int) (a:Unit):T (Int⊕(Bool×Int)):=.ok (.inr (decide (p2<(↑p1.length:Int)),p2))
def CH (a:Int) (p1:List au):=bC U (tW U a p1) (se U a p1) p1 ()
def aaa {R} (k:KX SS R) (a:Int) (p1:List au) (x:Int⊕(Bool×Int)):Option R:=x.elim (λv=>k .ret {qi a p1 a with env:=[(4,vu v),(5,vb true)]}) (λv=>k (.exit 0) {qi a p1 a with env:=[(12,vb v.1),(1,vu a),(9,vd 55 p1),(10,vl p1),(11,vi v.2)]})
def QB:aX SS:=bh 3 (sq (sI 1) (sD 55 9)) (λp=>u2 qi p 0) (u2 (CH shut)) (λk=>u2 (aaa k))
theorem agB:LS KK ε aq Tryz.f243 243 3 QB:=
 aO.bI (ag.all AP rfl) (aF.nil) rfl 60 (λp i a=>u2 qi p i) (λp=>p.2) (λp=>()) (St:=u2 (tW shut)) (F:=u2 (se shut)) (λp=>rfl)
  (λm p i a k=>by kernel_rfl) (by rintro p (x|x)<;>exact⟨_,_,λ_=>rfl⟩) (λp N C A O w a b=>bT b (t:=55) (sl:=9) rfl λv h=>h)
def Xe:=bq (AO shut) aq Tryz.f243 243 [QB]
theorem Xf:aR Xe ε:=bu (ag.all AP rfl) Tryz.func243 rfl aT (by kernel_rfl) agB
def EF (s:aL) (name:Int):T (Int×Bool):=.gd (qi name s.ak 0)<|.bd (CH U name s.ak) λb=>.cs b (λa=>.ok (a,true)) λa=>.ok (0,false)
def pK (s:aL) (name:Int):=U.s _ (EF U s name).val
def AQ:=a6 (bU KK 243 58 35 (pK U) (dy KK 35 4)) (AO U)
theorem sW:ag (AQ shut) ε:=bZ (rs:=[35,4]) AP Xf rfl rfl λs name k=>by kernel_rfl
def wC (b p1:Int) (p2:List au) (a:List ar) (c d:Int) (e:List au):AS SS:=⟨[(1,vu b),(2,vu p1),(3,va 0 0),(6,va 1 0),(10,va 2 0),(40,vd 55 p2),(41,vi c),(42,vi d)],[bX 58 [.aJ 55 p2,.aJ 56 a],bX 58 [.v (.slice none 0 0),.v (.slice none 0 0)],bX 58 [.own 3,.aJ 56 a],rX 127 e],0,none,false,[],[]⟩
def oW (U:Sh) (c p1:Int) (p2:List au) (e:List ar) (b:Int) (a:Int×List au):T ((Int×List au)⊕(Bool×Int×List au)):=.bf (decide (a.1<b)) (.bd (idx p2 a.1) λz0=>.bf (decide (z0.aW<c)) (.bd (app 16 a.2 [z0]) λd=>.ok (.inl (ζ.wrap (a.1+1),d)))<|.ok (.inl (ζ.wrap (a.1+1),a.2)))<|.ok (.inr (decide (a.1<b),a.1,a.2))
def CI (a p1:Int) (p2:List au) (b:List ar) (c d:Int) (e:List au):=bQ U (oW U a p1 p2 b c) 1000000 (d,e)
def aab {R} (k:KX SS R) (a p1:Int) (p2:List au) (c:List ar) (b:Int) (x:(Bool×Int×List au)):Option R:=(λv=>k (.exit 0) {wC a p1 p2 c b a v.2.2 with env:=[(43,vb v.1),(1,vu a),(2,vu p1),(3,va 0 0),(6,va 1 0),(10,va 2 0),(40,vd 55 p2),(41,vi b),(42,vi v.2.1)]}) x
def QC:aX SS:=hq (λst=>gc (aq 244 13) (et 2 0 127 (st)))<|bh 13 (λst=>(cO (cJ st 1 0)).bind λa=>(cO (cJ st 2 0)).bind λp1=>(eo 55 (cJ st 40 0)).bind λp2=>(eo 56 (dH st 0 1)).bind λb=>(cO (cJ st 41 0)).bind λc=>(cO (cJ st 42 0)).bind λd=>(dU st 3 127).bind λe=>some (a,p1,p2,b,c,d,e)) (u7 wC) (u7 (CI shut)) (λk p=>aab k p.1 p.2.1 p.2.2.1 p.2.2.2.1 p.2.2.2.2.1)
theorem agC:LS KK ε aq ζC 244 13 QC:=aO.pre (b_.comp (b_.gc (aq 244 13)) (b_.et 2 0 127))<|
 aO.bQ (π:=Int×Int×List au×List ar×Int×Int×List au) (σ:=Int×List au) (ag.all sW rfl) (aF.nil) rfl 60 (λp a=>wC p.1 p.2.1 p.2.2.1 p.2.2.2.1 p.2.2.2.2.1 a.1 a.2) (λp=>(p.2.2.2.2.2.1,p.2.2.2.2.2.2)) (St:=λp=>oW shut p.1 p.2.1 p.2.2.1 p.2.2.2.1 p.2.2.2.2.1) (λp=>1000000) (λp=>rfl)
  (λm p a k=>by kernel_rfl)
def wD (a:Int) (p1:List au) (p2:List ar) (b:List au) (c:Int):AS SS:=⟨[(1,vu a),(6,va 0 0),(10,va 1 0),(66,vd 55 p1),(67,vl p1),(68,vi c)],[bX 58 [.v (.slice none 0 0),.v (.slice none 0 0)],bX 58 [.own 2,.aJ 56 p2],rX 127 b],0,none,false,[],[]⟩
def tX (U:Sh) (b:Int) (p1:List au) (p2:List ar) (d:Int) (z0:au) (a:List au):T (List au⊕(Bool×Int×List au)):=.bf (decide (z0.aW>b)) (.bd (app 16 a [z0]) λc=>.ok (.inl c))<|.ok (.inl a)
def sf (U:Sh) (c:Int) (p1:List au) (p2:List ar) (b:Int) (a:List au):T ((Bool×Int×List au)):=.ok (decide (b<(↑p1.length:Int)),b,a)
def CJ (a:Int) (p1:List au) (p2:List ar) (b:List au):=bC U (tX U a p1 p2) (sf U a p1 p2) p1 b
def aac {R} (k:KX SS R) (a:Int) (p1:List au) (p2:List ar) (x:(Bool×Int×List au)):Option R:=(λv=>k (.exit 2) {wD a p1 p2 v.2.2 a with env:=[(69,vb v.1),(1,vu a),(6,va 0 0),(10,va 1 0),(66,vd 55 p1),(67,vl p1),(68,vi v.2.1)]}) x
def QD:aX SS:=bh 20 (sq (sI 1) (sq (sD 55 66) (sq (hD 56 1 1) (hR 2 127)))) (λp=>u4 wD p 0) (u4 (CJ shut)) (λk p=>aac k p.1 p.2.1 p.2.2.1)
theorem agD:LS KK ε aq ζC 244 20 QD:=
 aO.bI (π:=Int×List au×List ar×List au) (σ:=List au) (ag.all sW rfl) (aF.nil) rfl 60 (λp i a=>wD p.1 p.2.1 p.2.2.1 a i) (λp=>p.2.1) (λp=>p.2.2.2) (St:=λp=>tX shut p.1 p.2.1 p.2.2.1) (F:=λp=>sf shut p.1 p.2.1 p.2.2.1) (λp=>rfl)
  (λm p i a k=>by kernel_rfl) (λp x=>⟨_,_,λ_=>rfl⟩) (λp N C A O w a b=>bT b (t:=55) (sl:=66) rfl λv h=>h)
def Xg:=bq (AQ shut) aq ζC 244 [QC,QD]
theorem Xh:aR Xg ε:=(aR.fz (ag.all sW rfl) Tryz.func244 rfl aT λc a=>by cases a;exact aF.cons (aF.cons (aF.nil) (by kernel_rfl) agD) (by kernel_rfl) agC)
def EG (s:aL) (name pid:Int):T (aL×Int):=.bd (nm U name) λa=>.bf (!a) (.ok (⟨[],[]⟩,351))<|.bd (GK U pid) λb=>.bf (!b) (.ok (⟨[],[]⟩,2))<|.bd (pK U s name) λc=>.bf (c.2) (.ok (⟨[],[]⟩,5))<|.bf ((↑s.ak.length:Int)==16) (.ok (⟨[],[]⟩,6))<|.gd (wC name pid s.ak s.an ((↑s.ak.length:Int)) 0 [])<|.bd (CI U name pid s.ak s.an ((↑s.ak.length:Int)) 0 []) λd=>.bd (app 16 d.2.2 [au.mk name pid]) λz4=>.gd (wD name s.ak s.an z4 0)<|.bd (CJ U name s.ak s.an z4) λe=>.ok (⟨e.2.2,s.an⟩,0)
def GB (s:aL) (name pid:Int):=U.s _ (EG U s name pid).val
def AR:=a6 (fN KK 244 58 35 35 (GB U) (dy KK 58 27)) (AQ U)
theorem AT:ag (AR shut) ε:=gz (rs:=[58,27]) sW Xh rfl rfl λs name pid k=>by kernel_rfl
def wE (a:Int) (p1:List au) (p2:List ar) (b c:Int) (d:List au):AS SS:=⟨[(1,vu a),(4,va 0 0),(8,va 1 0),(28,vd 55 p1),(29,vi b),(30,vi c)],[bX 58 [.v (.slice none 0 0),.v (.slice none 0 0)],bX 58 [.own 2,.aJ 56 p2],rX 127 d],0,none,false,[],[]⟩
def oX (U:Sh) (c:Int) (p1:List au) (p2:List ar) (b:Int) (a:Int×List au):T ((Int×List au)⊕(Bool×Int×List au)):=.bf (decide (a.1<b)) (.bd (idx p1 a.1) λz0=>.bf (z0.aW !=c) (.bd (app 16 a.2 [z0]) λd=>.ok (.inl (ζ.wrap (a.1+1),d)))<|.ok (.inl (ζ.wrap (a.1+1),a.2)))<|.ok (.inr (decide (a.1<b),a.1,a.2))
def CK (a:Int) (p1:List au) (p2:List ar) (b c:Int) (d:List au):=bQ U (oX U a p1 p2 b) 1000000 (c,d)
def aad {R} (k:KX SS R) (a:Int) (p1:List au) (p2:List ar) (b:Int) (x:(Bool×Int×List au)):Option R:=(λv=>k (.exit 0) {wE a p1 p2 b a v.2.2 with env:=[(31,vb v.1),(1,vu a),(4,va 0 0),(8,va 1 0),(28,vd 55 p1),(29,vi b),(30,vi v.2.1)]}) x
def QE:aX SS:=hq (λst=>gc (aq 245 9) (et 1 0 127 (st)))<|bh 9 (λst=>(cO (cJ st 1 0)).bind λa=>(eo 55 (cJ st 28 0)).bind λp1=>(eo 56 (dH st 1 1)).bind λp2=>(cO (cJ st 29 0)).bind λb=>(cO (cJ st 30 0)).bind λc=>(dU st 2 127).bind λd=>some (a,p1,p2,b,c,d)) (u6 wE) (u6 (CK shut)) (λk p=>aad k p.1 p.2.1 p.2.2.1 p.2.2.2.1)
theorem agE:LS KK ε aq Tryz.f245 245 9 QE:=aO.pre (b_.comp (b_.gc (aq 245 9)) (b_.et 1 0 127))<|
 aO.bQ (π:=Int×List au×List ar×Int×Int×List au) (σ:=Int×List au) (ag.all AT rfl) (aF.nil) rfl 60 (λp a=>wE p.1 p.2.1 p.2.2.1 p.2.2.2.1 a.1 a.2) (λp=>(p.2.2.2.2.1,p.2.2.2.2.2)) (St:=λp=>oX shut p.1 p.2.1 p.2.2.1 p.2.2.2.1) (λp=>1000000) (λp=>rfl)
  (λm p a k=>by kernel_rfl)
def Xi:=bq (AR shut) aq Tryz.f245 245 [QE]
theorem Xj:aR Xi ε:=bu (ag.all AT rfl) Tryz.func245 rfl aT (by kernel_rfl) agE
def EH (s:aL) (name:Int):T (aL×Int):=.bd (nm U name) λa=>.bf (!a) (.ok (⟨[],[]⟩,351))<|.bd (pK U s name) λb=>.bf (!b.2) (.ok (⟨[],[]⟩,4))<|.gd (wE name s.ak s.an ((↑s.ak.length:Int)) 0 [])<|.bd (CK U name s.ak s.an ((↑s.ak.length:Int)) 0 []) λc=>.ok (⟨c.2.2,s.an⟩,0)
def GC (s:aL) (name:Int):=U.s _ (EH U s name).val
def AU:=a6 (bU KK 245 58 35 (GC U) (dy KK 58 27)) (AR U)
theorem AW:ag (AU shut) ε:=bZ (rs:=[58,27]) AT Xj rfl rfl λs name k=>by kernel_rfl
def Ht (a:Int) (p1:List au) (p2:Int) (b:Γa):AS SS:=⟨[(1,vu a),(5,vo 0),(9,vd 55 p1),(10,vl p1),(11,vi p2)],[rX 35 b],0,none,false,[],[]⟩
def TX (a:Int) (p1:List au) (b:Γa):AS SS:=Ht a p1 0 b
def tN (U:Sh) (b:Int) (p1:List au) (p2:Int) (z0:au) (a:Γa):T (Γa⊕(Bool×Int×Γa)):=.bf (z0.aa==b) (.bd (app 8 a [z0.aW]) λc=>.ok (.inl c))<|.ok (.inl a)
def r6 (U:Sh) (b:Int) (p1:List au) (p2:Int) (a:Γa):T ((Bool×Int×Γa)):=.ok (decide (p2<(↑p1.length:Int)),p2,a)
def Cw (a:Int) (p1:List au) (b:Γa):=bC U (tN U a p1) (r6 U a p1) p1 b
def ZY {R} (k:KX SS R) (a:Int) (p1:List au) (x:(Bool×Int×Γa)):Option R:=(λv=>k (.exit 0) {Ht a p1 a v.2.2 with env:=[(12,vb v.1),(1,vu a),(5,vo 0),(9,vd 55 p1),(10,vl p1),(11,vi v.2.1)]}) x
def Qn:aX SS:=bh 4 (sq (sI 1) (sq (sD 55 9) (hR 0 35))) (u3 TX) (u3 (Cw shut)) (λk p=>ZY k p.1 p.2.1)
theorem agl:LS KK ε aq Tryz.f228 228 4 Qn:=
 aO.bI (π:=Int×List au×Γa) (σ:=Γa) (ag.all AW rfl) (aF.nil) rfl 60 (λp i a=>Ht p.1 p.2.1 i a) (λp=>p.2.1) (λp=>p.2.2) (St:=λp=>tN shut p.1 p.2.1) (F:=λp=>r6 shut p.1 p.2.1) (λp=>rfl)
  (λm p i a k=>by kernel_rfl) (λp x=>⟨_,_,λ_=>rfl⟩) (λp N C A O w a b=>bT b (t:=55) (sl:=9) rfl λv h=>h)
def WU:=bq (AU shut) aq Tryz.f228 228 [Qn]
theorem WV:aR WU ε:=bu (ag.all AW rfl) Tryz.func228 rfl aT (by kernel_rfl) agl
def Er (s:aL) (pid:Int):T (Γa):=.gd (TX pid s.ak [])<|.bd (Cw U pid s.ak []) λa=>.ok a.2.2
def Gw (s:aL) (pid:Int):=U.s _ (Er U s pid).val
def As:=a6 (bU KK 228 58 35 (Gw U) (bH KK 130)) (AU U)
theorem Au:ag (As shut) ε:=bZ (rs:=[130]) AW WV rfl rfl λs pid k=>by kernel_rfl
def qj (a:Int) (p1:List ar) (p2:Int):AS SS:=⟨[(1,vu a),(8,vd 56 p1),(9,vl p1),(10,vi p2)],[],0,none,false,[],[]⟩
def tY (U:Sh) (b:Int) (p1:List ar) (p2:Int) (z0:ar) (a:Unit):T (Unit⊕Γa⊕(Bool×Int)):=.bf (z0.aa==b) (.ok (.inr (.inl z0.bj)))<|.ok (.inl ())
def sg (U:Sh) (b:Int) (p1:List ar) (p2:Int) (a:Unit):T (Γa⊕(Bool×Int)):=.ok (.inr (decide (p2<(↑p1.length:Int)),p2))
def CL (a:Int) (p1:List ar):=bC U (tY U a p1) (sg U a p1) p1 ()
def aae {R} (k:KX SS R) (a:Int) (p1:List ar) (x:Γa⊕(Bool×Int)):Option R:=x.elim (λv=>k .ret {qj a p1 a with env:=[(4,vd 130 v)]}) (λv=>k (.exit 0) {qj a p1 a with env:=[(11,vb v.1),(1,vu a),(8,vd 56 p1),(9,vl p1),(10,vi v.2)]})
def QF:aX SS:=bh 3 (sq (sI 1) (sD 56 8)) (λp=>u2 qj p 0) (u2 (CL shut)) (λk=>u2 (aae k))
theorem agF:LS KK ε aq Tryz.f246 246 3 QF:=
 aO.bI (ag.all Au rfl) (aF.nil) rfl 60 (λp i a=>u2 qj p i) (λp=>p.2) (λp=>()) (St:=u2 (tY shut)) (F:=u2 (sg shut)) (λp=>rfl)
  (λm p i a k=>by kernel_rfl) (by rintro p (x|x)<;>exact⟨_,_,λ_=>rfl⟩) (λp N C A O w a b=>bT b (t:=56) (sl:=8) rfl λv h=>h)
def Xk:=bq (As shut) aq Tryz.f246 246 [QF]
theorem Xl:aR Xk ε:=bu (ag.all Au rfl) Tryz.func246 rfl aT (by kernel_rfl) agF
def EI (s:aL) (pid:Int):T (Γa):=.gd (qj pid s.an 0)<|.bd (CL U pid s.an) λb=>.cs b (λa=>.ok a) λa=>.ok []
def vC (s:aL) (pid:Int):=U.s _ (EI U s pid).val
def AY:=a6 (bU KK 246 58 35 (vC U) (bH KK 130)) (As U)
theorem sY:ag (AY shut) ε:=bZ (rs:=[130]) Au Xl rfl rfl λs pid k=>by kernel_rfl
def wu (b:Int) (p1:Γa) (p2:List ar) (a:List au) (c d:Int) (e:List ar):AS SS:=⟨[(1,vu b),(2,vd 130 p1),(3,va 0 0),(6,va 1 0),(7,va 2 0),(16,vd 56 p2),(17,vi c),(18,vi d)],[bX 58 [.aJ 55 a,.aJ 56 p2],bX 58 [.v (.slice none 0 0),.v (.slice none 0 0)],bX 58 [.aJ 55 a,.own 3],rX 132 e],0,none,false,[],[]⟩
def oS (U:Sh) (c:Int) (p1:Γa) (p2:List ar) (e:List au) (b:Int) (a:Int×List ar):T ((Int×List ar)⊕(Bool×Int×List ar)):=.bf (decide (a.1<b)) (.bd (idx p2 a.1) λz0=>.bf (decide (z0.aa<c)) (.bd (app 32 a.2 [z0]) λd=>.ok (.inl (ζ.wrap (a.1+1),d)))<|.ok (.inl (ζ.wrap (a.1+1),a.2)))<|.ok (.inr (decide (a.1<b),a.1,a.2))
def Cy (a:Int) (p1:Γa) (p2:List ar) (b:List au) (c d:Int) (e:List ar):=bQ U (oS U a p1 p2 b c) 1000000 (d,e)
def Z1 {R} (k:KX SS R) (a:Int) (p1:Γa) (p2:List ar) (c:List au) (b:Int) (x:(Bool×Int×List ar)):Option R:=(λv=>k (.exit 0) {wu a p1 p2 c b a v.2.2 with env:=[(19,vb v.1),(1,vu a),(2,vd 130 p1),(3,va 0 0),(6,va 1 0),(7,va 2 0),(16,vd 56 p2),(17,vi b),(18,vi v.2.1)]}) x
def Qq:aX SS:=hq (λst=>gc (aq 230 4) (et 2 1 132 (st)))<|bh 4 (λst=>(cO (cJ st 1 0)).bind λa=>(eo 130 (cJ st 2 0)).bind λp1=>(eo 56 (cJ st 16 0)).bind λp2=>(eo 55 (dH st 0 0)).bind λb=>(cO (cJ st 17 0)).bind λc=>(cO (cJ st 18 0)).bind λd=>(dU st 3 132).bind λe=>some (a,p1,p2,b,c,d,e)) (u7 wu) (u7 (Cy shut)) (λk p=>Z1 k p.1 p.2.1 p.2.2.1 p.2.2.2.1 p.2.2.2.2.1)
theorem ago:LS KK ε aq ζD 230 4 Qq:=aO.pre (b_.comp (b_.gc (aq 230 4)) (b_.et 2 1 132))<|
 aO.bQ (π:=Int×Γa×List ar×List au×Int×Int×List ar) (σ:=Int×List ar) (ag.all sY rfl) (aF.nil) rfl 60 (λp a=>wu p.1 p.2.1 p.2.2.1 p.2.2.2.1 p.2.2.2.2.1 a.1 a.2) (λp=>(p.2.2.2.2.2.1,p.2.2.2.2.2.2)) (St:=λp=>oS shut p.1 p.2.1 p.2.2.1 p.2.2.2.1 p.2.2.2.2.1) (λp=>1000000) (λp=>rfl)
  (λm p a k=>by kernel_rfl)
def qf (a:Int) (p1:List ar) (p2:List au) (b:List ar) (c:Int):AS SS:=⟨[(1,vu a),(6,va 0 0),(7,va 1 0),(45,vd 56 p1),(46,vl p1),(47,vi c)],[bX 58 [.v (.slice none 0 0),.v (.slice none 0 0)],bX 58 [.aJ 55 p2,.own 2],rX 132 b],0,none,false,[],[]⟩
def tP (U:Sh) (b:Int) (p1:List ar) (p2:List au) (d:Int) (z0:ar) (a:List ar):T (List ar⊕(Bool×Int×List ar)):=.bf (decide (z0.aa>b)) (.bd (app 32 a [z0]) λc=>.ok (.inl c))<|.ok (.inl a)
def r8 (U:Sh) (c:Int) (p1:List ar) (p2:List au) (b:Int) (a:List ar):T ((Bool×Int×List ar)):=.ok (decide (b<(↑p1.length:Int)),b,a)
def tf (a:Int) (p1:List ar) (p2:List au) (b:List ar):=bC U (tP U a p1 p2) (r8 U a p1 p2) p1 b
def Z0 {R} (k:KX SS R) (a:Int) (p1:List ar) (p2:List au) (x:(Bool×Int×List ar)):Option R:=(λv=>k (.exit 2) {qf a p1 p2 v.2.2 a with env:=[(48,vb v.1),(1,vu a),(6,va 0 0),(7,va 1 0),(45,vd 56 p1),(46,vl p1),(47,vi v.2.1)]}) x
def Qp:aX SS:=bh 12 (sq (sI 1) (sq (sD 56 45) (sq (hD 55 1 0) (hR 2 132)))) (λp=>u4 qf p 0) (u4 (tf shut)) (λk p=>Z0 k p.1 p.2.1 p.2.2.1)
theorem agn:LS KK ε aq ζD 230 12 Qp:=
 aO.bI (π:=Int×List ar×List au×List ar) (σ:=List ar) (ag.all sY rfl) (aF.nil) rfl 60 (λp i a=>qf p.1 p.2.1 p.2.2.1 a i) (λp=>p.2.1) (λp=>p.2.2.2) (St:=λp=>tP shut p.1 p.2.1 p.2.2.1) (F:=λp=>r8 shut p.1 p.2.1 p.2.2.1) (λp=>rfl)
  (λm p i a k=>by kernel_rfl) (λp x=>⟨_,_,λ_=>rfl⟩) (λp N C A O w a b=>bT b (t:=56) (sl:=45) rfl λv h=>h)
def WY:=bq (AY shut) aq ζD 230 [Qq,Qp]
theorem WZ:aR WY ε:=(aR.fz (ag.all sY rfl) Tryz.func230 rfl aT λc a=>by cases a;exact aF.cons (aF.cons (aF.nil) (by kernel_rfl) agn) (by kernel_rfl) ago)
def Et (s:aL) (pid:Int) (l:Γa):T aL:=.gd (wu pid l s.an s.ak ((↑s.an.length:Int)) 0 [])<|.bd (Cy U pid l s.an s.ak ((↑s.an.length:Int)) 0 []) λa=>.bf (decide ((↑l.length:Int)>0)) (.bd (app 32 a.2.2 [ar.mk pid l]) λb=>.gd (qf pid s.an s.ak b 0)<|.bd (tf U pid s.an s.ak b) λd=>.ok (⟨s.ak,d.2.2⟩))<|.gd (qf pid s.an s.ak a.2.2 0)<|.bd (tf U pid s.an s.ak a.2.2) λc=>.ok (⟨s.ak,c.2.2⟩)
def lE (s:aL) (pid:Int) (l:Γa):=U.s _ (Et U s pid l).val
def Ay:=a6 (fN KK 230 58 35 130 (lE U) (bH KK 58)) (AY U)
theorem Az:ag (Ay shut) ε:=gz (rs:=[58]) sY WZ rfl rfl λs pid l k=>by kernel_rfl
end Go.Proofs.YtoggponeookhbaaGreatDoor
end
section
namespace Go.Proofs.YtoggponeookhbaaGreatDoor
open Go.RowKit Go.Dc Go.Vx
variable (U:Sh)
def vY (a:List ah) (p1:Γa) (p2:List ah) (b:Int):AS SS:=⟨[(3,va 0 0),(22,vd 48 a),(23,vl a),(24,vi b)],[bX 50 [.bA .i64 16 p1,.aJ 48 p2]],0,none,false,[],[]⟩
def Dl (U:Sh) (d:List ah) (p1:Γa) (p2:List ah) (b:Int) (z0:ah) (a:Unit):T (Unit⊕Unit⊕(Bool×Int)):=.bd (idx p2 b) λc=>.bf (!fl z0 c) (.ok (.inr (.inl ())))<|.ok (.inl ())
def rO (U:Sh) (c:List ah) (p1:Γa) (p2:List ah) (b:Int) (a:Unit):T (Unit⊕(Bool×Int)):=.ok (.inr (decide (b<(↑c.length:Int)),b))
def MK (a:List ah) (p1:Γa) (p2:List ah):=bC U (Dl U a p1 p2) (rO U a p1 p2) a ()
def Zo {R} (k:KX SS R) (a:List ah) (p1:Γa) (p2:List ah) (x:Unit⊕(Bool×Int)):Option R:=x.elim (λv=>k .ret ⟨[(4,vb false)],[],0,none,false,[],[]⟩) (λv=>k (.exit 0) (xe [(25,vb v.1)] (vY a p1 p2 v.2)))
def PU:aX SS:=bh 5 (sq (sD 48 22) (sq (hX ea 0 0) (hD 48 0 1))) (λp=>u3 vY p 0) (u3 (MK shut)) (λk=>u3 (Zo k))
theorem afS:LS KK ε aq Tryz.f127 127 5 PU:=
 aO.bI (ag.all Az rfl) (aF.nil) rfl 60 (λp i a=>u3 vY p i) (λp=>p.1) (λp=>()) (St:=u3 (Dl shut)) (F:=u3 (rO shut)) (λp=>rfl)
  (λm p i a k=>by kernel_rfl) (by rintro p (x|x)<;>exact⟨_,_,λ_=>rfl⟩) (λp N C A O w a b=>bT b (t:=48) (sl:=22) rfl λv h=>h)
def VJ:=bq (Ay shut) aq Tryz.f127 127 [PU]
theorem VK:aR VJ ε:=bu (ag.all Az rfl) Tryz.func127 rfl aT (by kernel_rfl) afS
def DL (a b:br):T Bool:=.bf (!a.aH==b.aH) (.ok false)<|.bf ((↑a.ae.length:Int) !=(↑b.ae.length:Int)) (.ok false)<|.gd (vY a.ae b.aH b.ae 0)<|.bd (MK U a.ae b.aH b.ae) λc=>.cs c (λ_=>.ok false) λd=>.ok true
def Gf (a b:br):=U.s _ (DL U a b).val
def zv:=a6 (bU KK 127 50 50 (Gf U) (bH KK 4)) (Ay U)
theorem zw:ag (zv shut) ε:=bZ (rs:=[4]) Az VK rfl rfl λa b k=>by kernel_rfl
def p7 (a p1:List ai) (p2:Int):AS SS:=⟨[(1,vd 51 a),(12,vd 51 p1),(13,vl p1),(14,vi p2)],[],0,none,false,[],[]⟩
def Dm (U:Sh) (b p1:List ai) (p2:Int) (z0:ai) (a:Unit):T (Unit⊕Unit⊕(Bool×Int)):=.bd (idx b p2) λc=>.bf (!gB z0 c) (.ok (.inr (.inl ())))<|.ok (.inl ())
def rP (U:Sh) (b p1:List ai) (p2:Int) (a:Unit):T (Unit⊕(Bool×Int)):=.ok (.inr (decide (p2<(↑p1.length:Int)),p2))
def ML (a p1:List ai):=bC U (Dm U a p1) (rP U a p1) p1 ()
def Zp {R} (k:KX SS R) (a p1:List ai) (x:Unit⊕(Bool×Int)):Option R:=x.elim (λv=>k .ret {p7 a p1 0 with env:=[(4,vb false)]}) (λv=>k (.exit 0) (xe [(15,vb v.1)] (p7 a p1 v.2)))
def PV:aX SS:=bh 5 (sq (sD 51 1) (sD 51 12)) (λp=>u2 p7 p 0) (u2 (ML shut)) (λk=>u2 (Zp k))
theorem afT:LS KK ε aq Tryz.f128 128 5 PV:=
 aO.bI (ag.all zw rfl) (aF.nil) rfl 60 (λp i a=>u2 p7 p i) (λp=>p.2) (λp=>()) (St:=u2 (Dm shut)) (F:=u2 (rP shut)) (λp=>rfl)
  (λm p i a k=>by kernel_rfl) (by rintro p (x|x)<;>exact⟨_,_,λ_=>rfl⟩) (λp N C A O w a b=>bT b (t:=51) (sl:=12) rfl λv h=>h)
def VL:=bq (zv shut) aq Tryz.f128 128 [PV]
theorem VM:aR VL ε:=bu (ag.all zw rfl) Tryz.func128 rfl aT (by kernel_rfl) afT
def DM (a b:List ai):T Bool:=.bf ((↑a.length:Int) !=(↑b.length:Int)) (.ok false)<|.gd (p7 b a 0)<|.bd (ML U b a) λc=>.cs c (λ_=>.ok false) λd=>.ok true
def Gg (a b:List ai):=U.s _ (DM U a b).val
def zx:=a6 (bU KK 128 51 51 (Gg U) (bH KK 4)) (zv U)
theorem zy:ag (zx shut) ε:=bZ (rs:=[4]) zw VM rfl rfl λa b k=>by kernel_rfl
def vZ (a p1:List ay) (p2 b:Int):AS SS:=⟨[(3,va 0 0),(22,vd 52 a),(23,vl a),(24,vi b)],[bX 54 [.aJ 52 p1,lu p2]],0,none,false,[],[]⟩
def Dn (U:Sh) (d p1:List ay) (p2 b:Int) (z0:ay) (a:Unit):T (Unit⊕Unit⊕(Bool×Int)):=.bd (idx p1 b) λc=>.bf (!h_ z0 c) (.ok (.inr (.inl ())))<|.ok (.inl ())
def rQ (U:Sh) (c p1:List ay) (p2 b:Int) (a:Unit):T (Unit⊕(Bool×Int)):=.ok (.inr (decide (b<(↑c.length:Int)),b))
def MM (a p1:List ay) (p2:Int):=bC U (Dn U a p1 p2) (rQ U a p1 p2) a ()
def Zq {R} (k:KX SS R) (a p1:List ay) (p2:Int) (x:Unit⊕(Bool×Int)):Option R:=x.elim (λv=>k .ret ⟨[(4,vb false)],[],0,none,false,[],[]⟩) (λv=>k (.exit 0) {vZ a p1 p2 p2 with env:=[(25,vb v.1),(3,va 0 0),(22,vd 52 a),(23,vl a),(24,vi v.2)]})
def PW:aX SS:=bh 5 (sq (sD 52 22) (sq (hD 52 0 0) (hI 0 1))) (λp=>u3 vZ p 0) (u3 (MM shut)) (λk=>u3 (Zq k))
theorem afU:LS KK ε aq Tryz.f129 129 5 PW:=
 aO.bI (ag.all zy rfl) (aF.nil) rfl 60 (λp i a=>u3 vZ p i) (λp=>p.1) (λp=>()) (St:=u3 (Dn shut)) (F:=u3 (rQ shut)) (λp=>rfl)
  (λm p i a k=>by kernel_rfl) (by rintro p (x|x)<;>exact⟨_,_,λ_=>rfl⟩) (λp N C A O w a b=>bT b (t:=52) (sl:=22) rfl λv h=>h)
def VN:=bq (zx shut) aq Tryz.f129 129 [PW]
theorem VO:aR VN ε:=bu (ag.all zy rfl) Tryz.func129 rfl aT (by kernel_rfl) afU
def DN (a b:bz):T Bool:=.bf (a.ba !=b.ba) (.ok false)<|.bf ((↑a.ae.length:Int) !=(↑b.ae.length:Int)) (.ok false)<|.gd (vZ a.ae b.ae b.ba 0)<|.bd (MM U a.ae b.ae b.ba) λc=>.cs c (λ_=>.ok false) λd=>.ok true
def Gi (a b:bz):=U.s _ (DN U a b).val
def zz:=a6 (bU KK 129 54 54 (Gi U) (bH KK 4)) (zx U)
theorem zA:ag (zz shut) ε:=bZ (rs:=[4]) zy VO rfl rfl λa b k=>by kernel_rfl
def qc (a p1:Γa) (p2:Int):AS SS:=⟨[(1,vd 130 a),(12,vd 130 p1),(13,vl p1),(14,vi p2)],[],0,none,false,[],[]⟩
def Dr (U:Sh) (b p1:Γa) (p2 z0:Int) (a:Unit):T (Unit⊕Unit⊕(Bool×Int)):=.bd (idx b p2) λc=>.bf (z0 !=c) (.ok (.inr (.inl ())))<|.ok (.inl ())
def rW (U:Sh) (b p1:Γa) (p2:Int) (a:Unit):T (Unit⊕(Bool×Int)):=.ok (.inr (decide (p2<(↑p1.length:Int)),p2))
def MN (a p1:Γa):=bC U (Dr U a p1) (rW U a p1) p1 ()
def ZF {R} (k:KX SS R) (a p1:Γa) (x:Unit⊕(Bool×Int)):Option R:=x.elim (λv=>k .ret {qc a p1 0 with env:=[(4,vb false)]}) (λv=>k (.exit 0) (xe [(15,vb v.1)] (qc a p1 v.2)))
def P8:aX SS:=bh 5 (sq (sD 130 1) (sD 130 12)) (λp=>u2 qc p 0) (u2 (MN shut)) (λk=>u2 (ZF k))
theorem af5:LS KK ε aq Tryz.f178 178 5 P8:=
 aO.bI (ag.all zA rfl) (aF.nil) rfl 60 (λp i a=>u2 qc p i) (λp=>p.2) (λp=>()) (St:=u2 (Dr shut)) (F:=u2 (rW shut)) (λp=>rfl)
  (λm p i a k=>by kernel_rfl) (by rintro p (x|x)<;>exact⟨_,_,λ_=>rfl⟩) (λp N C A O w a b=>bT b (t:=130) (sl:=12) rfl λv h=>h)
def Wv:=bq (zz shut) aq Tryz.f178 178 [P8]
theorem Ww:aR Wv ε:=bu (ag.all zA rfl) Tryz.func178 rfl aT (by kernel_rfl) af5
def Ec (a b:Γa):T Bool:=.bf ((↑a.length:Int) !=(↑b.length:Int)) (.ok false)<|.gd (qc b a 0)<|.bd (MN U b a) λc=>.cs c (λ_=>.ok false) λd=>.ok true
def Gq (a b:Γa):=U.s _ (Ec U a b).val
def Aa:=a6 (bU KK 178 130 130 (Gq U) (bH KK 4)) (zz U)
theorem sV:ag (Aa shut) ε:=bZ (rs:=[4]) zA Ww rfl rfl λa b k=>by kernel_rfl
def v8 (a:List au) (p1:List ar) (p2:List au) (b:List ar) (c:Int):AS SS:=⟨[(2,va 0 0),(3,va 1 0),(26,vd 55 a),(27,vl a),(28,vi c)],[bX 58 [.aJ 55 a,.aJ 56 p1],bX 58 [.aJ 55 p2,.aJ 56 b]],0,none,false,[],[]⟩
def Dp (U:Sh) (d:List au) (p1:List ar) (p2:List au) (e:List ar) (b:Int) (z0:au) (a:Unit):T (Unit⊕Unit⊕(Bool×Int)):=.bd (idx p2 b) λc=>.bf (!ia z0 c) (.ok (.inr (.inl ())))<|.ok (.inl ())
def rS (U:Sh) (c:List au) (p1:List ar) (p2:List au) (d:List ar) (b:Int) (a:Unit):T (Unit⊕(Bool×Int)):=.ok (.inr (decide (b<(↑c.length:Int)),b))
def B6 (a:List au) (p1:List ar) (p2:List au) (b:List ar):=bC U (Dp U a p1 p2 b) (rS U a p1 p2 b) a ()
def Zs {R} (k:KX SS R) (a:List au) (p1:List ar) (p2:List au) (b:List ar) (x:Unit⊕(Bool×Int)):Option R:=x.elim (λv=>k .ret ⟨[(4,vb false)],[],0,none,false,[],[]⟩) (λv=>k (.exit 0) (xe [(29,vb v.1)] (v8 a p1 p2 b v.2)))
def PY:aX SS:=bh 5 (sq (sD 55 26) (sq (hD 56 0 1) (sq (hD 55 1 0) (hD 56 1 1)))) (λp=>u4 v8 p 0) (u4 (B6 shut)) (λk=>u4 (Zs k))
theorem afW:LS KK ε aq ζE 130 5 PY:=
 aO.bI (ag.all sV rfl) (aF.nil) rfl 60 (λp i a=>u4 v8 p i) (λp=>p.1) (λp=>()) (St:=u4 (Dp shut)) (F:=u4 (rS shut)) (λp=>rfl)
  (λm p i a k=>by kernel_rfl) (by rintro p (x|x)<;>exact⟨_,_,λ_=>rfl⟩) (λp N C A O w a b=>bT b (t:=55) (sl:=26) rfl λv h=>h)
def v7 (a:List ar) (p1:List au) (p2:List ar) (b:Int):AS SS:=⟨[(3,va 0 0),(42,vd 56 a),(43,vl a),(44,vi b)],[bX 58 [.aJ 55 p1,.aJ 56 p2]],0,none,false,[],[]⟩
def tA (e:List ar) (p1:List au) (p2:List ar) (b:Int) (z0:ar) (a:Unit):T (Unit⊕Unit⊕(Bool×Int)):=.bd (idx p2 b) λd=>.bf (z0.aa !=d.aa) (.ok (.inr (.inl ())))<|.bd (idx p2 b) λz2=>.bd (Gq U z0.bj z2.bj) λc=>.bf (!c) (.ok (.inr (.inl ())))<|.ok (.inl ())
def rR (U:Sh) (c:List ar) (p1:List au) (p2:List ar) (b:Int) (a:Unit):T (Unit⊕(Bool×Int)):=.ok (.inr (decide (b<(↑c.length:Int)),b))
def B5 (a:List ar) (p1:List au) (p2:List ar):=bC U (tA U a p1 p2) (rR U a p1 p2) a ()
def Zr {R} (k:KX SS R) (a:List ar) (p1:List au) (p2:List ar) (x:Unit⊕(Bool×Int)):Option R:=x.elim (λv=>k .ret ⟨[(4,vb false)],[],0,none,false,[],[]⟩) (λv=>k (.exit 2) (xe [(45,vb v.1)] (v7 a p1 p2 v.2)))
def PX:aX SS:=bh 11 (sq (sD 56 42) (sq (hD 55 0 0) (hD 56 0 1))) (λp=>u3 v7 p 0) (u3 (B5 shut)) (λk=>u3 (Zr k))
theorem afV:LS KK ε aq ζE 130 11 PX:=
 aO.bI (ag.all sV rfl) (aF.nil) rfl 60 (λp i a=>u3 v7 p i) (λp=>p.1) (λp=>()) (St:=u3 (tA shut)) (F:=u3 (rR shut)) (λp=>rfl)
  (λm p i a k=>by kernel_rfl) (by rintro p (x|x)<;>exact⟨_,_,λ_=>rfl⟩) (λp N C A O w a b=>bT b (t:=56) (sl:=42) rfl λv h=>h)
def VP:=bq (Aa shut) aq ζE 130 [PY,PX]
theorem VQ:aR VP ε:=(aR.fz (ag.all sV rfl) Tryz.func130 rfl aT λc a=>by cases a;exact aF.cons (aF.cons (aF.nil) (by kernel_rfl) afV) (by kernel_rfl) afW)
def DO (a b:aL):T Bool:=.bf ((↑a.ak.length:Int) !=(↑b.ak.length:Int)) (.ok false)<|.bf ((↑a.an.length:Int) !=(↑b.an.length:Int)) (.ok false)<|.gd (v8 a.ak a.an b.ak b.an 0)<|.bd (B6 U a.ak a.an b.ak b.an) λc=>.cs c (λ_=>.ok false) λe=>.gd (v7 a.an b.ak b.an 0)<|.bd (B5 U a.an b.ak b.an) λd=>.cs d (λ_=>.ok false) λf=>.ok true
def Gj (a b:aL):=U.s _ (DO U a b).val
def Ln:=a6 (bU KK 130 58 58 (Gj U) (bH KK 4)) (Aa U)
theorem Lo:ag (Ln shut) ε:=bZ (rs:=[4]) sV VQ rfl rfl λa b k=>by kernel_rfl
def Fl (a b:aZ):T Bool:=.bd (Gf U a.ax b.ax) λc=>.bf (c) (.bd (Gg U a.aI b.aI) λd=>.bf (d) (.bd (Gi U a.aC b.aC) λe=>.bf (e) (.bd (Gj U a.aw b.aw) λf=>.ok f)<|.ok false)<|.ok false)<|.ok false
def vL (a b:aZ):=U.s _ (Fl U a b).val
def MF:=a6 (bU KK 91 60 60 (vL U) (bH KK 4)) (Ln U)
theorem MG:ag (MF shut) ε:=bZ (rs:=[4]) Lo (ag.all Lo rfl) rfl rfl λa b k=>by kernel_rfl
def DJ (s:aZ) (pid:Int):T Bool:=.bd (nh U s.ax.ae pid) λa=>.ok a
def u0 (s:aZ) (pid:Int):=U.s _ (DJ U s pid).val
def Lj:=a6 (bU KK 125 60 35 (u0 U) (bH KK 4)) (MF U)
theorem Lk:ag (Lj shut) ε:=bZ (rs:=[4]) MG (ag.all MG rfl) rfl rfl λs pid k=>by kernel_rfl
def DI (U:Sh) (c:b3):T Bool:=.bf (c.aQ==9) (.ok true)<|.ok (c.aQ==12)
def Ge (c:b3):=U.s _ (DI U c).val
def Lh:=a6 (cR KK 124 38 (Ge U) (bH KK 4)) (Lj U)
theorem Li:ag (Lh shut) ε:=cX (rs:=[4]) Lk (ag.all Lk rfl) rfl rfl λc k=>by kernel_rfl
def Zb (U:Sh):T br:=.ok (⟨[1,0,0,0,0,0,0,0,0,0,0,0,0,0,0,0],[ah.mk 1 0 false 0]⟩)
def Ol:=U.s _ (Zb U).val
def MB:=a6 (lA KK 89 (Ol U) (bH KK 50)) (Lh U)
theorem MC:ag (MB shut) ε:=pv (rs:=[50]) Li (ag.all Li rfl) rfl rfl λk=>by kernel_rfl
def Za:T aZ:=.bd (Ol U) λa=>.ok (⟨a,[],⟨[],1⟩,⟨[],[]⟩⟩)
def GX:=U.s _ (Za U).val
def Mv:=a6 (lA KK 54 (GX U) (bH KK 60)) (MB U)
theorem Mw:ag (Mv shut) ε:=pv (rs:=[60]) MC (ag.all MC rfl) rfl rfl λk=>by kernel_rfl
end Go.Proofs.YtoggponeookhbaaGreatDoor
end
section
namespace Go.Proofs.YtoggponeookhbaaGreatDoor
open Go.RowKit Go.Dc Go.Vx
variable (U:Sh)
def D9 (s:aZ) (c:b3):T (aZ×Int×Int):=.bf (c.aQ==1) (.bd (Gt U s.ax (ao c.fArgs 0)) λa=>.ok (⟨a.1,s.aI,s.aC,s.aw⟩,a.2.1,a.2.2))<|.bf (c.aQ==3) (.bd (Gu U s.ax (ao c.fArgs 0) (ao c.fArgs 1)) λa=>.ok (⟨a.1,s.aI,s.aC,s.aw⟩,a.2.1,a.2.2))<|.bd (Gv U s.ax (ao c.fArgs 0) (ao c.fArgs 1)) λa=>.bf (a.2==0) (.bd (Gw U s.aw (ao c.fArgs 0)) λd=>.bf (decide ((↑d.length:Int)>0)) (.bd (pH U s.aI (ao c.fArgs 0)) λb=>.bd (lE U s.aw (ao c.fArgs 0) []) λe=>.ok (⟨a.1,b,s.aC,e⟩,0,341))<|.bd (pH U s.aI (ao c.fArgs 0)) λb=>.bd (lE U s.aw (ao c.fArgs 0) []) λe=>.ok (⟨a.1,b,s.aC,e⟩,0,a.2))<|.bd (pH U s.aI (ao c.fArgs 0)) λd=>.bd (lE U s.aw (ao c.fArgs 0) []) λb=>.ok (⟨a.1,d,s.aC,b⟩,0,a.2)
def Gk (s:aZ) (c:b3):=U.s _ (D9 U s c).val
def LC:=a6 (bU KK 173 60 38 (Gk U) (fF KK 60 35 27)) (Mv U)
theorem LD:ag (LC shut) ε:=bZ (rs:=[60,35,27]) Mw (ag.all Mw rfl) rfl rfl λs c k=>by kernel_rfl
def D_ (s:aZ) (c:b3):T (aZ×Int×Int):=.bf (c.aQ==4) (.bd (lF U (ao c.fArgs 1)) λe=>.bf (!e) (.ok (s,0,310))<|.bd (vA U s.aC (ao c.fArgs 1)) λd=>.bf (d==0) (.ok (s,0,4))<|.bd (vB U s.aI (ao c.fArgs 0) d) λa=>.ok (⟨s.ax,a.1,s.aC,s.aw⟩,τ.wrap a.2.1,a.2.2))<|.bd (pI U (ao c.fArgs 1)) λe=>.bd (nk U s.aI (ao c.fArgs 0) e) λd=>.bf (decide (d<0)) (.ok (s,0,4))<|.bf (c.aQ==5) (.bd (pI U (ao c.fArgs 1)) λa=>.bd (nk U s.aI (ao c.fArgs 0) a) λb=>.bf (decide (b<0)) (.ok (⟨s.ax,[],s.aC,s.aw⟩,0,4))<|.bd (dF s.aI none (some b) none) λz4=>.bd (app 24 [] z4) λz5=>.bd (dF s.aI (ζv (λx=>x.snd) (some (ζ,ζ.wrap (b+1)))) none none) λf=>.bd (app 24 z5 f) λg=>.ok (⟨s.ax,g,s.aC,s.aw⟩,0,0))<|.bd (pI U (ao c.fArgs 1)) λa=>.bd (Gx U s.aI (ao c.fArgs 0) a) λb=>.ok (⟨s.ax,b.1,s.aC,s.aw⟩,τ.wrap b.2.1,b.2.2)
def Gl (s:aZ) (c:b3):=U.s _ (D_ U s c).val
def LF:=a6 (bU KK 174 60 38 (Gl U) (fF KK 60 35 27)) (LC U)
theorem LG:ag (LF shut) ε:=bZ (rs:=[60,35,27]) LD (ag.all LD rfl) rfl rfl λs c k=>by kernel_rfl
def D' (s:aZ) (c:b3):T (aZ×Int×Int):=.bd (lF U (ao c.fArgs 1)) λb=>.bf (!b) (.ok (s,0,310))<|.bf (c.aQ==7) (.bd (Gy U s.aC (ao c.fArgs 1)) λa=>.ok (⟨s.ax,s.aI,a.1,s.aw⟩,a.2.1,a.2.2))<|.bf (c.aQ==8) (.bd (Gz U s.aC (ao c.fArgs 1)) λa=>.bf (a.2==0) (.bd (pJ U s.aC (ao c.fArgs 1)) λd=>.bd (GA U s.aI d) λe=>.bf (decide (e>0)) (.ok (⟨s.ax,s.aI,a.1,s.aw⟩,0,341))<|.ok (⟨s.ax,s.aI,a.1,s.aw⟩,0,a.2))<|.ok (⟨s.ax,s.aI,a.1,s.aw⟩,0,a.2))<|.bd (vA U s.aC (ao c.fArgs 1)) λa=>.bf (a==0) (.ok (s,0,4))<|.ok (s,a,0)
def Gm (s:aZ) (c:b3):=U.s _ (D' U s c).val
def LH:=a6 (bU KK 175 60 38 (Gm U) (fF KK 60 35 27)) (LF U)
theorem LI:ag (LH shut) ε:=bZ (rs:=[60,35,27]) LG (ag.all LG rfl) rfl rfl λs c k=>by kernel_rfl
def Ea (s:aZ) (c:b3):T (aZ×Int×Int):=.bd (nm U (ao c.fArgs 1)) λd=>.bf (!d) (.ok (s,0,351))<|.bd (pK U s.aw (ao c.fArgs 1)) λb=>.bf (c.aQ==10) (.bd (GB U s.aw (ao c.fArgs 1) (ao c.fArgs 0)) λa=>.ok (⟨s.ax,s.aI,s.aC,a.1⟩,0,a.2))<|.bf (!b.2) (.ok (s,0,4))<|.bf (c.aQ==12) (.ok (s,b.1,0))<|.bf (b.1 !=ao c.fArgs 0) (.ok (s,0,362))<|.bd (GC U s.aw (ao c.fArgs 1)) λa=>.ok (⟨s.ax,s.aI,s.aC,a.1⟩,0,a.2)
def Gn (s:aZ) (c:b3):=U.s _ (Ea U s c).val
def LJ:=a6 (bU KK 176 60 38 (Gn U) (fF KK 60 35 27)) (LH U)
theorem LK:ag (LJ shut) ε:=bZ (rs:=[60,35,27]) LI (ag.all LI rfl) rfl rfl λs c k=>by kernel_rfl
def Eb (s:aZ) (c:b3):T (aZ×Int×Int):=.bf (c.aQ==14) (.bd (vC U s.aw (ao c.fArgs 0)) λa=>.bf ((↑a.length:Int)==0) (.ok (s,0,322))<|.bd (dF a (some 1) none none) λf=>.bd (app 8 [] f) λz2=>.bd (lE U s.aw (ao c.fArgs 0) z2) λd=>.bd (idx a 0) λz4=>.ok (⟨s.ax,s.aI,s.aC,d⟩,z4,0))<|.bd (u0 U s (ao c.fArgs 1)) λa=>.bf (!a) (.ok (s,0,4))<|.bd (vC U s.aw (ao c.fArgs 1)) λb=>.bf ((↑b.length:Int)==4) (.ok (s,0,322))<|.bd (app 8 [] b) λz2=>.bd (app 8 z2 [ao c.fArgs 2]) λz3=>.bd (lE U s.aw (ao c.fArgs 1) z3) λe=>.ok (⟨s.ax,s.aI,s.aC,e⟩,0,0)
def Gp (s:aZ) (c:b3):=U.s _ (Eb U s c).val
def LL:=a6 (bU KK 177 60 38 (Gp U) (fF KK 60 35 27)) (LJ U)
theorem LM:ag (LL shut) ε:=bZ (rs:=[60,35,27]) LK (ag.all LK rfl) rfl rfl λs c k=>by kernel_rfl
def DK (s:aZ) (c:b3):T (aZ×Int×Int):=.bf (decide (c.aQ<=3)) (.bd (Gk U s c) λa=>.ok (a.1,a.2.1,a.2.2))<|.bf (decide (c.aQ<=6)) (.bd (Gl U s c) λa=>.ok (a.1,a.2.1,a.2.2))<|.bf (decide (c.aQ<=9)) (.bd (Gm U s c) λa=>.ok (a.1,a.2.1,a.2.2))<|.bf (decide (c.aQ<=12)) (.bd (Gn U s c) λa=>.ok (a.1,a.2.1,a.2.2))<|.bd (Gp U s c) λa=>.ok (a.1,a.2.1,a.2.2)
def pE (s:aZ) (c:b3):=U.s _ (DK U s c).val
def Ll:=a6 (bU KK 126 60 38 (pE U) (fF KK 60 35 27)) (LL U)
theorem Lm:ag (Ll shut) ε:=bZ (rs:=[60,35,27]) LM (ag.all LM rfl) rfl rfl λs c k=>by kernel_rfl
def Fk (s:aZ) (c:b3):T (aZ×cu):=.bf (decide (c.aQ<1)) (.ok (s,⟨361,0⟩))<|.bf (decide (c.aQ>14)) (.ok (s,⟨361,0⟩))<|.bd (Ge U c) λd=>.bf (!d) (.bd (u0 U s (ao c.fArgs 0)) λa=>.bf (!a) (.ok (s,⟨321,0⟩))<|.bd (pE U s c) λb=>.bf (b.2.2 !=0) (.ok (s,⟨b.2.2,0⟩))<|.ok (b.1,⟨0,b.2.1⟩))<|.bd (pE U s c) λa=>.bf (a.2.2 !=0) (.ok (s,⟨a.2.2,0⟩))<|.ok (a.1,⟨0,a.2.1⟩)
def G9 (s:aZ) (c:b3):=U.s _ (Fk U s c).val
def MD:=a6 (bU KK 90 60 38 (G9 U) (dy KK 60 40)) (Ll U)
theorem ME:ag (MD shut) ε:=bZ (rs:=[60,40]) Lm (ag.all Lm rfl) rfl rfl λs c k=>by kernel_rfl
end Go.Proofs.YtoggponeookhbaaGreatDoor
end
section
namespace Go.Proofs.YtoggponeookhbaaGreatDoor
open Go.RowKit Go.Dc Go.Vx
section
variable {α β X:Type}
theorem Oy {h:α->Option β}: ∀(l:List α) (a:List β),l.foldl (λa z=>a++(h z).toList) a=a++l.filterMap h
 |[],a=>by simp
 |z::r,a=>by
  rw[ξt,Oy r,ξg];cases h z<;>simp
theorem jX {step:Int->α->List β->Option (List β⊕X)} {fin:Int->List β->Option X} {l:List α} {n:Nat} (h:α->Option β) (d: ∀(i:Nat) z a,l[i]? =some z->a.length<=n+i->step i z a=some (.inl (a++(h z).toList))) {a:List β} (b:a.length<=n):
  bB step fin 0 l a=fin (l.length:Int) (a++l.filterMap h):=by
 have:=yg (fin:=fin) (Q:=λi a=>a.length<=n+i) (g:=λa z=>a++(h z).toList) (λi z a e c=>⟨d i z a e c,by
  rw[υ];have:(h z).toList.length<=1:=by cases h z<;>simp
  omega⟩) l [] a rfl b
 rw[Oy] at this;exact this
theorem kx {p:α->Bool} {l:List α}:l.filterMap (λz=>if p z then some z else none)=l.filter p:=by
 induction l with
 |nil=>rfl
 |cons z r a=>
  rw[ξg,ξ8];cases p z<;>simp[a]
theorem fZ {b n i:Nat} {a:List α} {z:α} (h1:a.length<=n+i) (c:i<1000) (d:n<=1000) (e:b<=1000):app b a [z]=some (a++[z]):=fY (n:=2001) (by simp;omega) (by omega)
end
def zP:ah:=⟨0,0,false,0⟩
theorem UA (l:List ah) (pid:Int):vz ab l pid=some (match eu l pid with|some z=>(z,true)|none=>(zP,false)):=by
 have b:Cs ab pid l=match eu l pid with|some z=>some (.inl (z.aa,z.aP,z.bb,z.bV))|none=>some (.inr (false,(l.length:Int))):=by
  show bB (λi z a=>(tK ab pid l i z a).val) (λi a=>(r3 ab pid l i a).val) 0 l ()=_;rw[jd (p:=λz=>z.aa==pid) (e:=λz=>.inl (z.aa,z.aP,z.bb,z.bV)) λi z _=>by unfold tK;simp only[T.az,T.av]];unfold r3 eu;simp only[T.av,ξ3,ρ,decide_false];cases l.find? (λz=>z.aa==pid)<;>rfl
 show(Em ab l pid).val=_;unfold Em;simp only[T.bw,T.aG,T.ch,T.av,b];cases eu l pid<;>rfl
theorem yF (l:List ah) (pid:Int):nh ab l pid=some (b1 l pid):=by
 show(D8 ab l pid).val=_;unfold D8 b1;simp only[T.aG,T.az,T.av,UA,γ];cases eu l pid<;>rfl
theorem J7 (pid:Int):lG ab pid=some (ix pid):=rfl
theorem ai' (l:List ah) (i:Int):GF ab l i=some (l.any λz=>ix z.aa==i):=by
 have b:CV ab i l=match l.find? (λz=>ix z.aa==i) with|some _=>some (.inl ())|none=>some (.inr (false,(l.length:Int))):=by
  show bB (λk z a=>(ud ab i l k z a).val) (λk a=>(sn ab i l k a).val) 0 l ()=_;rw[jd (p:=λz=>ix z.aa==i) (e:=λ_=>.inl ()) λk z _=>by unfold ud;simp only[T.aG,T.az,T.av,J7,γ]];unfold sn;simp only[T.av,ξ3,ρ,decide_false];cases l.find? (λz=>ix z.aa==i)<;>rfl
 show(EK ab l i).val=_;unfold EK;simp only[T.bw,T.aG,T.ch,T.av,b];cases e:l.find? (λz=>ix z.aa==i) with
 |none=>
  have:(l.any λz=>ix z.aa==i)=false:=by
   rw[Bool.eq_false_iff];intro h;obtain⟨z,c,h⟩:=ξp.1 h;rw[kv.1 e z c] at h;cases h
  rw[this];rfl
 |some z=>
  have:(l.any λz=>ix z.aa==i)=true:=ξp.2 ⟨z,φ e,ξl (p:=λz:ah=>ix z.aa==i) e⟩;rw[this];rfl
theorem aja {l:List ah} (hl:l.length<=100) (x:ah):GG ab l x=some ((l.filter λz=>decide (ix z.aa<ix x.aa))++x::l.filter λz=>decide (ix z.aa>ix x.aa)):=by
 have h1:CX ab l x.aa x.aP x.bb x.bV []=some (false,(l.length:Int),l.filter λz=>decide (ix z.aa<ix x.aa)):=by
  show bB (λk z a=>(uf ab l x.aa x.aP x.bb x.bV k z a).val) (λk a=>(sr ab l x.aa x.aP x.bb x.bV k a).val) 0 l []=_;rw[jX (n:=0) (a:=[]) (λz:ah=>if decide (ix z.aa<ix x.aa) then some z else none) (λi z a d c=>?_) (ξb 0),kx]
  ·unfold sr;simp only[T.av,ρ,decide_false,ξm]
  ·have hi:=(δ.1 d).1;unfold uf;simp only[T.aG,T.az,T.av,J7,γ,fZ (b:=32) (z:=z) c (by omega) (by omega) (by omega)];cases decide (ix z.aa<ix x.aa)<;>simp
 have f:=ω (λz:ah=>decide (ix z.aa<ix x.aa)) l;have e:CW ab l x.aa x.aP x.bb x.bV ((l.filter λz=>decide (ix z.aa<ix x.aa))++[x])=some (false,(l.length:Int),((l.filter λz=>decide (ix z.aa<ix x.aa))++[x])++l.filter λz=>decide (ix z.aa>ix x.aa)):=by
  show bB (λk z a=>(ue ab l x.aa x.aP x.bb x.bV k z a).val) (λk a=>(so ab l x.aa x.aP x.bb x.bV k a).val) 0 l _=_;rw[jX (n:=101) (λz:ah=>if decide (ix z.aa>ix x.aa) then some z else none) (λi z a d c=>?_) (by simp;omega),kx]
  ·unfold so;simp only[T.av,ρ,decide_false]
  ·have hi:=(δ.1 d).1;unfold ue;simp only[T.aG,T.az,T.av,J7,γ,fZ (b:=32) (z:=z) c (by omega) (by omega) (by omega)];cases decide (ix z.aa>ix x.aa)<;>simp
 show(EL ab l x).val=_;unfold EL;simp only[T.bw,T.aG,T.av,h1,γ,fY (n:=1000) (xs:=l.filter λz=>decide (ix z.aa<ix x.aa)) (ys:=[x]) (b:=32) (by simp;omega) (by omega),e];simp
theorem put_eq {l:List ah} {x:ah} {n:Int} (e:l.Pairwise λa b=>ix a.aa<ix b.aa) (hn: ∀z∈l,ix z.aa≠n) (i:ix x.aa=n):(l.filter λz=>decide (ix z.aa<ix x.aa))++x::(l.filter λz=>decide (ix z.aa>ix x.aa))=b5 (λy=>decide (ix y.aa<=n)) x l:=by
 obtain⟨h1,d⟩:=J0 (key:=λz:ah=>ix z.aa) (n:=n) e;have f: ∀p:ah->Bool,(∀z∈l,p z=decide (ix z.aa<n))->l.takeWhile p=l.takeWhile (λz=>decide (ix z.aa<n))/\l.dropWhile p=l.dropWhile (λz=>decide (ix z.aa<n)):=by
  intro p;clear h1 d e hn
  induction l with
  |nil=>exact λ_=>⟨rfl,rfl⟩
  |cons z r k=>
   intro hp;obtain⟨i1,i2⟩:=k λy j=>hp y (ψ _ j);rw[ξ1,ξ1,ξ5,ξ5,hp z (by simp),i1,i2];exact⟨rfl,rfl⟩
 obtain⟨g,h⟩:=f (λy=>decide (ix y.aa<=n)) λz c=>by
  have:=hn z c;rw[μ,decide_eq_true_eq,decide_eq_true_eq];omega
 unfold b5;rw[g,h,h1,d,i]
 congr 2
 refine ξU λz c=>?_;have:=hn z c;rw[μ];simp;omega
theorem YS {p:br} (h:db p) (parent:Int) {a:Nat} (b:a<16):(mF ab parent p.aH p.ae (a:Int)).val=bif !(!(p.ae.any λx=>ix x.aa==(a:Int)+1)&&decide (ao p.aH a<=65535)) then some (.inl ((a+1:Nat):Int)) else some (.inr (.inl (cE p a,p.aH.set a (ao p.aH a+1),(p.ae.filter λz=>decide (ix z.aa<ix (cE p a)))++⟨cE p a,parent,false,0⟩::p.ae.filter λz=>decide (ix z.aa>ix (cE p a))))):=by
 unfold mF;have hlen:=h.len;have f:=h.jK a b;have c:decide ((a:Int)<16)=true:=decide_eq_true (by omega);have hw:ζ.wrap ((a:Int)+1)=(a:Int)+1:=cC (by omega) (by omega);have hn:c6 (a:Int) 16=some a:=by rw[kE (by omega) (by omega),θ]
 have d:τ.wrap (τ.wrap (τ.wrap (τ.wrap (ao p.aH a)*64)+τ.wrap a)+1)=cE p a:=by
  unfold cE;rw[gm (x:=ao p.aH a) (by omega) (by omega),gm (x:=ao p.aH a*64) (by omega) (by omega),gm (x:=(a:Int)) (by omega) (by omega),gm (x:=ao p.aH a*64+a) (by omega) (by omega),gm (by omega) (by omega)]
 have e:ζ.wrap (ao p.aH a+1)=ao p.aH a+1:=cC (by omega) (by omega);simp only[T.aG,T.az,T.av,c,hw,hn,ai',γ,cond_true,h.gl,show(true&&Nat.beq 16 16)=true from rfl,d,e,aja (show p.ae.length<=100 by omega)];cases p.ae.any λx=>ix x.aa==(a:Int)+1
 ·rcases ζF (ao p.aH a>65535) with h1|h1
  ·rw[decide_eq_true h1,decide_eq_false (show ¬ao p.aH a<=65535 by omega)];rfl
  ·rw[decide_eq_false h1,decide_eq_true (show ao p.aH a<=65535 by omega)];rfl
 ·rfl
theorem aiX {p:br} (h:db p) (parent:Int):Gt ab p parent=some (match hz p parent with| .ok (q,v)=>(q,v,0)| .error e=>(ov,0,e)):=by
 have c:Ct ab parent p.aH p.ae 0=match gK p with|some i=>some (.inl (cE p i,p.aH.set i (ao p.aH i+1),(p.ae.filter λz=>decide (ix z.aa<ix (cE p i)))++⟨cE p i,parent,false,0⟩::p.ae.filter λz=>decide (ix z.aa>ix (cE p i))))|none=>some (.inr (false,16)):=by
  show ct (λa=>(mF ab parent p.aH p.ae a).val) 1000000 ((0:Nat):Int)=_;rw[oq (q:=λa:Nat=>!(!(p.ae.any λx=>ix x.aa==(a:Int)+1)&&decide (ao p.aH a<=65535))) (x:=λa=>.inl (cE p a,p.aH.set a (ao p.aH a+1),(p.ae.filter λz=>decide (ix z.aa<ix (cE p a)))++⟨cE p a,parent,false,0⟩::p.ae.filter λz=>decide (ix z.aa>ix (cE p a)))) (y:=.inr (false,16)) (N:=16) (λa d=>YS h parent d) (by unfold mF;rfl) (k:=16) (by omega) (by omega)];unfold gK;rw[ξv];simp only[ξP];cases (ζa 0 16).find? (λi:Nat=>!(p.ae.any λx=>ix x.aa==(i:Int)+1)&&decide (ao p.aH i<=65535))<;>rfl
 show(En ab p parent).val=_;unfold En hz;simp only[T.aG,T.az,T.bw,T.ch,T.av,yF,γ,c];cases b1 p.ae parent
 ·rfl
 ·simp only[ι,cond_false,cond_true];cases hl:gK p with
  |none=>rfl
  |some i=>
   obtain⟨h1,b,f⟩:=xl hl;obtain⟨_,_,n2,_⟩:=Ij h hl;have:=put_eq (l:=p.ae) (x:=⟨cE p i,parent,false,0⟩) (n:=(i:Int)+1) h.ord b n2;simp only[this,γ]
theorem aiY {p:br} (h:db p) (pid child:Int):Gu ab p pid child=some (match hB p pid child with| .ok (q,v)=>(q,v,0)| .error e=>(ov,0,e)):=by
 have hlen:=h.len;have f: ∀a b c d,Cu ab child p.ae p.aH a b c d []=some (false,(p.ae.length:Int),p.ae.filter λy=>!(y.aa==child)):=λa b c d=>by
  show bB (λk z e=>(tL ab child p.ae p.aH a b c d k z e).val) (λk e=>(r4 ab child p.ae p.aH a b c d k e).val) 0 p.ae []=_;rw[jX (n:=0) (a:=[]) (λz:ah=>if !(z.aa==child) then some z else none) (λi z e g he=>?_) (ξb 0),kx]
  ·unfold r4;simp only[T.av,ρ,decide_false,ξm]
  ·have hi:=(δ.1 g).1;unfold tL;simp only[T.aG,T.az,T.av,γ,fZ (b:=32) (z:=z) he (by omega) (by omega) (by omega),bne];cases z.aa==child<;>simp
 show(Eo ab p pid child).val=_;unfold Eo hB;simp only[T.aG,T.az,T.bw,T.av,yF,UA,γ,f];cases b1 p.ae pid
 ·rfl
 ·simp only[ι,cond_false,cond_true];cases eu p.ae child with
  |none=>rfl
  |some x=>
   simp only[bne];cases x.aP==pid<;>cases x.bb<;>rfl
theorem aiZ {p:br} (h:db p) (pid code:Int):Gv ab p pid code=some (match hd p pid code with| .ok q=>(q,0)| .error e=>(ov,e)):=by
 have hlen:=h.len;have d:Cv ab pid code p.ae p.aH []=some (false,(p.ae.length:Int),p.ae.filterMap (fp pid code)):=by
  show bB (λk z e=>(tM ab pid code p.ae p.aH k z e).val) (λk e=>(r5 ab pid code p.ae p.aH k e).val) 0 p.ae []=_;rw[jX (n:=0) (a:=[]) (fp pid code) (λi z e c he=>?_) (ξb 0)]
  ·unfold r5;simp only[T.av,ρ,decide_false,ξm]
  ·have hi:=(δ.1 c).1;have f: ∀y:ah,app 32 e [y]=some (e++[y]):=λy=>fZ (b:=32) (z:=y) he (by omega) (by omega) (by omega);unfold tM fp;simp only[T.aG,T.az,T.av,γ,f];cases h1:z.aa==pid
   ·cases z.aP==pid<;>cases z.bb<;>simp
   ·cases j:z.aP==0
    ·have g:(z.aP==pid)=false:=by
      have:=(h.one z (ν c)).self;simp only[beq_iff_eq] at h1;simp only[beq_eq_false_iff_ne,ne_eq];omega
     rw[g];simp
    ·simp
 show(Ep ab p pid code).val=_;unfold Ep hd;simp only[T.aG,T.az,T.bw,T.av,yF,γ,d];cases b1 p.ae pid
 ·rfl
 ·cases pid==1<;>rfl
section
variable {α:Type}
theorem Vg {p1 p2:α->Bool}: ∀ {l:List α},(∀z∈l,p1 z=p2 z)->l.takeWhile p1=l.takeWhile p2/\l.dropWhile p1=l.dropWhile p2
 |[],_=>⟨rfl,rfl⟩
 |z::r,h=>by
  obtain⟨i1,i2⟩:=Vg λy a=>h y (ψ _ a);rw[ξ1,ξ1,ξ5,ξ5,h z (by simp),i1,i2];exact⟨rfl,rfl⟩
theorem Sz {key:α->Int} {l:List α} {x:α} {lt p1 p2:α->Bool} (i:l.Pairwise λa b=>key a<key b) (h1: ∀z∈l,lt z=decide (key z<key x)) (g: ∀z∈l,p1 z=decide (key z<key x)) (h: ∀z∈l,p2 z=!decide (key z<key x)):l.filter p1++x::l.filter p2=b5 lt x l:=by
 obtain⟨c,d⟩:=J0 (n:=key x) i;obtain⟨e,f⟩:=Vg h1;unfold b5;rw[e,f,c,d,ξU g,ξU h]
theorem abN {p:α->Bool} {l:List α} {i:Nat} {z:α} (f:l[i]? =some z) (hp:p z=true) (c: ∀j y,l[j]? =some y->p y=true->j=i):l.take i++l.drop (i+1)=l.filter λz=>!p z:=by
 obtain⟨hi,rfl⟩:=δ.1 f;have e:l=l.take i++l[i]::l.drop (i+1):=by rw[<-χ hi,ξF]
 have h1:(l.take i).filter (λz=>!p z)=l.take i:=filter_all λy b=>by
  obtain⟨j,a⟩:=ζ3.1 b;rw[List.getElem?_take] at a;split at a
  ·cases h:p y
   ·rfl
   ·have:=c j y a h;omega
  ·cases a
 have d:(l.drop (i+1)).filter (λz=>!p z)=l.drop (i+1):=filter_all λy b=>by
  obtain⟨j,a⟩:=ζ3.1 b;rw[List.getElem?_drop] at a;cases h:p y
  ·rfl
  ·have:=c _ y a h;omega
 conv=>rhs;rw[e]
 rw[ξQ,ξ8,h1,d,hp];rfl
end
theorem UG (a b:ai):vF ab a b=some (cF a b):=by
 show(ER ab a b).val=_;unfold ER cF;simp only[T.az,T.av];cases decide (a.aa<b.aa)<;>cases a.aa==b.aa<;>rfl
abbrev h8 (pid fd:Int) (d:ai):Bool:=d.aa==pid&&d.bo==fd
theorem yG (l:List ai) (pid fd:Int):nk ab l pid fd=some (match l.findIdx? (h8 pid fd) with|some i=>(i:Int)|none=> -1):=by
 have b:CD ab pid fd l=match l.findIdx? (h8 pid fd) with|some i=>some (.inl (i:Int))|none=>some (.inr (false,(l.length:Int))):=by
  show bB (λk z a=>(tT ab pid fd l k z a).val) (λk a=>(sa ab pid fd l k a).val) 0 l ()=_;rw[n' (p:=h8 pid fd) (e:=λi=>.inl (i:Int)) λi z _=>by
   unfold tT h8;simp only[T.az,T.av];cases z.aa==pid<;>cases z.bo==fd<;>rfl]
  unfold sa;simp only[T.av,ρ,decide_false]<;>cases l.findIdx? (h8 pid fd)<;>rfl
 show(Ex ab l pid fd).val=_;unfold Ex;simp only[T.bw,T.aG,T.ch,T.av,b]<;>cases l.findIdx? (h8 pid fd)<;>rfl
theorem nq (l:List ai) (pid fd:Int):(l.findIdx? (h8 pid fd)=none/\cB l pid fd=none)\/ ∃i d,l.findIdx? (h8 pid fd)=some i/\l[i]? =some d/\cB l pid fd=some d.b'/\d.aa=pid/\d.bo=fd:=by
 have e:=G_ (p:=h8 pid fd) (l:=l);unfold cB;cases h:l.findIdx? (h8 pid fd) with
 |none=>
  rw[h] at e;exact .inl ⟨rfl,by rw[show l.find? (λd=>d.aa==pid&&d.bo==fd)=none from e];rfl⟩
 |some i=>
  rw[h] at e;obtain⟨hi,hp,_⟩:=ξh.1 h;rw[γ,η hi] at e;have hp:l[i].aa=pid/\l[i].bo=fd:=by simpa[h8] using hp
  exact .inr ⟨i,l[i],rfl,η hi,by rw[show l.find? (λd=>d.aa==pid&&d.bo==fd)=some l[i] from e];rfl,hp⟩
theorem pS {l:List ai} (h:eG l): ∀d∈l,0<=d.bo/\d.bo<=7:=λd a=>by have:=h.is d a;simp[hj] at this;omega
theorem UC {l:List ai} (h:eG l) {pid:Int} (hp:pid<4294967296) (aS:Int):vB ab l pid aS=some (match fG l pid aS with| .ok (q,v)=>(q,v,0)| .error e=>([],0,e)):=by
 have hlen:=h.len;have m:=pS h;have w:CC ab l pid aS 0=some (match gf l pid with|some i=>(false,-1,(i:Int))|none=>(false,-1,8)):=by
  show ct (λa=>(oT ab l pid aS a).val) 1000000 ((0:Nat):Int)=_;have st: ∀a:Nat,a<=8->(oT ab l pid aS (a:Int)).val=bif (cB l pid a).isSome then some (.inl ((a+1:Nat):Int)) else some (.inr (false,-1,(a:Int))):=λa c=>by
   unfold oT;have hw:ζ.wrap ((a:Int)+1)=((a+1:Nat):Int):=cC (by omega) (by omega);simp only[T.aG,T.az,T.av,yG,γ,hw];rcases nq l pid a with⟨o,f⟩|⟨i,d,o,_,f,_⟩
   ·rw[o,f];rfl
   ·rw[o,f];have:decide ((i:Int)>=0)=true:=decide_eq_true (by omega);simp only[this];rfl
  have u:(cB l pid (8:Nat)).isSome=false:=by
   rcases nq l pid (8:Nat) with⟨_,f⟩|⟨i,d,_,g,f,_,J⟩
   ·rw[f];rfl
   ·have:=m d (ν g);omega
  rw[oq (q:=λa:Nat=>(cB l pid a).isSome) (x:=λa=>(false,-1,(a:Int))) (y:=(false,-1,8)) (N:=8) (λa c=>st a (by omega)) (by rw[st 8 (by omega),u];rfl) (k:=8) (by omega) (by omega)];unfold gf;rw[ξv,show(λi:Nat=>(cB l pid i).isNone)=λi:Nat=>!(cB l pid i).isSome from funext λi=>by cases cB l pid i<;>rfl];cases (ζa 0 8).find? (λi:Nat=>!(cB l pid i).isSome)<;>rfl
 have G:l.Pairwise λa b=>a.aa*8+a.bo<b.aa*8+b.bo:=h.ord.imp_of_mem λ{a b} c B A=>by
  have:=m a c;have:=m b B;rw[iD] at A;omega
 show(Ew ab l pid aS).val=_;unfold Ew fG;have H:decide (pid>=4294967296)=false:=decide_eq_false (by omega);simp only[T.aG,T.az,T.bw,T.av,H,cond_false,w,γ];cases C:gf l pid with
 |none=>rfl
 |some i=>
  obtain⟨hi,F⟩:=pX C;have s:((i:Int)==8)=false:=beq_eq_false_iff_ne.2 (by omega);simp only[s,cond_false];have r:((l.length:Int)==64)=(l.length==64):=by rw[μ];simp;omega
  rw[r];cases l.length==64
  rotate_left
  ·rfl
  have h1:CA ab l (i:Int) pid aS []=some (false,(l.length:Int),l.filter λd=>cF d ⟨pid,i,aS⟩):=by
   show bB (λk z a=>(tR ab l (i:Int) pid aS k z a).val) (λk a=>(r_ ab l (i:Int) pid aS k a).val) 0 l []=_;rw[jX (n:=0) (a:=[]) (λz:ai=>if cF z ⟨pid,i,aS⟩ then some z else none) (λj z a p c=>?_) (ξb 0),kx]
   ·unfold r_;simp only[T.av,ρ,decide_false,ξm]
   ·have D:=(δ.1 p).1;unfold tR;simp only[T.aG,T.az,T.av,UG,γ,fZ (b:=24) (z:=z) c (by omega) (by omega) (by omega)];cases cF z ⟨pid,i,aS⟩<;>simp
  have K:=ω (λd:ai=>cF d ⟨pid,i,aS⟩) l;have t:CB ab (i:Int) l pid aS ((l.filter λd=>cF d ⟨pid,i,aS⟩)++[⟨pid,i,aS⟩])=some (false,(l.length:Int),((l.filter λd=>cF d ⟨pid,i,aS⟩)++[⟨pid,i,aS⟩])++l.filter λd=>cF ⟨pid,i,aS⟩ d):=by
   show bB (λk z a=>(tS ab (i:Int) l pid aS k z a).val) (λk a=>(r' ab (i:Int) l pid aS k a).val) 0 l _=_;rw[jX (n:=101) (λz:ai=>if cF ⟨pid,i,aS⟩ z then some z else none) (λj z a p c=>?_) (by simp;omega),kx]
   ·unfold r';simp only[T.av,ρ,decide_false]
   ·have D:=(δ.1 p).1;unfold tS;simp only[T.aG,T.az,T.av,UG,γ,fZ (b:=24) (z:=z) c (by omega) (by omega) (by omega)];cases cF ⟨pid,i,aS⟩ z<;>simp
  have hk: ∀d∈l,cF d ⟨pid,i,aS⟩=decide (d.aa*8+d.bo<pid*8+i):=λd g=>by
   have:=m d g;rw[μ,iD,decide_eq_true_eq];show d.aa<pid\/d.aa=pid/\d.bo<(i:Int)↔_;omega
  have E: ∀d∈l,cF ⟨pid,i,aS⟩ d=!decide (d.aa*8+d.bo<pid*8+i):=λd g=>by
   have:=m d g;have:=F d g;rw[μ,iD,ξu,decide_eq_false_iff_not];show pid<d.aa\/pid=d.aa/\(i:Int)<d.bo↔_;omega
  have I:=Sz (key:=λd:ai=>d.aa*8+d.bo) (x:=⟨pid,i,aS⟩) (lt:=λy=>cF y ⟨pid,i,aS⟩) G hk hk E;have c:=fY (n:=1000) (b:=24) (xs:=l.filter λd=>cF d ⟨pid,i,aS⟩) (ys:=[(⟨pid,i,aS⟩:ai)]) (by simp;omega) (by omega);simp only[cond_false,h1,γ,c,t];rw[<-I];simp
theorem ai3 {l:List ai} (h:eG l) {pid:Int} (hp:pid<4294967296) (fd:Int):Gx ab l pid fd=some (match fO l pid fd with| .ok (q,v)=>(q,v,0)| .error e=>([],0,e)):=by
 show(Ez ab l pid fd).val=_;unfold Ez fO;have f:decide (pid>=4294967296)=false:=decide_eq_false (by omega);simp only[T.aG,T.az,T.av,f,cond_false,yG,γ];rcases nq l pid fd with⟨a,b⟩|⟨i,d,a,c,b,_⟩
 ·rw[a,b];rfl
 ·have:decide ((i:Int)<0)=false:=decide_eq_false (by omega);rw[a,b];simp only[this,cond_false,dV c,γ,UC h hp]
theorem ai1 {l:List ai} (h:eG l) (pid:Int):pH ab l pid=some (kp l pid):=by
 have hlen:=h.len;have c:Cx ab pid l []=some (false,(l.length:Int),kp l pid):=by
  show bB (λk z a=>(tO ab pid l k z a).val) (λk a=>(r7 ab pid l k a).val) 0 l []=_;rw[jX (n:=0) (a:=[]) (λz:ai=>if !(z.aa==pid) then some z else none) (λj z a e d=>?_) (ξb 0),kx]
  ·unfold r7 kp;simp only[T.av,ρ,decide_false,ξm]
  ·have f:=(δ.1 e).1;unfold tO;simp only[T.aG,T.az,T.av,γ,fZ (b:=24) (z:=z) d (by omega) (by omega) (by omega),bne];cases z.aa==pid<;>simp
 show(Es ab l pid).val=_;unfold Es;simp only[T.aG,T.bw,T.av,c,γ]
theorem ai6 {l:List ai} (h:eG l) (aS:Int):GA ab l aS=some (hb l aS:Int):=by
 have hlen:=h.len;have f: ∀(r:List ai) (a:Int),0<=a->a+r.length<=1000-> ∀(pre:List ai),l=pre++r->bB (λk z a=>(tU ab aS l k z a).val) (λk a=>(sc ab aS l k a).val) pre.length r a=some (false,a+((r.filter λd=>d.b'==aS).length:Int),(l.length:Int)):=by
  intro r
  induction r with
  |nil=>
   intro a b h1 pre e;rw[ξs] at e;subst e;unfold bB sc;simp
  |cons z r c=>
   intro a b h1 pre e;rw[hx];simp only[ξd] at h1;have hw:ζ.wrap (a+1)=a+1:=cC (by omega) (by omega);unfold tU;simp only[T.az,T.av,hw,ξ8];have hp:(pre++[z]).length=pre.length+1:=by simp
   cases z.b'==aS
   ·have:=c a b (by omega) (pre++[z]) (by rw[e];simp);rw[hp] at this;exact this
   ·have:=c (a+1) (by omega) (by omega) (pre++[z]) (by rw[e];simp);rw[hp] at this;simp only[cond_true,γ,if_true,ξd];rw[show a+((r.filter λd=>d.b'==aS).length+1:Nat)=a+1+((r.filter λd=>d.b'==aS).length:Int) by omega];exact this
 have g:CF ab aS l 0=some (false,(hb l aS:Int),(l.length:Int)):=by
  have:=f l 0 (by omega) (by omega) [] rfl;rw[Int.zero_add] at this;exact this
 show(EC ab l aS).val=_;unfold EC;simp only[T.aG,T.bw,T.av,g,γ]
theorem aiO (n:Nat):((n:Int).tmod 256)=((n%256:Nat):Int):=by
 rw[Int.tmod_eq_emod_of_nonneg (by omega)];omega
theorem aiM (n:Nat):((n:Int).tdiv 256)=((n/256:Nat):Int):=by
 rw[Int.tdiv_eq_ediv_of_nonneg (by omega)];omega
theorem yq {l:Γ} (h: ∀x∈l,x<256) {i x:Nat} (a:l[i]? =some x):fg (bs l) (i:Int)=some (x:Int):=by
 have hl:=(δ.1 a).1;have e:=h x (ν a);have c:i<(bs l).size:=by rw[dM];exact hl
 unfold fg;rw[if_pos (by omega),θ,getElem?_pos (bs l) i c];have b:(bs l)[i]=ζd x:=by
  show(bs l).data[i]=_;have d:=(δ.1 a).2;simp[bs,d]
 rw[b];simp;omega
theorem MZ {n:Nat} {l:Γ} (hn:n<18446744073709551616) (hl:l.length<=100):(o4 ab ((n:Int),bs l)).val=if n=0 then some (.inr (.inr (false,0,bs l))) else if n%256=0 then some (.inr (.inl ())) else some (.inl (((n/256:Nat):Int),bs (l++[n%256]))):=by
 unfold o4;simp only[T.az,T.aG,T.av];rw[aiO,aiM]
 by_cases a:n=0
 ·subst a;rfl
 ·have hp:decide ((n:Int)>0)=true:=by simp;omega
  rw[hp,if_neg a];simp only[cond_true]
  by_cases hm:n%256=0
  ·have e:(((n%256:Nat):Int)==0)=true:=by rw[hm];rfl
   rw[e,if_pos hm];rfl
  ·have e:(((n%256:Nat):Int)==0)=false:=by simp;omega
   rw[e,if_neg hm];have hw:ζJ.wrap ((n%256:Nat):Int)=((n%256:Nat):Int):=by rw[IntKind.wrap_u8];omega
   have c:τ.wrap ((n/256:Nat):Int)=((n/256:Nat):Int):=by rw[IntKind.wrap_u64];omega
   have b:strOf [((n%256:Nat):Int)]=bs [n%256]:=Uk [n%256];simp only[cond_false];rw[hw,c,b,yo (by simp;omega)];rfl
theorem UE: ∀(k f n:Nat) (l:Γ),n<256^k->n<18446744073709551616->l.length+k<=100->
  ct (λa=>(o4 ab a).val) (k+1+f) ((n:Int),bs l)=some (if dB k n=0 then .inr (false,0,bs (l++dg k n)) else .inl ())
 |0,f,n,l,h,_,_=>by
  have:n=0:=by simpa using h
  subst this;rw[show 0+1+f=f+1 by omega,dw,MZ (by omega) (by omega)];simp[dB,dg]
 |k+1,f,n,l,h,hn,hl=>by
  rw[show k+1+1+f=(k+1+f)+1 by omega,dw,MZ hn (by omega)]
  by_cases b:n=0
  ·subst b;simp[dB,dg]
  ·rw[if_neg b]
   by_cases hm:n%256=0
   ·rw[if_pos hm];simp[dB,hm,b]
   ·rw[if_neg hm,γ];simp only;rw[UE k f (n/256) (l++[n%256]) (by rw[Nat.pow_succ] at h;omega) (by omega) (by simp;omega)];simp only[dB,dg,if_neg hm,ξD,ξG]
theorem J6 {n:Nat} (h:n<18446744073709551616):pL ab (n:Int)=some (if dB 8 n=0 then(bs (dg 8 n),true) else(⟨#[]⟩,false)):=by
 show(EM ab (n:Int)).val=_;unfold EM;simp only[T.bw,T.aG,T.ch,T.av];have:=UE 8 999991 n [] (by omega) h (by simp);rw[ξm] at this;have b:CY ab (n:Int) (ξj #[])=_:=this;rw[b]
 by_cases a:dB 8 n=0
 ·rw[if_pos a,if_pos a];rfl
 ·rw[if_neg a,if_neg a];rfl
theorem YT {l:Γ} (h: ∀x∈l,x<256) (hl:l.length<=100) {pos:Nat} (ok:Bool) (hp:pos<l.length):(mG ab (bs l) (l.length:Int) (ok,(pos:Int))).val=some (.inl (ok&&en l[pos],((pos+1:Nat):Int))):=by
 have b:=η hp;have a:=yq h b;have hw:ζ.wrap ((pos:Int)+1)=((pos+1:Nat):Int):=by rw[cC (by omega) (by omega)];omega
 unfold mG;simp only[T.az,T.aG,T.av];rw[decide_eq_true (by omega:(pos:Int)<(l.length:Int)),a,hw,uN];cases ok with
 |false=>rfl
 |true=>
  simp only[cond_true,γ,ξi];cases decide ((l[pos]:Int)>=97)<;>cases decide ((l[pos]:Int)<=122)<;>cases decide ((l[pos]:Int)>=48)<;>rfl
theorem J4 {l:Γ} (h: ∀x∈l,x<256) (hl:l.length<=100): ∀(k f pos:Nat) (ok:Bool),pos+k=l.length->ct (λa=>(mG ab (bs l) (l.length:Int) a).val) (k+1+f) (ok,(pos:Int))=some (false,ok&&(l.drop pos).all en,(l.length:Int))
 |0,f,pos,ok,e=>by
  obtain rfl:pos=l.length:=by omega
  rw[show 0+1+f=f+1 by omega,dw];unfold mG;simp
 |k+1,f,pos,ok,e=>by
  have hp:pos<l.length:=by omega
  rw[show k+1+1+f=(k+1+f)+1 by omega,dw,YT h hl ok hp,γ];simp only;rw[J4 h hl k f (pos+1) _ (by omega),χ hp,ζj,Bool.and_assoc]
theorem ai7 {n:Nat} (h:n<18446744073709551616):nm ab (n:Int)=some (dv (n:Int)):=by
 show(EE ab (n:Int)).val=_;unfold EE dv;simp only[T.bw,T.aG,T.az,T.av,J6 h,γ,θ];have hl:=ko 8 n
 by_cases b:dB 8 n=0
 ·rw[if_pos b,b];have:=J4 (mS n) (by omega) (dg 8 n).length (999999-(dg 8 n).length) 0 true (by omega);rw[show(dg 8 n).length+1+(999999-(dg 8 n).length)=1000000 by omega,ζ7] at this;have a:oI ab (bs (dg 8 n)) true ((dg 8 n).length:Int) 0=some (false,true&&(dg 8 n).all en,((dg 8 n).length:Int)):=this;simp only;rw[dM,a];simp only[γ,ξi,beq_self_eq_true];cases c:dg 8 n with
  |nil=>rfl
  |cons x r=>
   have:decide (((x::r).length:Int)>0)=true:=decide_eq_true (by simp);rw[this];cases (x::r).all en<;>rfl
 ·rw[if_neg b];have e:(dB 8 n==0)=false:=by simp[b]
  have a:oI ab (bs []) false ((0:Nat):Int) 0=_:=J4 (l:=[]) (by simp) (by simp) 0 999999 0 false rfl;have a:oI ab (ξj #[]) false (((ξj #[]).size:Nat):Int) 0=_:=a;rw[e];simp only;rw[a];rfl
theorem J3 {w:Int} (h:cz w):nm ab w=some (dv w):=by
 obtain⟨n,rfl⟩:=ξo h.1;exact ai7 (by have:=h.2;omega)
theorem YV {l:Γ} (h: ∀x∈l,x<256) (hl:l.length<=100) {pos:Nat} (hp:pos<l.length):(mI ab (bs l) (l.length:Int) (pos:Int)).val=bif en l[pos] then some (.inl ((pos+1:Nat):Int)) else some (.inr (.inl ())):=by
 have a:=yq h (η hp);have hw:ζ.wrap ((pos:Int)+1)=((pos+1:Nat):Int):=by rw[cC (by omega) (by omega)];omega
 unfold mI;simp only[T.az,T.av,T.aG];rw[decide_eq_true (by omega:(pos:Int)<(l.length:Int)),a,hw,uN];simp only[cond_true,γ];cases decide ((l[pos]:Int)>=97)<;>cases decide ((l[pos]:Int)<=122)<;>cases decide ((l[pos]:Int)>=48)<;>cases decide ((l[pos]:Int)<=57)<;>rfl
theorem UK {l:Γ} (h: ∀x∈l,x<256) (hl:l.length<=100): ∀(k f pos:Nat),pos+k=l.length->ct (λa=>(mI ab (bs l) (l.length:Int) a).val) (k+1+f) (pos:Int)=some (bif (l.drop pos).all en then .inr (false,(l.length:Int)) else .inl ())
 |0,f,pos,e=>by
  obtain rfl:pos=l.length:=by omega
  rw[show 0+1+f=f+1 by omega,dw];unfold mI;simp
 |k+1,f,pos,e=>by
  have hp:pos<l.length:=by omega
  rw[show k+1+1+f=(k+1+f)+1 by omega,dw,YV h hl hp,χ hp,ζj];cases en l[pos] with
  |false=>rfl
  |true=>
   simp only[cond_true,γ,ξi];exact UK h hl k f (pos+1) (by omega)
theorem ajf {l:Γ} (h: ∀x∈l,x<256) (hl:l.length<=100):GN ab (bs l)=some (cY l):=by
 show(EX ab (bs l)).val=_;unfold EX cY;simp only[T.bw,T.aG,T.ch,T.av];have:=UK h hl l.length (999999-l.length) 0 (by omega);rw[show l.length+1+(999999-l.length)=1000000 by omega,ζ7] at this;have a:C3 ab (bs l) (l.length:Int) 0=some (bif l.all en then .inr (false,(l.length:Int)) else .inl ()):=this;rw[dM,a];cases l.all en with
 |false=>rfl
 |true=>
  cases l with
  |nil=>rfl
  |cons x r=>
   have:decide (((x::r).length:Int)>0)=true:=decide_eq_true (by simp);simp only[cond_true,γ,this];rfl
theorem abO {l:Γ} {i:Nat} (hi:i<l.length) (hl:l.length<=100):eE (bs l) (some (i:Int)) (some (ζ.wrap ((i:Int)+1)))=some (bs [l[i]]):=by
 rw[cC (by omega) (by omega)];unfold eE;simp only[ξ9];rw[if_pos ⟨by omega,by omega,by rw[dM];omega⟩]
 congr 1
 apply ByteArray.ext;rw[ByteArray.data_extract,θ,show((i:Int)+1).toNat=i+1 by omega];unfold bs;apply Array.ext';rw[Array.toList_extract];simp[List.extract,χ hi];rw[χ (by simpa using hi)];simp
theorem YU {l:Γ} (h: ∀x∈l,x<256) (hl:l.length<=100) {i:Nat} (hi:i<l.length) {acc:List (Γ)} (b:acc.length<=i) (o: ∀y∈acc,y.length<=i):(mH ab (bs l) (l.length:Int) ((i:Int),acc.map bs)).val=some (.inl (((i+1:Nat):Int),(di acc l[i]).map bs)):=by
 have k:=yq h (η hi);have hw:ζ.wrap ((i:Int)+1)=((i+1:Nat):Int):=by rw[cC (by omega) (by omega)];omega
 have d:=abO hi hl;unfold mH di;simp only[T.az,T.av,T.aG,ξJ];rw[decide_eq_true (by omega:(i:Int)<(l.length:Int)),k,d,hw];simp only[cond_true,γ]
 by_cases a:l[i]=47
 ·have e:((l[i]:Int)==47)=true:=by rw[a];rfl
  rw[e,if_pos a];simp only[cond_true];rw[fY (n:=200) (by simp;omega) (by omega),γ,ζo];rfl
 ·have e:((l[i]:Int)==47)=false:=by simp;omega
  rw[e,if_neg a];simp only[cond_false];rcases List.eq_nil_or_concat acc with hp|⟨p,y,hp⟩
  ·subst hp;rfl
  ·subst hp;have hlen:(ζ4 bs (p.concat y)).length=p.length+1:=by simp
   have f:decide (((ζ4 bs (p.concat y)).length:Int)>0)=true:=decide_eq_true (by rw[hlen];omega);have m:ζ.wrap (((ζ4 bs (p.concat y)).length:Int)-1)=(p.length:Int):=by
    rw[hlen,cC (by simp at b;omega) (by simp at b;omega)];omega
   have c:(ζ4 bs (p.concat y))[p.length]? =some (bs y):=by simp
   have j:idx (ζ4 bs (p.concat y)) (p.length:Int)=some (bs y):=gH c;have q:=o y (by simp);rw[f,m,j];simp only[cond_true,γ,θ];rw[c];simp only[γ];rw[yo (by simp;omega)];simp only[γ];have g:(p.concat y)[(p.concat y).length-1]? =some y:=by simp
   rw[g];simp only;rw[show(p.concat y).length-1=p.length by simp,List.map_set]
theorem Ue {acc:List (Γ)} {x i:Nat} (c:acc.length<=i) (a: ∀y∈acc,y.length<=i):(di acc x).length<=i+1/\ ∀y∈di acc x,y.length<=i+1:=by
 unfold di;split
 ·refine⟨by simp;omega,λy h=>?_⟩;rcases ξf.1 h with h|h
  ·have:=a y h;omega
  ·have:y=[]:=by simpa using h
   subst this;simp
 ·split
  ·rename_i y b;refine⟨by simp;omega,λz h=>?_⟩;rcases ξS h with h|h
   ·have:=a z h;omega
   ·subst h;have:=a y (ν b);simp;omega
  ·exact⟨by omega,λy h=>by have:=a y h;omega⟩
theorem UJ {l:Γ} (h: ∀x∈l,x<256) (hl:l.length<=100): ∀(k f pos:Nat) (acc:List (Γ)),pos+k=l.length->acc.length<=pos->(∀y∈acc,y.length<=pos)->ct (λa=>(mH ab (bs l) (l.length:Int) a).val) (k+1+f) ((pos:Int),acc.map bs)=some (false,(l.length:Int),((l.drop pos).foldl di acc).map bs)
 |0,f,pos,acc,e,_,_=>by
  obtain rfl:pos=l.length:=by omega
  rw[show 0+1+f=f+1 by omega,dw];unfold mH;simp
 |k+1,f,pos,acc,e,b,c=>by
  have hp:pos<l.length:=by omega
  rw[show k+1+1+f=(k+1+f)+1 by omega,dw,YU h hl hp b c,γ,χ hp,ξt];obtain⟨h1,d⟩:=Ue (x:=l[pos]) b c;exact UJ h hl k f (pos+1) _ (by omega) h1 d
theorem UI {l:Γ} (h: ∀x∈l,x<256) (hl:l.length<=100):vH ab (bs l)=some ((l.foldl di []).map bs):=by
 show(EW ab (bs l)).val=_;unfold EW;simp only[T.bw,T.aG,T.av];have:=UJ h hl l.length (999999-l.length) 0 [] (by omega) (by simp) (by simp);rw[show l.length+1+(999999-l.length)=1000000 by omega,ζ7] at this;have a:C2 ab (bs l) (l.length:Int) 0 []=some (false,(l.length:Int),(l.foldl di []).map bs):=this;rw[dM,a];rfl
theorem Sp: ∀(d:Γ) (acc:List (Γ)) (i:Nat),(∀x∈d,x<256)->(∀p∈acc,∀x∈p,x<256)->acc.length<=i->(∀p∈acc,p.length<=i)->(∀p∈d.foldl di acc,(∀x∈p,x<256)/\p.length<=i+d.length)
 |[],acc,i,_,b,_,c=>λp hp=>⟨b p hp,by have:=c p hp;simp;omega⟩
 |x::d,acc,i,h1,b,e,c=>by
  rw[ξt];obtain⟨h,j⟩:=Ue (x:=x) e c;have k:=h1 x ξc;have f: ∀p∈di acc x,∀y∈p,y<256:=by
   unfold di;split
   ·intro p hp y a;rcases ξf.1 hp with hp|hp
    ·exact b p hp y a
    ·have:p=[]:=by simpa using hp
     subst this;simp at a
   ·split
    ·rename_i z g;intro p hp y a;rcases ξS hp with hp|hp
     ·exact b p hp y a
     ·subst hp;rcases ξf.1 a with a|a
      ·exact b z (ν g) y a
      ·have:y=x:=by simpa using a
       omega
    ·exact b
  intro p hp;have:=Sp d (di acc x) (i+1) (λy a=>h1 y (ψ _ a)) f h j p hp;exact⟨this.1,by have:=this.2;simp;omega⟩
theorem YG {s:ByteArray} {ps:List (Γ)} (h: ∀p∈ps,(∀x∈p,x<256)/\p.length<=100):CZ ab s (ps.map bs)=bif ps.all cY then some (.inr (false,((ps.map bs).length:Int))) else some (.inl ()):=by
 show bB (λi z a=>(ug ab s (ps.map bs) i z a).val) (λi a=>(ss ab s (ps.map bs) i a).val) 0 (ps.map bs) ()=_;rw[h2 (q:=λi _=>match ps[i]? with|some p=>cY p|none=>false) (x:=.inl ())]
 ·have e:allI (λi (_:ByteArray)=>match ps[i]? with|some p=>cY p|none=>false) 0 (ps.map bs)=ps.all cY:=by
   rw[μ,fX,ξ4];constructor
   ·intro c p hp;obtain⟨i,hi⟩:=ζ5 hp;have:=c i (bs p) (by simp[hi]);rw[ξ3,hi] at this;exact this
   ·intro c k z b;rw[ξ3];rw[ξ6] at b;cases hk:ps[k]? with
    |none=>rw[hk] at b;simp at b
    |some p=>exact c p (ν hk)
  rw[e]
  congr 1
  unfold ss;simp
 ·intro i z b;rw[ξ6] at b;cases hk:ps[i]? with
  |none=>rw[hk] at b;simp at b
  |some p=>
   rw[hk] at b;have b:bs p=z:=by simpa using b
   subst b;have hp:=h p (ν hk);unfold ug;simp only[T.az,T.aG,T.av,ajf hp.1 hp.2,γ];cases cY p<;>rfl
theorem ajb {d:Γ} (a: ∀x∈d,x<256) (hl:d.length<=8):GH ab (bs d)=some (iV d):=by
 show(EN ab (bs d)).val=_;unfold EN iV;simp only[T.az,T.aG,T.av,T.bw,T.ch];rw[yr a]
 by_cases b:d=[47]
 ·rw[decide_eq_true b];rfl
 rw[decide_eq_false b,UI a (by omega)];simp only[cond_false,γ,ξn];have c:=Sp d [] 0 a (by simp) (by simp) (by simp);rw[YG (ps:=d.foldl di []) (λp hp=>⟨(c p hp).1,by have:=(c p hp).2;omega⟩)];show _=some (match d with|47::_=>(da d).all cY&&decide ((da d).length<=4)|_=>false)
 change (Option.bind (bif (da d).all cY then _ else _) _)=_
 cases d with
 |nil=>rfl
 |cons x t=>
  have n:decide (((bs (x::t)).size:Int)>0)=true:=decide_eq_true (by rw[dM];simp);have m:decide (((bs (x::t)).size:Int)<=8)=true:=decide_eq_true (by rw[dM];omega);have l:fg (bs (x::t)) 0=some (x:Int):=yq (i:=0) a rfl;rw[n,m,l];have k:((ζ4 bs (List.foldl di [] (x::t))).length:Int)=((da (x::t)).length:Int):=by unfold da;simp
  by_cases f:x=47
  ·subst f;have h1:decide (((da (47::t)).length:Int)>=1)=true:=decide_eq_true (by rw[q4];simp;omega);have j:decide (((da (47::t)).length:Int)<=4)=decide ((da (47::t)).length<=4):=by rw[μ];simp;omega
   rw[k,h1,j];cases (da (47::t)).all cY<;>rfl
  ·have e:((x:Int)==47)=false:=by simp;omega
   have g:(match x::t with|47::_=>(da (x::t)).all cY&&decide ((da (x::t)).length<=4)|_=>false)=false:=by
    split
    ·rename_i h;cases h;exact absurd rfl f
    ·rfl
   refine Eq.trans ?_ (congrArg some g.symm);simp only[e,γ,cond_true,cond_false];cases (da (x::t)).all cY<;>rfl
theorem ai2 {n:Nat} (h:n<18446744073709551616):lF ab (n:Int)=some (b2 (n:Int)):=by
 show(Eu ab (n:Int)).val=_;unfold Eu b2;simp only[T.aG,T.az,T.av,J6 h,γ,θ]
 by_cases a:dB 8 n=0
 ·rw[if_pos a,a];simp only[cond_true,ajb (mS n) (ko 8 n),γ];rfl
 ·rw[if_neg a];have e:(dB 8 n==0)=false:=by simp[a]
  rw[e];rfl
theorem xO {w:Int} (h:cz w):lF ab w=some (b2 w):=by
 obtain⟨n,rfl⟩:=ξo h.1;exact ai2 (by have:=h.2;omega)
theorem NX: ∀(k:Nat) (l:Γ),(∀x∈l,0<x/\x<256)->l.length<=k->dg k (pk l)=l/\dB k (pk l)=0
 |0,l,_,hl=>by
  obtain rfl:l=[]:=List.length_eq_zero_iff.1 (by omega);exact⟨rfl,rfl⟩
 |k+1,[],_,_=>⟨by simp[dg,pk],by simp[dB,pk]⟩
 |k+1,x::r,h,hl=>by
  have e:=h x (by simp);obtain⟨h1,c⟩:=NX k r (λy d=>h y (ψ _ d)) (by simpa using hl);have a:(x+256*pk r)%256=x:=by omega
  have b:(x+256*pk r)/256=pk r:=by omega
  unfold dg dB pk;rw[a,b,if_neg (by omega),if_neg (by omega),h1,c];exact⟨rfl,rfl⟩
theorem I0 {p:Γ} (h:cY p=true):(∀x∈p,x≠47/\0<x/\x<256)/\p≠[]:=by
 unfold cY at h;rw[κ] at h;refine⟨λx a=>?_,λe=>by subst e;cases h.2⟩;have:=ξ4.1 h.1 x a;unfold en at this;have:=of_decide_eq_true this;omega
theorem ajN {p r:Γ} (hp: ∀x∈p,x≠47) (a:r=[]\/ ∃t,r=47::t):wd (p++r)=p/\rs (p++r)=r:=by
 unfold wd rs
 induction p with
 |nil=>
  rcases a with rfl|⟨t,rfl⟩
  ·exact⟨rfl,rfl⟩
  ·simp
 |cons z p d=>
  have c:(z !=47)=true:=by simpa using hp z (by simp)
  obtain⟨i1,i2⟩:=d λx b=>hp x (ψ _ b);rw[List.cons_append,ξ1,ξ5,c];simp only[if_true,i1,i2,and_self]
theorem ad1 (ps:List (Γ)):jt ps=[]\/ ∃t,jt ps=47::t:=by
 cases ps with
 |nil=>exact .inl rfl
 |cons p r=>exact .inr ⟨p++jt r,by simp[jt]⟩
theorem I2: ∀ {ps:List (Γ)},ps.all cY=true->da (jt ps)=ps
 |[],_=>rfl
 |p::r,h=>by
  rw[ζj,κ] at h;have e:jt (p::r)=47::(p++jt r):=by simp[jt]
  obtain⟨h1,a⟩:=ajN (λx b=>((I0 h.1).1 x b).1) (ad1 r);rw[e,q4,h1,a,I2 h.2]
theorem Uv {ps:List (Γ)} (h:ps.all cY=true): ∀x∈tx ps,0<x/\x<256:=by
 cases ps with
 |nil=>intro x a;simp[tx] at a;omega
 |cons p r=>
  intro x a;have a:x∈((p::r).map λp=>47::p).flatten:=a;obtain⟨l,hl,a⟩:=List.mem_flatten.1 a;obtain⟨y,b,rfl⟩:=ζ0.1 hl;rcases ξV.1 a with rfl|a
  ·omega
  ·exact((I0 (ξ4.1 h y b)).1 x a).2
theorem afA {ps:List (Γ)} (h:ps.all cY=true):lV (tx ps)=ps:=by
 unfold lV;cases ps with
 |nil=>rfl
 |cons p r=>
  have c:tx (p::r)≠[47]:=λe=>by
   have hp:=(I0 (ξ4.1 h p (by simp))).2;have e:47::(p++jt r)=[47]:=by rw[<-e];simp[tx,jt]
   cases p with
   |nil=>exact hp rfl
   |cons a b=>cases e
  rw[if_neg c];exact I2 h
theorem Vr {ps:List (Γ)} (h:ps.all cY=true) (hl:(tx ps).length<=8):e9 ps=(pk (tx ps):Nat):=by
 unfold e9;rw[uI (Uv h) hl]
theorem aj4 {ps:List (Γ)} (h:ps.all cY=true) (hl:(tx ps).length<=8) (d:ps.length<=4):b2 (e9 ps)=true/\bE (e9 ps)=ps:=by
 obtain⟨a,b⟩:=NX 8 (tx ps) (Uv h) hl;rw[Vr h hl];unfold b2 bE;rw[θ,a,b,afA h];refine⟨?_,rfl⟩;unfold iV;cases ps with
 |nil=>rfl
 |cons p r=>
  have e:tx (p::r)=47::(p++jt r):=by simp[tx,jt]
  have c:da (47::(p++jt r))=p::r:=by
   have:=I2 h;rw[show jt (p::r)=47::(p++jt r) by simp[jt]] at this;exact this
  rw[e];simp only[c,h,decide_eq_true d];simp
theorem Uw {ps:List (Γ)} (h:(jt ps).length<=8):(tx ps).length<=8:=by
 cases ps with
 |nil=>simp[tx]
 |cons p r=>exact h
theorem afs {w:Int} (hw:b2 w=true):tx (bE w)=dg 8 w.toNat:=by
 unfold b2 at hw;rw[κ] at hw;have a:=hw.2;unfold bE lV;generalize dg 8 w.toNat=d at*
 unfold iV at a
 by_cases e:d=[47]
 ·rw[if_pos e,e];rfl
 ·rw[if_neg e];rw[decide_eq_false e,ξn] at a;split at a
  ·rename_i t;have:=qL _ (47::t) (ξb _) (.inr ⟨_,rfl⟩);rw[q4] at this ⊢;exact this
  ·cases a
theorem aft {w:Int} (hu:cz w) (hw:b2 w=true):e9 (bE w)=w:=by
 obtain⟨h1,_,_,b⟩:=kP hw;rw[Vr h1 (Uw b),afs hw];have a:dB 8 w.toNat=0:=by
  unfold b2 at hw;rw[κ] at hw;exact eq_of_beq hw.1
 have:=xT 8 w.toNat;rw[a] at this;have:=hu.1;omega
theorem aiK {w:Int} (hw:b2 w=true) (k:Nat):b2 (e9 ((bE w).take k))=true/\bE (e9 ((bE w).take k))=(bE w).take k:=by
 obtain⟨h1,_,a,b⟩:=kP hw;refine aj4 (ξ4.2 λp hp=>ξ4.1 h1 p (ξw hp)) (Uw ?_) (by simp;omega);have:jt (bE w)=jt ((bE w).take k)++jt ((bE w).drop k):=by rw[<-HX,ξF]
 have:=congrArg ζH this;rw[υ] at this;omega
theorem J8 {w:Int} (hu:cz w) (hw:b2 w=true):pN ab w=some ((bE w).map bs):=by
 obtain⟨n,rfl⟩:=ξo hu.1;have b:dB 8 n=0:=by
  unfold b2 at hw;rw[κ,θ] at hw;exact eq_of_beq hw.1
 show(EY ab (n:Int)).val=_;unfold EY;have a:=mS n;have hl:=ko 8 n;simp only[T.aG,T.az,T.av,J6 (show n<18446744073709551616 by have:=hu.2;omega),b,if_true,γ,yr a,UI a (show(dg 8 n).length<=100 by omega)];unfold bE lV da;rw[θ]
 by_cases e:dg 8 n=[47]
 ·rw[decide_eq_true e,if_pos e];rfl
 ·rw[decide_eq_false e,if_neg e];rfl
theorem UF {a b:Int} (m:cz a) (n:cz b):vD ab a b=some (dx a b):=by
 show(EO ab a b).val=_;unfold EO dx;simp only[T.aG,T.az,T.bw,T.av,T.ch,xO m,xO n,γ];cases j:b2 a with
 |false=>rfl
 |true=>
  cases l:b2 b with
  |false=>rfl
  |true=>
   simp only[ι,cond_false,J8 m j,J8 n l,γ,ξi];obtain⟨_,a2,a3,_⟩:=kP j;obtain⟨_,o,s,_⟩:=kP l;generalize bE a=p at*
   generalize bE b=q at*
   have r:C0 ab (q.map bs) (p.map bs)=bif p.isPrefixOf q then some (.inr (false,(p.length:Int))) else some (.inl ()):=by
    show bB (λi z c=>(uh ab (q.map bs) (p.map bs) i z c).val) (λi c=>(su ab (q.map bs) (p.map bs) i c).val) 0 (p.map bs) ()=_;rw[h2 (q:=λi z=>match(q.map bs)[i]? with|some y=>y.toList==z.toList|none=>false) (x:=.inl ()) λi z d=>?_]
    ·have:allI (λi z=>match(q.map bs)[i]? with|some y=>y.toList==z.toList|none=>false) 0 (p.map bs)=p.isPrefixOf q:=by
      rw[μ,fX,ξa,List.prefix_iff_getElem?];constructor
      ·intro h i hi;have:=h i (bs p[i]) (by rw[ξ6,η hi];rfl);rw[ξ3,ξ6] at this;cases g:q[i]? with
       |none=>rw[g] at this;cases this
       |some y=>
        rw[g] at this;have:=(Ny (o _ (ν g)).1 (a2 _ (ξX hi)).1).symm.trans this;rw[of_decide_eq_true this]
      ·intro h k z d;rw[ξ6] at d;cases hp:p[k]? with
       |none=>rw[hp] at d;cases d
       |some y=>
        rw[hp] at d;cases d;obtain⟨hk,rfl⟩:=δ.1 hp;rw[ξ3,ξ6,h k hk];exact beq_self_eq_true _
     rw[this];unfold su;simp
    ·unfold uh;rcases ζG i (q.map bs).length with hi|hi
     ·have e:(q.map bs)[i]? =some (q.map bs)[i]:=η hi;have f:decide ((i:Int)>=((q.map bs).length:Int))=false:=decide_eq_false (by omega);simp only[T.aG,T.az,T.av,f,cond_false,dV e,e,γ];cases (q.map bs)[i].toList==z.toList<;>rfl
     ·have e:(q.map bs)[i]? =none:=List.getElem?_eq_none hi;have f:decide ((i:Int)>=((q.map bs).length:Int))=true:=decide_eq_true (by omega);simp only[T.az,T.av,f,cond_true,e,cond_false]
   simp only[r];cases p.isPrefixOf q<;>rfl
theorem ajc {w:Int} (hu:cz w) (hw:b2 w=true):vE ab w=some ((bE w).length:Int):=by
 show(EP ab w).val=_;unfold EP;simp only[T.aG,T.av,J8 hu hw,γ,ξy]
theorem J2 (m:bz) (w:Int):pJ ab m w=some ((cr m w).getD 0):=by
 have b:CG ab w m.ae=match m.ae.find? (λz=>z.aN==w) with|some z=>some (.inl z.aY)|none=>some (.inr (false,(m.ae.length:Int))):=by
  show bB (λi z a=>(tV ab w m.ae i z a).val) (λi a=>(sd ab w m.ae i a).val) 0 m.ae ()=_;rw[jd (p:=λz=>z.aN==w) (e:=λz=>.inl z.aY) λi z _=>by unfold tV;simp only[T.az,T.av]];unfold sd;simp only[T.av,ξ3,ρ,decide_false];cases m.ae.find? (λz=>z.aN==w)<;>rfl
 show(ED ab m w).val=_;unfold ED cr;simp only[T.aG,T.bw,T.ch,T.av,b];cases m.ae.find? (λz=>z.aN==w)<;>rfl
theorem HJ {m:bz} (h:eH m) {w i:Int} (e:cr m w=some i):1<=i:=by
 obtain⟨x,a,_,rfl⟩:=nA e;exact(h.id x a).1
theorem ajd {m:bz} (h:eH m) {w:Int} (hw:cz w):GJ ab m w=some ((m.ae.filter λx=>!(x.aN==w)&&dx w x.aN).map ay.aY):=by
 have hlen:=h.len;have d:C1 ab w m.ae []=some (false,(m.ae.length:Int),(m.ae.filter λx=>!(x.aN==w)&&dx w x.aN).map ay.aY):=by
  show bB (λi z a=>(ui ab w m.ae i z a).val) (λi a=>(sv ab w m.ae i a).val) 0 m.ae []=_;rw[l7 (p:=λx=>!(x.aN==w)&&dx w x.aN) (f:=ay.aY)]
  ·unfold sv;simp only[T.av,ρ,decide_false]
  ·intro i z a c e;have hi:=(δ.1 c).1;unfold ui;simp only[T.aG,T.az,T.av,UF hw (h.path z (ν c)).1,γ,bne,fZ (n:=0) (b:=8) (z:=z.aY) (i:=i) (a:=a) (by omega) (by omega) (by omega) (by omega)];cases z.aN==w<;>cases dx w z.aN<;>rfl
 show(ET ab m w).val=_;unfold ET;simp only[T.aG,T.bw,T.av,d,γ]
theorem ai4 {m:bz} (h:eH m) {w:Int} (hw:b2 w=true):Gy ab m w=some (match gu m w with| .ok (q,v)=>(q,v,0)| .error e=>(yR,0,e)):=by
 have hlen:=h.len;have n1:=h.n1;have n2:=h.n2;show(EA ab m w).val=_;unfold EA gu;simp only[T.aG,T.az,T.av,J2,γ,hw,cond_true];cases hi:cr m w with
 |some i=>
  have:=HJ h hi;have:(i !=0)=true:=by simp;omega
  simp only[ξ9,this,cond_true];rfl
 |none=>
  have a:((m.ae.length:Int)==16)=(m.ae.length==16):=by rw[μ];simp;omega
  have b:(m.ba==1073741825)=decide (m.ba>1073741824):=by rw[μ];simp;omega
  have c:app 16 ([]:List ay) m.ae=some m.ae:=fY (n:=1000) (by simp;omega) (by omega);have d:app 16 m.ae [ay.mk w m.ba]=some (m.ae++[ay.mk w m.ba]):=fY (n:=1000) (by simp;omega) (by omega);have f:τ.wrap (m.ba+1)=m.ba+1:=gm (by omega) (by omega);simp only[ξI,a,b,c,d,f,γ,show((0:Int) !=0)=false from rfl,cond_false];cases m.ae.length==16<;>cases decide (m.ba>1073741824)<;>rfl
theorem ai5 {m:bz} (h:eH m) {w:Int} (hu:cz w) (hw:b2 w=true):Gz ab m w=some (match hA m w with| .ok v=>(v,0)| .error e=>(yR,e)):=by
 have hlen:=h.len;have k:CE ab w m.ae m.ba (m.ae.length:Int) 0 []=some (false,(m.ae.length:Int),m.ae.filter λx=>!(x.aN==w)):=by
  show ct (λa=>(oU ab w m.ae m.ba (m.ae.length:Int) a).val) 1000000 (0,[])=_;rw[mi (p:=λx=>!(x.aN==w)) (f:=id) (l:=m.ae) (x:=λa=>(false,(m.ae.length:Int),a)) (λi z a d t=>?_) (λa=>?_) (by omega)]
  ·simp
  ·have hi:=(δ.1 d).1;have o:decide ((i:Int)<(m.ae.length:Int))=true:=decide_eq_true (by omega);have q:ζ.wrap ((i:Int)+1)=((i+1:Nat):Int):=cC (by omega) (by omega);unfold oU;simp only[T.aG,T.az,T.av,o,cond_true,dV d,γ,bne,fZ (n:=0) (b:=16) (z:=z) (i:=i) (a:=a) (by omega) (by omega) (by omega) (by omega),q];cases z.aN==w<;>rfl
  ·unfold oU;simp only[T.az,T.av,ρ,decide_false,cond_false]
 show(EB ab m w).val=_;unfold EB hA;simp only[T.aG,T.az,T.bw,T.av,J2,ajd h hu,k,γ,hw,cond_true];cases hi:cr m w with
 |none=>rfl
 |some i=>
  have:=HJ h hi;have g:(i==0)=false:=by simp;omega
  have j:decide ((((m.ae.filter λx=>!(x.aN==w)&&dx w x.aN).map ay.aY).length:Int)>0)=hL m w:=by
   unfold hL;rw[μ,decide_eq_true_eq,ξp];constructor
   ·intro hp;cases c:m.ae.filter (λx=>!(x.aN==w)&&dx w x.aN) with
    |nil=>rw[c] at hp;simp at hp
    |cons y r=>
     have:y∈m.ae.filter (λx=>!(x.aN==w)&&dx w x.aN):=by rw[c];simp
     exact⟨y,ξ.1 this⟩
   ·rintro ⟨y,s⟩;have:=ξZ (ξ (p:=λx:ay=>!(x.aN==w)&&dx w x.aN).2 s);simp only[ξy];omega
  simp only[ξ9,g,j,cond_false];cases hL m w<;>rfl
theorem UR (f:Nat->Option Int) {k0:Nat} {i:Int} (c:f k0=some i): ∀(L:Nat),k0<=L->(∀k,k0<k->k<=L->f k=none)->(ζm (L+1)).reverse.findSome? f=some i
 |L,hk,h=>by
  rw[ζr,ζb,ξY,ξG,ζe];rcases ζG k0 L with h1|h1
  ·rw[h L h1 (ξb _)];cases L with
   |zero=>omega
   |succ L=>exact UR f c L (by omega) λk a b=>h k a (by omega)
  ·have:L=k0:=by omega
   subst this;rw[c]
theorem abf {m:bz} (h:eH m) {x:ay} (a:x∈m.ae):cr m x.aN=some x.aY:=by
 cases e:cr m x.aN with
 |none=>exact absurd rfl (Ph e x a)
 |some i=>
  obtain⟨y,d,b,c⟩:=nA e;rw[RJ h a d b.symm,c]
theorem UB {m:bz} (h:eH m) {w:Int} (hu:cz w) (hw:b2 w=true):vA ab m w=some ((jl m w).getD 0):=by
 have hlen:=h.len;obtain⟨g,q⟩: ∃g:Int×Int->ay->Int×Int,g=λa z=>bif dx z.aN w&&decide (((bE z.aN).length:Int)>a.2) then(z.aY,((bE z.aN).length:Int)) else a:=⟨_,rfl⟩;have u:Cz ab w m.ae 0 (-1)=some (false,(m.ae.foldl g (0,-1)).1,(m.ae.foldl g (0,-1)).2,(m.ae.length:Int)):=by
  show bB (λi z a=>(tQ ab w m.ae i z a).val) (λi a=>(r9 ab w m.ae i a).val) 0 m.ae (0,-1)=_;rw[l6 (g:=g) λi z a o=>?_]
  ·unfold r9;simp only[T.av,ξ3,ρ,decide_false]
  ·obtain⟨t,z2⟩:=h.path z o;unfold tQ;rw[q];simp only[T.aG,T.az,T.av,UF t hu,ajc t z2,γ];cases dx z.aN w<;>cases decide (((bE z.aN).length:Int)>a.2)<;>rfl
 have inv: ∀(r pre:List ay) (a:Int×Int),((∀x∈pre,dx x.aN w=true->((bE x.aN).length:Int)<=a.2)/\((a=(0,-1)/\ ∀x∈pre,dx x.aN w=false)\/ ∃x∈pre,dx x.aN w=true/\a=(x.aY,((bE x.aN).length:Int))))->
   ((∀x∈pre++r,dx x.aN w=true->((bE x.aN).length:Int)<=(r.foldl g a).2)/\((r.foldl g a=(0,-1)/\ ∀x∈pre++r,dx x.aN w=false)\/ ∃x∈pre++r,dx x.aN w=true/\r.foldl g a=(x.aY,((bE x.aN).length:Int)))):=by
  intro r
  induction r with
  |nil=>intro pre a v;rw[ξs];exact v
  |cons z r E=>
   intro pre a ⟨h1,j⟩;rw[ξt,show pre++z::r=(pre++[z])++r by simp];refine E (pre++[z]) (g a z) ?_;have hm: ∀ {x},x∈pre++[z]↔x∈pre\/x=z:=λ{x}=>by simp
   have A:g a z=bif dx z.aN w&&decide (((bE z.aN).length:Int)>a.2) then(z.aY,((bE z.aN).length:Int)) else a:=by rw[q]
   rw[A];cases o:dx z.aN w
   ·simp only[Bool.false_and,cond_false];refine⟨λx b c=>?_,?_⟩
    ·rcases hm.1 b with b|rfl
     ·exact h1 x b c
     ·rw[o] at c;cases c
    ·rcases j with⟨e,j⟩|⟨x,b,f,d⟩
     ·refine .inl ⟨e,λx b=>?_⟩;rcases hm.1 b with b|rfl
      ·exact j x b
      ·exact o
     ·exact .inr ⟨x,hm.2 (.inl b),f,d⟩
   ·rcases ζF (((bE z.aN).length:Int)>a.2) with l|l
    ·simp only[decide_eq_true l,Bool.and_self,cond_true];refine⟨λx b c=>?_,.inr ⟨z,hm.2 (.inr rfl),o,rfl⟩⟩;rcases hm.1 b with b|rfl
     ·exact Int.le_trans (h1 x b c) (by omega)
     ·exact Int.le_refl _
    ·simp only[decide_eq_false l,ζu,cond_false];refine⟨λx b c=>?_,?_⟩
     ·rcases hm.1 b with b|rfl
      ·exact h1 x b c
      ·omega
     ·rcases j with⟨e,_⟩|⟨x,b,f,d⟩
      ·rw[e] at l;exact absurd (by show(-1:Int)<_;omega) l
      ·exact .inr ⟨x,hm.2 (.inl b),f,d⟩
 obtain⟨i1,i2⟩:=inv m.ae [] (0,-1) ⟨λx b=>(by cases b),.inl ⟨rfl,λx b=>(by cases b)⟩⟩;rw[ξm] at i1 i2;have D:jl m w=(ζm ((bE w).length+1)).reverse.findSome? λk=>cr m (e9 ((bE w).take k)):=by
  unfold jl k2;rw[List.findSome?_map];rfl
 have p: ∀ {k:Nat} {i:Int},cr m (e9 ((bE w).take k))=some i-> ∃y∈m.ae,dx y.aN w=true/\bE y.aN=(bE w).take k:=λ{k i} e=>by
  obtain⟨y,n,f,_⟩:=nA e;obtain⟨p1,p2⟩:=aiK hw k;refine⟨y,n,?_,by rw[f];exact p2⟩;unfold dx;rw[f,p1,p2,hw,ξi,ξi,ξa];exact List.take_prefix _ _
 show(Ev ab m w).val=_;unfold Ev;simp only[T.aG,T.bw,T.av,u,γ];rw[D];rcases i2 with⟨e,B⟩|⟨x,b,c,e⟩
 ·rw[e];have:(ζm ((bE w).length+1)).reverse.findSome? (λk=>cr m (e9 ((bE w).take k)))=none:=by
   rw[List.findSome?_eq_none_iff];intro k _;cases d:cr m (e9 ((bE w).take k)) with
   |none=>rfl
   |some i=>
    obtain⟨y,n,h1,_⟩:=p d;rw[B y n] at h1;cases h1
  rw[this];rfl
 ·rw[e];obtain⟨x1,F⟩:=h.path x b;have s:bE x.aN<+:bE w:=by
   unfold dx at c;rw[κ,κ,ξa] at c;exact c.2.2
  have C:(bE w).take (bE x.aN).length=bE x.aN:=(ξW.1 s).symm;rw[UR (λk=>cr m (e9 ((bE w).take k))) (k0:=(bE x.aN).length) (i:=x.aY) (by
   show cr m (e9 ((bE w).take (bE x.aN).length))=_;rw[C,aft x1 F,abf h b]) _ s.length_le λk hk G=>by
   show cr m (e9 ((bE w).take k))=none;cases d:cr m (e9 ((bE w).take k)) with
   |none=>rfl
   |some i=>
    obtain⟨y,n,h1,j⟩:=p d;have:=i1 y n h1;rw[e,j,List.length_take] at this;have:(((min k (bE w).length:Nat)):Int)<=((bE x.aN).length:Int):=this;omega]
  rfl
theorem aje (w:Int):GK ab w=some (dI w):=by
 show(EU ab w).val=_;unfold EU dI;simp only[T.az,T.av];have:decide (w>0)=decide (w>=1):=by rw[μ];simp;omega
 rw[this];cases decide (w>=1)<;>rfl
theorem J5 (s:aL) (n:Int):pK ab s n=some (match er s.ak n with|some p=>(p,true)|none=>(0,false)):=by
 have b:CH ab n s.ak=match s.ak.find? (λz=>z.aW==n) with|some z=>some (.inl z.aa)|none=>some (.inr (false,(s.ak.length:Int))):=by
  show bB (λi z a=>(tW ab n s.ak i z a).val) (λi a=>(se ab n s.ak i a).val) 0 s.ak ()=_;rw[jd (p:=λz=>z.aW==n) (e:=λz=>.inl z.aa) λi z _=>by unfold tW;simp only[T.az,T.av]];unfold se;simp only[T.av,ξ3,ρ,decide_false];cases s.ak.find? (λz=>z.aW==n)<;>rfl
 show(EF ab s n).val=_;unfold EF er;simp only[T.aG,T.bw,T.ch,T.av,b];cases s.ak.find? (λz=>z.aW==n)<;>rfl
theorem ai8 {s:aL} (h:ek s) {n:Int} (hn:cz n) (pid:Int):GB ab s n pid=some (match gQ s n pid with| .ok q=>(q,0)| .error e=>(⟨[],[]⟩,e)):=by
 have hlen:=h.len;have u:=ω (λz:au=>decide (z.aW<n)) s.ak;have h1:CI ab n pid s.ak s.an (s.ak.length:Int) 0 []=some (false,(s.ak.length:Int),s.ak.filter λz=>decide (z.aW<n)):=by
  show ct (λa=>(oW ab n pid s.ak s.an (s.ak.length:Int) a).val) 1000000 (0,[])=_;rw[mi (p:=λz=>decide (z.aW<n)) (f:=id) (l:=s.ak) (x:=λa=>(false,(s.ak.length:Int),a)) (λi z a c d=>?_) (λa=>?_) (by omega)]
  ·simp
  ·have hi:=(δ.1 c).1;have m:decide ((i:Int)<(s.ak.length:Int))=true:=decide_eq_true (by omega);have t:ζ.wrap ((i:Int)+1)=((i+1:Nat):Int):=cC (by omega) (by omega);unfold oW;simp only[T.aG,T.az,T.av,m,cond_true,dV c,γ,fZ (n:=0) (b:=16) (z:=z) (i:=i) (a:=a) (by omega) (by omega) (by omega) (by omega),t];cases decide (z.aW<n)<;>rfl
  ·unfold oW;simp only[T.az,T.av,ρ,decide_false,cond_false]
 have j:CJ ab n s.ak s.an ((s.ak.filter λz=>decide (z.aW<n))++[⟨n,pid⟩])=some (false,(s.ak.length:Int),((s.ak.filter λz=>decide (z.aW<n))++[⟨n,pid⟩])++s.ak.filter λz=>decide (z.aW>n)):=by
  show bB (λk z a=>(tX ab n s.ak s.an k z a).val) (λk a=>(sf ab n s.ak s.an k a).val) 0 s.ak _=_;rw[jX (n:=101) (λz:au=>if decide (z.aW>n) then some z else none) (λi z a c d=>?_) (by simp;omega),kx]
  ·unfold sf;simp only[T.av,ρ,decide_false]
  ·have hi:=(δ.1 c).1;unfold tX;simp only[T.aG,T.az,T.av,γ,fZ (b:=16) (z:=z) d (by omega) (by omega) (by omega)];cases decide (z.aW>n)<;>simp
 show(EG ab s n pid).val=_;unfold EG gQ;simp only[T.aG,T.az,T.bw,T.av,J3 hn,aje,J5,γ];cases dv n
 ·rfl
 cases dI pid
 ·rfl
 simp only[ι,cond_false,cond_true];cases hl:er s.ak n with
 |some p=>rfl
 |none=>
  have g:((s.ak.length:Int)==16)=(s.ak.length==16):=by rw[μ];simp;omega
  have d:app 16 (s.ak.filter λz=>decide (z.aW<n)) [au.mk n pid]=some ((s.ak.filter λz=>decide (z.aW<n))++[au.mk n pid]):=fY (n:=1000) (by simp;omega) (by omega);have o:=Ru hl;have r:=Sz (key:=λz:au=>z.aW) (x:=⟨n,pid⟩) (lt:=λy=>decide (y.aW<n)) (p1:=λz=>decide (z.aW<n)) (p2:=λz=>decide (z.aW>n)) h.ja (λz _=>rfl) (λz _=>rfl) λz c=>by
   have:=o z c;rw[μ];simp;omega
  simp only[cond_false,g,h1,γ,d,j];rw[<-r];cases s.ak.length==16
  ·simp
  ·rfl
theorem ai9 {s:aL} (h:ek s) {n p:Int} (hn:cz n) (h1:dv n=true) (d:er s.ak n=some p):GC ab s n=some (mc s n,0):=by
 have hlen:=h.len;have e:CK ab n s.ak s.an (s.ak.length:Int) 0 []=some (false,(s.ak.length:Int),s.ak.filter λz=>!(z.aW==n)):=by
  show ct (λa=>(oX ab n s.ak s.an (s.ak.length:Int) a).val) 1000000 (0,[])=_;rw[mi (p:=λz=>!(z.aW==n)) (f:=id) (l:=s.ak) (x:=λa=>(false,(s.ak.length:Int),a)) (λi z a c k=>?_) (λa=>?_) (by omega)]
  ·simp
  ·have hi:=(δ.1 c).1;have g:decide ((i:Int)<(s.ak.length:Int))=true:=decide_eq_true (by omega);have j:ζ.wrap ((i:Int)+1)=((i+1:Nat):Int):=cC (by omega) (by omega);unfold oX;simp only[T.aG,T.az,T.av,g,cond_true,dV c,γ,bne,fZ (n:=0) (b:=16) (z:=z) (i:=i) (a:=a) (by omega) (by omega) (by omega) (by omega),j];cases z.aW==n<;>rfl
  ·unfold oX;simp only[T.az,T.av,ρ,decide_false,cond_false]
 show(EH ab s n).val=_;unfold EH mc;simp only[T.aG,T.az,T.bw,T.av,J3 hn,J5,h1,d,γ,ι,cond_false,e]
theorem ai0 {s:aL} (h:ek s) (pid:Int):Gw ab s pid=some (hh s pid):=by
 have hlen:=h.len;have c:Cw ab pid s.ak []=some (false,(s.ak.length:Int),hh s pid):=by
  show bB (λi z a=>(tN ab pid s.ak i z a).val) (λi a=>(r6 ab pid s.ak i a).val) 0 s.ak []=_;rw[l7 (p:=λz=>z.aa==pid) (f:=au.aW)]
  ·unfold r6 hh;simp only[T.av,ρ,decide_false]
  ·intro i z a d e;have hi:=(δ.1 d).1;unfold tN;simp only[T.aG,T.az,T.av,γ,fZ (n:=0) (b:=8) (z:=z.aW) (i:=i) (a:=a) (by omega) (by omega) (by omega) (by omega)];cases z.aa==pid<;>rfl
 show(Er ab s pid).val=_;unfold Er;simp only[T.aG,T.bw,T.av,c,γ]
theorem ai_ (s:aL) (pid:Int):vC ab s pid=some (cM s pid):=by
 have b:CL ab pid s.an=match s.an.find? (λz=>z.aa==pid) with|some z=>some (.inl z.bj)|none=>some (.inr (false,(s.an.length:Int))):=by
  show bB (λi z a=>(tY ab pid s.an i z a).val) (λi a=>(sg ab pid s.an i a).val) 0 s.an ()=_;rw[jd (p:=λz=>z.aa==pid) (e:=λz=>.inl z.bj) λi z _=>by unfold tY;simp only[T.az,T.av]];unfold sg;simp only[T.av,ξ3,ρ,decide_false];cases s.an.find? (λz=>z.aa==pid)<;>rfl
 show(EI ab s pid).val=_;unfold EI cM;simp only[T.aG,T.bw,T.ch,T.av,b];cases s.an.find? (λz=>z.aa==pid)<;>rfl
theorem J1 {s:aL} (o:s.an.length<=16) (pid:Int) (ws:Γa):lE ab s pid ws=some (fi s pid ws):=by
 have q:=ω (λz:ar=>decide (z.aa<pid)) s.an;have h1:Cy ab pid ws s.an s.ak (s.an.length:Int) 0 []=some (false,(s.an.length:Int),s.an.filter λz=>decide (z.aa<pid)):=by
  show ct (λa=>(oS ab pid ws s.an s.ak (s.an.length:Int) a).val) 1000000 (0,[])=_;rw[mi (p:=λz=>decide (z.aa<pid)) (f:=id) (l:=s.an) (x:=λa=>(false,(s.an.length:Int),a)) (λi z a d c=>?_) (λa=>?_) (by omega)]
  ·simp
  ·have hi:=(δ.1 d).1;have j:decide ((i:Int)<(s.an.length:Int))=true:=decide_eq_true (by omega);have m:ζ.wrap ((i:Int)+1)=((i+1:Nat):Int):=cC (by omega) (by omega);unfold oS;simp only[T.aG,T.az,T.av,j,cond_true,dV d,γ,fZ (n:=0) (b:=32) (z:=z) (i:=i) (a:=a) (by omega) (by omega) (by omega) (by omega),m];cases decide (z.aa<pid)<;>rfl
  ·unfold oS;simp only[T.az,T.av,ρ,decide_false,cond_false]
 have g: ∀a:List ar,a.length<=101->tf ab pid s.an s.ak a=some (false,(s.an.length:Int),a++s.an.filter λz=>decide (pid<z.aa)):=λa h=>by
  show bB (λk z a=>(tP ab pid s.an s.ak k z a).val) (λk a=>(r8 ab pid s.an s.ak k a).val) 0 s.an _=_;rw[jX (n:=101) (λz:ar=>if decide (pid<z.aa) then some z else none) (λi z a d c=>?_) h,kx]
  ·unfold r8;simp only[T.av,ρ,decide_false]
  ·have hi:=(δ.1 d).1;unfold tP;have e:decide (z.aa>pid)=decide (pid<z.aa):=rfl;simp only[T.aG,T.az,T.av,γ,fZ (b:=32) (z:=z) c (by omega) (by omega) (by omega),e];cases decide (pid<z.aa)<;>simp
 have c:app 32 (s.an.filter λz=>decide (z.aa<pid)) [ar.mk pid ws]=some ((s.an.filter λz=>decide (z.aa<pid))++[ar.mk pid ws]):=fY (n:=1000) (by simp;omega) (by omega);show(Et ab s pid ws).val=_;unfold Et fi;simp only[T.aG,T.az,T.bw,T.av,h1,γ,c,g (s.an.filter λz=>decide (z.aa<pid)) (by omega),g ((s.an.filter λz=>decide (z.aa<pid))++[ar.mk pid ws]) (by simp;omega)];cases ws with
 |nil=>simp
 |cons w r=>
  have:decide ((((w::r:Γa).length:Nat):Int)>0)=true:=decide_eq_true (by simp);rw[this,if_neg (by simp)];simp
@[simp] theorem aiT (a b:List ai):Gg ab a b=some (decide (a=b)):=by
 show(DM ab a b).val=_;unfold DM;simp only[T.az,T.av,T.bw,ik]
 by_cases h:a.length=b.length
 ·rw[decide_eq_true h];exact ib (hM (S:=Dm ab b a) (F:=rP ab b a) (e:=gB) N5 h (by unfold rP;simp) (λi z=>rfl))
 ·rw[decide_eq_false h,hU h];rfl
@[simp] theorem aiW (a b:Γa):Gq ab a b=some (decide (a=b)):=by
 show(Ec ab a b).val=_;unfold Ec;simp only[T.az,T.av,T.bw,ik]
 by_cases h:a.length=b.length
 ·rw[decide_eq_true h];exact ib (hM (S:=Dr ab b a) (F:=rW ab b a) (e:=(λx y=>x==y)) N6 h (by unfold rW;simp) (λi z=>rfl))
 ·rw[decide_eq_false h,hU h];rfl
theorem aiS (a b:br):Gf ab a b=some (decide (a=b)):=by
 show(DL ab a b).val=_;unfold DL;simp only[T.az,T.av,T.bw,ik];obtain⟨g,l⟩:=a;obtain⟨c,l'⟩:=b
 by_cases d:g=c
 ·subst d;have e:decide (br.mk g l=br.mk g l')=decide (l=l'):=by rw[μ];simp
  rw[e];simp only[beq_self_eq_true,ι,cond_false]
  by_cases h:l.length=l'.length
  ·rw[decide_eq_true h];exact ib (hM (S:=Dl ab l g l') (F:=rO ab l g l') (e:=fl) N9 h (by unfold rO;simp) (λi z=>rfl))
  ·rw[decide_eq_false h,hU h];rfl
 ·have e:decide (br.mk g l=br.mk c l')=false:=decide_eq_false (by simp[d]);have f:(g==c)=false:=by simp[d]
  rw[e,f];rfl
theorem aiU (a b:bz):Gi ab a b=some (decide (a=b)):=by
 show(DN ab a b).val=_;unfold DN;simp only[T.az,T.av,T.bw,ik];obtain⟨l,g⟩:=a;obtain⟨l',c⟩:=b
 by_cases d:g=c
 ·subst d;have e:decide (bz.mk l g=bz.mk l' g)=decide (l=l'):=by rw[μ];simp
  rw[e];simp only[bne_self_eq_false,cond_false]
  by_cases h:l.length=l'.length
  ·rw[decide_eq_true h];exact ib (hM (S:=Dn ab l l' g) (F:=rQ ab l l' g) (e:=h_) N7 h (by unfold rQ;simp) (λi z=>rfl))
  ·rw[decide_eq_false h,hU h];rfl
 ·have e:decide (bz.mk l g=bz.mk l' c)=false:=decide_eq_false (by simp[d]);have f:(g !=c)=true:=by simp[d]
  rw[e,f];rfl
theorem aiV (a b:aL):Gj ab a b=some (decide (a=b)):=by
 show(DO ab a b).val=_;unfold DO;rw[Ps];simp only[T.az,T.av,T.bw,ik]
 by_cases h:a.ak.length=b.ak.length
 rotate_left
 ·rw[decide_eq_false h,hU h];rfl
 by_cases c:a.an.length=b.an.length
 rotate_left
 ·rw[decide_eq_true h,decide_eq_false c,hU c,ζu];rfl
 rw[decide_eq_true h,decide_eq_true c];simp only[ι,cond_false,T.aG];have d:B6 ab a.ak a.an b.ak b.an=_:=hM (S:=Dp ab a.ak a.an b.ak b.an) (F:=rS ab a.ak a.an b.ak b.an) (m:=b.ak) (e:=ia) N8 h (by unfold rS;simp) (λi z=>rfl);have f:B5 ab a.an b.ak b.an=_:=hM (S:=tA ab a.an b.ak b.an) (F:=rR ab a.an b.ak b.an) (m:=b.an) (e:=mX) N4 c (by unfold rR;simp) (λi z=>by
  unfold tA mX;simp only[T.aG,T.az,T.av,aiW,γ];cases idx b.an i with
  |none=>rfl
  |some y=>
   simp only[γ];cases h:z.aa==y.aa<;>simp[bne,h])
 rw[d];cases decide (a.ak=b.ak) with
 |false=>rfl
 |true=>
  simp only[cond_true,γ,T.ch,T.bw,ξi];exact ib f
theorem u91 (a b:aZ):vL ab a b=some (decide (a=b)):=by
 show(Fl ab a b).val=_;unfold Fl;rw[Uf];simp only[T.az,T.av,T.aG,aiS,aiT,aiU,aiV,γ];cases decide (a.ax=b.ax)<;>cases decide (a.aI=b.aI)<;>cases decide (a.aC=b.aC)<;>rfl
theorem Ux (s:aZ) (pid:Int):u0 ab s pid=some (b1 s.ax.ae pid):=by
 show(DJ ab s pid).val=_;unfold DJ;simp only[T.aG,T.av,yF,γ]
theorem aiR (c:b3):Ge ab c=some (hv c):=by
 show(DI ab c).val=_;unfold DI hv;simp only[T.az,T.av];cases c.aQ==9<;>rfl
theorem UD {a:Int} (b:cz a):pI ab a=some (if a<8 then a else -1):=by
 show(Ey ab a).val=_;unfold Ey;simp only[T.az,T.av]
 by_cases h:a<8
 ·rw[decide_eq_false (by omega),if_pos h,cC (by have:=b.1;omega) (by omega)];rfl
 ·rw[decide_eq_true (by omega),if_neg h];rfl
theorem O_ {l:List ai} (h:eG l) {p a:Int} (g:cz a):cB l p (if a<8 then a else -1)=cB l p a:=by
 by_cases b:a<8
 ·rw[if_pos b]
 ·have c:=Im (p:=p) h (show 8<=a by omega);rw[if_neg b,c];rcases nq l p (-1) with⟨_,e⟩|⟨i,d,_,f,_,_,e⟩
  ·exact e
  ·have:=pS h d (ν f);omega
theorem NU {α:Type} {l:List α} {i:Nat} (h:i<=l.length):dF l (some (i:Int)) none none=some (l.drop i):=by
 unfold dF;simp only[ξI,ξ9];rw[if_pos ⟨by omega,by omega,by omega,by omega,by omega,by simp⟩,θ,θ,List.take_length]
def Ends (f:Option (aZ×Int×Int)) (r:fj (aZ×Int)):Prop:= ∃n v e,f=some (n,v,e)/\match r with| .ok x=>(n,v)=x/\e=0| .error a=>e=a
section
variable {s:aZ} {c:b3} {p a b:Int}
theorem ab3 (h:dn s) (hk:c.aQ=1\/c.aQ=2\/c.aQ=3) (j:b1 s.ax.ae (ao c.fArgs 0)=true):Ends (Gk ab s c) (fb s c.aQ (ao c.fArgs 0) (ao c.fArgs 1) (ao c.fArgs 2)):=by
 show Ends (D9 ab s c).val _;have g:=h.lb;unfold D9 fb;generalize ao c.fArgs 0=p at*
 generalize ao c.fArgs 1=a at*
 rcases hk with e|e|e<;>simp only[e,T.az,T.av,T.aG,ξz,ξH,cond_true,cond_false,if_true,if_false]
 ·simp only[aiX h.p,γ];cases hz s.ax p with
  |error x=>exact⟨_,_,_,rfl,rfl⟩
  |ok x=>exact⟨_,_,_,rfl,rfl,rfl⟩
 ·simp only[aiZ h.p,ai0 h.i,ai1 h.d,J1 g,γ];cases f:hd s.ax p a with
  |error x=>
   simp only[gC (F' f),cond_false];exact⟨_,_,_,rfl,rfl⟩
  |ok x=>
   simp only[show((0:Int)==0)=true from rfl,cond_true]
   by_cases b:hh s.aw p=[]
   ·rw[if_pos b,b];exact⟨_,_,_,rfl,rfl,rfl⟩
   ·have:decide (((hh s.aw p).length:Int)>0)=true:=decide_eq_true (by have:=ζf.2 b;omega);rw[if_neg b,this];exact⟨_,_,_,rfl,rfl⟩
 ·simp only[aiY h.p,γ];cases hB s.ax p a with
  |error x=>exact⟨_,_,_,rfl,rfl⟩
  |ok x=>exact⟨_,_,_,rfl,rfl,rfl⟩
theorem US (h:eH s.aC) {w i:Int} (e:jl s.aC w=some i):(i==0)=false:=by
 obtain⟨u,_,hu⟩:=ξk e;have:=HJ h hu;simp;omega
theorem Sf {l:List ai} {p x:Int} {y:List ai×Int} (e:fG l p x= .ok y):τ.wrap y.2=y.2:=by
 obtain⟨l',v⟩:=y;obtain⟨i,a,_,rfl,_⟩:=qZ e;have:=(pX a).1;exact gm (by omega) (by omega)
theorem ab4 (h:dn s) (F:gY c) (hk:c.aQ=4\/c.aQ=5\/c.aQ=6) (I:b1 s.ax.ae (ao c.fArgs 0)=true):Ends (Gl ab s c) (fb s c.aQ (ao c.fArgs 0) (ao c.fArgs 1) (ao c.fArgs 2)):=by
 show Ends (D_ ab s c).val _;have g:=F.a;have hlen:=h.d.len;have hp:=(je h.p ((hy h.p.ord).1 I)).2.1;unfold D_ fb;generalize ao c.fArgs 0=p at*
 generalize ao c.fArgs 1=a at*
 rcases hk with e|e|e<;>simp only[e,T.az,T.av,T.aG,ξz,ξH,cond_true,cond_false,if_true,if_false]
 ·unfold fx;simp only[xO g,γ];cases hw:b2 a
  ·exact⟨_,_,_,rfl,rfl⟩
  simp only[ι,cond_false,cond_true,UB h.m g hw,γ];cases hu:jl s.aC a with
  |none=>exact⟨_,_,_,rfl,rfl⟩
  |some i=>
   simp only[ξ9,US h.m hu,cond_false,UC h.d hp,γ];cases o:fG s.aI p i with
   |error x=>exact⟨_,_,_,rfl,rfl⟩
   |ok y=>
    have:=Sf o;exact⟨_,_,_,rfl,by rw[this],rfl⟩
 ·unfold gy;simp only[UD g,yG,γ];rw[<-O_ h.d g];obtain⟨n,hn⟩: ∃n,n=if a<8 then a else -1:=⟨_,rfl⟩;rw[<-hn];rcases nq s.aI p n with⟨b,f⟩|⟨i,d,b,k,f,o,q⟩
  ·rw[b,f];exact⟨_,_,_,rfl,rfl⟩
  ·have hi:=(δ.1 k).1;have r:decide ((i:Int)<0)=false:=decide_eq_false (by omega);have hw:ζ.wrap ((i:Int)+1)=((i+1:Nat):Int):=cC (by omega) (by omega);have D:app 24 ([]:List ai) (s.aI.take i)=some (s.aI.take i):=fY (n:=1000) (by simp;omega) (by omega);have E:app 24 (s.aI.take i) (s.aI.drop (i+1))=some (s.aI.take i++s.aI.drop (i+1)):=fY (n:=1000) (by simp;omega) (by omega);have G:=abN (p:=λd=>d.aa==p&&d.bo==a) k (by
    have H:=pS h.d d (ν k);have:n=a:=by
     by_cases w:a<8
     ·rw[hn,if_pos w]
     ·rw[hn,if_neg w] at q;omega
    rw[o,q,this];simp) λj y t B=>by
    have z:=(δ.1 t).1;have u:s.aI[i]=d:=(δ.1 k).2;have v:s.aI[j]=y:=(δ.1 t).2;have H:=pS h.d d (ν k);have B:y.aa=p/\y.bo=a:=by simpa using B
    have J:=pS h.d y (ν t);have:n=a:=by
     rw[hn,if_pos (by omega)]
    have A:=ξ2.1 h.d.ord;rcases ζk j i with l|l|l
    ·have:=A j i z hi l;rw[u,v,iD] at this;omega
    ·exact l
    ·have:=A i j hi z l;rw[u,v,iD] at this;omega
   rw[b,f];simp only[r,cond_false,γ,FT (show i<=s.aI.length by omega),D,hw,ξJ,NU (show i+1<=s.aI.length by omega),E];exact⟨_,_,_,rfl,by rw[G],rfl⟩
 ·unfold fO;simp only[UD g,yG,γ];rw[<-O_ h.d g];obtain⟨n,hn⟩: ∃n,n=if a<8 then a else -1:=⟨_,rfl⟩;rw[<-hn];rcases nq s.aI p n with⟨b,f⟩|⟨i,d,b,k,f,o,q⟩
  ·rw[b,f];exact⟨_,_,_,rfl,rfl⟩
  ·have r:decide ((i:Int)<0)=false:=decide_eq_false (by omega);rw[b];simp only[r,cond_false,ai3 h.d hp,γ];unfold fO;simp only[f];cases C:fG s.aI p d.b' with
   |error x=>exact⟨_,_,_,rfl,rfl⟩
   |ok y=>
    have:=Sf C;exact⟨_,_,_,rfl,by rw[this],rfl⟩
theorem ab5 (h:dn s) (g:gY c) (hk:c.aQ=7\/c.aQ=8\/c.aQ=9):Ends (Gm ab s c) (fb s c.aQ (ao c.fArgs 0) (ao c.fArgs 1) (ao c.fArgs 2)):=by
 show Ends (D' ab s c).val _;have f:=g.a;unfold D' fb;generalize ao c.fArgs 0=p at*
 generalize ao c.fArgs 1=a at*
 rcases hk with e|e|e<;>simp only[e,T.az,T.av,T.aG,ξz,ξH,cond_true,cond_false,if_true,if_false,xO f,γ]
 ·cases hw:b2 a
  ·unfold gu;rw[hw];exact⟨_,_,_,rfl,rfl⟩
  simp only[ι,cond_false,ai4 h.m hw,γ];cases gu s.aC a with
  |error x=>exact⟨_,_,_,rfl,rfl⟩
  |ok x=>exact⟨_,_,_,rfl,rfl,rfl⟩
 ·unfold im;cases hw:b2 a
  ·exact⟨_,_,_,rfl,rfl⟩
  simp only[ι,cond_false,cond_true,ai5 h.m f hw,J2,ai6 h.d,γ];unfold hA;rw[hw];cases hi:cr s.aC a with
  |none=>exact⟨_,_,_,rfl,rfl⟩
  |some i=>
   simp only[cond_true,ξ9];cases hL s.aC a
   ·simp only[cond_false,show((0:Int)==0)=true from rfl,cond_true]
    by_cases b:hb s.aI i=0
    ·have:decide ((hb s.aI i:Int)>0)=false:=decide_eq_false (by omega);rw[if_pos b,this];exact⟨_,_,_,rfl,rfl,rfl⟩
    ·have:decide ((hb s.aI i:Int)>0)=true:=decide_eq_true (by omega);rw[if_neg b,this];exact⟨_,_,_,rfl,rfl⟩
   ·by_cases b:hb s.aI i=0
    ·rw[if_pos b];exact⟨_,_,_,rfl,rfl⟩
    ·rw[if_neg b];exact⟨_,_,_,rfl,rfl⟩
 ·unfold fx;cases hw:b2 a
  ·exact⟨_,_,_,rfl,rfl⟩
  simp only[ι,cond_false,cond_true,UB h.m f hw,γ];cases hu:jl s.aC a with
  |none=>exact⟨_,_,_,rfl,rfl⟩
  |some i=>
   simp only[ξ9,US h.m hu,cond_false];exact⟨_,_,_,rfl,rfl,rfl⟩
theorem ab6 (h:dn s) (f:gY c) (hk:c.aQ=10\/c.aQ=11\/c.aQ=12):Ends (Gn ab s c) (fb s c.aQ (ao c.fArgs 0) (ao c.fArgs 1) (ao c.fArgs 2)):=by
 show Ends (Ea ab s c).val _;have d:=f.a;unfold Ea fb;generalize ao c.fArgs 0=p at*
 generalize ao c.fArgs 1=a at*
 rcases hk with e|e|e<;>simp only[e,T.az,T.av,T.aG,ξz,ξH,cond_true,cond_false,if_true,if_false,J3 d,J5,γ]
 ·cases hw:dv a
  ·unfold gQ;rw[hw];exact⟨_,_,_,rfl,rfl⟩
  simp only[ι,cond_false,ai8 h.i d,γ];cases gQ s.aw a p with
  |error x=>exact⟨_,_,_,rfl,rfl⟩
  |ok x=>exact⟨_,_,_,rfl,rfl,rfl⟩
 ·unfold fP;cases hw:dv a
  ·exact⟨_,_,_,rfl,rfl⟩
  cases hl:er s.aw.ak a with
  |none=>exact⟨_,_,_,rfl,rfl⟩
  |some q=>
   simp only[ι,cond_false,cond_true]
   by_cases b:q=p
   ·have:(q !=p)=false:=by simpa using b
    rw[if_pos b,this];simp only[cond_false,ai9 h.i d hw hl,γ];exact⟨_,_,_,rfl,rfl,rfl⟩
   ·have:(q !=p)=true:=by simpa using b
    rw[if_neg b,this];exact⟨_,_,_,rfl,rfl⟩
 ·unfold fP;cases hw:dv a
  ·exact⟨_,_,_,rfl,rfl⟩
  cases hl:er s.aw.ak a with
  |none=>exact⟨_,_,_,rfl,rfl⟩
  |some q=>exact⟨_,_,_,rfl,rfl,rfl⟩
theorem ab7 (h:dn s) (hk:c.aQ=13\/c.aQ=14):Ends (Gp ab s c) (fb s c.aQ (ao c.fArgs 0) (ao c.fArgs 1) (ao c.fArgs 2)):=by
 show Ends (Eb ab s c).val _;have g:=h.lb;unfold Eb fb;generalize ao c.fArgs 0=p at*
 generalize ao c.fArgs 1=a at*
 generalize ao c.fArgs 2=b at*
 rcases hk with e|e<;>simp only[e,T.az,T.av,T.aG,ξz,ξH,cond_true,cond_false,if_true,if_false,Ux,ai_,γ]
 ·cases b1 s.ax.ae a
  ·exact⟨_,_,_,rfl,rfl⟩
  have hl:=rD h.i a;have f:(((cM s.aw a).length:Int)==4)=((cM s.aw a).length==4):=by rw[μ];simp;omega
  have d:app 8 ([]:Γa) (cM s.aw a)=some (cM s.aw a):=fY (n:=1000) (by simp;omega) (by omega);have a2:app 8 (cM s.aw a) [b]=some (cM s.aw a++[b]):=fY (n:=1000) (by simp;omega) (by omega);unfold j0;simp only[ι,cond_false,cond_true,f,d,a2,γ,J1 g];cases (cM s.aw a).length==4
  ·exact⟨_,_,_,rfl,rfl,rfl⟩
  ·exact⟨_,_,_,rfl,rfl⟩
 ·have hl:=rD h.i p;unfold jS;cases hw:cM s.aw p with
  |nil=>exact⟨_,_,_,rfl,rfl⟩
  |cons w r=>
   rw[hw] at hl;have f:((((w::r:Γa).length:Nat):Int)==0)=false:=by simp;omega
   have c1:dF (w::r) (some (1:Int)) none none=some r:=NU (l:=w::r) (i:=1) (by simp);have d:app 8 ([]:Γa) r=some r:=fY (n:=1000) (by simp at hl ⊢;omega) (by omega);have i1:idx (w::r) 0=some w:=dV (i:=0) rfl;simp only[f,cond_false,c1,d,γ,J1 g,i1];exact⟨_,_,_,rfl,rfl,rfl⟩
theorem u90 (h:dn s) (k:gY c):G9 ab s c=some (gA s c):=by
 show(Fk ab s c).val=_;unfold Fk gA kj
 by_cases h1:1<=c.aQ
 rotate_left
 ·rw[T.az,decide_eq_true (by omega),if_neg (by omega)];rfl
 by_cases w:c.aQ<=14
 rotate_left
 ·rw[T.az,decide_eq_false (by omega),cond_false,T.az,decide_eq_true (by omega),if_neg (by omega)];rfl
 rw[T.az,decide_eq_false (by omega),cond_false,T.az,decide_eq_false (by omega),cond_false,if_pos ⟨h1,w⟩];have key:(hv c=true\/b1 s.ax.ae (ao c.fArgs 0)=true)->Ends (pE ab s c) (fb s c.aQ (ao c.fArgs 0) (ao c.fArgs 1) (ao c.fArgs 2)):=by
  intro a;have a:c.aQ=9\/c.aQ=12\/b1 s.ax.ae (ao c.fArgs 0)=true:=by
   rcases a with a|a
   ·unfold hv at a;rw[ζn,beq_iff_eq,beq_iff_eq] at a;rcases a with a|a
    ·exact .inl a
    ·exact .inr (.inl a)
   ·exact .inr (.inr a)
  have fin: ∀ {f g:Option (aZ×Int×Int)} {r:fj (aZ×Int)},Ends g r->f=(g.bind λy=>some (y.1,y.2.1,y.2.2))->Ends f r:=λ{f g r} ⟨n,v,e,j,b⟩ z=>⟨n,v,e,by rw[z,j];rfl,b⟩;show Ends (DK ab s c).val _;unfold DK
  by_cases d:c.aQ<=3
  ·exact fin (ab3 h (by omega) (by rcases a with a|a|a;omega;omega;exact a)) (by rw[T.az,decide_eq_true d,cond_true,T.aG];rfl)
  by_cases i:c.aQ<=6
  ·exact fin (ab4 h k (by omega) (by rcases a with a|a|a;omega;omega;exact a)) (by rw[T.az,decide_eq_false d,cond_false,T.az,decide_eq_true i,cond_true,T.aG];rfl)
  by_cases m:c.aQ<=9
  ·exact fin (ab5 h k (by omega)) (by rw[T.az,decide_eq_false d,cond_false,T.az,decide_eq_false i,cond_false,T.az,decide_eq_true m,cond_true,T.aG];rfl)
  by_cases o:c.aQ<=12
  ·exact fin (ab6 h k (by omega)) (by rw[T.az,decide_eq_false d,cond_false,T.az,decide_eq_false i,cond_false,T.az,decide_eq_false m,cond_false,T.az,decide_eq_true o,cond_true,T.aG];rfl)
  ·exact fin (ab7 h (by omega)) (by rw[T.az,decide_eq_false d,cond_false,T.az,decide_eq_false i,cond_false,T.az,decide_eq_false m,cond_false,T.az,decide_eq_false o,cond_false,T.aG];rfl)
 have tail: ∀ {t:T (aZ×cu)},(t= .bd (pE ab s c) λy=>.bf (y.2.2 !=0) (.ok (s,⟨y.2.2,0⟩))<|.ok (y.1,⟨0,y.2.1⟩))->(hv c=true\/b1 s.ax.ae (ao c.fArgs 0)=true)->t.val=some (match fb s c.aQ (ao c.fArgs 0) (ao c.fArgs 1) (ao c.fArgs 2) with| .ok (n,v)=>(n,⟨0,v⟩)| .error e=>(s,⟨e,0⟩)):=λ{t} C a=>by
  obtain⟨n,v,e,j,b⟩:=key a;rw[C];simp only[T.aG,T.az,T.av,j,γ];cases l:fb s c.aQ (ao c.fArgs 0) (ao c.fArgs 1) (ao c.fArgs 2) with
  |ok x=>
   rw[l] at b;obtain⟨q,u⟩:=b;cases q;subst u;rfl
  |error p=>
   rw[l] at b;have b:e=p:=b;subst b;have:(e !=0)=true:=by simpa using F5 (PE l)
   simp only[this,cond_true]
 rw[T.aG,aiR,γ,T.az];cases A:hv c
 ·rw[ο,cond_true,T.aG,Ux,γ,T.az];cases B:b1 s.ax.ae (ao c.fArgs 0)
  ·rfl
  ·rw[ι,cond_false];exact(tail rfl (.inr B)).trans (by simp only[ξn,cond_true];rfl)
 ·rw[ι,cond_false];exact(tail rfl (.inl A)).trans (by simp only[ζz,cond_true];rfl)
end
end Go.Proofs.YtoggponeookhbaaGreatDoor
end
