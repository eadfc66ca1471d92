/- A part of the proof that OrderOne returns true for every input: the machine of values, its soundness, the program as plain functions, the law. Conditions: those of the given rows. -/
import Derived.Test.YtoggponeookhbaaGreatDoorQ5
import Derived.ProofKit
import Derived.OpenShut
import Derived.Lib.LaidTab
import Derived.Test.YtoggponeookhbaaGreatDoorCards
import Derived.Test.YtoggponeookhbaaGreatDoorTie
import Derived.Deep.DeepHandedRow
import Derived.Deep.DeepWitnessRowRef
import Derived.JoinedCond
set_option linter.unusedVariables false
set_option linter.unusedSimpArgs false
noncomputable section
set_option maxRecDepth 1000000
set_option maxHeartbeats 12000000
open Bool renaming not_true→ξ6,false_eq_true→ξo
open Go.Cell renaming okWide→ξH
open Go.DataW renaming TrodAll→ξq,trod→ξD
open Go.IntKind renaming i64→δ,u64→ι
open Go.MemPlace renaming row→ξF
open Go.OpenSpec renaming ofChange→ξe
open Go.Proofs.Tryz renaming prog→ε,f6→ξ2,func6→ξu,params6→ξv,checked→ξw,underlying4→ξz,f15→ξI
open Go.Proofs.YtoggponeookhbaaGreatDoor.Rows renaming orderOneSpec→υ,laid_afterglow_proc_first→ξ1,orderOneRow→ξ3
open Go.Proofs.YtoggponeookhbaaGreatDoor.Tryz renaming pinned→ξn
open Go.Value renaming okWide→ψ,cells→ξm
open Go.World renaming frozen?→ξE
open Int renaming toNat_natCast→θ
open List renaming getElem?_eq_none_iff→ζ,getElem?_eq_getElem→η,getElem?_eq_some_iff→κ,mem_append_left→μ,range_succ→ν,append_nil→ξ,flatMap_singleton→ο,range→ρ,getElem?_map→τ,flatMap_append→φ,mem_append_right→χ,mem_cons_self→ω,mem_cons_of_mem→ξ4,mem_of_getElem?→ξ5,map_append→ξ7,getElem?_range→ξ8,mem_range→ξb,flatMap_cons→ξc,ext_getElem?→ξd,mem_cons→ξg,take_of_length_le→ξh,map_congr_left→ξl,length_append→ξp,append_assoc→ξs,getElem?_set→ξt,mem_flatMap→ξx,getElem_mem→ξy,not_mem_nil→ξA,length_map→ξB
open List.Pairwise renaming filter→ξG,map→ξJ
open Nat renaming le_of_lt→ξ0,eq_zero_or_pos→ξ9,le_refl→ξf,lt_or_ge→ξi,zero_add→ξk,lt_trichotomy→ξr
open Option renaming bind_some→γ,toList_none→ξa,map_some→ξC,map→ξK
open Option.some renaming inj→ξj
section
namespace Go.Proofs.YtoggponeookhbaaGreatDoor
open Go.RowKit Go.Dc Go.Vx
variable {c:Nat->bR} {N:Nat} {r:Nat->cF}
theorem ahK {i j:Nat} (h:bJ c i<bJ c j):i<j:=by
 rcases ξi i j with U|U
 ·exact U
 ·have:=mL (c:=c) U;omega
noncomputable def sD (c:Nat->bR) (N:Nat) (r:Nat->cF) (i a:Nat):=(pr ab (cj c N) (ss c N) ((bJ c N+1:Nat):Int) (hD c N r) (dn c i (r i)).eU (dn c i (r i)).ed.bP (dn c i (r i)).ed.fArgs (dn c i (r i)).dd.db (dn c i (r i)).dd.dI (dn c i (r i)).cN (dn c i (r i)).b9 (dn c i (r i)).cV (a:Int)).val
theorem Fl {i:Nat} {q:cF}:(ax.mk (dn c i q).eU (bR.mk (dn c i q).ed.bP (dn c i q).ed.fArgs) (cF.mk (dn c i q).dd.db (dn c i q).dd.dI) (dn c i q).cN (dn c i q).b9 (dn c i q).cV)=dn c i q:=rfl
theorem E_ {a:Nat} (h0:0<a) (ha:a<=bJ c N): ∃k:Nat,(cj c N)[a-1]? =some (k:Int)/\k<N/\ch c k=true/\bJ c k=a-1:=by
 have hx:(cj c N)[a-1]? =some ((cj c N)[a-1]'(by rw[gI];omega)):=η (by rw[gI];omega);obtain⟨k,e,U,h2,h3⟩:=yO hx;exact⟨k,by rw[hx,e],U,h2,h3⟩
theorem Mc {a:Nat} (ha:a<bJ c N): ∃k:Nat,(cj c N)[a]? =some (k:Int)/\k<N/\ch c k=true/\bJ c k=a:=E_ (a:=a+1) (by omega) ha
theorem LY {k i:Nat} (hk:ch c k=true) (h:bJ c k<bJ c i):k<i:=ahK h
theorem Vb {k i:Nat} (hk:ch c k=true) (hi:ch c i=false) (h:bJ c i<=bJ c k):i<k:=by
 rcases ξr i k with U|U|U
 ·exact U
 ·subst U;rw[hk] at hi;cases hi
 ·have:=mL (c:=c) (show k+1<=i from U);rw[tl,hk] at this;simp at this;omega
theorem aa0 (hN:N<=12) {i a:Nat} (hi:i<N) (ha:a<bJ c i):sD c N r i a=some (.inl ((a+1:Nat):Int)):=by
 have hm:=mL (c:=c) (ξ0 hi);have hl:=nz (c:=c) N;obtain⟨k,lK,eY,qk,X2⟩:=Mc (c:=c) (N:=N) (a:=a) (by omega);have qm:=LY qk (show bJ c k<bJ c i by omega);have e1:decide ((a:Int)<((bJ c N+1:Nat):Int))=true:=decide_eq_true (by omega);have e2:decide ((a:Int)<((cj c N).length:Int))=true:=decide_eq_true (by rw[gI];omega);have e3:decide ((dn c k (r k)).b9<(dn c i (r i)).cN)=true:=decide_eq_true (by rw[mM qk,tw];omega);unfold sD pr;rcases ξ9 a with h0|h0
 ·subst h0;simp only[T.aR,T.bh,T.aM,e1,cond_true,e2,iD lK,kC eY,γ,e3];rw[show decide (((0:Nat):Int)>0)=false from rfl,cond_false,pj (by omega)]
 ·have e4:decide ((a:Int)>0)=true:=decide_eq_true (by omega);obtain⟨k',g1,g2,g3,g4⟩:=E_ (c:=c) (N:=N) h0 (by omega);have X3:=LY g3 (show bJ c k'<bJ c i by omega);have e5:decide ((dn c k' (r k')).b9>(dn c i (r i)).cV)=false:=decide_eq_false (by rw[mM g3,pF];omega);simp only[T.aR,T.bh,T.aM,e1,cond_true,e4,xS h0 (show a<=1000000 by omega),iD g1,kC g2,e5,cond_false,e2,iD lK,kC eY,γ,e3];rw[pj (by omega)]
theorem apU (hc: ∀i,fZ (c i)) (hN:N<=12) (hg:kB c N r) {i:Nat} (hi:i<N) (c8:ch c i=false):sD c N r i (bJ c i)=bif fit c i (r i) then some (.inr (.inl (bJ c i:Int))) else some (.inl ((bJ c i+1:Nat):Int)):=by
 have hm:=mL (c:=c) (ξ0 hi);have hl:=nz (c:=c) N;obtain⟨q1,q2⟩:=hg i hi;have e1:decide ((bJ c i:Int)<((bJ c N+1:Nat):Int))=true:=decide_eq_true (by omega);have Hk:=iD (BG (c:=c) (ξ0 hi));have fL:decide (sq c (i+1)=sq c i)=true:=decide_eq_true (R9 c8);have hw:=pj (j:=bJ c i) (by omega);have Wr:(decide ((bJ c i:Int)<((cj c N).length:Int))=false)\/(decide ((bJ c i:Int)<((cj c N).length:Int))=true/\ ∃k:Nat,(cj c N)[bJ c i]? =some (k:Int)/\k<N/\decide ((dn c k (r k)).b9<(dn c i (r i)).cN)=false):=by
  rcases ξi (bJ c i) (bJ c N) with h|h
  ·obtain⟨k,lK,eY,qk,X2⟩:=Mc h;have:=Vb qk c8 (Nat.le_of_eq X2.symm);exact .inr ⟨decide_eq_true (by rw[gI];omega),k,lK,eY,decide_eq_false (by rw[mM qk,tw];omega)⟩
  ·exact .inl (decide_eq_false (by rw[gI];omega))
 unfold sD pr;rcases ξ9 (bJ c i) with h0|h0
 ·have e4:decide ((bJ c i:Int)>0)=false:=decide_eq_false (by omega);rcases Wr with e2|⟨e2,k,lK,eY,e3⟩
  ·simp only[T.aR,T.bh,T.aM,e1,e4,e2,cond_true,cond_false,Hk,γ,Fl,wo hc q1 q2,v12,fL,hw]
  ·simp only[T.aR,T.bh,T.aM,e1,e4,e2,e3,cond_true,cond_false,Hk,iD lK,kC eY,γ,Fl,wo hc q1 q2,v12,fL,hw]
 ·have e4:decide ((bJ c i:Int)>0)=true:=decide_eq_true (by omega);obtain⟨k',g1,g2,g3,g4⟩:=E_ (c:=c) (N:=N) h0 (by omega);have X3:=LY g3 (show bJ c k'<bJ c i by omega);have e5:decide ((dn c k' (r k')).b9>(dn c i (r i)).cV)=false:=decide_eq_false (by rw[mM g3,pF];omega);have hp:=xS h0 (show bJ c i<=1000000 by omega);rcases Wr with e2|⟨e2,k,lK,eY,e3⟩
  ·simp only[T.aR,T.bh,T.aM,e1,e4,e2,hp,iD g1,kC g2,e5,cond_true,cond_false,Hk,γ,Fl,wo hc q1 q2,v12,fL,hw]
  ·simp only[T.aR,T.bh,T.aM,e1,e4,e2,hp,iD g1,kC g2,e5,e3,cond_true,cond_false,Hk,iD lK,kC eY,γ,Fl,wo hc q1 q2,v12,fL,hw]
theorem apW (hN:N<=12) {i a:Nat} (c8:ch c i=false) (ha:bJ c i<a) (N7:a<=bJ c N):sD c N r i a=some (.inl ((a+1:Nat):Int)):=by
 have hl:=nz (c:=c) N;have h0:0<a:=by omega
 have e1:decide ((a:Int)<((bJ c N+1:Nat):Int))=true:=decide_eq_true (by omega);have e4:decide ((a:Int)>0)=true:=decide_eq_true (by omega);obtain⟨k',g1,g2,g3,g4⟩:=E_ (c:=c) (N:=N) h0 N7;have X3:=Vb g3 c8 (by omega);have e5:decide ((dn c k' (r k')).b9>(dn c i (r i)).cV)=true:=decide_eq_true (by rw[mM g3,pF];omega);unfold sD pr;simp only[T.aR,T.bh,T.aM,e1,cond_true,e4,xS h0 (show a<=1000000 by omega),iD g1,kC g2,e5,γ,pj (show a<=1000000 by omega)]
theorem apV {i:Nat}:sD c N r i (bJ c N+1)=some (.inr (.inr (false,((bJ c N+1:Nat):Int)))):=by
 have e1:decide (((bJ c N+1:Nat):Int)<((bJ c N+1:Nat):Int))=false:=decide_eq_false (by omega);unfold sD pr;simp only[T.aR,T.aM,e1,cond_false]
theorem w34 (hc: ∀i,fZ (c i)) (hN:N<=12) (hg:kB c N r) {i:Nat} (hi:i<N) (c8:ch c i=false):MR ab ⟨hD c N r⟩ (cj c N) (ss c N) (dn c i (r i))=some (bif fit c i (r i) then((bJ c i:Int),true) else(0,false)):=by
 show(Ez ab ⟨hD c N r⟩ (cj c N) (ss c N) (dn c i (r i))).val=_;unfold Ez;have hl:=nz (c:=c) N;have hm:=mL (c:=c) (ξ0 hi);have hw:δ.wrap (((cj c N).length:Int)+1)=((bJ c N+1:Nat):Int):=by rw[gI];exact pj (by omega)
 simp only[T.cE,T.bh,T.dU,T.aM];rw[hw];have pW:=apU (r:=r) hc hN hg hi c8;cases hf:fit c i (r i) with
 |true=>
  rw[hf] at pW;have hL:dv (λa=>(pr ab (cj c N) (ss c N) ((bJ c N+1:Nat):Int) (hD c N r) (dn c i (r i)).eU (dn c i (r i)).ed.bP (dn c i (r i)).ed.fArgs (dn c i (r i)).dd.db (dn c i (r i)).dd.dI (dn c i (r i)).cN (dn c i (r i)).b9 (dn c i (r i)).cV a).val) 1000000 ((0:Nat):Int)=some (.inl (bJ c i:Int)):=
   xP (st:=λj=>(j:Int)) (n:=bJ c i) (λj hj=>aa0 hN hi hj) pW (by omega)
  have tL:Db ab (cj c N) (ss c N) ((bJ c N+1:Nat):Int) (hD c N r) (dn c i (r i)).eU (dn c i (r i)).ed.bP (dn c i (r i)).ed.fArgs (dn c i (r i)).dd.db (dn c i (r i)).dd.dI (dn c i (r i)).cN (dn c i (r i)).b9 (dn c i (r i)).cV 0=_:=hL;rw[tL];rfl
 |false=>
  rw[hf] at pW;have hL:dv (λa=>(pr ab (cj c N) (ss c N) ((bJ c N+1:Nat):Int) (hD c N r) (dn c i (r i)).eU (dn c i (r i)).ed.bP (dn c i (r i)).ed.fArgs (dn c i (r i)).dd.db (dn c i (r i)).dd.dI (dn c i (r i)).cN (dn c i (r i)).b9 (dn c i (r i)).cV a).val) 1000000 ((0:Nat):Int)=some (.inr (false,((bJ c N+1:Nat):Int))):=
   xP (st:=λj=>(j:Int)) (n:=bJ c N+1) (λj hj=>by
    rcases ξr j (bJ c i) with h|h|h
    ·exact aa0 hN hi h
    ·subst h;exact pW
    ·exact apW hN c8 h (by omega)) apV (by omega)
  have tL:Db ab (cj c N) (ss c N) ((bJ c N+1:Nat):Int) (hD c N r) (dn c i (r i)).eU (dn c i (r i)).ed.bP (dn c i (r i)).ed.fArgs (dn c i (r i)).dd.db (dn c i (r i)).dd.dI (dn c i (r i)).cN (dn c i (r i)).b9 (dn c i (r i)).cV 0=_:=hL;rw[tL];rfl
def eO (c:Nat->bR) (j n:Nat):List Int:=((ρ j).filter λi=>!ch c i&&bJ c i==n).map λ(i:Nat)=>(i:Int)
theorem sN (j n:Nat):eO c (j+1) n=eO c j n++if ch c j=false/\bJ c j=n then[(j:Int)] else[]:=by
 unfold eO;rw[FX,ξ7]
 congr 1
 cases ch c j<;>simp;split<;>rfl
theorem Iz (j n:Nat):(eO c j n).length<=j:=by
 unfold eO;rw[ξB];have:=List.length_filter_le (λi=>!ch c i&&bJ c i==n) (ρ j);simpa using this
theorem arw {j n:Nat} (h:bJ c j<n):eO c j n=[]:=by
 unfold eO;rw[List.filter_eq_nil_iff.2]
 ·rfl
 ·intro i hi;have:=mL (c:=c) (ξ0 (ξb.1 hi));simp;omega
theorem M_ {f g:Nat->List Int}: ∀ {l:List Nat},(∀m∈l,f m=g m)->l.flatMap f=l.flatMap g
 |[],_=>rfl
 |m::l,h=>by rw[ξc,ξc,h m ω,M_ λk hk=>h k (ξ4 _ hk)]
theorem zj: ∀j,((ρ (bJ c j+1)).flatMap λm=>eO c j m++((cj c j)[m]?).toList)=(ρ j).map λ(i:Nat)=>(i:Int)
 |0=>rfl
 |j+1=>by
  have ih:=zj j;rw[ν,φ,ο] at ih;have Hb:(cj c j)[bJ c j]? =none:=ζ.2 (by rw[gI];exact ξf _);rw[Hb] at ih;simp only[ξa,ξ] at ih;rw[ν (n:=j),ξ7,<-ih];cases c8:ch c j with
  |false=>
   rw[tl,c8];simp only[ξo,if_false,Nat.add_zero];rw[ν,φ,ο,yP,c8];simp only[ξo,if_false,ξ];rw[Hb,sN,if_pos ⟨c8,rfl⟩];simp only[ξa,ξ];rw[ξs]
   congr 1
   refine M_ λm hm=>?_;have:=ξb.1 hm;rw[sN,if_neg (by omega),ξ]
  |true=>
   rw[tl,c8,if_pos rfl];rw[ν,φ,ο,ν,φ,ο,yP,c8,if_pos rfl];have qu:(cj c j++[(j:Int)])[bJ c j+1]? =none:=ζ.2 (by simp[gI]);have r9:(cj c j++[(j:Int)])[bJ c j]? =some (j:Int):=by
    rw[List.getElem?_append_right (by rw[gI];exact ξf _),gI];simp
   rw[r9,qu,sN,if_neg (by rw[c8];simp),sN,if_neg (by rw[c8];simp),arw (j:=j) (n:=bJ c j+1) (by omega)];simp only[ξ,ξa,Option.toList_some];rw[ξs]
   congr 1
   refine M_ λm hm=>?_;have:=ξb.1 hm;rw[sN,if_neg (by rw[c8];simp),ξ,List.getElem?_append_left (by rw[gI];exact this)]
theorem IH {α:Type} {f g:Nat->α} {n m:Nat} {y:α} (hy:g m=y) (hf: ∀i,i≠m->g i=f i):((ρ n).map f).set m y=(ρ n).map g:=by
 apply ξd;intro i;rw[ξt,τ,τ,ξB,List.length_range]
 by_cases h:m=i
 ·subst h;rw[if_pos rfl]
  by_cases hn:m<n
  ·rw[if_pos hn,ξ8 hn];simp[hy]
  ·rw[if_neg hn,ζ.2 (by simp;omega)];rfl
 ·rw[if_neg h]
  by_cases hn:i<n
  ·rw[ξ8 hn];simp[hf i (λe=>h e.symm)]
  ·rw[ζ.2 (by simp;omega)];rfl
theorem wv {α:Type} {f:Nat->α} {n m:Nat} (h:m<n):((ρ n).map f)[m]? =some (f m):=by
 rw[τ,ξ8 h];rfl
end Go.Proofs.YtoggponeookhbaaGreatDoor
end
section
namespace Go.Proofs.YtoggponeookhbaaGreatDoor
open Go.RowKit Go.Dc Go.Vx
variable {c:Nat->bR} {N:Nat} {r:Nat->cF}
def gB (c:Nat->bR) (N j:Nat):List (Option (List Int)):=(ρ (bJ c N+1)).map λn=>some (eO c j n)
theorem atw {j:Nat}:(gB c N j).length=bJ c N+1:=by simp[gB]
theorem ac7 {j n:Nat} (h:n<=bJ c N):(gB c N j)[n]? =some (some (eO c j n)):=wv (by omega)
theorem KC (hc: ∀i,fZ (c i)) (hN:N<=12) (hg:kB c N r) {j:Nat} (hj:j<N):(vC ab (cj c N) (ss c N) (hD c N r) (j:Int) (dn c j (r j)) (gB c N j)).val=bif ch c j||fit c j (r j) then some (.inl (gB c N (j+1))) else some (.inr (.inl ())):=by
 unfold vC;cases c8:ch c j with
 |true=>
  have e1:((dn c j (r j)).b9 !=0)=true:=by rw[mM c8];simp;omega
  simp only[T.aR,T.aM,e1,cond_true,Bool.true_or]
  congr 2
  unfold gB;refine ξl λn hn=>?_;rw[sN,if_neg (by rw[c8];simp),ξ]
 |false=>
  have e1:((dn c j (r j)).b9 !=0)=false:=by rw[vU c8];rfl
  have e2:((dn c j (r j)).cV==0)=false:=by rw[pF];simp;omega
  simp only[T.aR,T.bh,T.aM,e1,e2,cond_false,w34 hc hN hg hj c8,γ,Bool.false_or];cases hf:fit c j (r j) with
  |false=>rfl
  |true=>
   have hm:=mL (c:=c) (ξ0 hj);have hl:=Iz (c:=c) j (bJ c j);have i1:idx (gB c N j) (bJ c j:Int)=some _:=iD (ac7 hm);have i2:qU (gB c N j) (bJ c j)=some (eO c j (bJ c j)):=by unfold qU;rw[ac7 hm]
   have i3:idx ((gB c N j).set (bJ c j) none) (bJ c j:Int)=some none:=iD (by rw[ξt,if_pos rfl,if_pos (by rw[atw];omega)]);simp only[ξ6,cond_false,cond_true,i1,θ,i2,i3,γ];rw[pw (n:=100) (by simp;omega) (by decide),γ,List.set_set]
   congr 2
   refine IH ?_ λn hn=>?_
   ·rw[sN,if_pos ⟨c8,rfl⟩]
   ·rw[sN,if_neg (λh=>hn h.2.symm),ξ]
theorem atx:gB c N 0=List.replicate (bJ c N+1) (some []):=by
 unfold gB;apply ξd;intro i
 by_cases h:i<bJ c N+1
 ·rw[wv h,List.getElem?_replicate,if_pos h];rfl
 ·rw[ζ.2 (by simp;omega),ζ.2 (by simp;omega)]
theorem L11 (hc: ∀i,fZ (c i)) (hN:N<=12) (hg:kB c N r) (h: ∀i,i<N->ch c i=false->fit c i (r i)=true):C6 ab (cj c N) (ss c N) (hD c N r) (gB c N 0)=some (.inr (false,(N:Int),gB c N N)):=by
 show cB (λi z a=>(vC ab (cj c N) (ss c N) (hD c N r) i z a).val) (λi a=>(xV ab (cj c N) (ss c N) (hD c N r) i a).val) 0 (hD c N r) (gB c N 0)=_;refine nU (st:=gB c N) (λj z hz=>?_) ?_
 ·obtain⟨hj,rfl⟩:=rM hz;rw[KC hc hN hg hj];cases c8:ch c j with
  |true=>rfl
  |false=>rw[h j hj c8];rfl
 ·unfold xV;simp only[T.aM,kD];simp
theorem aft (hc: ∀i,fZ (c i)) (hN:N<=12) (hg:kB c N r) {k:Nat} (hk:k<N) (mV:ch c k=false) (rY:fit c k (r k)=false) (h: ∀i,i<k->ch c i=false->fit c i (r i)=true):C6 ab (cj c N) (ss c N) (hD c N r) (gB c N 0)=some (.inl ()):=by
 show cB (λi z a=>(vC ab (cj c N) (ss c N) (hD c N r) i z a).val) (λi a=>(xV ab (cj c N) (ss c N) (hD c N r) i a).val) 0 (hD c N r) (gB c N 0)=_;refine Iy (st:=gB c N) (n:=k) (F9 hk) (λj z hj hz=>?_) ?_
 ·obtain⟨OO,rfl⟩:=rM hz;rw[KC hc hN hg OO];cases c8:ch c j with
  |true=>rfl
  |false=>rw[h j hj c8];rfl
 ·rw[KC hc hN hg hk,mV,rY];rfl
theorem ao' {l:List Int} {q:List ax} {p1:Int} {j:Nat} {x y:Int} {dx dy:ax} (hj:0<j) (qi:j<=1000000) (hx:l[j]? =some x) (hy:l[j-1]? =some y) (U:idx q x=some dx) (h2:idx q y=some dy) (h: ¬dx.cN<dy.cN): ∃v,Ly ab 0 p1 (j:Int) l q=some v:=by
 have hs: ∃v,(DQ ab 0 p1 (j:Int) l q ()).val=some (.inr v):=by
  unfold DQ;have e1:decide ((j:Int)>0)=true:=decide_eq_true (by omega);have e2:decide (dx.cN<dy.cN)=false:=decide_eq_false h;simp only[T.aR,T.bh,T.aM,e1,e2,cond_true,cond_false,iD hx,θ,hx,xS hj qi,iD hy,hy,U,h2,γ,bne_self_eq_false];cases decide (dx.cN>dy.cN)<;>exact⟨_,rfl⟩
 obtain⟨v,hv⟩:=hs;exact⟨v,BQ hv (by decide)⟩
theorem ahd {l:List Int} {q:List ax} (hl:l.length<=1000) (h: ∀j,j+1<l.length-> ∃x y dx dy,l[j+1]? =some x/\l[j]? =some y/\idx q x=some dx/\idx q y=some dy/\ ¬dx.cN<dy.cN): ∃v,yh ab 0 (l.length:Int) 1 l q=some v:=by
 refine⟨(false,((1+(l.length-1):Nat):Int)),?_⟩;show dv (λa=>(yz ab 0 (l.length:Int) l q a).val) 1000000 ((1+0:Nat):Int)=_;refine xP (st:=λj=>((1+j:Nat):Int)) (n:=l.length-1) (f:=1000000) (λj hj=>?_) ?_ (by omega)
 ·have e1:decide (((1+j:Nat):Int)<(l.length:Int))=true:=decide_eq_true (by omega);obtain⟨x,y,dx,dy,U,h2,h3,h4,h5⟩:=h j (by omega);obtain⟨v,hv⟩:=ao' (p1:=(l.length:Int)) (l:=l) (q:=q) (j:=1+j) (by omega) (by omega) (by rw[Nat.add_comm];exact U) (by rw[show 1+j-1=j by omega];exact h2) h3 h4 h5;unfold yz;simp only[T.aR,T.bh,T.cE,T.dU,T.aM,e1,cond_true,hv,γ,pj (show 1+j<=1000000 by omega)];rw[show 1+j+1=1+(j+1) by omega];cases v<;>rfl
 ·have e1:decide (((1+(l.length-1):Nat):Int)<(l.length:Int))=false:=decide_eq_false (by omega);unfold yz;simp only[T.aR,T.aM,e1,cond_false]
theorem abQ {j n m:Nat} {z:Int} (h:(eO c j n)[m]? =some z): ∃i:Nat,z=i/\i<j:=by
 unfold eO at h;have:=ξ5 h;obtain⟨i,hi,rfl⟩:=List.mem_map.1 this;exact⟨i,rfl,ξb.1 (List.mem_filter.1 hi).1⟩
theorem arx (j n:Nat):(eO c j n).Pairwise (· < ·):=by
 unfold eO;refine ξJ _ (λa b h=>?_) (ξG _ List.pairwise_lt_range);exact Int.ofNat_lt.2 h
theorem asc (hN:N<=12) (n:Nat): ∃v,yh ab 0 ((eO c N n).length:Int) 1 (eO c N n) (hD c N r)=some v:=by
 have hl:=Iz (c:=c) N n;refine ahd (by omega) λj hj=>?_;have hx:(eO c N n)[j+1]? =some (eO c N n)[j+1]:=η hj;have hy:(eO c N n)[j]? =some (eO c N n)[j]:=η (by omega);have aB:=List.pairwise_iff_getElem.1 (arx (c:=c) N n) j (j+1) (by omega) hj (by omega);obtain⟨a,ha,mh⟩:=abQ hx;obtain⟨b,hb,cO⟩:=abQ hy;refine⟨_,_,dn c a (r a),dn c b (r b),hx,hy,by rw[ha];exact kC mh,by rw[hb];exact kC cO,?_⟩;rw[tw,tw];rw[ha,hb] at aB;omega
def oX (c:Nat->bR) (N n:Nat):List Int:=(ρ n).flatMap λm=>eO c N m++((cj c N)[m]?).toList
def lZ (c:Nat->bR) (N n:Nat):List (Option (List Int)):=(ρ (bJ c N+1)).map λm=>if m<n then none else some (eO c N m)
theorem aty:lZ c N 0=gB c N N:=by
 unfold lZ gB;exact ξl λn _=>by rw[if_neg (by omega)]
theorem QT (n:Nat):oX c N (n+1)=oX c N n++(eO c N n++((cj c N)[n]?).toList):=by
 unfold oX;rw[ν,φ,ο]
theorem apG (o:Option Int):o.toList.length<=1:=by cases o<;>simp
theorem aaM (hN:N<=12): ∀n,(oX c N n).length<=13*n
 |0=>by simp[oX]
 |n+1=>by
  rw[QT,ξp,ξp];have:=aaM hN n;have:=Iz (c:=c) N n;have:=apG (cj c N)[n]?
  omega
theorem L21 (hN:N<=12):KM ab (cj c N) (hD c N r) (gB c N N) 0 [] (gB c N N)=some (false,((bJ c N+1:Nat):Int),oX c N (bJ c N+1),lZ c N (bJ c N+1)):=by
 have bN:=nz (c:=c) N;show dv (λa=>(yj ab (cj c N) (hD c N r) (gB c N N) a).val) 1000000 ((0:Int),([]:List Int),gB c N N)=_;rw[<-aty];refine xP (st:=λn=>((n:Int),oX c N n,lZ c N n)) (n:=bJ c N+1) (λn hn=>?_) ?_ (by omega)
 ·have e1:decide ((n:Int)<((lZ c N 0).length:Int))=true:=decide_eq_true (by simp[lZ];omega);have g1:(lZ c N n)[n]? =some (some (eO c N n)):=by unfold lZ;rw[wv (by omega),if_neg (by omega)]
  have g2:qU (lZ c N n) n=some (eO c N n):=by unfold qU;rw[g1]
  have Hh:=Iz (c:=c) N n;have hol:=aaM (c:=c) hN n;have s1:Lp ab (eO c N n) (hD c N r) 0 20=some (false,20,0):=by
   show dv (λa=>(DM ab (eO c N n) (hD c N r) a).val) 1000000 ((0:Int),(20:Int))=_;refine BQ ?_ (by decide);have e:decide ((20:Int)<=((eO c N n).length:Int))=false:=decide_eq_false (by omega);unfold DM;simp only[T.aR,T.aM,e,cond_false]
  have s2: ∃v,Lq ab (eO c N n) (hD c N r) 20=some v:=by
   refine⟨_,BQ (x:=(false,(20:Int))) ?_ (by decide)⟩;have e:decide ((20:Int)<((eO c N n).length:Int))=false:=decide_eq_false (by omega);unfold LI;simp only[T.aR,T.aM,e,cond_false]
  obtain⟨v2,s2⟩:=s2;obtain⟨v1,s3⟩:=asc (c:=c) (N:=N) (r:=r) hN n;have ap1:app 8 (oX c N n) (eO c N n)=some (oX c N n++eO c N n):=pw (n:=1000) (by omega) (by decide);have atC:(lZ c N n).set n none=lZ c N (n+1):=by
   unfold lZ;refine IH (by rw[if_pos (by omega)]) λm hm=>?_
   by_cases h:m<n
   ·rw[if_pos h,if_pos (by omega)]
   ·rw[if_neg h,if_neg (by omega)]
  unfold yj;simp only[T.aR,T.bh,T.cE,T.aM,e1,cond_true,iD g1,θ,g2,s1,γ];rw[show δ.wrap (0+1)=1 from rfl];simp only[s2,s3,ap1,γ,atC];rcases ξi n (bJ c N) with h|h
  ·obtain⟨k,hk,_⟩:=Mc h;have e2:decide ((n:Int)<((cj c N).length:Int))=true:=decide_eq_true (by rw[gI];omega);have z_:gq (cj c N) (some (n:Int)) (some ((n+1:Nat):Int)) (some ((n+1:Nat):Int))=some [(k:Int)]:=by
    unfold gq;simp only[Option.getD_some];have Of:=gI (c:=c) N;rw[if_pos ⟨by omega,by omega,by omega,by omega,by omega,by simp⟩,θ,θ]
    congr 1
    rw[List.drop_take,show n+1-n=1 by omega,List.take_one,List.head?_drop,hk];rfl
   simp only[e2,cond_true,pj (show n<=1000000 by omega),ξC];rw[z_,γ,pw (n:=1000) (by simp;omega) (by decide),γ,QT,hk];simp
  ·have e2:decide ((n:Int)<((cj c N).length:Int))=false:=decide_eq_false (by rw[gI];omega);have hn:(cj c N)[n]? =none:=ζ.2 (by rw[gI];exact h);simp only[e2,cond_false,pj (show n<=1000000 by omega)];rw[QT,hn];simp
 ·have e1:decide (((bJ c N+1:Nat):Int)<((lZ c N 0).length:Int))=false:=decide_eq_false (by simp[lZ]);unfold yj;simp only[T.aR,T.aM,e1,cond_false]
def rg (N:Nat):List Int:=(ρ N).map λ(i:Nat)=>(i:Int)
theorem apJ:oX c N (bJ c N+1)=rg N:=zj N
theorem Z8 (hN:N<=12):nR 24 (δ.wrap (((cj c N).length:Int)+1)) (δ.wrap (((cj c N).length:Int)+1)) (some ([]:List Int))=some (gB c N 0):=by
 have bN:=nz (c:=c) N;rw[gI,pj (by omega),atx];unfold nR;rw[if_pos ⟨by omega,by omega,by omega,by omega⟩,θ]
theorem Sr (hc: ∀i,fZ (c i)) (hN:N<=12) (hg:kB c N r) (h: ∀i,i<N->fit c i (r i)=true):rE ab ⟨hD c N r⟩=some (rg N,0):=by
 show(vM ab ⟨hD c N r⟩).val=_;unfold vM;simp only[T.bh,T.aR,T.cE,T.dU,T.aM,BP hN,I0 hN,Ss hc hN hg λi hi _=>h i hi,γ,bne_self_eq_false,cond_false,ξ6,Z8 hN,L11 hc hN hg λi hi _=>h i hi,L21 hN,apJ]
theorem atZ (hc: ∀i,fZ (c i)) (hN:N<=12) (hg:kB c N r) {k:Nat} (hk:k<N) (rY:fit c k (r k)=false) (h: ∀i,i≠k->i<N->fit c i (r i)=true):rE ab ⟨hD c N r⟩=some ([],391):=by
 show(vM ab ⟨hD c N r⟩).val=_;unfold vM;cases mV:ch c k with
 |true=>
  simp only[T.bh,T.aR,T.cE,T.dU,T.aM,BP hN,I0 hN,at1 hc hN hg hk mV rY λi hi _=>h i (by omega) (by omega),γ,bne_self_eq_false,cond_false,Bool.not_false,cond_true]
 |false=>
  simp only[T.bh,T.aR,T.cE,T.dU,T.aM,BP hN,I0 hN,Ss hc hN hg λi hi c8=>h i (λe=>by subst e;rw[mV] at c8;cases c8) hi,γ,bne_self_eq_false,cond_false,ξ6,Z8 hN,aft hc hN hg hk mV rY λi hi _=>h i (by omega) (by omega)]
theorem w16 (hc: ∀i,fZ (c i)) (hN:N<=12) (hg:kB c N r) (h: ∀i,i<N->fit c i (r i)=true):FE ab ⟨hD c N r⟩=some (sq c N,0):=by
 show(Eb ab ⟨hD c N r⟩).val=_;unfold Eb;have bN:=nz (c:=c) N;simp only[T.bh,T.aR,T.aM,Sr hc hN hg h,I0 hN,Ss hc hN hg λi hi _=>h i hi,γ,bne_self_eq_false,cond_false,(YY (qT (c:=c) N) (by omega) (BG (ξf N))).1]
end Go.Proofs.YtoggponeookhbaaGreatDoor
end
section
namespace Go.Proofs.YtoggponeookhbaaGreatDoor
open Go.RowKit Go.Dc Go.Vx
noncomputable def yf (sh:Sh):ay SS:= { Un sh with F:=[12,16] }
theorem UG:an (yf shut) ε:=an.frz afo _
theorem at4 {R:Type} (k:Rs SS->Option R):kQ (yf ab) 300 7 [] [] (nS KK [4] k)=k (.ret (.s (KK.bA 4 true))):=by kernel_rfl
noncomputable def VM:bO SS:=kR KK 7 [] (λ{R} xs (k:Rs SS->Option R)=>k (.ret (.s (KK.bA 4 true))))
noncomputable def yd (sh:Sh):ay SS:= { yf sh with C:=VM::(yf sh).C }
theorem UE:an (yd shut) ε:=an.l_ (c:=VM) UG λxs k z _ hz=>tq (G:=yf ab) (rs:=[4]) (sP▸an.all UG rfl) (λ{R} xs k z h=>by
 match xs,h with
 | .nil,h=>exact⟨300,(at4 k).trans h⟩) hz
noncomputable def N6 (p0:Int) (p1:List bR) (p2:List Int) (p3:List ai) (p4:List aj) (p5:List aw) (p6:Int) (p7:List az) (p8:List aq) (p9:Int) (de:List ax) (dM:List Int):AS SS:=⟨[(1,(vi p0)),(5,(va 0 0)),(6,(vo 2)),(7,(va 3 0)),(23,(vd 64 p1)),(24,(vl p1)),(25,(vi p9))],[(bX 24 [(.own 1)]),(rX 42 de),(rX 3 dM),(bX 60 [(.cd .i64 16 p2),(.aU 48 p3),(.aU 51 p4),(.aU 52 p5),(lu p6),(.aU 55 p7),(.aU 56 p8)])],0,none,false,[],[]⟩
noncomputable def acG (p0:Int) (p1:List bR) (p2:List Int) (p3:List ai) (p4:List aj) (p5:List aw) (p6:Int) (p7:List az) (p8:List aq) (de:List ax) (dM:List Int):AS SS:=N6 p0 p1 p2 p3 p4 p5 p6 p7 p8 0 de dM
noncomputable def ak1 (p0:Int) (p1:List bR) (a0:Bool) (a1 a2:Int) (a3:List Int) (a4:bR) (a5:Bool) (a6:List ax) (a7 a8:List Int) (a9:List ai) (LQ:List aj) (a11:List aw) (a12:Int) (a13:List az) (a14:List aq):AS SS:=⟨[(31,(vb a0)),(30,(vi a1)),(8,(vi a1)),(9,(va 4 0)),(29,(.s (.agg [(lu a2),(.cd .u64 4 a3)]))),(28,(vs (.ptr 38 a4 0))),(27,(vi a1)),(26,(vb a5)),(1,(vi p0)),(5,(va 0 0)),(6,(vo 2)),(7,(va 3 0)),(23,(vd 64 p1)),(24,(vl p1)),(25,(vi a1))],[(bX 24 [(.own 1)]),(rX 42 a6),(rX 3 a7),(bX 60 [(.cd .i64 16 a8),(.aU 48 a9),(.aU 51 LQ),(.aU 52 a11),(lu a12),(.aU 55 a13),(.aU 56 a14)]),(bX 38 [(lu a2),(.cd .u64 4 a3)])],0,none,false,[],[]⟩
noncomputable def ak2 (p0:Int) (p1:List bR):AS SS:=⟨[(4,(vb false))],[],0,none,false,[],[]⟩
noncomputable def ak3 (p0:Int) (p1:List bR) (a0:Bool) (a1:Int) (a2:List ax) (a3 a4:List Int) (a5:List ai) (a6:List aj) (a7:List aw) (a8:Int) (a9:List az) (LQ:List aq):AS SS:= { N6 p0 p1 a4 a5 a6 a7 a8 a9 LQ p0 a2 a3 with env:=[(26,(vb a0)),(1,(vi p0)),(5,(va 0 0)),(6,(vo 2)),(7,(va 3 0)),(23,(vd 64 p1)),(24,(vl p1)),(25,(vi a1))] }
noncomputable def s9 (sh:Sh) (p0:Int) (p1:List bR) (p9:Int) (z0:bR) (a:List ax×List Int×List Int×List ai×List aj×List aw×Int×List az×List aq):T ((List ax×List Int×List Int×List ai×List aj×List aw×Int×List az×List aq) ⊕ (Bool×Int×Int×List Int×bR×Bool×List ax×List Int×List Int×List ai×List aj×List aw×Int×List az×List aq) ⊕ Unit ⊕ (Bool×Int×List ax×List Int×List Int×List ai×List aj×List aw×Int×List az×List aq)):=
 .bf (p9==12) (
  .ok (.inr (.inl ((p9==12),p9,z0.bP,z0.fArgs,z0,(decide (p9<(↑p1.length:Int))),a.1,a.2.1,a.2.2.1,a.2.2.2.1,a.2.2.2.2.1,a.2.2.2.2.2.1,a.2.2.2.2.2.2.1,a.2.2.2.2.2.2.2.1,a.2.2.2.2.2.2.2.2))))<|
 .bd (FP sh (bo.mk (bS.mk a.2.2.1 a.2.2.2.1) a.2.2.2.2.1 (cp.mk a.2.2.2.2.2.1 a.2.2.2.2.2.2.1) (aP.mk a.2.2.2.2.2.2.2.1 a.2.2.2.2.2.2.2.2)) z0) λz1=>
  .bf (z1.snd.snd !=0) (
   .ok (.inr (.inr (.inl ()))))<|
  .bd (nC sh z1.fst (bo.mk (bS.mk a.2.2.1 a.2.2.2.1) a.2.2.2.2.1 (cp.mk a.2.2.2.2.2.1 a.2.2.2.2.2.2.1) (aP.mk a.2.2.2.2.2.2.2.1 a.2.2.2.2.2.2.2.2))) λz2=>
   .bf (!z2) (
    .bd (app 88 a.1 [ax.mk (p9.tmod 8) z0 z1.snd.fst (δ.wrap (δ.wrap (3*p9)+1)) (δ.wrap (δ.wrap (3*p9)+2)) (δ.wrap (δ.wrap (3*p9)+3))]) λz3=>
     .bd (app 8 a.2.1 [p9]) λz4=>
      .ok (.inl (z3,z4,z1.fst.aC.aQ,z1.fst.aC.ae,z1.fst.aV,z1.fst.aL.ae,z1.fst.aL.bE,z1.fst.aF.aA,z1.fst.aF.au)))<|
   .bd (app 88 a.1 [ax.mk (p9.tmod 8) z0 z1.snd.fst (δ.wrap (δ.wrap (3*p9)+1)) 0 (δ.wrap (δ.wrap (3*p9)+3))]) λz3=>
    .bd (app 8 a.2.1 [p9]) λz4=>
     .ok (.inl (z3,z4,z1.fst.aC.aQ,z1.fst.aC.ae,z1.fst.aV,z1.fst.aL.ae,z1.fst.aL.bE,z1.fst.aF.aA,z1.fst.aF.au))
noncomputable def xZ (sh:Sh) (p0:Int) (p1:List bR) (p9:Int) (a:List ax×List Int×List Int×List ai×List aj×List aw×Int×List az×List aq):T ((Bool×Int×Int×List Int×bR×Bool×List ax×List Int×List Int×List ai×List aj×List aw×Int×List az×List aq) ⊕ Unit ⊕ (Bool×Int×List ax×List Int×List Int×List ai×List aj×List aw×Int×List az×List aq)):=
 .ok (.inr (.inr ((decide (p9<(↑p1.length:Int))),p9,a.1,a.2.1,a.2.2.1,a.2.2.2.1,a.2.2.2.2.1,a.2.2.2.2.2.1,a.2.2.2.2.2.2.1,a.2.2.2.2.2.2.2.1,a.2.2.2.2.2.2.2.2)))
noncomputable def Dh (sh:Sh) (p0:Int) (p1:List bR) (p2:List Int) (p3:List ai) (p4:List aj) (p5:List aw) (p6:Int) (p7:List az) (p8:List aq) (de:List ax) (dM:List Int):Option ((Bool×Int×Int×List Int×bR×Bool×List ax×List Int×List Int×List ai×List aj×List aw×Int×List az×List aq) ⊕ Unit ⊕ (Bool×Int×List ax×List Int×List Int×List ai×List aj×List aw×Int×List az×List aq)):=cS sh (s9 sh p0 p1) (xZ sh p0 p1) p1 (de,dM,p2,p3,p4,p5,p6,p7,p8)
noncomputable def agU {R:Type} (k:AX->AS SS->Option R) (p0:Int) (p1:List bR) (x:(Bool×Int×Int×List Int×bR×Bool×List ax×List Int×List Int×List ai×List aj×List aw×Int×List az×List aq) ⊕ Unit ⊕ (Bool×Int×List ax×List Int×List Int×List ai×List aj×List aw×Int×List az×List aq)):Option R:=(λx=>Sum.rec (λv=>k (.exit 0) (ak1 p0 p1 v.1 v.2.1 v.2.2.1 v.2.2.2.1 v.2.2.2.2.1 v.2.2.2.2.2.1 v.2.2.2.2.2.2.1 v.2.2.2.2.2.2.2.1 v.2.2.2.2.2.2.2.2.1 v.2.2.2.2.2.2.2.2.2.1 v.2.2.2.2.2.2.2.2.2.2.1 v.2.2.2.2.2.2.2.2.2.2.2.1 v.2.2.2.2.2.2.2.2.2.2.2.2.1 v.2.2.2.2.2.2.2.2.2.2.2.2.2.1 v.2.2.2.2.2.2.2.2.2.2.2.2.2.2)) (λx=>Sum.rec (λv=>k .ret (ak2 p0 p1)) (λv=>k (.exit 0) (ak3 p0 p1 v.1 v.2.1 v.2.2.1 v.2.2.2.1 v.2.2.2.2.1 v.2.2.2.2.2.1 v.2.2.2.2.2.2.1 v.2.2.2.2.2.2.2.1 v.2.2.2.2.2.2.2.2.1 v.2.2.2.2.2.2.2.2.2.1 v.2.2.2.2.2.2.2.2.2.2)) x) x) x
noncomputable def Qe:bH SS:=oQ (λst=>gc (ar 6 8) (jP 0 0 42 (st)))<|bT 8 (λst=>(bq (aZ st 1 0)).bind λp0=>(bB 64 (aZ st 23 0)).bind λp1=>(jy (bg st 3 0)).bind λp2=>(bB 48 (bg st 3 1)).bind λp3=>(bB 51 (bg st 3 2)).bind λp4=>(bB 52 (bg st 3 3)).bind λp5=>(bq (bg st 3 4)).bind λp6=>(bB 55 (bg st 3 5)).bind λp7=>(bB 56 (bg st 3 6)).bind λp8=>(c9 st 1 42).bind λde=>(c9 st 2 3).bind λdM=>some (p0,p1,p2,p3,p4,p5,p6,p7,p8,de,dM)) (λp=>acG p.1 p.2.1 p.2.2.1 p.2.2.2.1 p.2.2.2.2.1 p.2.2.2.2.2.1 p.2.2.2.2.2.2.1 p.2.2.2.2.2.2.2.1 p.2.2.2.2.2.2.2.2.1 p.2.2.2.2.2.2.2.2.2.1 p.2.2.2.2.2.2.2.2.2.2) (λp=>Dh shut p.1 p.2.1 p.2.2.1 p.2.2.2.1 p.2.2.2.2.1 p.2.2.2.2.2.1 p.2.2.2.2.2.2.1 p.2.2.2.2.2.2.2.1 p.2.2.2.2.2.2.2.2.1 p.2.2.2.2.2.2.2.2.2.1 p.2.2.2.2.2.2.2.2.2.2) (λk p=>agU k p.1 p.2.1)
theorem aq0:aG KK ε ⟨ξ2,ar 6⟩ (bQ (a_ ξ2) 8) Qe:=aG.pre (dA.comp (dA.gc (ar 6 8)) (dA.jP 0 0 42))<|
 aG.c6 (π:=Int×List bR×List Int×List ai×List aj×List aw×Int×List az×List aq×List ax×List Int) (σ:=List ax×List Int×List Int×List ai×List aj×List aw×Int×List az×List aq) (an.all UE rfl) (ao.nil) rfl 60 (λp i a=>N6 p.1 p.2.1 a.2.2.1 a.2.2.2.1 a.2.2.2.2.1 a.2.2.2.2.2.1 a.2.2.2.2.2.2.1 a.2.2.2.2.2.2.2.1 a.2.2.2.2.2.2.2.2 i a.1 a.2.1) (λp=>p.2.1) (λp=>(p.2.2.2.2.2.2.2.2.2.1,p.2.2.2.2.2.2.2.2.2.2,p.2.2.1,p.2.2.2.1,p.2.2.2.2.1,p.2.2.2.2.2.1,p.2.2.2.2.2.2.1,p.2.2.2.2.2.2.2.1,p.2.2.2.2.2.2.2.2.1)) (St:=λp=>s9 shut p.1 p.2.1) (F:=λp=>xZ shut p.1 p.2.1) (λp=>rfl)
  (λm p i a k=>by kernel_rfl) (by rintro p (x|x|x)<;>exact⟨_,_,λ_=>rfl⟩) (λp N C A O w a hr=>dQ hr (t:=64) (sl:=23) rfl λv h=>h)
noncomputable def Gi (p0 p1:List Int) (p2:Int):AS SS:=⟨[(0,(vd 31 p0)),(1,(vo 0)),(12,(vl p0)),(13,(vi p2))],[(rX 3 p1)],1,none,false,[],[]⟩
noncomputable def RO (p0 p1:List Int):AS SS:=Gi p0 p1 0
noncomputable def ajQ (p0 p1:List Int):AS SS:= { Gi p0 p1 0 with env:=[(4,(vb false))] }
noncomputable def ajR (p0 p1:List Int) (a0:Bool) (a1:Int):AS SS:=xe [(14,(vb a0))] (Gi p0 p1 a1)
noncomputable def Dv (sh:Sh) (p0 p1:List Int) (p2 z0:Int) (a:Unit):T (Unit ⊕ Unit ⊕ (Bool×Int)):=
 .bd (idx p1 p2) λz1=>
  .bd (p1[p2.toNat]?) λz2=>
   .bf (z0 !=z2) (
    .ok (.inr (.inl ())))<|
   .ok (.inl ())
noncomputable def B5 (sh:Sh) (p0 p1:List Int) (p2:Int) (a:Unit):T (Unit ⊕ (Bool×Int)):=
 .ok (.inr ((decide (p2<(↑p0.length:Int))),p2))
noncomputable def C9 (sh:Sh) (p0 p1:List Int):Option (Unit ⊕ (Bool×Int)):=cS sh (Dv sh p0 p1) (B5 sh p0 p1) p0 ()
noncomputable def af6 {R:Type} (k:AX->AS SS->Option R) (p0 p1:List Int) (x:Unit ⊕ (Bool×Int)):Option R:=(λx=>Sum.rec (λv=>k .ret (ajQ p0 p1)) (λv=>k (.exit 0) (ajR p0 p1 v.1 v.2)) x) x
noncomputable def Zd:bH SS:=bT 5 (λst=>(bB 31 (aZ st 0 0)).bind λp0=>(c9 st 0 3).bind λp1=>some (p0,p1)) (λp=>RO p.1 p.2) (λp=>C9 shut p.1 p.2) (λk p=>af6 k p.1 p.2)
noncomputable def ae7:ay SS:= { (yd shut) with T:=bm ((yd shut).T) 6 ⟨⟨ξ2,ar 6⟩,[Qe]⟩ }
theorem T8:aJ ae7 ε:=(aJ.b8 (an.all UE rfl) ξu rfl bn λc hc=>by cases hc;exact ao.cons (ao.nil) (by kernel_rfl) aq0)
theorem aqk:aG KK ε ⟨ξI,ar 15⟩ (bQ (a_ ξI) 5) Zd:=
 aG.c6 (π:=List Int×List Int) (σ:=Unit) T8 (ao.nil) rfl 60 (λp i a=>Gi p.1 p.2 i) (λp=>p.1) (λp=>()) (St:=λp=>Dv shut p.1 p.2) (F:=λp=>B5 shut p.1 p.2) (λp=>rfl)
  (λm p i a k=>by kernel_rfl) (by rintro p (x|x)<;>exact⟨_,_,λ_=>rfl⟩) (λp N C A O w a hr=>dQ hr (t:=31) (sl:=0) rfl λv h=>h)
noncomputable def Jc:ay SS:= { (yd shut) with T:=bm (bm ((yd shut).T) 6 ⟨⟨ξ2,ar 6⟩,[Qe]⟩) 15 ⟨⟨ξI,ar 15⟩,[Zd]⟩ }
theorem ae8:aJ Jc ε:=(aJ.b8 T8 Tryz.func15 rfl bn λc hc=>by cases hc;exact ao.cons (ao.nil) (by kernel_rfl) aqk)
noncomputable def EK (sh:Sh) (calls:List bR) (pk:Int):T (Bool):=
 .bd (za sh) λz0=>
  .gd (acG pk calls z0.aC.aQ z0.aC.ae z0.aV z0.aL.ae z0.aL.bE z0.aF.aA z0.aF.au [] [])<|
   .bd (Dh sh pk calls z0.aC.aQ z0.aC.ae z0.aV z0.aL.ae z0.aL.bE z0.aF.aA z0.aF.au [] []) λx4=> .cs x4 (λy1=>
    .bd (rE sh (fA.mk y1.2.2.2.2.2.2.1)) λz2=>
     .bd (FE sh (fA.mk y1.2.2.2.2.2.2.1)) λz3=>
      .bf (z2.snd !=0) (
       .ok false)<|
      .bf (z3.snd !=0) (
       .ok false)<|
      .bf ((↑z2.fst.length:Int) !=(↑y1.2.2.2.2.2.2.2.1.length:Int)) (
       .ok false)<|
      .gd (RO z2.fst y1.2.2.2.2.2.2.2.1)<|
       .bd (C9 sh z2.fst y1.2.2.2.2.2.2.2.1) λx8=> .cs x8 (λ_=>
        .ok false) λy4=>
        .bd (nC sh z3.fst (bo.mk (bS.mk y1.2.2.2.2.2.2.2.2.1 y1.2.2.2.2.2.2.2.2.2.1) y1.2.2.2.2.2.2.2.2.2.2.1 (cp.mk y1.2.2.2.2.2.2.2.2.2.2.2.1 y1.2.2.2.2.2.2.2.2.2.2.2.2.1) (aP.mk y1.2.2.2.2.2.2.2.2.2.2.2.2.2.1 y1.2.2.2.2.2.2.2.2.2.2.2.2.2.2))) λz5=>
         .bf (!z5) (
          .ok false)<|
         .bd (tD sh (fA.mk y1.2.2.2.2.2.2.1) y1.2.2.2.2.2.2.2.1) λz6=>
          .bf (!z6) (
           .ok false)<|
          .bf ((↑y1.2.2.2.2.2.2.2.1.length:Int)==0) (
           .ok true)<|
          .bd (uI (ι.wrap pk) (ι.wrap (↑y1.2.2.2.2.2.2.2.1.length:Int))) λz7=>
           .bd (gq y1.2.2.2.2.2.2.1 none (ξK (λx=>x.snd) (some (δ,if 66<(↑y1.2.2.2.2.2.2.1.length:Int) then 66 else(↑y1.2.2.2.2.2.2.1.length:Int)))) none) λz8=>
            .bd (app 88 [] z8) λz9=>
             .bd (idx z9 (δ.wrap z7)) λz10=>
              .bd (z9[(δ.wrap z7).toNat]?) λBX=>
               .bd (idx z9 (δ.wrap z7)) λz12=>
                .bd (z9[(δ.wrap z7).toNat]?) λgF=>
                 .bd (rE sh (fA.mk (z9.set (δ.wrap z7).toNat (ax.mk gF.eU gF.ed (cF.mk gF.dd.db (ι.wrap (BX.dd.dI+1))) gF.cN gF.b9 gF.cV)))) λSR=>
                  .bf (SR.snd==391) (
                   .bd (tD sh (fA.mk (z9.set (δ.wrap z7).toNat (ax.mk gF.eU gF.ed (cF.mk gF.dd.db (ι.wrap (BX.dd.dI+1))) gF.cN gF.b9 gF.cV))) y1.2.2.2.2.2.2.2.1) λSU=>
                    .ok (!SU))<|
                  .ok false) λSH=> .cs SH (λ_=>
    .ok false) λy1=>
    .bd (rE sh (fA.mk y1.2.2.1)) λz2=>
     .bd (FE sh (fA.mk y1.2.2.1)) λz3=>
      .bf (z2.snd !=0) (
       .ok false)<|
      .bf (z3.snd !=0) (
       .ok false)<|
      .bf ((↑z2.fst.length:Int) !=(↑y1.2.2.2.1.length:Int)) (
       .ok false)<|
      .gd (RO z2.fst y1.2.2.2.1)<|
       .bd (C9 sh z2.fst y1.2.2.2.1) λx8=> .cs x8 (λ_=>
        .ok false) λy4=>
        .bd (nC sh z3.fst (bo.mk (bS.mk y1.2.2.2.2.1 y1.2.2.2.2.2.1) y1.2.2.2.2.2.2.1 (cp.mk y1.2.2.2.2.2.2.2.1 y1.2.2.2.2.2.2.2.2.1) (aP.mk y1.2.2.2.2.2.2.2.2.2.1 y1.2.2.2.2.2.2.2.2.2.2))) λz5=>
         .bf (!z5) (
          .ok false)<|
         .bd (tD sh (fA.mk y1.2.2.1) y1.2.2.2.1) λz6=>
          .bf (!z6) (
           .ok false)<|
          .bf ((↑y1.2.2.2.1.length:Int)==0) (
           .ok true)<|
          .bd (uI (ι.wrap pk) (ι.wrap (↑y1.2.2.2.1.length:Int))) λz7=>
           .bd (gq y1.2.2.1 none (ξK (λx=>x.snd) (some (δ,if 66<(↑y1.2.2.1.length:Int) then 66 else(↑y1.2.2.1.length:Int)))) none) λz8=>
            .bd (app 88 [] z8) λz9=>
             .bd (idx z9 (δ.wrap z7)) λz10=>
              .bd (z9[(δ.wrap z7).toNat]?) λBX=>
               .bd (idx z9 (δ.wrap z7)) λz12=>
                .bd (z9[(δ.wrap z7).toNat]?) λgF=>
                 .bd (rE sh (fA.mk (z9.set (δ.wrap z7).toNat (ax.mk gF.eU gF.ed (cF.mk gF.dd.db (ι.wrap (BX.dd.dI+1))) gF.cN gF.b9 gF.cV)))) λSR=>
                  .bf (SR.snd==391) (
                   .bd (tD sh (fA.mk (z9.set (δ.wrap z7).toNat (ax.mk gF.eU gF.ed (cF.mk gF.dd.db (ι.wrap (BX.dd.dI+1))) gF.cN gF.b9 gF.cV))) y1.2.2.2.1) λSU=>
                    .ok (!SU))<|
                  .ok false
noncomputable def M3 (sh:Sh) (calls:List bR) (pk:Int):Option (Bool):=sh.s _ (EK sh calls pk).val
theorem t_6:R2 KK Jc 6 64 3 [4] (EK shut) (b5 KK 4):=by intro R calls pk k;kernel_rfl
end Go.Proofs.YtoggponeookhbaaGreatDoor
end
section
namespace Go.Proofs.YtoggponeookhbaaGreatDoor
open Go.RowKit Go.Dc Go.Vx
variable {c:Nat->bR} {N:Nat} {r:Nat->cF}
def j4 (j:Nat):List Bool:=(ρ 64).map λi=>decide (i<j)
theorem Na {i j:Nat} (h:i<64):iY (j4 j) i=decide (i<j):=by
 unfold iY j4;rw[wv h];rfl
theorem al4 {j:Nat}:(j4 j).set j true=j4 (j+1):=by
 unfold j4;refine IH (by simp) λi hi=>?_
 by_cases h:i<j
 ·rw[decide_eq_true h,decide_eq_true (by omega)]
 ·rw[decide_eq_false h,decide_eq_false (by omega)]
theorem PE {j:Nat} (h:j<64):fq (j:Int) 64=some j:=by
 unfold fq;rw[if_pos ⟨by omega,by omega⟩,θ]
theorem RB {j:Nat} {z:Int} (h:(rg N)[j]? =some z):j<N/\z=j:=by
 have hj:=(κ.1 h).1;have hj:j<N:=by simpa[rg] using hj
 unfold rg at h;rw[wv hj] at h;exact⟨hj,(ξj h).symm⟩
theorem Iw:(rg N).length=N:=by simp[rg]
theorem art {j:Nat} (h:j<N):(rg N)[j]? =some (j:Int):=wv h
theorem aru (j:Nat):rg (j+1)=rg j++[(j:Int)]:=by
 unfold rg;rw[ν,ξ7];rfl
theorem W9 (j:Nat):hD c (j+1) r=hD c j r++[dn c j (r j)]:=by
 unfold hD;rw[ν,ξ7];rfl
def kb (c:Nat->bR) (j:Nat):List Bool×List Int×List ai×List aj×List aw×Int×List az×List aq:=(j4 j,(sq c j).aC.aQ,(sq c j).aC.ae,(sq c j).aV,(sq c j).aL.ae,(sq c j).aL.bE,(sq c j).aF.aA,(sq c j).aF.au)
theorem afA (hN:N<=12) {j:Nat} (hj:j<N) {p9:Int} {g1:List Int} {g2:List ai} {g3:List aj} {g4:List aw} {g5:Int} {g6:List az} {g7:List aq}:KW ab (j:Int) (rg N) p9 (hD c N r) (j4 j) g1 g2 g3 g4 g5 g6 g7=some (.inr (false,(N:Int))):=by
 show cB (λi z a=>(Dw ab (j:Int) (rg N) p9 (hD c N r) (j4 j) g1 g2 g3 g4 g5 g6 g7 i z a).val) (λi a=>(B6 ab (j:Int) (rg N) p9 (hD c N r) (j4 j) g1 g2 g3 g4 g5 g6 g7 i a).val) 0 (hD c N r) ()=_;refine nU (st:=λ_=>()) (λk z hz=>?_) ?_
 ·obtain⟨hk,rfl⟩:=rM hz;unfold Dw;simp only[T.bh,T.aR,T.aM,PE (show k<64 by omega),γ,Na (show k<64 by omega),kC hj,VU]
  by_cases h:k<j
  ·rw[decide_eq_true h];rfl
  ·rw[decide_eq_false h];rfl
 ·unfold B6;simp only[T.aM,kD];simp
theorem KD (hc: ∀i,fZ (c i)) (hN:N<=12) (hg:kB c N r) {j:Nat} (hj:j<N):(vD ab (rg N) (hD c N r) (j:Int) (j:Int) (kb c j)).val=bif fit c j (r j) then some (.inl (kb c (j+1))) else some (.inr (.inl ())):=by
 obtain⟨q1,q2⟩:=hg j hj;have e1:decide ((j:Int)<0)=false:=decide_eq_false (by omega);have e2:decide ((j:Int)>=((hD c N r).length:Int))=false:=decide_eq_false (by rw[kD];omega);have e3:decide (j<j)=false:=decide_eq_false (by omega);have e4:(bo.mk (bS.mk (kb c j).2.1 (kb c j).2.2.1) (kb c j).2.2.2.1 (cp.mk (kb c j).2.2.2.2.1 (kb c j).2.2.2.2.2.1) (aP.mk (kb c j).2.2.2.2.2.2.1 (kb c j).2.2.2.2.2.2.2))=sq c j:=rfl;have e5:(kb c j).1=j4 j:=rfl;have e6:(j4 j).length.beq 64=true:=by rw[show(j4 j).length=64 by simp[j4]];rfl
 unfold vD;rw[e4,e5];simp only[T.bh,T.aR,T.cE,T.dU,T.aM,e1,e2,cond_false,PE (show j<64 by omega),γ,Na (show j<64 by omega),e3,afA hN hj,kC hj,wo hc q1 q2];cases fit c j (r j) with
 |false=>rfl
 |true=>
  simp only[ξ6,cond_false,cond_true,e6,al4];rfl
theorem w17 (hc: ∀i,fZ (c i)) (hN:N<=12) (hg:kB c N r) (h: ∀i,i<N->fit c i (r i)=true):tD ab ⟨hD c N r⟩ (rg N)=some true:=by
 show(vN ab ⟨hD c N r⟩ (rg N)).val=_;have Nr:cB (λi z a=>(vD ab (rg N) (hD c N r) i z a).val) (λi a=>(xW ab (rg N) (hD c N r) i a).val) 0 (rg N) (kb c 0)=some (.inr (false,(N:Int),kb c N)):=by
  refine nU (st:=kb c) (λj z hz=>?_) ?_
  ·obtain⟨hj,rfl⟩:=RB hz;rw[KD hc hN hg hj,h j hj];rfl
  ·unfold xW;simp only[T.aM,Iw];simp
 have hL:C_ ab (rg N) (hD c N r) eF.aC.aQ eF.aC.ae eF.aV eF.aL.ae eF.aL.bE eF.aF.aA eF.aF.au [false,false,false,false,false,false,false,false,false,false,false,false,false,false,false,false,false,false,false,false,false,false,false,false,false,false,false,false,false,false,false,false,false,false,false,false,false,false,false,false,false,false,false,false,false,false,false,false,false,false,false,false,false,false,false,false,false,false,false,false,false,false,false,false]=some (.inr (false,(N:Int),kb c N)):=Nr;have tL:KX ab (hD c N r) (j4 N)=some (.inr (false,(N:Int))):=by
  show cB (λi z a=>(Dx ab (hD c N r) (j4 N) i z a).val) (λi a=>(B7 ab (hD c N r) (j4 N) i a).val) 0 (hD c N r) ()=_;refine nU (st:=λ_=>()) (λk z hz=>?_) ?_
  ·obtain⟨hk,rfl⟩:=rM hz;have e1:((dn c k (r k)).cV !=0)=true:=by rw[pF];simp;omega
   unfold Dx;simp only[T.bh,T.aR,T.aM,e1,cond_true,PE (show k<64 by omega),γ,Na (show k<64 by omega),decide_eq_true hk];rfl
  ·unfold B7;simp only[T.aM,kD];simp
 unfold vN;simp only[T.bh,T.aR,T.cE,T.dU,T.aM,BP hN,BO,γ,bne_self_eq_false,cond_false,hL];rw[show(kb c N).1=j4 N from rfl,tL];rfl
theorem at0 (hc: ∀i,fZ (c i)) (hN:N<=12) (hg:kB c N r) {k:Nat} (hk:k<N) (rY:fit c k (r k)=false) (h: ∀i,i<k->fit c i (r i)=true):tD ab ⟨hD c N r⟩ (rg N)=some false:=by
 show(vN ab ⟨hD c N r⟩ (rg N)).val=_;have Nr:cB (λi z a=>(vD ab (rg N) (hD c N r) i z a).val) (λi a=>(xW ab (rg N) (hD c N r) i a).val) 0 (rg N) (kb c 0)=some (.inl ()):=by
  refine Iy (st:=kb c) (n:=k) (art hk) (λj z hj hz=>?_) ?_
  ·obtain⟨OO,rfl⟩:=RB hz;rw[KD hc hN hg OO,h j hj];rfl
  ·rw[KD hc hN hg hk,rY];rfl
 have hL:C_ ab (rg N) (hD c N r) eF.aC.aQ eF.aC.ae eF.aV eF.aL.ae eF.aL.bE eF.aF.aA eF.aF.au [false,false,false,false,false,false,false,false,false,false,false,false,false,false,false,false,false,false,false,false,false,false,false,false,false,false,false,false,false,false,false,false,false,false,false,false,false,false,false,false,false,false,false,false,false,false,false,false,false,false,false,false,false,false,false,false,false,false,false,false,false,false,false,false]=some (.inl ()):=Nr;unfold vN;simp only[T.bh,T.aR,T.cE,T.dU,T.aM,BP hN,BO,γ,bne_self_eq_false,cond_false,hL]
theorem FZ (i:Nat):fit c i (dS c i)=true:=by simp[fit,ir]
theorem Nl (N:Nat):kB c N (dS c):=λ_ _=>Mx
theorem afz (N:Nat):C9 ab (rg N) (rg N)=some (.inr (false,(N:Int))):=by
 show cB (λi z a=>(Dv ab (rg N) (rg N) i z a).val) (λi a=>(B5 ab (rg N) (rg N) i a).val) 0 (rg N) ()=_;refine nU (st:=λ_=>()) (λk z hz=>?_) ?_
 ·obtain⟨hk,rfl⟩:=RB hz;unfold Dv;simp only[T.bh,T.aR,T.aM,iD hz,θ,hz,γ,bne_self_eq_false,cond_false]
 ·unfold B5;simp only[T.aM,Iw];simp
def wr (c:Nat->bR) (k i:Nat):cF:=if i=k then⟨(dS c i).db,ι.wrap ((dS c i).dI+1)⟩ else dS c i
theorem adK (k:Nat):kB c N (wr c k):=λi _=>by
 unfold wr;split
 ·exact Mx
 ·exact Mx
theorem adJ {k i:Nat} (h:i≠k):fit c i (wr c k i)=true:=by
 unfold wr;rw[if_neg h];exact FZ i
theorem adL (k:Nat):fit c k (wr c k k)=false:=by
 unfold wr;rw[if_pos rfl];unfold fit ir;have:((dS c k).dI==ι.wrap ((dS c k).dI+1))=false:=by
  rw[beq_eq_false_iff_ne];show(dS c k).dI≠((dS c k).dI+1)%18446744073709551616;omega
 simp only[this,Bool.and_false]
theorem aur {k:Nat}:(hD c N (dS c)).set k (dn c k (wr c k k))=hD c N (wr c k):=by
 unfold hD;refine IH rfl λi hi=>?_;unfold wr;rw[if_neg hi]
def fN (c:Nat->bR) (j:Nat):List ax×List Int×List Int×List ai×List aj×List aw×Int×List az×List aq:=(hD c j (dS c),rg j,(sq c j).aC.aQ,(sq c j).aC.ae,(sq c j).aV,(sq c j).aL.ae,(sq c j).aL.bE,(sq c j).aF.aA,(sq c j).aF.au)
theorem UI (hc: ∀i,fZ (c i)) {pk:Int} {calls:List bR} {j:Nat} (hj:j<12):(s9 ab pk calls (j:Int) (c j) (fN c j)).val=some (.inl (fN c (j+1))):=by
 have e1:((j:Int)==12)=false:=by simp;omega
 have e4:(bo.mk (bS.mk (fN c j).2.2.1 (fN c j).2.2.2.1) (fN c j).2.2.2.2.1 (cp.mk (fN c j).2.2.2.2.2.1 (fN c j).2.2.2.2.2.2.1) (aP.mk (fN c j).2.2.2.2.2.2.2.1 (fN c j).2.2.2.2.2.2.2.2))=sq c j:=rfl;have e5:(fN c j).1=hD c j (dS c):=rfl;have e6:(fN c j).2.1=rg j:=rfl;have w1:δ.wrap (3*(j:Int))=3*(j:Int):=eo (by omega) (by omega);have w2:δ.wrap (3*(j:Int)+1)=3*(j:Int)+1:=eo (by omega) (by omega);have w3:δ.wrap (3*(j:Int)+2)=3*(j:Int)+2:=eo (by omega) (by omega);have w4:δ.wrap (3*(j:Int)+3)=3*(j:Int)+3:=eo (by omega) (by omega);have a1: ∀d:ax,app 88 (hD c j (dS c)) [d]=some (hD c j (dS c)++[d]):=λd=>pw (n:=100) (by rw[kD];simp;omega) (by decide);have a2:app 8 (rg j) [(j:Int)]=some (rg (j+1)):=by rw[aru];exact pw (n:=100) (by rw[Iw];simp;omega) (by decide)
 have h19:=v19 (R8 hc j) (hc j);unfold s9;rw[e4,e5,e6];simp only[T.bh,T.aR,T.aM,e1,cond_false,h19,γ,bne_self_eq_false,v12,w1,w2,w3,w4,a1,a2];have zY:(jh (sq c j) (c j)).1=sq c (j+1):=rfl;rw[zY];cases c8:ch c j with
 |true=>
  rw[decide_eq_false (acX c8)];show some (Sum.inl (hD c j (dS c)++[ax.mk ((j:Int).tmod 8) (c j) (dS c j) (3*(j:Int)+1) (3*(j:Int)+2) (3*(j:Int)+3)],rg (j+1),_))=_;rw[show fN c (j+1)=(hD c (j+1) (dS c),rg (j+1),(sq c (j+1)).aC.aQ,(sq c (j+1)).aC.ae,(sq c (j+1)).aV,(sq c (j+1)).aL.ae,(sq c (j+1)).aL.bE,(sq c (j+1)).aF.aA,(sq c (j+1)).aF.au) from rfl,W9];rw[show dn c j (dS c j)=ax.mk ((j:Int).tmod 8) (c j) (dS c j) (3*(j:Int)+1) (3*(j:Int)+2) (3*(j:Int)+3) by unfold dn;rw[c8];rfl]
 |false=>
  rw[decide_eq_true (R9 c8)];show some (Sum.inl (hD c j (dS c)++[ax.mk ((j:Int).tmod 8) (c j) (dS c j) (3*(j:Int)+1) 0 (3*(j:Int)+3)],rg (j+1),_))=_;rw[show fN c (j+1)=(hD c (j+1) (dS c),rg (j+1),(sq c (j+1)).aC.aQ,(sq c (j+1)).aC.ae,(sq c (j+1)).aV,(sq c (j+1)).aL.ae,(sq c (j+1)).aL.bE,(sq c (j+1)).aF.aA,(sq c (j+1)).aF.au) from rfl,W9];rw[show dn c j (dS c j)=ax.mk ((j:Int).tmod 8) (c j) (dS c j) (3*(j:Int)+1) 0 (3*(j:Int)+3) by unfold dn;rw[c8];rfl]
def cl (calls:List bR) (i:Nat):bR:=(calls[i]?).getD ⟨0,[0,0,0,0]⟩
theorem ahB {calls:List bR} (h: ∀z∈calls,fZ z) (i:Nat):fZ (cl calls i):=by
 unfold cl;cases e:calls[i]? with
 |none=>exact⟨⟨by decide,by decide⟩,⟨by decide,by decide⟩⟩
 |some z=>exact h z (ξ5 e)
theorem VF {calls:List bR} {i:Nat} {z:bR} (h:calls[i]? =some z):cl calls i=z:=by unfold cl;rw[h];rfl
theorem w6 {calls:List bR} (h: ∀z∈calls,fZ z) (pk:Int):M3 ab calls pk=some true:=by
 show(EK ab calls pk).val=_;have XK:=ahB h;obtain⟨c,bN⟩: ∃c,c=cl calls:=⟨_,rfl⟩;rw[<-bN] at XK;have hc:=XK;obtain⟨N,hN,hL⟩: ∃N,N<=12/\((∃z:bR,∃b:Bool,Dh ab pk calls eF.aC.aQ eF.aC.ae eF.aV eF.aL.ae eF.aL.bE eF.aF.aA eF.aF.au [] []=some (.inl (true,12,z.bP,z.fArgs,z,b,fN c N)))\/Dh ab pk calls eF.aC.aQ eF.aC.ae eF.aV eF.aL.ae eF.aL.bE eF.aF.aA eF.aF.au [] []=some (.inr (.inr (false,(N:Int),fN c N)))):=by
  subst bN;rcases ξi 12 calls.length with hlen|hlen
  ·obtain⟨z,hz⟩: ∃z,calls[12]? =some z:=⟨_,η hlen⟩;refine⟨12,ξf _,.inl ⟨z,decide ((12:Int)<(calls.length:Int)),?_⟩⟩;show cB (λi z a=>(s9 ab pk calls i z a).val) (λi a=>(xZ ab pk calls i a).val) 0 calls (fN (cl calls) 0)=_;refine Iy (st:=fN (cl calls)) (n:=12) hz (λj y hj hy=>?_) ?_
   ·rw[<-VF hy];exact UI hc hj
   ·unfold s9;simp only[T.aR,T.aM];rfl
  ·refine⟨calls.length,hlen,.inr ?_⟩;show cB (λi z a=>(s9 ab pk calls i z a).val) (λi a=>(xZ ab pk calls i a).val) 0 calls (fN (cl calls) 0)=_;refine nU (st:=fN (cl calls)) (λj y hy=>?_) ?_
   ·have hj:=(κ.1 hy).1;rw[<-VF hy];exact UI hc (by omega)
   ·unfold xZ;simp only[T.aM];simp
 clear bN;unfold EK;have g5:(fN c N).1=hD c N (dS c):=rfl;have g6:(fN c N).2.1=rg N:=rfl;have g4:(bo.mk (bS.mk (fN c N).2.2.1 (fN c N).2.2.2.1) (fN c N).2.2.2.2.1 (cp.mk (fN c N).2.2.2.2.2.1 (fN c N).2.2.2.2.2.2.1) (aP.mk (fN c N).2.2.2.2.2.2.2.1 (fN c N).2.2.2.2.2.2.2.2))=sq c N:=rfl;have W5:=w16 hc hN (Nl N) λi _=>FZ i;have h12:=Sr hc hN (Nl N) λi _=>FZ i;have h17:=w17 hc hN (Nl N) λi _=>FZ i;rcases hL with⟨z,b,hL⟩|hL
 all_goals
  simp only[T.bh,T.aR,T.cE,T.dU,T.aM,BO,hL,γ,g4,g5,g6,ξC,h12,W5,bne_self_eq_false,cond_false,Iw,afz,v12,decide_true,ξ6,h17];rcases ξ9 N with h0|h0
  ·subst h0;rfl
  ·have e0:((N:Int)==0)=false:=by simp;omega
   have hw:ι.wrap (N:Int)=N:=qW (by omega) (by omega);have hp:0<=ι.wrap pk:=by show(0:Int)<=pk%18446744073709551616;omega
   obtain⟨u,hu⟩:=Int.eq_ofNat_of_zero_le hp;have anI:uI (ι.wrap pk) (N:Int)=some ((u%N:Nat):Int):=by
    unfold uI;rw[if_neg (by omega),hu];rfl
   have hk:u%N<N:=Nat.mod_lt _ h0;have mw:δ.wrap ((u%N:Nat):Int)=((u%N:Nat):Int):=eo (by omega) (by omega);have z_:gq (hD c N (dS c)) none (some (if 66<((hD c N (dS c)).length:Int) then 66 else((hD c N (dS c)).length:Int))) none=some (hD c N (dS c)):=by
    rw[ai0 (hD c N (dS c)) 66 66 rfl];rw[ξh (by rw[kD];omega)]
   have tN:app 88 ([]:List ax) (hD c N (dS c))=some (hD c N (dS c)):=pw (n:=100) (by rw[kD];simp;omega) (by decide);have si:(ax.mk (dn c (u%N) (dS c (u%N))).eU (dn c (u%N) (dS c (u%N))).ed (cF.mk (dn c (u%N) (dS c (u%N))).dd.db (ι.wrap ((dn c (u%N) (dS c (u%N))).dd.dI+1))) (dn c (u%N) (dS c (u%N))).cN (dn c (u%N) (dS c (u%N))).b9 (dn c (u%N) (dS c (u%N))).cV)=dn c (u%N) (wr c (u%N) (u%N)):=by
    unfold wr;rw[if_pos rfl];rfl
   have amH:=atZ hc hN (adK _) hk (adL _) (λi hi _=>adJ hi);have amK:=at0 hc hN (adK _) hk (adL _) λi hi=>adJ (by omega);simp only[e0,cond_false,hw,anI,γ,z_,tN,mw,kC hk,θ,F9 hk,si,aur,amH,amK];rfl
end Go.Proofs.YtoggponeookhbaaGreatDoor
end
section
namespace Go.Dc
open Go.RowKit
structure je {α:Type} (P:Program) (t:TypeId) (T:Ty α) (D: {H:Type}->DataW H->α->Prop):Prop where
 cells:P.cellsOf t=T.n
 shape: ∀ {w:World} {b:Nat} {v:Value},ψ P w .any b t v->v=T.mk' v.cells.toList
 bA: ∀ {H:Type} {enc:TypeId×Value->H} {w:World} {held:Bool} {fuel:Nat} {cs:List Value} {d:DataW H} {p:List MemPlace},ξD enc P w 0 (λ_=>true) held fuel t cs=some (d,p)->w.noneFrozen p-> ∃x,T.rep [] w cs x/\D d x
section
variable {P:Program} {t:TypeId}
def jY (k:IntKind) {H:Type} (d:DataW H) (x:Int):Prop:=d= .lit (.int k x)/\(Lit.int k x).wf=true
def xU {H:Type} (d:DataW H) (x:Bool):Prop:=d= .lit (.bool x)
theorem aaI {k:IntKind} (hu:P.underlying t=some (.int k)) (hc:P.cellsOf t=1):je P t (Ty.int k) (jY k) where
 cells:=hc
 shape {w b v} h:=by
  simp only[ψ,hu,ξH] at h;unfold Cell.ok at h;rw[hu] at h;cases v<;>simp_all [Ty.mk',Ty.int,ξm]
 bA {H enc w held fuel cs d p} h _:=by
  obtain⟨n,rfl,hx,hw⟩:=DataW.trod_int hu h;cases hx;exact⟨n,rfl,rfl,hw⟩
theorem apB (hu:P.underlying t=some .bool) (hc:P.cellsOf t=1):je P t Ty.bool xU where
 cells:=hc
 shape {w b v} h:=by
  simp only[ψ,hu,ξH] at h;unfold Cell.ok at h;rw[hu] at h;cases v<;>simp_all [Ty.mk',Ty.bool,ξm]
 bA {H enc w held fuel cs d p} h _:=by
  obtain⟨b,rfl,hx⟩:=DataW.trod_bool hu h;cases hx;exact⟨b,rfl,rfl⟩
def nu {α:Type} (D: {H:Type}->DataW H->α->Prop) {H:Type}:List (DataW H)->List α->Prop
 |[],xs=>xs=[]
 |d::ds,xs=> ∃y ys,xs=y::ys/\D d y/\nu D ds ys
def vk {α:Type} (D: {H:Type}->DataW H->α->Prop) {H:Type} (d:DataW H) (xs:List α):Prop:=
 match d with
 | .nil=>xs=[]
 | .slice es _=>nu D es xs
 |_=>False
theorem nu.len {α:Type} {D: {H:Type}->DataW H->α->Prop} {H:Type}: ∀ {ds:List (DataW H)} {xs:List α},nu D ds xs->ds.length=xs.length
 |[],_,h=>by rw[show _=[] from h];rfl
 |_::_,_,⟨y,ys,h,_,h2⟩=>by subst h;simp[nu.len h2]
theorem nu.mem {α:Type} {D: {H:Type}->DataW H->α->Prop} {H:Type}: ∀ {ds:List (DataW H)} {xs:List α},nu D ds xs-> ∀x∈xs,∃d∈ds,D d x
 |[],_,h,x,hx=>by rw[show _=[] from h] at hx;cases hx
 |d::_,_,⟨y,ys,h,U,h2⟩,x,hx=>by
  subst h;rcases ξg.1 hx with rfl|hx
  ·exact⟨d,ω,U⟩
  ·obtain⟨e,he,h⟩:=nu.mem h2 x hx;exact⟨e,ξ4 _ he,h⟩
theorem vk.mem {α:Type} {D: {H:Type}->DataW H->α->Prop} {H:Type} {d:DataW H} {xs:List α} (h:vk D d xs): ∀x∈xs,∃e:DataW H,D e x:=by
 intro x hx;unfold vk at h;split at h
 ·subst h;cases hx
 ·obtain⟨e,_,he⟩:=nu.mem h x hx;exact⟨e,he⟩
 ·exact h.elim
theorem Ms {α:Type} {D: {H:Type}->DataW H->α->Prop} {H:Type} {R:Nat->α->Prop}: ∀(ds:List (DataW H)) (o:Nat),(∀k d,ds[k]? =some d-> ∃x,R (o+k) x/\D d x)-> ∃xs,nu D ds xs/\ ∀(k:Nat) x,xs[k]? =some x->R (o+k) x
 |[],_,_=>⟨[],rfl,λk x h=>by simp at h⟩
 |d::ds,o,h=>by
  obtain⟨x,hx,hd⟩:=h 0 d rfl;obtain⟨xs,U,h2⟩:=Ms (R:=R) ds (o+1) (λk e he=>by
   have:=h (k+1) e (by simpa using he)
   rwa [show o+(k+1)=o+1+k by omega] at this)
  refine⟨x::xs,⟨x,xs,rfl,hd,U⟩,λk y hy=>?_⟩;cases k with
  |zero=>simp at hy;subst hy;simpa using hx
  |succ k=>
   have:=h2 k y (by simpa using hy)
   rwa [show o+(k+1)=o+1+k by omega]
theorem Vu {w:World} {a:Addr} {u:Value} (h:w.cell? a=some u):a.block<w.heap.size:=by
 unfold World.cell? at h;split at h
 ·rename_i hh;exact(Array.getElem?_eq_some_iff.1 hh).1
 ·cases h
theorem ag' (a:Addr) (n:Nat):(a.add n).off=a.off+n:=by unfold Addr.add;split<;>simp_all
theorem apD {α:Type} {e:TypeId} {T:Ty α} {D: {H:Type}->DataW H->α->Prop} (hu:P.underlying t=some (.slice e)) (hc:P.cellsOf t=1) (he:je P e T D) (hn:0<T.n):je P t T.slice (vk D) where
 cells:=hc
 shape {w b v} h:=by
  obtain⟨a,len,cap,rfl⟩:=WideShapes.okWide_slice hu h;rfl
 bA {H enc w held fuel cs d p} h jE:=by
  rcases DataW.trod_slice hu h with⟨rfl,hx⟩|⟨a,len,cap,elems,rest,n,rfl,rfl,hx,_,OR,mR,hlen,hel,_,_⟩
  ·cases hx;exact⟨[],⟨none,0,rfl,⟨ξf _,by unfold maxLen;omega⟩,λk x h=>by simp at h⟩,rfl⟩
  ·cases hx;have key: ∀(k:Nat) (x:DataW H),(elems.map (·.1))[k]? =some x-> ∃y,(a.block<w.heap.size/\ ∃es,T.rep [] w es y/\sW w (a.add ((0+k)*T.n)) es)/\D x y:=by
    intro k x hk;have j7:k<len:=by
     have:=(κ.1 hk).1;simpa[hlen] using this
    have cO:elems[k]? =some elems[k]:=η (by omega);have cM:=hel k j7;rw[cO] at cM;simp only[Option.bind_eq_some_iff] at cM;obtain⟨cs,fi,eK⟩:=cM;have hx:x=elems[k].1:=by
     rw[τ,cO] at hk;simpa using hk.symm
    obtain⟨y,qC,AK⟩:=he.bA (d:=elems[k].1) (p:=elems[k].2) eK (λb off hm=>jE b off (χ _ (ξx.2 ⟨elems[k],μ _ (ξy _),hm⟩)));obtain⟨_,hl,tQ⟩:=World.cells?_some fi;rw[he.cells] at hl tQ;have m3:0<cs.length:=by omega
    refine⟨y,⟨?_,cs,qC,λj u hj=>?_,λj hj=>?_⟩,by rw[hx];exact AK⟩
    ·have h0:=tQ 0 (by omega);rw[η m3] at h0;have:=Vu h0;simpa[mI] using this
    ·have iy:j<T.n:=by have:=(κ.1 hj).1;omega
     rw[ξk,tQ j iy];exact hj
    ·have aB:(0+k)*T.n+j<(elems.length+rest.length)*P.cellsOf e:=by
      rw[he.cells,ξk];have:(k+1)*T.n<=(elems.length+rest.length)*T.n:=Nat.mul_le_mul_right _ (by omega);rw[Nat.succ_mul] at this;omega
     have:=jE a.block (a.off+((0+k)*T.n+j)) (μ _ (MemPlace.mem_row.2 ⟨_,aB,rfl⟩));rw[add_add];simp only[ξE,mI,ag'] at this ⊢;exact this
   obtain⟨xs,U,h2⟩:=Ms (R:=λk y=>a.block<w.heap.size/\ ∃es,T.rep [] w es y/\sW w (a.add (k*T.n)) es) (elems.map (·.1)) 0 (λk x hk=>key k x hk);have oN:xs.length=len:=by rw[<-U.len];simpa using hlen
   refine⟨xs,⟨some a,cap,by rw[oN],⟨by omega,mR⟩,λk x hk=>?_⟩,U⟩;obtain⟨zV,es,hr,zZ⟩:=h2 k x hk;exact⟨a,es,rfl,zV,by simp,hr,by simpa using zZ⟩
structure Dl {α:Type} (P:Program) (o:Nat) (fs:List Field) (T:Ty α) (D: {H:Type}->List (DataW H)->α->Prop):Prop where
 bA: ∀ {H:Type} {enc:TypeId×Value->H} {w:World} {held:Bool} {fuel:Nat} {cs:List Value} {xs:List (DataW H×List MemPlace)},xs.length=fs.length->
  (∀(i:Nat) (f:Field),fs[i]? =some f->ξD enc P w 0 (λ_=>true) held fuel f.type ((cs.drop f.offset).take (P.cellsOf f.type))=xs[i]?)->w.noneFrozen (xs.flatMap (·.2))->
  ∃x,T.rep [] w ((cs.drop o).take T.n) x/\D (xs.map (·.1)) x
def sX {α:Type} (D: {H:Type}->DataW H->α->Prop) {H:Type} (ds:List (DataW H)) (x:α):Prop:= ∃d,ds=[d]/\D d x
def ny {α β:Type} (D: {H:Type}->DataW H->α->Prop) (E: {H:Type}->List (DataW H)->β->Prop) {H:Type} (ds:List (DataW H)) (x:α×β):Prop:= ∃d r,ds=d::r/\D d x.1/\E r x.2
theorem aaH {α:Type} {o:Nat} {f:Field} {T:Ty α} {D: {H:Type}->DataW H->α->Prop} (ho:f.offset=o) (h:je P f.type T D):Dl P o [f] T (sX D) where
 bA {H enc w held fuel cs xs} hl hm jE:=by
  obtain⟨y,rfl⟩: ∃y,xs=[y]:=List.length_eq_one_iff.1 hl;have hy:=hm 0 f rfl;obtain⟨x,U,h2⟩:=h.bA (d:=y.1) (p:=y.2) hy (λb off hm=>jE b off (by simpa using hm));rw[ho,h.cells] at U;exact⟨x,U,y.1,rfl,h2⟩
theorem H0 {α β:Type} {o o':Nat} {f:Field} {fs:List Field} {T:Ty α} {S:Ty β} {D: {H:Type}->DataW H->α->Prop} {E: {H:Type}->List (DataW H)->β->Prop} (ho:f.offset=o) (h:je P f.type T D) (eA:o'=o+T.n) (hs:Dl P o' fs S E):
  Dl P o (f::fs) (Ty.pair T S) (ny D E) where
 bA {H enc w held fuel cs xs} hl hm jE:=by
  cases xs with
  |nil=>simp at hl
  |cons y r=>
   have hy:=hm 0 f rfl;obtain⟨x,U,h2⟩:=h.bA (d:=y.1) (p:=y.2) hy (λb off hm=>jE b off (by simp[hm]));obtain⟨z,h3,h4⟩:=hs.bA (xs:=r) (by simpa using hl) (λi g hg=>by simpa using hm (i+1) g (by simpa using hg)) (λb off hm=>jE b off (by rw[ξc];exact χ _ hm));rw[ho,h.cells] at U;refine⟨(x,z),⟨_,_,?_,U,h3⟩,y.1,r.map (·.1),rfl,h2,h4⟩;show(cs.drop o).take (T.n+S.n)=_;rw[List.take_add,List.drop_drop,eA]
def sY {α β:Type} (E: {H:Type}->List (DataW H)->α->Prop) (f:β->α) {H:Type} (d:DataW H) (x:β):Prop:= ∃ds,d= .agg ds/\E ds (f x)
theorem aaJ {α β:Type} {fs:Array Field} {T:Ty α} {E: {H:Type}->List (DataW H)->α->Prop} (f:β->α) (g:α->β) (XU: ∀x,f (g x)=x) (hu:P.underlying t=some (.struct fs)) (hc:P.cellsOf t=T.n) (ha:T.agg=true) (h:Dl P 0 fs.toList T E):je P t (T.jM f) (sY E f) where
 cells:=hc
 shape {w b v} h:=by
  simp only[ψ,hu] at h;obtain⟨cs,rfl,_⟩:=h;simp[Ty.mk',Ty.jM,ha,ξm]
 bA {H enc w held fuel cs d p} hd jE:=by
  obtain⟨xs,n,rfl,hx,hl,oN,hi⟩:=DataW.trod_struct hu hd;cases hx;obtain⟨x,U,h2⟩:=h.bA (xs:=xs) (cs:=cs) (by simpa using oN) (λi g hg=>hi i g (by simpa using hg)) jE;rw[List.drop_zero,ξh (by omega)] at U;exact⟨g x,by show T.rep [] w cs (f (g x));rw[XU];exact U,_,rfl,by rw[XU];exact h2⟩
theorem je.arg {α:Type} {T:Ty α} {D: {H:Type}->DataW H->α->Prop} (h:je P t T D) {H:Type} {enc:TypeId×Value->H} {w:World} {held:Bool} {v:Value} {d:DataW H} {p:List MemPlace} {b:Nat} (hs:ψ P w .any b t v)
  (hd:DataW.Trod enc P w 0 (λ_=>true) held t v d p) (jE:w.noneFrozen p): ∃x,T.is [] w v x/\D d x:=by
 obtain⟨fuel,hf⟩:=hd;obtain⟨x,U,h2⟩:=h.bA hf jE;exact⟨x,⟨_,U,h.shape hs⟩,h2⟩
end
theorem Vl {H:Type} {enc:TypeId×Value->H} {P:Program} {W W':World} (hl:laidOutB P=true): ∀ {ts:List TypeId} {vs:List Value} {ds:List (DataW H)} {ps:List MemPlace},(∀t∈ts,P.readableRec t=true/\t<P.types.size)->ξq enc P W 0 (λ_=>true) true ts vs ds ps->Below W.heap.size W W'->(∀x∈ps,x.block<W.heap.size)->
  ∀sp:Nat->Bool,(∀p∈ps,sp p.block=true)->ξq enc P W' 0 sp true ts vs ds ps
 |[],[],[],_,_,h,_,_,_,_=>h
 |_::_,_::_,_::_,_,ht,⟨p,q,U,h2,e⟩,hb,aB,sp,hs=>by
  subst e;refine⟨p,q,?_,Vl hl (λt h=>ht t (ξ4 _ h)) h2 hb (λx hx=>aB x (χ _ hx)) sp (λx hx=>hs x (χ _ hx)),rfl⟩;exact WideElems.Trod_stays hl (ht _ ω).1 (ht _ ω).2 U (λx hx=>hb.same (aB x (μ _ hx))) (λx hx=>hs x (μ _ hx))
end Go.Dc
end
section
namespace Go.Vx
open Go.RowKit Go.Dc
variable {P:Program} {t:TypeId}
def vg (k:IntKind) (n:Nat) {H:Type} (d:DataW H) (x:List Int):Prop:= ∃ds,d= .agg ds/\nu (jY k) ds x/\x.length=n
theorem apA {k:IntKind} {n:Nat} {e:TypeId} (hu:P.underlying t=some (.array n e)) (hc:P.cellsOf t=n) (he:je P e (Ty.int k) (jY k)):je P t (pz k n) (vg k n) where
 cells:=hc
 shape {w b v} hs:=by
  simp only[ψ,hu] at hs;obtain⟨cs,rfl,_⟩:=hs;simp[Ty.mk',pz,ξm]
 bA {H enc w held fuel cs d p} hd jE:=by
  obtain⟨xs,m,rfl,hx,hl,oN,hi⟩:=DataW.trod_array hu hd;cases hx;have U:P.cellsOf e=1:=he.cells;have key: ∀(j:Nat) (x:DataW H),(xs.map (·.1))[j]? =some x-> ∃y,(cs[0+j]? =some (.int k y))/\jY k x y:=by
   intro j x hj;have iy:j<xs.length:=by
    have:=(κ.1 hj).1;simpa using this
   have cO:xs[j]? =some xs[j]:=η iy;have hx:x=xs[j].1:=by
    rw[τ,cO] at hj;simpa using hj.symm
   have cC:=hi j (by omega);rw[cO] at cC;obtain⟨y,qC,AK⟩:=he.bA (d:=xs[j].1) (p:=xs[j].2) cC (λb off hm=>jE b off (ξx.2 ⟨xs[j],ξy _,hm⟩));refine⟨y,?_,by rw[hx];exact AK⟩;rw[U,Nat.mul_one] at qC;have qC:(cs.drop j).take 1=[.int k y]:=qC;rw[ξk];cases hd:cs.drop j with
   |nil=>rw[hd] at qC;simp at qC
   |cons u r=>
    rw[hd] at qC;have:u= .int k y:=by simpa using qC
    subst this;have:=List.getElem?_drop (xs:=cs) (i:=j) (j:=0);rw[hd] at this;simpa using this.symm
  obtain⟨ys,h2,h3⟩:=Ms (R:=λj y=>cs[j]? =some (.int k y)) (xs.map (·.1)) 0 (λj x hj=>key j x hj);have Px:ys.length=n:=by rw[<-h2.len];simpa using oN
  refine⟨ys,⟨Px,?_⟩,_,rfl,h2,Px⟩;refine ξd λj=>?_;rw[τ];cases hj:ys[j]? with
  |none=>
   rw[ζ] at hj;rw[List.getElem?_eq_none (by rw[hl,hc];omega)];rfl
  |some y=>
   have:=h3 j y hj;rw[ξk] at this;exact this
end Go.Vx
end
section
namespace Go.Proofs.YtoggponeookhbaaGreatDoor
open Go.RowKit Go.Dc Go.Vx
theorem Bf:je ε 35 (Ty.int .u64) (jY .u64):=aaI Tryz.underlying35 (by kernel_rfl)
theorem apw:je ε 36 (pz .u64 4) (vg .u64 4):=apA Tryz.underlying36 (by kernel_rfl) Bf
theorem apx:je ε 38 sQ (sY (ny (jY .u64) (sX (vg .u64 4))) (λd:bR=>(d.bP,d.fArgs))):=aaJ (λd:bR=>(d.bP,d.fArgs)) (λp=>⟨p.1,p.2⟩) (λ_=>rfl) Tryz.underlying38 (by kernel_rfl) rfl (H0 rfl Bf rfl (aaH rfl apw))
theorem apz:je ε 64 (Ty.slice sQ) (vk (sY (ny (jY .u64) (sX (vg .u64 4))) (λd:bR=>(d.bP,d.fArgs)))):=apD Tryz.underlying64 (by kernel_rfl) apx (by decide)
theorem apv:je ε 3 (Ty.int .i64) (jY .i64):=aaI Tryz.underlying3 (by kernel_rfl)
theorem apy:je ε 4 Ty.bool xU:=apB ξz (by kernel_rfl)
theorem apu:je ε 115 lY (sY (ny (jY .u64) (ny (jY .u64) (ny xU (sX (jY .u64))))) (λd:ai=>(d.aa,d.ba,d.bK,d.da))):=aaJ (λd:ai=>(d.aa,d.ba,d.bK,d.da)) (λp=>⟨p.1,p.2.1,p.2.2.1,p.2.2.2⟩) (λ_=>rfl) Tryz.underlying115 (by kernel_rfl) rfl (H0 rfl Bf rfl (H0 rfl Bf rfl (H0 rfl apy rfl (aaH rfl Bf))))
def LA (P:Program) (w:World) (n:String) (d:DataW Unit):Prop:=
 ∃g t cs fuel p,P.globalNamed n=some g/\(P.globals[g]?).map (·.type)=some t/\w.var? P n=some cs/\ξD (λ_=>()) P w 0 (λ_=>true) false fuel t cs.toList=some (d,p)/\w.noneFrozen p/\w.noneFrozen (ξF ⟨g,0,none⟩ cs.size)
theorem YX {P:Program} {w:World}: ∀ {l:List (String×DataW Unit)} {ps:List MemPlace},DataW.LaidVars P w l ps->w.noneFrozen ps-> ∀n d,(n,d)∈l->LA P w n d
 |[],_,_,_,_,_,hm=>by cases hm
 |(n',d')::r,ps,h,hf,n,d,hm=>by
  obtain⟨g,t,cs,fuel,p,q,U,h2,h3,h4,h5,rfl⟩:=h;rcases ξg.1 hm with e|e
  ·cases e;exact⟨g,t,cs,fuel,p,U,h2,h3,h4,λb off hb=>hf b off (by simp[hb]),λb off hb=>hf b off (by simp[hb])⟩
  ·exact YX h5 (λb off hb=>hf b off (by simp[hb])) n d e
theorem aou {P:Program} {w:World} {l:List (String×DataW Unit)} (h:laidMet P l w) {n:String} {d:DataW Unit} (hm:(n,d)∈l):LA P w n d:=by
 obtain⟨ps,hv,_,hc⟩:=h;refine YX hv (λb off hb=>?_) n d hm;obtain⟨⟨c,t,e⟩,_⟩:=hc b off hb;unfold ξE;simp[e]
theorem aov {α:Type} {P:Program} {w:World} {n:String} {d:DataW Unit} {g t:Nat} {T:Ty α} {D: {H:Type}->DataW H->α->Prop} (hg:P.globalNamed n=some g) (hty:(P.globals[g]?).map (·.type)=some t) (h:je P t T D) (m3:0<T.n) (hl:LA P w n d):
  ∃x,T.ptr.is [] w (.pointer (some ⟨g,0,none⟩)) x/\D d x:=by
 obtain⟨g',t',cs,fuel,p,U,h2,h3,h4,hp,hf⟩:=hl;cases hg.symm.trans U;cases hty.symm.trans h2;obtain⟨x,h5,h6⟩:=h.bA h4 hp;have hc: ∀j,w.cell? ⟨g,j,none⟩=cs.toList[j]? :=λj=>by
  have:=World.var?_cell hg h3 j;simpa using this
 have hl:=T.len h5;have e: ∀j,(⟨g,0,none⟩:Addr).add j=⟨g,j,none⟩:=λj=>by unfold Addr.add;split<;>simp_all
 refine⟨x,⟨_,⟨⟨g,0,none⟩,_,rfl,?_,by simp,h5,λj u hu=>?_,λj hj=>?_⟩,rfl⟩,h6⟩
 ·obtain⟨u,hu⟩: ∃u,cs.toList[0]? =some u:=⟨_,η (by omega)⟩;rw[<-hc] at hu;exact Vu hu
 ·rw[e,hc];exact hu
 ·rw[e];refine hf g j ?_;unfold ξF
  simp_all
theorem amC {H:Type} {d:DataW H} {x:Int} (h:jY .u64 d x):0<=x/\x<18446744073709551616:=by
 have:=h.2;simp[Lit.wf,IntKind.min,IntKind.max,IntKind.signed,IntKind.bits] at this;omega
theorem al8 {x:ai} (h:sY (ny (jY .u64) (ny (jY .u64) (ny xU (sX (jY .u64))))) (λd:ai=>(d.aa,d.ba,d.bK,d.da)) (ξ1 (H:=Unit)) x):x=F2:=by
 obtain⟨a,b,c,d⟩:=x;simp[ξ1,sY,ny,sX,jY,xU] at h;obtain⟨d1,r1,⟨rfl,rfl⟩,⟨U,_⟩,d2,r2,e2,⟨h2,_⟩,d3,r3,e3,h3,d4,e4,h4,_⟩:=h;simp at e2;obtain⟨rfl,rfl⟩:=e2;simp at e3;obtain⟨rfl,rfl⟩:=e3;simp at e4;subst e4;simp at U h2 h3 h4;subst U;subst h2;subst h3;subst h4;rfl
theorem al' {O:List Nat} {w:World} (h:lY.ptr.is O w (.pointer (some ⟨0,0,none⟩)) F2):dR KK O w:=by
 intro g t x hg;show(SS.ty t).ptr.is O w (.pointer (some ⟨g,0,none⟩)) x;have hg:Nj g=some ⟨t,x⟩:=hg;unfold Nj at hg;split at hg
 ·cases hg;exact h
 ·cases hg
theorem aho {f:Nat} {args:List (aD SS)} {r:Bool} (hc:gH KK ε f args (.ret (.s (KK.bA 4 r)))) {A:Pl} {O:List Nat} {w:World} {vs:List Value} (hv:dO A O w args vs) (hO:OB O w) (hG:dR KK O w):Calls ε f vs.toArray w (ll (xJ Ty.bool) O w r):=by
 refine(hc.2 A O w vs hv hO hG).mono ?_;rintro e w' ⟨⟨v,rfl,U,_⟩,hF⟩;cases U;exact⟨_,rfl,pA.2 rfl,hF⟩
theorem adb {l:List Int} (h: ∀x∈l,eQ x) (i:Nat):eQ (aI l i):=by
 unfold aI;cases e:l[i]? with
 |none=>exact⟨by simp,by simp⟩
 |some x=>exact h x (ξ5 e)
theorem aum {H:Type} {d:DataW H} {l:List Int} (h:vg .u64 4 d l):(∀x∈l,eQ x)/\l.length=4:=by
 obtain⟨ds,_,ha,hl⟩:=h;refine⟨λx hx=>?_,hl⟩;obtain⟨e,_,he⟩:=ha.mem x hx;exact amC he
theorem aun {H:Type} {d:DataW H} {l:List bR} (h:(vk (sY (ny (jY .u64) (sX (vg .u64 4))) (λd:bR=>(d.bP,d.fArgs)))) d l): ∀c∈l,fZ c:=by
 intro c hc;obtain⟨e,_,_,_,_,_,_,_,_,ha⟩:=h.mem c hc;have:=(aum ha).1;exact⟨adb this 0,adb this 1⟩
theorem afE {calls:List bR} (h: ∀c∈calls,fZ c) (pk:Int):M3 ab calls pk=some true:=w6 h pk
theorem aos {O:List Nat} {w:World} (hO:OB O w) (hg:lY.ptr.is O w (.pointer (some ⟨0,0,none⟩)) F2) {v0 v1:Value} {x0:List bR} {x1:Int} (h0:(Ty.slice sQ).is O w v0 x0) (U:(Ty.int .i64).is O w v1 x1) {r:Bool} (h:M3 ab x0 x1=some r):Calls ε 6 #[v0,v1] w (ll (xJ Ty.bool) O w r):=by
 rw[<-sP] at h;have hc:gH KK ε 6 [KK.bA 64 x0,KK.bA 3 x1] (.ret (.s (KK.bA 4 r))):=IA (G:=Jc) ae8 (kf:=λ{R} (k:Rs SS->Option R)=>(λr=>k (.ret (.s (KK.bA 4 r))))) (λk=>t_6 x0 x1 k) rfl (Ng h) λk=>rfl;exact aho hc (A:=HQ) (vs:=[v0,v1]) ⟨v0,_,rfl,mB eP (t:=64) rfl rfl h0,v1,_,rfl,mB eP (t:=3) rfl rfl U,rfl⟩ hO (al' hg)
end Go.Proofs.YtoggponeookhbaaGreatDoor
end
section
namespace Go.Proofs.YtoggponeookhbaaGreatDoor.orderOne
open Go.ChangeShapes Go.WideShapes Go.ChangeAt Go.RowKit Go.Dc Go.Vx
theorem own:ownKnob ε.godebug=none:=by kernel_rfl
theorem laidOut:laidOutB ε=true:=by kernel_rfl
theorem aiV (H:Type) (enc:TypeId×Value->H) (W:World) (base:Nat) (args:Array Value) (ds gs:List (DataW H)) (before:List MemPlace)
  (sf: ∀(j:Nat) t v,ξ2.params[j]? =some t->args[j]? =some v->ψ ε W .any base t v)
  (hW:DataW.Whole enc ε ξ2.params.toList υ.vars false W args.toList ds gs before) (hL:laidMetH ε ξ3.laid W):
  Calls ε 6 args W λe W'=> ∃v,e= .returned v/\υ.post enc ε ξ2 false true false false W args v W':=by
 have hW':=hW;have aB:=hW.lt;obtain⟨p,q,wB,hV,rfl,jE,r_⟩:=hW;have hA:ξq enc ε W 0 (λ_=>true) true ξ2.params.toList args.toList ds p:=wB;have pR:=wB;rw[ξv] at hA sf;obtain⟨v0,Sq,d0,ds0,p0,q0,auA,rfl,rfl,h0,r0⟩:=trodAll_cons hA;obtain⟨v1,vs1,d1,ds1,p1,q1,rfl,rfl,rfl,U,r1⟩:=trodAll_cons r0;obtain⟨rfl,rfl,rfl⟩:=trodAll_nil r1;obtain rfl:args= #[v0,v1]:=by cases args;simp_all
 obtain⟨rfl,rfl⟩:=trodVars_none hV;obtain⟨x0,sj,D0⟩:=apz.arg (sf 0 64 v0 rfl rfl) h0 (λb off hm=>jE b off (by simp[hm]));obtain⟨x1,Pu,D1⟩:=apv.arg (sf 1 3 v1 rfl rfl) U (λb off hm=>jE b off (by simp[hm]));obtain⟨y0,OF,Dg0⟩:=aov (g:=0) (by kernel_rfl) (by kernel_rfl) apu (by decide) (aou hL (.head _));obtain rfl:=al8 Dg0;have iv:=aos (O:=[]) (w:=W) (λk hk=>by cases hk) OF sj Pu (afE (aun D0) x1);refine iv.mono λe W' ⟨v,he,hv,hF⟩=>?_;subst he;obtain rfl:=pA.1 hv;refine⟨_,rfl,_,_,_,[],(p0++(p1++[])),[],hW',?_,?_,?_,hF.below.frame _,λh=>by cases h⟩
 ·exact trodAll_cons_mk (shut_bool ξz _) trodAll_mk0
 ·exact Vl laidOut (by rw[ξv];intro t ht;simp only[ξg,ξA,or_false] at ht;rcases ht with rfl|rfl<;>exact⟨by kernel_rfl,of_decide_eq_true (by kernel_rfl)⟩) pR hF.below (λx hx=>aB x (μ _ hx)) _ (λx hx=>by simpa using aB x (μ _ hx))
 ·rfl
noncomputable def PW (os:Os):World:=
 let w0:=World.holding ε os ⟨#[],#[],[]⟩
 { w0 with heap:=w0.heap.modify 0 λ
  | .cells _ t frozen=> .cells #[.int .u64 1,.int .u64 0,.bool false,.int .u64 0] t frozen
  |o=>o }
theorem aot (os:Os):laidMet ε ξ3.laid ((PW os).forCall (λ_ _=>0) ⟨#[],#[(.slice none 0 0:Value),(.int .i64 0:Value)],[]⟩).memory:=
 laidMet_of_run' 8 (by kernel_rfl) (by kernel_rfl)
theorem reads (os:Os) {H:Type} (enc:TypeId×Value->H):(DataW.whole enc ε ((PW os).forCall (λ_ _=>0) ⟨#[],#[(.slice none 0 0:Value),(.int .i64 0:Value)],[]⟩).memory ξ2.params.toList υ.vars false (#[(.slice none 0 0:Value),(.int .i64 0:Value)]:Array Value).toList 8).map (λx=>(x.1,x.2.1))=some ([.nil,.lit (.int .i64 0)],[]):=by kernel_rfl
theorem lifted (os:Os) (started:os.Started) (H:Type) (enc:TypeId×Value->H) (F:Stop.Interp):
  ReturnsInHanded {} ξw os 6 .any ((ξe υ).preRow enc ε ξ2 ξ3.domain false ξ3.laid) (((ξe υ).at F).post enc ε ξ2 false true false false):=by
 obtain⟨⟨z1,z2,z3⟩,hx,hz⟩:=Option.map_eq_some_iff.1 (reads os enc);simp only[Prod.mk.injEq] at hz;obtain⟨rfl,rfl⟩:=hz;refine returnsInHanded_of_row (C:=ξw) (s:=ξe υ) own started (by kernel_rfl) ξu
  (witness_row_atRef (enc:=enc) (C:=ξw) false (PW os) #[(.slice none 0 0:Value),(.int .i64 0:Value)] rfl (by kernel_rfl) (by kernel_rfl) (by kernel_rfl)
   (OpenSpec.preRow_of_cond 8 hx (by kernel_rfl) (λk hk=>by cases hk) (by kernel_rfl) (aot os))) ?_
 intro W base args ds gs before sf hW _ _ _ hL _ _;exact aiV H enc W base args ds gs before sf hW hL
theorem said:Rows.OrderOneSaid:=
 OpenClaim.holds_of_cond 6 ξ2 rfl rfl rfl rfl rfl rfl rfl ⟨rfl,rfl,rfl,rfl,rfl⟩ rfl rfl rfl rfl rfl (by kernel_rfl) ξu (by kernel_rfl)
  (of_decide_eq_true (by kernel_rfl)) (by unfold Func.isWrapper;first|(rw[if_pos (by decide+kernel)];kernel_rfl)|(rw[if_neg (by decide+kernel)];exact⟨rfl,rfl⟩))
  (λos started H enc _ F=>by rw[OpenClaim.pre_eq_preRow];exact lifted os started H enc F)
theorem plain (f:FuncId) (fn:Func) (hf:ξn.checked.prog.funcNamed "afterglow/afterglowlaw29.OrderOne" =some f) (Af:ξn.checked.prog.funcs[f]? =some fn):
  true=ξn.checked.prog.looks []/\ ∀(j:Nat) t,fn.params[j]? =some t->ξn.checked.prog.wantsStandIn t=false:=by
 obtain rfl:f=6:=ξj ((show ε.funcNamed "afterglow/afterglowlaw29.OrderOne" =some 6 by kernel_rfl).symm.trans hf)|>.symm;obtain rfl:fn=ξ2:=(ξj (ξu.symm.trans Af)).symm;refine⟨by kernel_rfl,λj t ht=>?_⟩;rw[ξv] at ht;have ht:=Array.mem_of_getElem? ht;simp only[List.mem_toArray,ξg,ξA,or_false] at ht;rcases ht with rfl|rfl
 ·exact(show ε.wantsStandIn 64=false by kernel_rfl)
 ·exact(show ε.wantsStandIn 3=false by kernel_rfl)
theorem card:Rows.OrderOneCardSaid:=
 Claim7.holds_tied_plain_at .later [] _ _ _ _ said (λ_ h=>by cases h) (by kernel_rfl) (λ_ h=>by cases h) orderOne_row_tie rfl ⟨rfl,rfl⟩ (by kernel_rfl) rfl plain (by kernel_rfl)
end Go.Proofs.YtoggponeookhbaaGreatDoor.orderOne
end
