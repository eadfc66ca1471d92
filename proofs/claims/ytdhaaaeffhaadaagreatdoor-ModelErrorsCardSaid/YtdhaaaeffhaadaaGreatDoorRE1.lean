/- A part of the proof that ModelErrors, ModelNever and ModelPairs return true for every input: the machine of values, its soundness, the program as plain functions, the laws. Conditions: those of the given rows. -/
import Derived.Test.YtdhaaaeffhaadaaGreatDoorR5
import Derived.WalkKit
import Derived.ProofKit
import Derived.OpenShut
import Derived.Deep.DeepHandedRow
import Derived.Deep.DeepWitnessRowRef
import Derived.JoinedCond
set_option linter.unusedVariables false
set_option linter.unusedSimpArgs false
noncomputable section
section
namespace Go.Proofs.YtdhaaaeffhaadaaGreatDoor
open Go.RowKit Go.Dc Go.Vx
set_option maxRecDepth 100000
set_option maxHeartbeats 4000000
noncomputable def K5 (p0:List aW) (p1:List Int) (p2:List ae) (p3:List ai) (p4:List az) (p5:Int) (p6:List aA) (p7:List ao) (p8:Int):AS SS:=⟨[(5,(va 0 0)),(23,(vd 46 p0)),(24,(vi (↑p0.length:Int))),(25,(vi p8))],[(bX 36 [(.bQ .i64 16 p1),(.aV 23 p2),(.aV 26 p3),(.aV 27 p4),(lu p5),(.aV 31 p6),(.aV 32 p7)])],0,none,false,[],[]⟩
noncomputable def Y8 (p0:List aW) (p1:List Int) (p2:List ae) (p3:List ai) (p4:List az) (p5:Int) (p6:List aA) (p7:List ao):AS SS:=K5 p0 p1 p2 p3 p4 p5 p6 p7 0
noncomputable def agE (p0:List aW) (a0:Bool) (a1 a2:Int) (a3:List Int) (a4:aW) (a5:Bool) (a6:List Int) (a7:List ae) (a8:List ai) (a9:List az) (xA:Int) (Jq:List aA) (a12:List ao):AS SS:=⟨[(31,(vb a0)),(30,(vi a1)),(6,(vi a1)),(7,(va 1 0)),(29,(.s (.agg [(lu a2),(.bQ .u64 4 a3)]))),(28,(vs (.ptr 50 a4 0))),(27,(vi a1)),(26,(vb a5)),(5,(va 0 0)),(23,(vd 46 p0)),(24,(vi (↑p0.length:Int))),(25,(vi a1))],[(bX 36 [(.bQ .i64 16 a6),(.aV 23 a7),(.aV 26 a8),(.aV 27 a9),(lu xA),(.aV 31 Jq),(.aV 32 a12)]),(bX 50 [(lu a2),(.bQ .u64 4 a3)])],0,none,false,[],[]⟩
noncomputable def agF (p0:List aW):AS SS:=⟨[(4,(vb false))],[],0,none,false,[],[]⟩
noncomputable def agG (p0:List aW) (a0:Bool) (a1:Int) (a2:List Int) (a3:List ae) (a4:List ai) (a5:List az) (a6:Int) (a7:List aA) (a8:List ao):AS SS:= { K5 p0 a2 a3 a4 a5 a6 a7 a8 a1 with env:=[(26,(vb a0)),(5,(va 0 0)),(23,(vd 46 p0)),(24,(vi (↑p0.length:Int))),(25,(vi a1))] }
noncomputable def qt (sh:Sh) (p0:List aW) (p8:Int) (z0:aW) (a:List Int×List ae×List ai×List az×Int×List aA×List ao):T ((List Int×List ae×List ai×List az×Int×List aA×List ao) ⊕ (Bool×Int×Int×List Int×aW×Bool×List Int×List ae×List ai×List az×Int×List aA×List ao) ⊕ Unit ⊕ (Bool×Int×List Int×List ae×List ai×List az×Int×List aA×List ao)):=
 .bf (p8==30) (
  .ok (.inr (.inl ((p8==30),p8,z0.bJ,z0.fArgs,z0,(decide (p8<(↑p0.length:Int))),a.1,a.2.1,a.2.2.1,a.2.2.2.1,a.2.2.2.2.1,a.2.2.2.2.2.1,a.2.2.2.2.2.2))))<|
 .bd (kb sh (aM.mk (br.mk a.1 a.2.1) a.2.2.1 (bG.mk a.2.2.2.1 a.2.2.2.2.1) (aL.mk a.2.2.2.2.2.1 a.2.2.2.2.2.2)) z0) λy1=>
  .bf (y1.2.2 !=0) (
   .ok (.inr (.inr (.inl ()))))<|
  .bd (kO sh y1.1) λz2=>
   .bf (z2 !=0) (
    .ok (.inr (.inr (.inl ()))))<|
   .bf (y1.2.1.cD !=0) (
    .bf (y1.2.1.dd !=0) (
     .ok (.inr (.inr (.inl ()))))<|
    .bd (eC sh y1.1 (aM.mk (br.mk a.1 a.2.1) a.2.2.1 (bG.mk a.2.2.2.1 a.2.2.2.2.1) (aL.mk a.2.2.2.2.2.1 a.2.2.2.2.2.2))) λz3=>
     .bf (y1.2.1.cD !=0) (
      .bf (!z3==true) (
       .ok (.inr (.inr (.inl ()))))<|
      .bd (nO sh (aM.mk (br.mk a.1 a.2.1) a.2.2.1 (bG.mk a.2.2.2.1 a.2.2.2.2.1) (aL.mk a.2.2.2.2.2.1 a.2.2.2.2.2.2)) z0) λy4=>
       .bd (eC sh y1.1 (aM.mk (br.mk a.1 a.2.1) a.2.2.1 (bG.mk a.2.2.2.1 a.2.2.2.2.1) (aL.mk a.2.2.2.2.2.1 a.2.2.2.2.2.2))) λz5=>
        .bf (y4==z5) (
         .ok (.inr (.inr (.inl ()))))<|
        .bf (z0.bJ==12) (
         .bf (y1.2.1.cD==0) (
          .bd (nP sh (br.mk a.1 a.2.1) y1.2.1.dd) λz6=>
           .bf (!z6) (
            .ok (.inr (.inr (.inl ()))))<|
           .ok (.inl (y1.1.ar.aJ,y1.1.ar.ab,y1.1.aI,y1.1.ay.ab,y1.1.ay.aN,y1.1.aq.aB,y1.1.aq.ax)))<|
         .ok (.inl (y1.1.ar.aJ,y1.1.ar.ab,y1.1.aI,y1.1.ay.ab,y1.1.ay.aN,y1.1.aq.aB,y1.1.aq.ax)))<|
        .ok (.inl (y1.1.ar.aJ,y1.1.ar.ab,y1.1.aI,y1.1.ay.ab,y1.1.ay.aN,y1.1.aq.aB,y1.1.aq.ax)))<|
     .bd (x_ sh z0) λz4=>
      .bf (!z3==z4) (
       .ok (.inr (.inr (.inl ()))))<|
      .bd (nO sh (aM.mk (br.mk a.1 a.2.1) a.2.2.1 (bG.mk a.2.2.2.1 a.2.2.2.2.1) (aL.mk a.2.2.2.2.2.1 a.2.2.2.2.2.2)) z0) λy5=>
       .bd (eC sh y1.1 (aM.mk (br.mk a.1 a.2.1) a.2.2.1 (bG.mk a.2.2.2.1 a.2.2.2.2.1) (aL.mk a.2.2.2.2.2.1 a.2.2.2.2.2.2))) λz6=>
        .bf (y5==z6) (
         .ok (.inr (.inr (.inl ()))))<|
        .bf (z0.bJ==12) (
         .bf (y1.2.1.cD==0) (
          .bd (nP sh (br.mk a.1 a.2.1) y1.2.1.dd) λz7=>
           .bf (!z7) (
            .ok (.inr (.inr (.inl ()))))<|
           .ok (.inl (y1.1.ar.aJ,y1.1.ar.ab,y1.1.aI,y1.1.ay.ab,y1.1.ay.aN,y1.1.aq.aB,y1.1.aq.ax)))<|
         .ok (.inl (y1.1.ar.aJ,y1.1.ar.ab,y1.1.aI,y1.1.ay.ab,y1.1.ay.aN,y1.1.aq.aB,y1.1.aq.ax)))<|
        .ok (.inl (y1.1.ar.aJ,y1.1.ar.ab,y1.1.aI,y1.1.ay.ab,y1.1.ay.aN,y1.1.aq.aB,y1.1.aq.ax)))<|
   .bd (eC sh y1.1 (aM.mk (br.mk a.1 a.2.1) a.2.2.1 (bG.mk a.2.2.2.1 a.2.2.2.2.1) (aL.mk a.2.2.2.2.2.1 a.2.2.2.2.2.2))) λz3=>
    .bf (y1.2.1.cD !=0) (
     .bf (!z3==true) (
      .ok (.inr (.inr (.inl ()))))<|
     .bd (nO sh (aM.mk (br.mk a.1 a.2.1) a.2.2.1 (bG.mk a.2.2.2.1 a.2.2.2.2.1) (aL.mk a.2.2.2.2.2.1 a.2.2.2.2.2.2)) z0) λy4=>
      .bd (eC sh y1.1 (aM.mk (br.mk a.1 a.2.1) a.2.2.1 (bG.mk a.2.2.2.1 a.2.2.2.2.1) (aL.mk a.2.2.2.2.2.1 a.2.2.2.2.2.2))) λz5=>
       .bf (y4==z5) (
        .ok (.inr (.inr (.inl ()))))<|
       .bf (z0.bJ==12) (
        .bf (y1.2.1.cD==0) (
         .bd (nP sh (br.mk a.1 a.2.1) y1.2.1.dd) λz6=>
          .bf (!z6) (
           .ok (.inr (.inr (.inl ()))))<|
          .ok (.inl (y1.1.ar.aJ,y1.1.ar.ab,y1.1.aI,y1.1.ay.ab,y1.1.ay.aN,y1.1.aq.aB,y1.1.aq.ax)))<|
        .ok (.inl (y1.1.ar.aJ,y1.1.ar.ab,y1.1.aI,y1.1.ay.ab,y1.1.ay.aN,y1.1.aq.aB,y1.1.aq.ax)))<|
       .ok (.inl (y1.1.ar.aJ,y1.1.ar.ab,y1.1.aI,y1.1.ay.ab,y1.1.ay.aN,y1.1.aq.aB,y1.1.aq.ax)))<|
    .bd (x_ sh z0) λz4=>
     .bf (!z3==z4) (
      .ok (.inr (.inr (.inl ()))))<|
     .bd (nO sh (aM.mk (br.mk a.1 a.2.1) a.2.2.1 (bG.mk a.2.2.2.1 a.2.2.2.2.1) (aL.mk a.2.2.2.2.2.1 a.2.2.2.2.2.2)) z0) λy5=>
      .bd (eC sh y1.1 (aM.mk (br.mk a.1 a.2.1) a.2.2.1 (bG.mk a.2.2.2.1 a.2.2.2.2.1) (aL.mk a.2.2.2.2.2.1 a.2.2.2.2.2.2))) λz6=>
       .bf (y5==z6) (
        .ok (.inr (.inr (.inl ()))))<|
       .bf (z0.bJ==12) (
        .bf (y1.2.1.cD==0) (
         .bd (nP sh (br.mk a.1 a.2.1) y1.2.1.dd) λz7=>
          .bf (!z7) (
           .ok (.inr (.inr (.inl ()))))<|
          .ok (.inl (y1.1.ar.aJ,y1.1.ar.ab,y1.1.aI,y1.1.ay.ab,y1.1.ay.aN,y1.1.aq.aB,y1.1.aq.ax)))<|
        .ok (.inl (y1.1.ar.aJ,y1.1.ar.ab,y1.1.aI,y1.1.ay.ab,y1.1.ay.aN,y1.1.aq.aB,y1.1.aq.ax)))<|
       .ok (.inl (y1.1.ar.aJ,y1.1.ar.ab,y1.1.aI,y1.1.ay.ab,y1.1.ay.aN,y1.1.aq.aB,y1.1.aq.ax))
noncomputable def Hh (sh:Sh) (p0:List aW) (p8:Int) (a:List Int×List ae×List ai×List az×Int×List aA×List ao):T ((Bool×Int×Int×List Int×aW×Bool×List Int×List ae×List ai×List az×Int×List aA×List ao) ⊕ Unit ⊕ (Bool×Int×List Int×List ae×List ai×List az×Int×List aA×List ao)):=
 .ok (.inr (.inr ((decide (p8<(↑p0.length:Int))),p8,a.1,a.2.1,a.2.2.1,a.2.2.2.1,a.2.2.2.2.1,a.2.2.2.2.2.1,a.2.2.2.2.2.2)))
noncomputable def IV (sh:Sh) (p0:List aW) (p1:List Int) (p2:List ae) (p3:List ai) (p4:List az) (p5:Int) (p6:List aA) (p7:List ao):Option ((Bool×Int×Int×List Int×aW×Bool×List Int×List ae×List ai×List az×Int×List aA×List ao) ⊕ Unit ⊕ (Bool×Int×List Int×List ae×List ai×List az×Int×List aA×List ao)):=cP sh (qt sh p0) (Hh sh p0) p0 (p1,p2,p3,p4,p5,p6,p7)
noncomputable def acU {R:Type} (k:AX->AS SS->Option R) (p0:List aW) (x:(Bool×Int×Int×List Int×aW×Bool×List Int×List ae×List ai×List az×Int×List aA×List ao) ⊕ Unit ⊕ (Bool×Int×List Int×List ae×List ai×List az×Int×List aA×List ao)):Option R:=(λx=>Sum.rec (λv=>k (.exit 0) (agE p0 v.1 v.2.1 v.2.2.1 v.2.2.2.1 v.2.2.2.2.1 v.2.2.2.2.2.1 v.2.2.2.2.2.2.1 v.2.2.2.2.2.2.2.1 v.2.2.2.2.2.2.2.2.1 v.2.2.2.2.2.2.2.2.2.1 v.2.2.2.2.2.2.2.2.2.2.1 v.2.2.2.2.2.2.2.2.2.2.2.1 v.2.2.2.2.2.2.2.2.2.2.2.2)) (λx=>Sum.rec (λv=>k .ret (agF p0)) (λv=>k (.exit 0) (agG p0 v.1 v.2.1 v.2.2.1 v.2.2.2.1 v.2.2.2.2.1 v.2.2.2.2.2.1 v.2.2.2.2.2.2.1 v.2.2.2.2.2.2.2.1 v.2.2.2.2.2.2.2.2)) x) x) x
noncomputable def Wj:bM SS:=cd 8 (λst=>(bE 46 (bD st 23 0)).bind λp0=>(gS (bq st 0 0)).bind λp1=>(bE 23 (bq st 0 1)).bind λp2=>(bE 26 (bq st 0 2)).bind λp3=>(bE 27 (bq st 0 3)).bind λp4=>(bT (bq st 0 4)).bind λp5=>(bE 31 (bq st 0 5)).bind λp6=>(bE 32 (bq st 0 6)).bind λp7=>some (p0,p1,p2,p3,p4,p5,p6,p7)) (λp=>Y8 p.1 p.2.1 p.2.2.1 p.2.2.2.1 p.2.2.2.2.1 p.2.2.2.2.2.1 p.2.2.2.2.2.2.1 p.2.2.2.2.2.2.2) (λp=>IV shut p.1 p.2.1 p.2.2.1 p.2.2.2.1 p.2.2.2.2.1 p.2.2.2.2.2.1 p.2.2.2.2.2.2.1 p.2.2.2.2.2.2.2) (λk p=>acU k p.1)
theorem al6:aO KK Tryz.prog ⟨Tryz.f5,aE 5⟩ (b9 (bm Tryz.f5) 8) Wj:=
 aO.c_ (π:=List aW×List Int×List ae×List ai×List az×Int×List aA×List ao) (σ:=List Int×List ae×List ai×List az×Int×List aA×List ao) (aw.all qm rfl) (aC.nil) rfl 60 (λp i a=>K5 p.1 a.1 a.2.1 a.2.2.1 a.2.2.2.1 a.2.2.2.2.1 a.2.2.2.2.2.1 a.2.2.2.2.2.2 i) (λp=>p.1) (λp=>(p.2.1,p.2.2.1,p.2.2.2.1,p.2.2.2.2.1,p.2.2.2.2.2.1,p.2.2.2.2.2.2.1,p.2.2.2.2.2.2.2)) (St:=λp=>qt shut p.1) (F:=λp=>Hh shut p.1) (λp=>rfl)
  (λm p i a k=>by kernel_rfl) (by rintro p (x|x|x)<;>exact⟨_,_,λ_=>rfl⟩) (λp N C A O w a hr=>dQ hr (t:=46) (sl:=23) rfl λv h=>h)
noncomputable def G6:aK SS:= { (rZ shut) with T:=bI ((rZ shut).T) 5 ⟨⟨Tryz.f5,aE 5⟩,[Wj]⟩ }
theorem abm:aS G6 Tryz.prog:=(aS.cj (aw.all qm rfl) Tryz.func5 rfl bA λc hc=>by cases hc;exact aC.cons (aC.nil) (by kernel_rfl) al6)
noncomputable def C6 (sh:Sh) (x:aM) (l:List aW):T (Bool):=
 .bd (yf sh) λy0=>
  .bf (!y0) (
   .ok false)<|
  .bd (yg sh x) λz1=>
   .bd (kO sh z1) λz2=>
    .bf (z2 !=0) (
     .bd (nO sh z1 (aW.mk 1 (cW [0,0,0,0] [1]))) λy3=>
      .ok (!y3))<|
    .gd (Y8 l z1.ar.aJ z1.ar.ab z1.aI z1.ay.ab z1.ay.aN z1.aq.aB z1.aq.ax)<|
     .bd (IV sh l z1.ar.aJ z1.ar.ab z1.aI z1.ay.ab z1.ay.aN z1.aq.aB z1.aq.ax) λx6=> .cs x6 (λy3=>
      .ok true) λx6c=> .cs x6c (λ_=>
      .ok false) λy3=>
      .ok true
noncomputable def Td (sh:Sh) (x:aM) (l:List aW):Option (Bool):=sh.s _ (C6 sh x l).val
theorem t_5 {R:Type} (x:aM) (l:List aW) (k:Rs SS->Option R):b8 G6 100 5 [KK.ah 36 x,KK.ah 46 l] [] (cg KK [4] k)=(C6 shut x l).run (λr=>k (.ret (.s (KK.ah 4 r)))):=by kernel_rfl
end Go.Proofs.YtdhaaaeffhaadaaGreatDoor
end
section
namespace Go.Proofs.YtdhaaaeffhaadaaGreatDoor
open Go.RowKit Go.Dc Go.Vx
set_option maxRecDepth 100000
def l3 (s:aM):List Int×List ae×List ai×List az×Int×List aA×List ao:=(s.ar.aJ,s.ar.ab,s.aI,s.ay.ab,s.ay.aN,s.aq.aB,s.aq.ax)
theorem S5 {s:aM} (h:eQ s) {c:aW} (hc:l6 c) (l:List aW) (i:Int):(qt aj l i c (l3 s)).val=if i=30 then(qt aj l i c (l3 s)).val else some (.inl (l3 (dY s c).1)):=by
 split
 ·rfl
 ·rename_i hi
  have e30:(i==30)=false:=by simpa using hi
  have hs:=Sz h c
  have hl:=afb (c:=c) h
  have hv:=afc (s:=s) (c:=c)
  have zl:aM.mk (br.mk s.ar.aJ s.ar.ab) s.aI (bG.mk s.ay.ab s.ay.aN) (aL.mk s.aq.aB s.aq.ax)=s:=rfl
  have kV:br.mk s.ar.aJ s.ar.ab=s.ar:=rfl
  have hn:=xS h hc.a
  unfold qt l3
  simp only[T.bB,T.bn,T.bo,e30,cond_false,zl,kV,qf h hc,f11 hn,v12,v21 h hc,ZV,v28 h.p,Option.bind_some,bne,beq_self_eq_true,Bool.not_true]
  by_cases he:(dY s c).2.cD=0
  ·rw[he] at hs hl
   have hk:decide ((dY s c).1=s)=mG c:=by
    rw[Bool.eq_iff_iff,decide_eq_true_eq,hs]
    simp
   rw[he,hk]
   cases hr:mG c<;>cases h12:c.bJ==12 with
   |false=>rfl
   |true=>
    rw[hl (by simpa using h12) rfl]
    rfl
  ·have m3:((dY s c).2.cD==0)=false:=by simpa using he
   rw[m3,hv he]
   have:decide ((dY s c).1=s)=true:=decide_eq_true (hs.2 (.inl he))
   rw[this]
   cases c.bJ==12<;>rfl
theorem L5 {l:List aW} (hl: ∀c∈l,l6 c): ∀(r:List aW) (i:Nat) (s:aM),(∀c∈r,l6 c)->eQ s-> ∃y,cS (λi z a=>(qt aj l i z a).val) (λi a=>(Hh aj l i a).val) i r (l3 s)=some y/\((∃a,y= .inl a)\/ ∃a,y= .inr (.inr a))
 |[],i,s,_,_=>⟨_,rfl,.inr ⟨_,rfl⟩⟩
 |c::r,i,s,hr,h=>by
  have hc:=hr c List.mem_cons_self
  rw[mI,S5 h hc]
  by_cases e:(i:Int)=30
  ·rw[if_pos e]
   have:(qt aj l i c (l3 s)).val=some (.inr (.inl (((i:Int)==30),(i:Int),c.bJ,c.fArgs,c,decide ((i:Int)<(l.length:Int)),(l3 s).1,(l3 s).2.1,(l3 s).2.2.1,(l3 s).2.2.2.1,(l3 s).2.2.2.2.1,(l3 s).2.2.2.2.2.1,(l3 s).2.2.2.2.2.2))):=by
    unfold qt
    rw[T.bn,show((i:Int)==30)=true by simpa using e]
    rfl
   rw[this]
   exact⟨_,rfl,.inl ⟨_,rfl⟩⟩
  ·rw[if_neg e]
   exact L5 hl r (i+1) _ (λc hc=>hr c (List.mem_cons_of_mem _ hc)) (xS h hc.a)
theorem abw {x:aM} (hx:nF x) {l:List aW} (hl: ∀c∈l,l6 c):Td aj x l=some true:=by
 show(C6 aj x l).val=_
 unfold C6
 simp only[T.bB,T.bn,T.cM,T.eP,T.bo,v8,v9,Option.bind_some,Bool.not_true,cond_false]
 rcases NT hx with h|h
 ·obtain⟨y,hy,ho⟩:=L5 hl l 0 (jq x) hl h
  have hy:IV aj l (jq x).ar.aJ (jq x).ar.ab (jq x).aI (jq x).ay.ab (jq x).ay.aN (jq x).aq.aB (jq x).aq.ax=some y:=hy
  simp only[f11 h,Option.bind_some,hy,show((0:Int) !=0)=false from rfl,cond_false]
  rcases ho with⟨a,rfl⟩|⟨a,rfl⟩<;>rfl
 ·simp only[h,aoW h,Option.bind_some]
  rfl
theorem ajQ {O:List Nat} {w:World} (hO:OB O w) (hg:jM.ptr.is O w (.pointer (some ⟨0,0,none⟩)) uL) {v0 v1:Value} {x0:aM} {x1:List aW} (h0:tE.is O w v0 x0) (U:(Ty.slice rL).is O w v1 x1) {r:Bool} (h:Td aj x0 x1=some r):Calls Tryz.prog 5 #[v0,v1] w (jP (rH Ty.bool) O w r):=by
 rw[<-rJ] at h
 have hc:fY KK Tryz.prog 5 [KK.ah 36 x0,KK.ah 46 x1] (.ret (.s (KK.ah 4 r))):=wb (G:=G6) abm (kf:=λ{R} (k:Rs SS->Option R)=>(λr=>k (.ret (.s (KK.ah 4 r))))) (λk=>t_5 x0 x1 k) rfl (yo h) λk=>rfl
 exact JE hc (A:=vK) (vs:=[v0,v1]) ⟨v0,_,rfl,jo ep (t:=36) rfl rfl h0,v1,_,rfl,jo ep (t:=46) rfl rfl U,rfl⟩ hO (Ky hg)
end Go.Proofs.YtdhaaaeffhaadaaGreatDoor
end
section
namespace Go.Proofs.YtdhaaaeffhaadaaGreatDoor.modelErrors
open Go.ChangeShapes Go.WideShapes Go.ChangeAt Go.RowKit Go.Dc Go.Vx
set_option maxRecDepth 100000
theorem own:ownKnob Tryz.prog.godebug=none:=by kernel_rfl
theorem laidOut:laidOutB Tryz.prog=true:=by kernel_rfl
theorem xQ (H:Type) (enc:TypeId×Value->H) (W:World) (base:Nat) (args:Array Value) (ds gs:List (DataW H)) (before:List MemPlace)
  (gZ: ∀(j:Nat) t v,Tryz.f5.params[j]? =some t->args[j]? =some v->Value.okWide Tryz.prog W .any base t v)
  (hW:DataW.Whole enc Tryz.prog Tryz.f5.params.toList Rows.modelErrorsSpec.vars false W args.toList ds gs before) (hL:laidMetH Tryz.prog Rows.modelErrorsRow.laid W):
  Calls Tryz.prog 5 args W λe W'=> ∃v,e= .returned v/\Rows.modelErrorsSpec.post enc Tryz.prog Tryz.f5 false true false false W args v W':=by
 have yH:=hW
 have aH:=hW.lt
 obtain⟨p,q,mf,hV,rfl,gv,nY⟩:=hW
 have hA:DataW.TrodAll enc Tryz.prog W 0 (λ_=>true) true Tryz.f5.params.toList args.toList ds p:=mf
 have lF:=mf
 rw[Tryz.params5] at hA gZ
 obtain⟨v0,AN,d0,SA,p0,q0,Uq,rfl,rfl,h0,r0⟩:=trodAll_cons hA
 obtain⟨v1,GJ,d1,SB,p1,q1,rfl,rfl,rfl,U,r1⟩:=trodAll_cons r0
 obtain⟨rfl,rfl,rfl⟩:=trodAll_nil r1
 obtain rfl:args= #[v0,v1]:=by cases args;simp_all
 obtain⟨rfl,rfl⟩:=trodVars_none hV
 obtain⟨x0,mu,D0⟩:=NQ.arg (gZ 0 36 v0 rfl rfl) h0 (λb off hm=>gv b off (by simp[hm]))
 obtain⟨x1,sS,D1⟩:=Xk.arg (gZ 1 46 v1 rfl rfl) U (λb off hm=>gv b off (by simp[hm]))
 obtain⟨y0,sC,wq⟩:=MT (g:=0) (by kernel_rfl) (by kernel_rfl) FT (by decide) (MS hL (.head _))
 obtain rfl:=Kv wq
 have fO:=ajQ (O:=[]) (w:=W) (λk hk=>by cases hk) sC mu sS (abw (PF D0) (aaj D1))
 refine fO.mono λe W' ⟨v,he,hv,hF⟩=>?_
 subst he
 obtain rfl:=mU.1 hv
 refine⟨_,rfl,_,_,_,[],(p0++(p1++[])),[],yH,?_,?_,?_,hF.below.frame _,λh=>by cases h⟩
 ·exact trodAll_cons_mk (shut_bool Tryz.underlying4 _) trodAll_mk0
 ·exact Ds laidOut (by rw[Tryz.params5];intro t ht;simp only[List.mem_cons,List.not_mem_nil,or_false] at ht;rcases ht with rfl|rfl<;>exact⟨by kernel_rfl,of_decide_eq_true (by kernel_rfl)⟩) lF hF.below (λx hx=>aH x (List.mem_append_left _ hx)) _ (λx hx=>by simpa using aH x (List.mem_append_left _ hx))
 ·rfl
noncomputable def ng (os:Os):World:=
 let w0:=World.holding Tryz.prog os ⟨#[],#[],[]⟩
 { w0 with heap:=w0.heap.modify 0 λ
  | .cells _ t frozen=> .cells #[.int .u64 1,.int .u64 0,.bool false,.int .u64 0] t frozen
  |o=>o }
theorem zI (os:Os):laidMet Tryz.prog Rows.modelErrorsRow.laid ((ng os).forCall (λ_ _=>0) ⟨#[],#[(.agg #[.int .i64 0,.int .i64 0,.int .i64 0,.int .i64 0,.int .i64 0,.int .i64 0,.int .i64 0,.int .i64 0,.int .i64 0,.int .i64 0,.int .i64 0,.int .i64 0,.int .i64 0,.int .i64 0,.int .i64 0,.int .i64 0,.slice none 0 0,.slice none 0 0,.slice none 0 0,.int .u64 0,.slice none 0 0,.slice none 0 0]:Value),(.slice none 0 0:Value)],[]⟩).memory:=
 laidMet_of_run' 8 (by kernel_rfl) (by kernel_rfl)
theorem reads (os:Os) {H:Type} (enc:TypeId×Value->H):(DataW.whole enc Tryz.prog ((ng os).forCall (λ_ _=>0) ⟨#[],#[(.agg #[.int .i64 0,.int .i64 0,.int .i64 0,.int .i64 0,.int .i64 0,.int .i64 0,.int .i64 0,.int .i64 0,.int .i64 0,.int .i64 0,.int .i64 0,.int .i64 0,.int .i64 0,.int .i64 0,.int .i64 0,.int .i64 0,.slice none 0 0,.slice none 0 0,.slice none 0 0,.int .u64 0,.slice none 0 0,.slice none 0 0]:Value),(.slice none 0 0:Value)],[]⟩).memory Tryz.f5.params.toList Rows.modelErrorsSpec.vars false (#[(.agg #[.int .i64 0,.int .i64 0,.int .i64 0,.int .i64 0,.int .i64 0,.int .i64 0,.int .i64 0,.int .i64 0,.int .i64 0,.int .i64 0,.int .i64 0,.int .i64 0,.int .i64 0,.int .i64 0,.int .i64 0,.int .i64 0,.slice none 0 0,.slice none 0 0,.slice none 0 0,.int .u64 0,.slice none 0 0,.slice none 0 0]:Value),(.slice none 0 0:Value)]:Array Value).toList 8).map (λx=>(x.1,x.2.1))=some ([.agg [.agg [.agg [.lit (.int .i64 0),.lit (.int .i64 0),.lit (.int .i64 0),.lit (.int .i64 0),.lit (.int .i64 0),.lit (.int .i64 0),.lit (.int .i64 0),.lit (.int .i64 0),.lit (.int .i64 0),.lit (.int .i64 0),.lit (.int .i64 0),.lit (.int .i64 0),.lit (.int .i64 0),.lit (.int .i64 0),.lit (.int .i64 0),.lit (.int .i64 0)],.nil],.nil,.agg [.nil,.lit (.int .u64 0)],.agg [.nil,.nil]],.nil],[]):=by kernel_rfl
theorem lifted (os:Os) (started:os.Started) (H:Type) (enc:TypeId×Value->H) (F:Stop.Interp):
  ReturnsInHanded {} Tryz.checked os 5 .any ((OpenSpec.ofChange Rows.modelErrorsSpec).preRow enc Tryz.prog Tryz.f5 Rows.modelErrorsRow.domain false Rows.modelErrorsRow.laid) (((OpenSpec.ofChange Rows.modelErrorsSpec).at F).post enc Tryz.prog Tryz.f5 false true false false):=by
 obtain⟨⟨z1,z2,z3⟩,hx,hz⟩:=Option.map_eq_some_iff.1 (reads os enc)
 simp only[Prod.mk.injEq] at hz
 obtain⟨rfl,rfl⟩:=hz
 refine returnsInHanded_of_row (C:=Tryz.checked) (s:=OpenSpec.ofChange Rows.modelErrorsSpec) own started (by kernel_rfl) Tryz.func5
  (witness_row_atRef (enc:=enc) (C:=Tryz.checked) false (ng os) #[(.agg #[.int .i64 0,.int .i64 0,.int .i64 0,.int .i64 0,.int .i64 0,.int .i64 0,.int .i64 0,.int .i64 0,.int .i64 0,.int .i64 0,.int .i64 0,.int .i64 0,.int .i64 0,.int .i64 0,.int .i64 0,.int .i64 0,.slice none 0 0,.slice none 0 0,.slice none 0 0,.int .u64 0,.slice none 0 0,.slice none 0 0]:Value),(.slice none 0 0:Value)] rfl (by kernel_rfl) (by kernel_rfl) (by kernel_rfl)
   (OpenSpec.preRow_of_cond 8 hx (by kernel_rfl) (λk hk=>by cases hk) (by kernel_rfl) (zI os))) ?_
 intro W base args ds gs before gZ hW _ _ _ hL _ _
 exact xQ H enc W base args ds gs before gZ hW hL
theorem said:Rows.ModelErrorsSaid:=
 OpenClaim.holds_of_cond 5 Tryz.f5 rfl rfl rfl rfl rfl rfl rfl ⟨rfl,rfl,rfl,rfl,rfl⟩ rfl rfl rfl rfl rfl (by kernel_rfl) Tryz.func5 (by kernel_rfl)
  (of_decide_eq_true (by kernel_rfl)) (by unfold Func.isWrapper;first|(rw[if_pos (by decide+kernel)];kernel_rfl)|(rw[if_neg (by decide+kernel)];exact⟨rfl,rfl⟩))
  (λos started H enc _ F=>by rw[OpenClaim.pre_eq_preRow];exact lifted os started H enc F)
theorem plain (f:FuncId) (fn:Func) (hf:Tryz.pinned.checked.prog.funcNamed "afterglow/afterglowlaw26.ModelErrors" =some f) (pA:Tryz.pinned.checked.prog.funcs[f]? =some fn):
  true=Tryz.pinned.checked.prog.looks []/\ ∀(j:Nat) t,fn.params[j]? =some t->Tryz.pinned.checked.prog.wantsStandIn t=false:=by
 obtain rfl:f=5:=Option.some.inj ((show Tryz.prog.funcNamed "afterglow/afterglowlaw26.ModelErrors" =some 5 by kernel_rfl).symm.trans hf)|>.symm
 obtain rfl:fn=Tryz.f5:=(Option.some.inj (Tryz.func5.symm.trans pA)).symm
 refine⟨by kernel_rfl,λj t ht=>?_⟩
 rw[Tryz.params5] at ht
 have ht:=Array.mem_of_getElem? ht
 simp only[List.mem_toArray,List.mem_cons,List.not_mem_nil,or_false] at ht
 rcases ht with rfl|rfl
 ·exact(show Tryz.prog.wantsStandIn 36=false by kernel_rfl)
 ·exact(show Tryz.prog.wantsStandIn 46=false by kernel_rfl)
theorem card:Rows.ModelErrorsCardSaid:=
 Claim7.holds_tied_plain_at .later [] _ _ _ _ said (λ_ h=>by cases h) (by kernel_rfl) (λ_ h=>by cases h) modelErrors_row_tie rfl ⟨rfl,rfl⟩ (by kernel_rfl) rfl plain (by kernel_rfl)
end Go.Proofs.YtdhaaaeffhaadaaGreatDoor.modelErrors
end
