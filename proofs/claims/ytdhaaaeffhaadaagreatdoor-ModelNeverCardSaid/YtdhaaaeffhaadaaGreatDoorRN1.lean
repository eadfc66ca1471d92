/- A part of the proof that ModelErrors, ModelNever and ModelPairs return true for every input: the machine of values, its soundness, the program as plain functions, the laws. Conditions: those of the given rows. -/
import Derived.Test.YtdhaaaeffhaadaaGreatDoorR5
import Derived.WalkKit
import Derived.ProofKit
import Derived.OpenShut
import Derived.Deep.DeepHandedRow
import Derived.Deep.DeepWitnessRowRef
import Derived.JoinedCond
set_option linter.unusedVariables false
set_option linter.unusedSimpArgs false
noncomputable section
section
namespace Go.Proofs.YtdhaaaeffhaadaaGreatDoor
open Go.RowKit Go.Dc Go.Vx
set_option maxRecDepth 100000
set_option maxHeartbeats 4000000
noncomputable def K8 (p0:List aW) (p1:List ae) (p2:List Int) (p3:List ai) (p4:List az) (p5:Int) (p6:List aA) (p7:List ao) (p8:Int) (p9:List (Int×Int)):AS SS:=⟨[(1,(vd 46 p0)),(5,(va 0 0)),(6,(vs (.mp 1))),(7,(vs (.mp 2))),(38,(vd 23 p1)),(39,(vi (↑p1.length:Int))),(40,(vi p8))],[(bX 36 [(.bQ .i64 16 p2),(.aV 23 p1),(.aV 26 p3),(.aV 27 p4),(lu p5),(.aV 31 p6),(.aV 32 p7)]),(some (.map .u64 .i64 p9)),(some (.map .u64 .i64 []))],0,none,false,[],[]⟩
noncomputable def Za (p0:List aW) (p1:List ae) (p2:List Int) (p3:List ai) (p4:List az) (p5:Int) (p6:List aA) (p7:List ao) (p9:List (Int×Int)):AS SS:=K8 p0 p1 p2 p3 p4 p5 p6 p7 0 p9
noncomputable def agM (p0:List aW) (p1:List ae) (p2:List Int) (p3:List ai) (p4:List az) (p5:Int) (p6:List aA) (p7:List ao) (a0:Bool) (a1:Int) (a2:List (Int×Int)):AS SS:= { K8 p0 p1 p2 p3 p4 p5 p6 p7 p5 a2 with env:=[(41,(vb a0)),(1,(vd 46 p0)),(5,(va 0 0)),(6,(vs (.mp 1))),(7,(vs (.mp 2))),(38,(vd 23 p1)),(39,(vi (↑p1.length:Int))),(40,(vi a1))] }
noncomputable def RC (sh:Sh) (p0:List aW) (p1:List ae) (p2:List Int) (p3:List ai) (p4:List az) (p5:Int) (p6:List aA) (p7:List ao) (p8:Int) (z0:ae) (a:(List (Int×Int))):T (((List (Int×Int))) ⊕ (Bool×Int×(List (Int×Int)))):=
 .ok (.inl (cR a z0.aa 1))
noncomputable def Hk (sh:Sh) (p0:List aW) (p1:List ae) (p2:List Int) (p3:List ai) (p4:List az) (p5:Int) (p6:List aA) (p7:List ao) (p8:Int) (a:(List (Int×Int))):T ((Bool×Int×(List (Int×Int)))):=
 .ok ((decide (p8<(↑p1.length:Int))),p8,a)
noncomputable def IZ (sh:Sh) (p0:List aW) (p1:List ae) (p2:List Int) (p3:List ai) (p4:List az) (p5:Int) (p6:List aA) (p7:List ao) (p9:List (Int×Int)):Option ((Bool×Int×(List (Int×Int)))):=cP sh (RC sh p0 p1 p2 p3 p4 p5 p6 p7) (Hk sh p0 p1 p2 p3 p4 p5 p6 p7) p1 p9
noncomputable def acY {R:Type} (k:AX->AS SS->Option R) (p0:List aW) (p1:List ae) (p2:List Int) (p3:List ai) (p4:List az) (p5:Int) (p6:List aA) (p7:List ao) (x:(Bool×Int×(List (Int×Int)))):Option R:=(λv=>k (.exit 0) (agM p0 p1 p2 p3 p4 p5 p6 p7 v.1 v.2.1 v.2.2)) x
noncomputable def Wn:bM SS:=cd 9 (λst=>(bE 46 (bD st 1 0)).bind λp0=>(bE 23 (bD st 38 0)).bind λp1=>(gS (bq st 0 0)).bind λp2=>(bE 26 (bq st 0 2)).bind λp3=>(bE 27 (bq st 0 3)).bind λp4=>(bT (bq st 0 4)).bind λp5=>(bE 31 (bq st 0 5)).bind λp6=>(bE 32 (bq st 0 6)).bind λp7=>(je st 1).bind λp9=>some (p0,p1,p2,p3,p4,p5,p6,p7,p9)) (λp=>Za p.1 p.2.1 p.2.2.1 p.2.2.2.1 p.2.2.2.2.1 p.2.2.2.2.2.1 p.2.2.2.2.2.2.1 p.2.2.2.2.2.2.2.1 p.2.2.2.2.2.2.2.2) (λp=>IZ shut p.1 p.2.1 p.2.2.1 p.2.2.2.1 p.2.2.2.2.1 p.2.2.2.2.2.1 p.2.2.2.2.2.2.1 p.2.2.2.2.2.2.2.1 p.2.2.2.2.2.2.2.2) (λk p=>acY k p.1 p.2.1 p.2.2.1 p.2.2.2.1 p.2.2.2.2.1 p.2.2.2.2.2.1 p.2.2.2.2.2.2.1 p.2.2.2.2.2.2.2.1)
theorem al_:aO KK Tryz.prog ⟨Tryz.f6,aE 6⟩ (b9 (bm Tryz.f6) 9) Wn:=
 aO.c_ (π:=List aW×List ae×List Int×List ai×List az×Int×List aA×List ao×(List (Int×Int))) (σ:=(List (Int×Int))) (aw.all qm rfl) (aC.nil) rfl 60 (λp i a=>K8 p.1 p.2.1 p.2.2.1 p.2.2.2.1 p.2.2.2.2.1 p.2.2.2.2.2.1 p.2.2.2.2.2.2.1 p.2.2.2.2.2.2.2.1 i a) (λp=>p.2.1) (λp=>p.2.2.2.2.2.2.2.2) (St:=λp=>RC shut p.1 p.2.1 p.2.2.1 p.2.2.2.1 p.2.2.2.2.1 p.2.2.2.2.2.1 p.2.2.2.2.2.2.1 p.2.2.2.2.2.2.2.1) (F:=λp=>Hk shut p.1 p.2.1 p.2.2.1 p.2.2.2.1 p.2.2.2.2.1 p.2.2.2.2.2.1 p.2.2.2.2.2.2.1 p.2.2.2.2.2.2.2.1) (λp=>rfl)
  (λm p i a k=>by kernel_rfl) (λp x=>⟨_,_,λ_=>rfl⟩) (λp N C A O w a hr=>dQ hr (t:=23) (sl:=38) rfl λv h=>h)
noncomputable def K6 (p0:List aW) (p1:List az) (p2:List Int) (p3:List ae) (p4:List ai) (p5:Int) (p6:List aA) (p7:List ao) (p8:List (Int×Int)) (p9:Int) (jH:List (Int×Int)):AS SS:=⟨[(1,(vd 46 p0)),(5,(va 0 0)),(6,(vs (.mp 1))),(7,(vs (.mp 2))),(50,(vd 27 p1)),(51,(vi (↑p1.length:Int))),(52,(vi p9))],[(bX 36 [(.bQ .i64 16 p2),(.aV 23 p3),(.aV 26 p4),(.aV 27 p1),(lu p5),(.aV 31 p6),(.aV 32 p7)]),(some (.map .u64 .i64 p8)),(some (.map .u64 .i64 jH))],0,none,false,[],[]⟩
noncomputable def Y9 (p0:List aW) (p1:List az) (p2:List Int) (p3:List ae) (p4:List ai) (p5:Int) (p6:List aA) (p7:List ao) (p8 jH:List (Int×Int)):AS SS:=K6 p0 p1 p2 p3 p4 p5 p6 p7 p8 0 jH
noncomputable def agI (p0:List aW) (p1:List az) (p2:List Int) (p3:List ae) (p4:List ai) (p5:Int) (p6:List aA) (p7:List ao) (p8:List (Int×Int)) (a0:Bool) (a1:Int) (a2:List (Int×Int)):AS SS:= { K6 p0 p1 p2 p3 p4 p5 p6 p7 p8 p5 a2 with env:=[(53,(vb a0)),(1,(vd 46 p0)),(5,(va 0 0)),(6,(vs (.mp 1))),(7,(vs (.mp 2))),(50,(vd 27 p1)),(51,(vi (↑p1.length:Int))),(52,(vi a1))] }
noncomputable def RB (sh:Sh) (p0:List aW) (p1:List az) (p2:List Int) (p3:List ae) (p4:List ai) (p5:Int) (p6:List aA) (p7:List ao) (p8:List (Int×Int)) (p9:Int) (z0:az) (a:(List (Int×Int))):T (((List (Int×Int))) ⊕ (Bool×Int×(List (Int×Int)))):=
 .ok (.inl (cR a z0.aZ 1))
noncomputable def Hi (sh:Sh) (p0:List aW) (p1:List az) (p2:List Int) (p3:List ae) (p4:List ai) (p5:Int) (p6:List aA) (p7:List ao) (p8:List (Int×Int)) (p9:Int) (a:(List (Int×Int))):T ((Bool×Int×(List (Int×Int)))):=
 .ok ((decide (p9<(↑p1.length:Int))),p9,a)
noncomputable def IX (sh:Sh) (p0:List aW) (p1:List az) (p2:List Int) (p3:List ae) (p4:List ai) (p5:Int) (p6:List aA) (p7:List ao) (p8 jH:List (Int×Int)):Option ((Bool×Int×(List (Int×Int)))):=cP sh (RB sh p0 p1 p2 p3 p4 p5 p6 p7 p8) (Hi sh p0 p1 p2 p3 p4 p5 p6 p7 p8) p1 jH
noncomputable def acW {R:Type} (k:AX->AS SS->Option R) (p0:List aW) (p1:List az) (p2:List Int) (p3:List ae) (p4:List ai) (p5:Int) (p6:List aA) (p7:List ao) (p8:List (Int×Int)) (x:(Bool×Int×(List (Int×Int)))):Option R:=(λv=>k (.exit 2) (agI p0 p1 p2 p3 p4 p5 p6 p7 p8 v.1 v.2.1 v.2.2)) x
noncomputable def Wl:bM SS:=cd 14 (λst=>(bE 46 (bD st 1 0)).bind λp0=>(bE 27 (bD st 50 0)).bind λp1=>(gS (bq st 0 0)).bind λp2=>(bE 23 (bq st 0 1)).bind λp3=>(bE 26 (bq st 0 2)).bind λp4=>(bT (bq st 0 4)).bind λp5=>(bE 31 (bq st 0 5)).bind λp6=>(bE 32 (bq st 0 6)).bind λp7=>(je st 1).bind λp8=>(je st 2).bind λjH=>some (p0,p1,p2,p3,p4,p5,p6,p7,p8,jH)) (λp=>Y9 p.1 p.2.1 p.2.2.1 p.2.2.2.1 p.2.2.2.2.1 p.2.2.2.2.2.1 p.2.2.2.2.2.2.1 p.2.2.2.2.2.2.2.1 p.2.2.2.2.2.2.2.2.1 p.2.2.2.2.2.2.2.2.2) (λp=>IX shut p.1 p.2.1 p.2.2.1 p.2.2.2.1 p.2.2.2.2.1 p.2.2.2.2.2.1 p.2.2.2.2.2.2.1 p.2.2.2.2.2.2.2.1 p.2.2.2.2.2.2.2.2.1 p.2.2.2.2.2.2.2.2.2) (λk p=>acW k p.1 p.2.1 p.2.2.1 p.2.2.2.1 p.2.2.2.2.1 p.2.2.2.2.2.1 p.2.2.2.2.2.2.1 p.2.2.2.2.2.2.2.1 p.2.2.2.2.2.2.2.2.1)
theorem al8:aO KK Tryz.prog ⟨Tryz.f6,aE 6⟩ (b9 (bm Tryz.f6) 14) Wl:=
 aO.c_ (π:=List aW×List az×List Int×List ae×List ai×Int×List aA×List ao×(List (Int×Int))×(List (Int×Int))) (σ:=(List (Int×Int))) (aw.all qm rfl) (aC.nil) rfl 60 (λp i a=>K6 p.1 p.2.1 p.2.2.1 p.2.2.2.1 p.2.2.2.2.1 p.2.2.2.2.2.1 p.2.2.2.2.2.2.1 p.2.2.2.2.2.2.2.1 p.2.2.2.2.2.2.2.2.1 i a) (λp=>p.2.1) (λp=>p.2.2.2.2.2.2.2.2.2) (St:=λp=>RB shut p.1 p.2.1 p.2.2.1 p.2.2.2.1 p.2.2.2.2.1 p.2.2.2.2.2.1 p.2.2.2.2.2.2.1 p.2.2.2.2.2.2.2.1 p.2.2.2.2.2.2.2.2.1) (F:=λp=>Hi shut p.1 p.2.1 p.2.2.1 p.2.2.2.1 p.2.2.2.2.1 p.2.2.2.2.2.1 p.2.2.2.2.2.2.1 p.2.2.2.2.2.2.2.1 p.2.2.2.2.2.2.2.2.1) (λp=>rfl)
  (λm p i a k=>by kernel_rfl) (λp x=>⟨_,_,λ_=>rfl⟩) (λp N C A O w a hr=>dQ hr (t:=27) (sl:=50) rfl λv h=>h)
noncomputable def K7 (p0:List aW) (p1:List Int) (p2:List ae) (p3:List ai) (p4:List az) (p5:Int) (p6:List aA) (p7:List ao) (p8 p9:List (Int×Int)) (jH:Int):AS SS:=⟨[(5,(va 0 0)),(6,(vs (.mp 1))),(7,(vs (.mp 2))),(60,(vd 46 p0)),(61,(vi (↑p0.length:Int))),(62,(vi jH))],[(bX 36 [(.bQ .i64 16 p1),(.aV 23 p2),(.aV 26 p3),(.aV 27 p4),(lu p5),(.aV 31 p6),(.aV 32 p7)]),(some (.map .u64 .i64 p8)),(some (.map .u64 .i64 p9))],0,none,false,[],[]⟩
noncomputable def Y_ (p0:List aW) (p1:List Int) (p2:List ae) (p3:List ai) (p4:List az) (p5:Int) (p6:List aA) (p7:List ao) (p8 p9:List (Int×Int)):AS SS:=K7 p0 p1 p2 p3 p4 p5 p6 p7 p8 p9 0
noncomputable def agJ (p0:List aW) (a0:Bool) (a1 a2:Int) (a3:List Int) (a4:aW) (a5:Bool) (a6:List Int) (a7:List ae) (a8:List ai) (a9:List az) (xA:Int) (Jq:List aA) (a12:List ao) (a13 a14:List (Int×Int)):AS SS:=⟨[(68,(vb a0)),(67,(vi a1)),(12,(vi a1)),(13,(va 3 0)),(66,(.s (.agg [(lu a2),(.bQ .u64 4 a3)]))),(65,(vs (.ptr 50 a4 0))),(64,(vi a1)),(63,(vb a5)),(5,(va 0 0)),(6,(vs (.mp 1))),(7,(vs (.mp 2))),(60,(vd 46 p0)),(61,(vi (↑p0.length:Int))),(62,(vi a1))],[(bX 36 [(.bQ .i64 16 a6),(.aV 23 a7),(.aV 26 a8),(.aV 27 a9),(lu xA),(.aV 31 Jq),(.aV 32 a12)]),(some (.map .u64 .i64 a13)),(some (.map .u64 .i64 a14)),(bX 50 [(lu a2),(.bQ .u64 4 a3)])],0,none,false,[],[]⟩
noncomputable def agK (p0:List aW):AS SS:=⟨[(4,(vb false))],[],0,none,false,[],[]⟩
noncomputable def agL (p0:List aW) (a0:Bool) (a1:Int) (a2:List Int) (a3:List ae) (a4:List ai) (a5:List az) (a6:Int) (a7:List aA) (a8:List ao) (a9 xA:List (Int×Int)):AS SS:= { K7 p0 a2 a3 a4 a5 a6 a7 a8 a9 xA a1 with env:=[(63,(vb a0)),(5,(va 0 0)),(6,(vs (.mp 1))),(7,(vs (.mp 2))),(60,(vd 46 p0)),(61,(vi (↑p0.length:Int))),(62,(vi a1))] }
noncomputable def r9 (sh:Sh) (p0:List aW) (jH:Int) (z0:aW) (a:List Int×List ae×List ai×List az×Int×List aA×List ao×(List (Int×Int))×(List (Int×Int))):T ((List Int×List ae×List ai×List az×Int×List aA×List ao×(List (Int×Int))×(List (Int×Int))) ⊕ (Bool×Int×Int×List Int×aW×Bool×List Int×List ae×List ai×List az×Int×List aA×List ao×(List (Int×Int))×(List (Int×Int))) ⊕ Unit ⊕ (Bool×Int×List Int×List ae×List ai×List az×Int×List aA×List ao×(List (Int×Int))×(List (Int×Int)))):=
 .bf (jH==40) (
  .ok (.inr (.inl ((jH==40),jH,z0.bJ,z0.fArgs,z0,(decide (jH<(↑p0.length:Int))),a.1,a.2.1,a.2.2.1,a.2.2.2.1,a.2.2.2.2.1,a.2.2.2.2.2.1,a.2.2.2.2.2.2.1,a.2.2.2.2.2.2.2.1,a.2.2.2.2.2.2.2.2))))<|
 .bd (kb sh (aM.mk (br.mk a.1 a.2.1) a.2.2.1 (bG.mk a.2.2.2.1 a.2.2.2.2.1) (aL.mk a.2.2.2.2.2.1 a.2.2.2.2.2.2.1)) z0) λy1=>
  .bf (y1.2.2 !=0) (
   .ok (.inr (.inr (.inl ()))))<|
  .bf (y1.2.1.cD !=0) (
   .ok (.inl (y1.1.ar.aJ,y1.1.ar.ab,y1.1.aI,y1.1.ay.ab,y1.1.ay.aN,y1.1.aq.aB,y1.1.aq.ax,a.2.2.2.2.2.2.2.1,a.2.2.2.2.2.2.2.2)))<|
  .bf (z0.bJ==1) (
   .bf ((b5 a.2.2.2.2.2.2.2.1 y1.2.1.dd).getD 0==1) (
    .ok (.inr (.inr (.inl ()))))<|
   .ok (.inl (y1.1.ar.aJ,y1.1.ar.ab,y1.1.aI,y1.1.ay.ab,y1.1.ay.aN,y1.1.aq.aB,y1.1.aq.ax,(cR a.2.2.2.2.2.2.2.1 y1.2.1.dd 1),a.2.2.2.2.2.2.2.2)))<|
  .bf (z0.bJ==7) (
   .bf ((b5 a.2.2.2.2.2.2.2.2 y1.2.1.dd).getD 0==1) (
    .ok (.inr (.inr (.inl ()))))<|
   .ok (.inl (y1.1.ar.aJ,y1.1.ar.ab,y1.1.aI,y1.1.ay.ab,y1.1.ay.aN,y1.1.aq.aB,y1.1.aq.ax,a.2.2.2.2.2.2.2.1,(cR a.2.2.2.2.2.2.2.2 y1.2.1.dd 1))))<|
  .bf (z0.bJ==2) (
   .bd (ya sh y1.1.aI (au z0.fArgs 0)) λz2=>
    .bd (yb sh y1.1.aq (au z0.fArgs 0)) λz3=>
     .bf (z2.snd !=0) (
      .ok (.inr (.inr (.inl ()))))<|
     .bf (z3.snd.fst !=0) (
      .ok (.inr (.inr (.inl ()))))<|
     .bf (z3.snd.snd !=0) (
      .ok (.inr (.inr (.inl ()))))<|
     .bd (yc sh y1.1.aq (au z0.fArgs 0)) λz4=>
      .bf (decide ((↑z4.length:Int)>0)) (
       .ok (.inr (.inr (.inl ()))))<|
      .bd (nP sh y1.1.ar (au z0.fArgs 0)) λz5=>
       .bf (z5) (
        .ok (.inr (.inr (.inl ()))))<|
       .ok (.inl (y1.1.ar.aJ,y1.1.ar.ab,y1.1.aI,y1.1.ay.ab,y1.1.ay.aN,y1.1.aq.aB,y1.1.aq.ax,a.2.2.2.2.2.2.2.1,a.2.2.2.2.2.2.2.2)))<|
  .ok (.inl (y1.1.ar.aJ,y1.1.ar.ab,y1.1.aI,y1.1.ay.ab,y1.1.ay.aN,y1.1.aq.aB,y1.1.aq.ax,a.2.2.2.2.2.2.2.1,a.2.2.2.2.2.2.2.2))
noncomputable def Hj (sh:Sh) (p0:List aW) (jH:Int) (a:List Int×List ae×List ai×List az×Int×List aA×List ao×(List (Int×Int))×(List (Int×Int))):T ((Bool×Int×Int×List Int×aW×Bool×List Int×List ae×List ai×List az×Int×List aA×List ao×(List (Int×Int))×(List (Int×Int))) ⊕ Unit ⊕ (Bool×Int×List Int×List ae×List ai×List az×Int×List aA×List ao×(List (Int×Int))×(List (Int×Int)))):=
 .ok (.inr (.inr ((decide (jH<(↑p0.length:Int))),jH,a.1,a.2.1,a.2.2.1,a.2.2.2.1,a.2.2.2.2.1,a.2.2.2.2.2.1,a.2.2.2.2.2.2.1,a.2.2.2.2.2.2.2.1,a.2.2.2.2.2.2.2.2)))
noncomputable def IY (sh:Sh) (p0:List aW) (p1:List Int) (p2:List ae) (p3:List ai) (p4:List az) (p5:Int) (p6:List aA) (p7:List ao) (p8 p9:List (Int×Int)):Option ((Bool×Int×Int×List Int×aW×Bool×List Int×List ae×List ai×List az×Int×List aA×List ao×(List (Int×Int))×(List (Int×Int))) ⊕ Unit ⊕ (Bool×Int×List Int×List ae×List ai×List az×Int×List aA×List ao×(List (Int×Int))×(List (Int×Int)))):=cP sh (r9 sh p0) (Hj sh p0) p0 (p1,p2,p3,p4,p5,p6,p7,p8,p9)
noncomputable def acX {R:Type} (k:AX->AS SS->Option R) (p0:List aW) (x:(Bool×Int×Int×List Int×aW×Bool×List Int×List ae×List ai×List az×Int×List aA×List ao×(List (Int×Int))×(List (Int×Int))) ⊕ Unit ⊕ (Bool×Int×List Int×List ae×List ai×List az×Int×List aA×List ao×(List (Int×Int))×(List (Int×Int)))):Option R:=(λx=>Sum.rec (λv=>k (.exit 4) (agJ p0 v.1 v.2.1 v.2.2.1 v.2.2.2.1 v.2.2.2.2.1 v.2.2.2.2.2.1 v.2.2.2.2.2.2.1 v.2.2.2.2.2.2.2.1 v.2.2.2.2.2.2.2.2.1 v.2.2.2.2.2.2.2.2.2.1 v.2.2.2.2.2.2.2.2.2.2.1 v.2.2.2.2.2.2.2.2.2.2.2.1 v.2.2.2.2.2.2.2.2.2.2.2.2.1 v.2.2.2.2.2.2.2.2.2.2.2.2.2.1 v.2.2.2.2.2.2.2.2.2.2.2.2.2.2)) (λx=>Sum.rec (λv=>k .ret (agK p0)) (λv=>k (.exit 4) (agL p0 v.1 v.2.1 v.2.2.1 v.2.2.2.1 v.2.2.2.2.1 v.2.2.2.2.2.1 v.2.2.2.2.2.2.1 v.2.2.2.2.2.2.2.1 v.2.2.2.2.2.2.2.2.1 v.2.2.2.2.2.2.2.2.2.1 v.2.2.2.2.2.2.2.2.2.2)) x) x) x
noncomputable def Wm:bM SS:=cd 19 (λst=>(bE 46 (bD st 60 0)).bind λp0=>(gS (bq st 0 0)).bind λp1=>(bE 23 (bq st 0 1)).bind λp2=>(bE 26 (bq st 0 2)).bind λp3=>(bE 27 (bq st 0 3)).bind λp4=>(bT (bq st 0 4)).bind λp5=>(bE 31 (bq st 0 5)).bind λp6=>(bE 32 (bq st 0 6)).bind λp7=>(je st 1).bind λp8=>(je st 2).bind λp9=>some (p0,p1,p2,p3,p4,p5,p6,p7,p8,p9)) (λp=>Y_ p.1 p.2.1 p.2.2.1 p.2.2.2.1 p.2.2.2.2.1 p.2.2.2.2.2.1 p.2.2.2.2.2.2.1 p.2.2.2.2.2.2.2.1 p.2.2.2.2.2.2.2.2.1 p.2.2.2.2.2.2.2.2.2) (λp=>IY shut p.1 p.2.1 p.2.2.1 p.2.2.2.1 p.2.2.2.2.1 p.2.2.2.2.2.1 p.2.2.2.2.2.2.1 p.2.2.2.2.2.2.2.1 p.2.2.2.2.2.2.2.2.1 p.2.2.2.2.2.2.2.2.2) (λk p=>acX k p.1)
theorem al9:aO KK Tryz.prog ⟨Tryz.f6,aE 6⟩ (b9 (bm Tryz.f6) 19) Wm:=
 aO.c_ (π:=List aW×List Int×List ae×List ai×List az×Int×List aA×List ao×(List (Int×Int))×(List (Int×Int))) (σ:=List Int×List ae×List ai×List az×Int×List aA×List ao×(List (Int×Int))×(List (Int×Int))) (aw.all qm rfl) (aC.nil) rfl 60 (λp i a=>K7 p.1 a.1 a.2.1 a.2.2.1 a.2.2.2.1 a.2.2.2.2.1 a.2.2.2.2.2.1 a.2.2.2.2.2.2.1 a.2.2.2.2.2.2.2.1 a.2.2.2.2.2.2.2.2 i) (λp=>p.1) (λp=>(p.2.1,p.2.2.1,p.2.2.2.1,p.2.2.2.2.1,p.2.2.2.2.2.1,p.2.2.2.2.2.2.1,p.2.2.2.2.2.2.2.1,p.2.2.2.2.2.2.2.2.1,p.2.2.2.2.2.2.2.2.2)) (St:=λp=>r9 shut p.1) (F:=λp=>Hj shut p.1) (λp=>rfl)
  (λm p i a k=>by kernel_rfl) (by rintro p (x|x|x)<;>exact⟨_,_,λ_=>rfl⟩) (λp N C A O w a hr=>dQ hr (t:=46) (sl:=60) rfl λv h=>h)
noncomputable def G7:aK SS:= { (rZ shut) with T:=bI ((rZ shut).T) 6 ⟨⟨Tryz.f6,aE 6⟩,[Wn,Wl,Wm]⟩ }
theorem abo:aS G7 Tryz.prog:=(aS.cj (aw.all qm rfl) Tryz.func6 rfl bA λc hc=>by cases hc;exact aC.cons (aC.cons (aC.cons (aC.nil) (by kernel_rfl) al9) (by kernel_rfl) al8) (by kernel_rfl) al_)
noncomputable def C' (sh:Sh) (x:aM) (l:List aW):T (Bool):=
 .bd (yf sh) λy0=>
  .bf (!y0) (
   .ok false)<|
  .bd (yg sh x) λz1=>
   .bd (kO sh z1) λz2=>
    .bf (z2 !=0) (
     .bd (DP sh z1) λz3=>
      .ok (z3==[0,0,0,0,0]))<|
    .gd (Za l z1.ar.ab z1.ar.aJ z1.aI z1.ay.ab z1.ay.aN z1.aq.aB z1.aq.ax [])<|
     .bd (IZ sh l z1.ar.ab z1.ar.aJ z1.aI z1.ay.ab z1.ay.aN z1.aq.aB z1.aq.ax []) λy3=>
      .gd (Y9 l z1.ay.ab z1.ar.aJ z1.ar.ab z1.aI z1.ay.aN z1.aq.aB z1.aq.ax y3.2.2 [])<|
       .bd (IX sh l z1.ay.ab z1.ar.aJ z1.ar.ab z1.aI z1.ay.aN z1.aq.aB z1.aq.ax y3.2.2 []) λy4=>
        .gd (Y_ l z1.ar.aJ z1.ar.ab z1.aI z1.ay.ab z1.ay.aN z1.aq.aB z1.aq.ax y3.2.2 y4.2.2)<|
         .bd (IY sh l z1.ar.aJ z1.ar.ab z1.aI z1.ay.ab z1.ay.aN z1.aq.aB z1.aq.ax y3.2.2 y4.2.2) λqg=> .cs qg (λy5=>
          .ok true) λapi=> .cs api (λ_=>
          .ok false) λy5=>
          .ok true
noncomputable def Te (sh:Sh) (x:aM) (l:List aW):Option (Bool):=sh.s _ (C' sh x l).val
theorem t_6 {R:Type} (x:aM) (l:List aW) (k:Rs SS->Option R):b8 G7 100 6 [KK.ah 36 x,KK.ah 46 l] [] (cg KK [4] k)=(C' shut x l).run (λr=>k (.ret (.s (KK.ah 4 r)))):=by kernel_rfl
end Go.Proofs.YtdhaaaeffhaadaaGreatDoor
end
section
namespace Go.Proofs.YtdhaaaeffhaadaaGreatDoor
open Go.RowKit Go.Dc Go.Vx
set_option maxRecDepth 100000
def On (M:List (Int×Int)) (A:Int->Prop):Prop:= ∀q,(b5 M q).getD 0=1->A q
theorem W_ (A:Int->Prop):On [] A:=λq h=>by
 have:(b5 [] q).getD 0=0:=rfl
 omega
theorem NK {M:List (Int×Int)} {A:Int->Prop} {k:Int} (h:On M A) (hk:A k):On (cR M k 1) A:=λq hq=>by
 rw[zN] at hq
 split at hq
 ·rename_i e;rw[e];exact hk
 ·exact h q hq
theorem NJ {α:Type} {A:Int->Prop} {key:α->Int}: ∀(l:List α) (M:List (Int×Int)),On M A->(∀z∈l,A (key z))->On (l.foldl (λa z=>cR a (key z) 1) M) A
 |[],_,h,_=>h
 |z::r,M,h,hl=>NJ r _ (NK h (hl z List.mem_cons_self)) λy hy=>hl y (List.mem_cons_of_mem _ hy)
theorem On.imp {M:List (Int×Int)} {A B:Int->Prop} (h:On M A) (hi: ∀q,A q->B q):On M B:=λq hq=>hi q (h q hq)
theorem Xa {M:List (Int×Int)} {A:Int->Prop} {q:Int} (h:On M A) (hn: ¬A q):((b5 M q).getD 0==1)=false:=by
 cases e:(b5 M q).getD 0==1 with
 |false=>rfl
 |true=>exact(hn (h q (by simpa using e))).elim
def AK (s:aM) (P I:List (Int×Int)):List Int×List ae×List ai×List az×Int×List aA×List ao×List (Int×Int)×List (Int×Int):=(s.ar.aJ,s.ar.ab,s.aI,s.ay.ab,s.ay.aN,s.aq.aB,s.aq.ax,P,I)
theorem S6 {s:aM} (h:eQ s) {c:aW} (hc:l6 c) (l:List aW) {i:Int} (hi:i≠30+10) {P I:List (Int×Int)} (hP:On P (Used s)) (hI:On I λq=>q<s.ay.aN):
  ∃P' I',(r9 aj l i c (AK s P I)).val=some (.inl (AK (dY s c).1 P' I'))/\On P' (Used (dY s c).1)/\On I' λq=>q<(dY s c).1.ay.aN:=by
 have e40:(i==40)=false:=by simp;omega
 have zl:aM.mk (br.mk s.ar.aJ s.ar.ab) s.aI (bG.mk s.ay.ab s.ay.aN) (aL.mk s.aq.aB s.aq.ax)=s:=rfl
 have hn:=xS h hc.a
 have eW:=Sy h c
 generalize hN:(dY s c).1=n at*
 unfold r9 AK
 simp only[T.bB,T.bn,T.bo,e40,cond_false,zl,qf h hc,hN,Option.bind_some,bne,beq_self_eq_true,Bool.not_true]
 rcases eW with⟨he,hs⟩|⟨he,dz,a_⟩
 ·have m3:((dY s c).2.cD==0)=false:=by simpa using he
  rw[m3,hs]
  exact⟨P,I,rfl,hP,hI⟩
 ·rw[he]
  simp only[show((0:Int)==0)=true from rfl,Bool.not_true,cond_false]
  have Em:On P (Used n):=hP.imp λq=>ans h dz
  have nT:On I λq=>q<n.ay.aN:=hI.imp λq hq=>Int.lt_of_lt_of_le hq (ano dz)
  by_cases U:c.bJ=1
  ·rw[U] at dz
   obtain⟨u1,u2⟩:=anr h dz
   rw[U,Xa hP u1]
   exact⟨_,I,rfl,NK Em u2,nT⟩
  ·rw[show(c.bJ==1)=false by simpa using U,cond_false]
   by_cases h7:c.bJ=7
   ·rw[h7] at dz
    obtain⟨u1,u2⟩:=ann dz
    rw[h7,Xa hI (by omega)]
    exact⟨P,_,rfl,Em,NK nT u2⟩
   ·rw[show(c.bJ==7)=false by simpa using h7,cond_false]
    by_cases h2:c.bJ=2
    ·have hr:=a_ (by omega) (by omega)
     rw[h2] at dz
     obtain⟨x1,x2,x3,x4⟩:=step_exit dz
     have hp:=(oz h.p hr).1
     have hd:uo n.aI (au c.fArgs 0)=n.aI:=filter_all λd hd=>by simpa using x1 d hd
     have dy:cG n.ar.ab (au c.fArgs 0)=false:=by
      cases e:cG n.ar.ab (au c.fArgs 0) with
      |false=>rfl
      |true=>exact(x4 ((iR hn.p.ord).1 e)).elim
     rw[h2]
     simp only[show((2:Int)==2)=true from rfl,cond_true,ZW hn.d,v30 hn.i hn.lb hp,v31 hn.i hn.lb,v28 hn.p,Option.bind_some,hd,x2,x3,dy]
     rw[show((n.aI.length:Int)-(n.aI.length:Int)==0)=true by simp]
     exact⟨P,I,rfl,Em,nT⟩
    ·rw[show(c.bJ==2)=false by simpa using h2,cond_false]
     exact⟨P,I,rfl,Em,nT⟩
theorem L6 {l:List aW}: ∀(r:List aW) (i:Nat) (s:aM) (P I:List (Int×Int)),(∀c∈r,l6 c)->eQ s->On P (Used s)->On I (λq=>q<s.ay.aN)-> ∃y,cS (λi z a=>(r9 aj l i z a).val) (λi a=>(Hj aj l i a).val) i r (AK s P I)=some y/\((∃a,y= .inl a)\/ ∃a,y= .inr (.inr a))
 |[],i,s,P,I,_,_,_,_=>⟨_,rfl,.inr ⟨_,rfl⟩⟩
 |c::r,i,s,P,I,hr,h,hP,hI=>by
  have hc:=hr c List.mem_cons_self
  by_cases e:(i:Int)=30+10
  ·have: ∃a,(r9 aj l i c (AK s P I)).val=some (.inr (.inl a)):=by
    unfold r9
    rw[T.bn,show((i:Int)==40)=true by simp;omega]
    exact⟨_,rfl⟩
   obtain⟨a,ha⟩:=this
   rw[mI,ha]
   exact⟨_,rfl,.inl ⟨_,rfl⟩⟩
  ·obtain⟨P',I',U,h2,h3⟩:=S6 h hc l e hP hI
   rw[mI,U]
   exact L6 r (i+1) _ P' I' (λc hc=>hr c (List.mem_cons_of_mem _ hc)) (xS h hc.a) h2 h3
theorem abT {x:aM} (hx:nF x) {l:List aW} (hl: ∀c∈l,l6 c):Te aj x l=some true:=by
 show(C' aj x l).val=_
 unfold C'
 simp only[T.bB,T.bn,T.cM,T.eP,T.bo,v8,v9,Option.bind_some,Bool.not_true,cond_false]
 rcases NT hx with h|h
 ·generalize jq x=s at*
  have h9:IZ aj l s.ar.ab s.ar.aJ s.aI s.ay.ab s.ay.aN s.aq.aB s.aq.ax []=some (false,(s.ar.ab.length:Int),s.ar.ab.foldl (λa z=>cR a z.aa 1) []):=by
   refine(p_ (g:=λa (z:ae)=>cR a z.aa 1) λi z a _=>rfl).trans ?_
   unfold Hk
   simp
  have uR: ∀M,IX aj l s.ay.ab s.ar.aJ s.ar.ab s.aI s.ay.aN s.aq.aB s.aq.ax M []=some (false,(s.ay.ab.length:Int),s.ay.ab.foldl (λa z=>cR a z.aZ 1) []):=by
   intro M
   refine(p_ (g:=λa (z:az)=>cR a z.aZ 1) λi z a _=>rfl).trans ?_
   unfold Hi
   simp
  obtain⟨y,hy,ho⟩:=L6 (l:=l) l 0 s _ _ hl h (NJ (key:=ae.aa) s.ar.ab [] (W_ _) λz hz=>aoG h hz) (NJ (key:=az.aZ) s.ay.ab [] (W_ _) λz hz=>(h.m.id z hz).2)
  have hy:IY aj l s.ar.aJ s.ar.ab s.aI s.ay.ab s.ay.aN s.aq.aB s.aq.ax (s.ar.ab.foldl (λa z=>cR a z.aa 1) []) (s.ay.ab.foldl (λa z=>cR a z.aZ 1) [])=some y:=hy
  simp only[f11 h,Option.bind_some,h9,uR,hy,show((0:Int) !=0)=false from rfl,cond_false]
  rcases ho with⟨a,rfl⟩|⟨a,rfl⟩<;>rfl
 ·simp only[h,v15 h,Option.bind_some]
  rfl
theorem ajR {O:List Nat} {w:World} (hO:OB O w) (hg:jM.ptr.is O w (.pointer (some ⟨0,0,none⟩)) uL) {v0 v1:Value} {x0:aM} {x1:List aW} (h0:tE.is O w v0 x0) (U:(Ty.slice rL).is O w v1 x1) {r:Bool} (h:Te aj x0 x1=some r):Calls Tryz.prog 6 #[v0,v1] w (jP (rH Ty.bool) O w r):=by
 rw[<-rJ] at h
 have hc:fY KK Tryz.prog 6 [KK.ah 36 x0,KK.ah 46 x1] (.ret (.s (KK.ah 4 r))):=wb (G:=G7) abo (kf:=λ{R} (k:Rs SS->Option R)=>(λr=>k (.ret (.s (KK.ah 4 r))))) (λk=>t_6 x0 x1 k) rfl (yo h) λk=>rfl
 exact JE hc (A:=vK) (vs:=[v0,v1]) ⟨v0,_,rfl,jo ep (t:=36) rfl rfl h0,v1,_,rfl,jo ep (t:=46) rfl rfl U,rfl⟩ hO (Ky hg)
end Go.Proofs.YtdhaaaeffhaadaaGreatDoor
end
section
namespace Go.Proofs.YtdhaaaeffhaadaaGreatDoor.modelNever
open Go.ChangeShapes Go.WideShapes Go.ChangeAt Go.RowKit Go.Dc Go.Vx
set_option maxRecDepth 100000
theorem own:ownKnob Tryz.prog.godebug=none:=by kernel_rfl
theorem laidOut:laidOutB Tryz.prog=true:=by kernel_rfl
theorem xQ (H:Type) (enc:TypeId×Value->H) (W:World) (base:Nat) (args:Array Value) (ds gs:List (DataW H)) (before:List MemPlace)
  (gZ: ∀(j:Nat) t v,Tryz.f6.params[j]? =some t->args[j]? =some v->Value.okWide Tryz.prog W .any base t v)
  (hW:DataW.Whole enc Tryz.prog Tryz.f6.params.toList Rows.modelNeverSpec.vars false W args.toList ds gs before) (hL:laidMetH Tryz.prog Rows.modelNeverRow.laid W):
  Calls Tryz.prog 6 args W λe W'=> ∃v,e= .returned v/\Rows.modelNeverSpec.post enc Tryz.prog Tryz.f6 false true false false W args v W':=by
 have yH:=hW
 have aH:=hW.lt
 obtain⟨p,q,mf,hV,rfl,gv,nY⟩:=hW
 have hA:DataW.TrodAll enc Tryz.prog W 0 (λ_=>true) true Tryz.f6.params.toList args.toList ds p:=mf
 have lF:=mf
 rw[Tryz.params6] at hA gZ
 obtain⟨v0,AN,d0,SA,p0,q0,Uq,rfl,rfl,h0,r0⟩:=trodAll_cons hA
 obtain⟨v1,GJ,d1,SB,p1,q1,rfl,rfl,rfl,U,r1⟩:=trodAll_cons r0
 obtain⟨rfl,rfl,rfl⟩:=trodAll_nil r1
 obtain rfl:args= #[v0,v1]:=by cases args;simp_all
 obtain⟨rfl,rfl⟩:=trodVars_none hV
 obtain⟨x0,mu,D0⟩:=NQ.arg (gZ 0 36 v0 rfl rfl) h0 (λb off hm=>gv b off (by simp[hm]))
 obtain⟨x1,sS,D1⟩:=Xk.arg (gZ 1 46 v1 rfl rfl) U (λb off hm=>gv b off (by simp[hm]))
 obtain⟨y0,sC,wq⟩:=MT (g:=0) (by kernel_rfl) (by kernel_rfl) FT (by decide) (MS hL (.head _))
 obtain rfl:=Kv wq
 have fO:=ajR (O:=[]) (w:=W) (λk hk=>by cases hk) sC mu sS (abT (PF D0) (aaj D1))
 refine fO.mono λe W' ⟨v,he,hv,hF⟩=>?_
 subst he
 obtain rfl:=mU.1 hv
 refine⟨_,rfl,_,_,_,[],(p0++(p1++[])),[],yH,?_,?_,?_,hF.below.frame _,λh=>by cases h⟩
 ·exact trodAll_cons_mk (shut_bool Tryz.underlying4 _) trodAll_mk0
 ·exact Ds laidOut (by rw[Tryz.params6];intro t ht;simp only[List.mem_cons,List.not_mem_nil,or_false] at ht;rcases ht with rfl|rfl<;>exact⟨by kernel_rfl,of_decide_eq_true (by kernel_rfl)⟩) lF hF.below (λx hx=>aH x (List.mem_append_left _ hx)) _ (λx hx=>by simpa using aH x (List.mem_append_left _ hx))
 ·rfl
noncomputable def ng (os:Os):World:=
 let w0:=World.holding Tryz.prog os ⟨#[],#[],[]⟩
 { w0 with heap:=w0.heap.modify 0 λ
  | .cells _ t frozen=> .cells #[.int .u64 1,.int .u64 0,.bool false,.int .u64 0] t frozen
  |o=>o }
theorem zI (os:Os):laidMet Tryz.prog Rows.modelNeverRow.laid ((ng os).forCall (λ_ _=>0) ⟨#[],#[(.agg #[.int .i64 0,.int .i64 0,.int .i64 0,.int .i64 0,.int .i64 0,.int .i64 0,.int .i64 0,.int .i64 0,.int .i64 0,.int .i64 0,.int .i64 0,.int .i64 0,.int .i64 0,.int .i64 0,.int .i64 0,.int .i64 0,.slice none 0 0,.slice none 0 0,.slice none 0 0,.int .u64 0,.slice none 0 0,.slice none 0 0]:Value),(.slice none 0 0:Value)],[]⟩).memory:=
 laidMet_of_run' 8 (by kernel_rfl) (by kernel_rfl)
theorem reads (os:Os) {H:Type} (enc:TypeId×Value->H):(DataW.whole enc Tryz.prog ((ng os).forCall (λ_ _=>0) ⟨#[],#[(.agg #[.int .i64 0,.int .i64 0,.int .i64 0,.int .i64 0,.int .i64 0,.int .i64 0,.int .i64 0,.int .i64 0,.int .i64 0,.int .i64 0,.int .i64 0,.int .i64 0,.int .i64 0,.int .i64 0,.int .i64 0,.int .i64 0,.slice none 0 0,.slice none 0 0,.slice none 0 0,.int .u64 0,.slice none 0 0,.slice none 0 0]:Value),(.slice none 0 0:Value)],[]⟩).memory Tryz.f6.params.toList Rows.modelNeverSpec.vars false (#[(.agg #[.int .i64 0,.int .i64 0,.int .i64 0,.int .i64 0,.int .i64 0,.int .i64 0,.int .i64 0,.int .i64 0,.int .i64 0,.int .i64 0,.int .i64 0,.int .i64 0,.int .i64 0,.int .i64 0,.int .i64 0,.int .i64 0,.slice none 0 0,.slice none 0 0,.slice none 0 0,.int .u64 0,.slice none 0 0,.slice none 0 0]:Value),(.slice none 0 0:Value)]:Array Value).toList 8).map (λx=>(x.1,x.2.1))=some ([.agg [.agg [.agg [.lit (.int .i64 0),.lit (.int .i64 0),.lit (.int .i64 0),.lit (.int .i64 0),.lit (.int .i64 0),.lit (.int .i64 0),.lit (.int .i64 0),.lit (.int .i64 0),.lit (.int .i64 0),.lit (.int .i64 0),.lit (.int .i64 0),.lit (.int .i64 0),.lit (.int .i64 0),.lit (.int .i64 0),.lit (.int .i64 0),.lit (.int .i64 0)],.nil],.nil,.agg [.nil,.lit (.int .u64 0)],.agg [.nil,.nil]],.nil],[]):=by kernel_rfl
theorem lifted (os:Os) (started:os.Started) (H:Type) (enc:TypeId×Value->H) (F:Stop.Interp):
  ReturnsInHanded {} Tryz.checked os 6 .any ((OpenSpec.ofChange Rows.modelNeverSpec).preRow enc Tryz.prog Tryz.f6 Rows.modelNeverRow.domain false Rows.modelNeverRow.laid) (((OpenSpec.ofChange Rows.modelNeverSpec).at F).post enc Tryz.prog Tryz.f6 false true false false):=by
 obtain⟨⟨z1,z2,z3⟩,hx,hz⟩:=Option.map_eq_some_iff.1 (reads os enc)
 simp only[Prod.mk.injEq] at hz
 obtain⟨rfl,rfl⟩:=hz
 refine returnsInHanded_of_row (C:=Tryz.checked) (s:=OpenSpec.ofChange Rows.modelNeverSpec) own started (by kernel_rfl) Tryz.func6
  (witness_row_atRef (enc:=enc) (C:=Tryz.checked) false (ng os) #[(.agg #[.int .i64 0,.int .i64 0,.int .i64 0,.int .i64 0,.int .i64 0,.int .i64 0,.int .i64 0,.int .i64 0,.int .i64 0,.int .i64 0,.int .i64 0,.int .i64 0,.int .i64 0,.int .i64 0,.int .i64 0,.int .i64 0,.slice none 0 0,.slice none 0 0,.slice none 0 0,.int .u64 0,.slice none 0 0,.slice none 0 0]:Value),(.slice none 0 0:Value)] rfl (by kernel_rfl) (by kernel_rfl) (by kernel_rfl)
   (OpenSpec.preRow_of_cond 8 hx (by kernel_rfl) (λk hk=>by cases hk) (by kernel_rfl) (zI os))) ?_
 intro W base args ds gs before gZ hW _ _ _ hL _ _
 exact xQ H enc W base args ds gs before gZ hW hL
theorem said:Rows.ModelNeverSaid:=
 OpenClaim.holds_of_cond 6 Tryz.f6 rfl rfl rfl rfl rfl rfl rfl ⟨rfl,rfl,rfl,rfl,rfl⟩ rfl rfl rfl rfl rfl (by kernel_rfl) Tryz.func6 (by kernel_rfl)
  (of_decide_eq_true (by kernel_rfl)) (by unfold Func.isWrapper;first|(rw[if_pos (by decide+kernel)];kernel_rfl)|(rw[if_neg (by decide+kernel)];exact⟨rfl,rfl⟩))
  (λos started H enc _ F=>by rw[OpenClaim.pre_eq_preRow];exact lifted os started H enc F)
theorem plain (f:FuncId) (fn:Func) (hf:Tryz.pinned.checked.prog.funcNamed "afterglow/afterglowlaw26.ModelNever" =some f) (pA:Tryz.pinned.checked.prog.funcs[f]? =some fn):
  true=Tryz.pinned.checked.prog.looks []/\ ∀(j:Nat) t,fn.params[j]? =some t->Tryz.pinned.checked.prog.wantsStandIn t=false:=by
 obtain rfl:f=6:=Option.some.inj ((show Tryz.prog.funcNamed "afterglow/afterglowlaw26.ModelNever" =some 6 by kernel_rfl).symm.trans hf)|>.symm
 obtain rfl:fn=Tryz.f6:=(Option.some.inj (Tryz.func6.symm.trans pA)).symm
 refine⟨by kernel_rfl,λj t ht=>?_⟩
 rw[Tryz.params6] at ht
 have ht:=Array.mem_of_getElem? ht
 simp only[List.mem_toArray,List.mem_cons,List.not_mem_nil,or_false] at ht
 rcases ht with rfl|rfl
 ·exact(show Tryz.prog.wantsStandIn 36=false by kernel_rfl)
 ·exact(show Tryz.prog.wantsStandIn 46=false by kernel_rfl)
theorem card:Rows.ModelNeverCardSaid:=
 Claim7.holds_tied_plain_at .later [] _ _ _ _ said (λ_ h=>by cases h) (by kernel_rfl) (λ_ h=>by cases h) modelNever_row_tie rfl ⟨rfl,rfl⟩ (by kernel_rfl) rfl plain (by kernel_rfl)
end Go.Proofs.YtdhaaaeffhaadaaGreatDoor.modelNever
end
