/- A part of the proof that ModelErrors, ModelNever and ModelPairs return true for every input: the machine of values, its soundness, the program as plain functions, the laws. Conditions: those of the given rows. -/
import Derived.Test.YtdhaaaeffhaadaaGreatDoorR5
import Derived.WalkKit
import Derived.ProofKit
import Derived.OpenShut
import Derived.Deep.DeepHandedRow
import Derived.Deep.DeepWitnessRowRef
import Derived.JoinedCond
set_option linter.unusedVariables false
set_option linter.unusedSimpArgs false
noncomputable section
section
namespace Go.Proofs.YtdhaaaeffhaadaaGreatDoor
open Go.RowKit Go.Dc Go.Vx
set_option maxRecDepth 100000
set_option maxHeartbeats 4000000
noncomputable def EU (p0:List ao) (p1:List Int) (p2:Int):AS SS:=⟨[(0,(vd 32 p0)),(1,(vc 0)),(7,(vi (↑p0.length:Int))),(8,(vi p2))],[(some (.bN 33 [] [(.one (.bu 1 0))])),(bX 48 [(.bQ .u64 4 p1)])],2,none,false,[],[]⟩
noncomputable def OQ (p0:List ao) (p1:List Int):AS SS:=EU p0 p1 0
noncomputable def agQ (p0:List ao) (p1:List Int) (a0:Int):AS SS:= { EU p0 p1 a0 with env:=[(4,(vi a0))] }
noncomputable def agR (p0:List ao) (p1:List Int) (a0:Bool) (a1:Int):AS SS:= { EU p0 p1 a1 with env:=[(9,(vb a0)),(0,(vd 32 p0)),(1,(vc 0)),(7,(vi (↑p0.length:Int))),(8,(vi a1))] }
noncomputable def Cq (sh:Sh) (p0:List ao) (p1:List Int) (p2:Int) (z0:ao) (a:Unit):T (Unit ⊕ Int ⊕ (Bool×Int)):=
 .bf (z0.aa==au p1 1) (
  .ok (.inr (.inl p2)))<|
 .ok (.inl ())
noncomputable def Bs (sh:Sh) (p0:List ao) (p1:List Int) (p2:Int) (a:Unit):T (Int ⊕ (Bool×Int)):=
 .ok (.inr ((decide (p2<(↑p0.length:Int))),p2))
noncomputable def BY (sh:Sh) (p0:List ao) (p1:List Int):Option (Int ⊕ (Bool×Int)):=cP sh (Cq sh p0 p1) (Bs sh p0 p1) p0 ()
noncomputable def ac2 {R:Type} (k:AX->AS SS->Option R) (p0:List ao) (p1:List Int) (x:Int ⊕ (Bool×Int)):Option R:=(λx=>Sum.rec (λv=>k .ret (agQ p0 p1 v)) (λv=>k (.exit 0) (agR p0 p1 v.1 v.2)) x) x
noncomputable def Wq:bM SS:=cd 3 (λst=>(ey st 0 33).bind λ_=>(bE 32 (bD st 0 0)).bind λp0=>(gS (bq st 1 0)).bind λp1=>some (p0,p1)) (λp=>OQ p.1 p.2) (λp=>BY shut p.1 p.2) (λk p=>ac2 k p.1 p.2)
theorem amc:aO KK Tryz.prog ⟨Tryz.f78,aE 78⟩ (b9 (bm Tryz.f78) 3) Wq:=
 aO.c_ (π:=List ao×List Int) (σ:=Unit) (aw.all qm rfl) (aC.nil) rfl 60 (λp i a=>EU p.1 p.2 i) (λp=>p.1) (λp=>()) (St:=λp=>Cq shut p.1 p.2) (F:=λp=>Bs shut p.1 p.2) (λp=>rfl)
  (λm p i a k=>by kernel_rfl) (by rintro p (x|x)<;>exact⟨_,_,λ_=>rfl⟩) (λp N C A O w a hr=>dQ hr (t:=32) (sl:=0) rfl λv h=>h)
noncomputable def G8:aK SS:= { (rZ shut) with T:=bI ((rZ shut).T) 78 ⟨⟨Tryz.f78,aE 78⟩,[Wq]⟩ }
theorem abr:aS G8 Tryz.prog:=(aS.cj (aw.all qm rfl) Tryz.func78 rfl bA λc hc=>by cases hc;exact aC.cons (aC.nil) (by kernel_rfl) amc)
noncomputable def Dd (sh:Sh) (x:aM) (args:List Int) (de:Int):T (Bool):=
 .bd (yf sh) λy0=>
  .bf (!y0) (
   .ok false)<|
  .bd (yg sh x) λz1=>
   .bd (cF (IntKind.i64.wrap ((IntKind.u64.wrap de).tmod 5)) 5) λz2=>
    .bd (kb sh z1 (aW.mk (au [7,10,4,6,13] z2) args)) λy3=>
     .bf (y3.2.2 !=0) (
      .bd (kO sh z1) λz4=>
       .ok (z4==y3.2.2))<|
     .bf (y3.2.1.cD !=0) (
      .bd (eC sh y3.1 z1) λz4=>
       .ok z4)<|
     .bd (cF (IntKind.i64.wrap ((IntKind.u64.wrap de).tmod 5)) 5) λz4=>
      .bf (au [7,10,4,6,13] z4==4) (
       .bf (au [7,10,4,6,13] z4==4) (
        .bd (cF (IntKind.i64.wrap ((IntKind.u64.wrap de).tmod 5)) 5) λz5=>
         .bd (kb sh y3.1 (aW.mk (au [8,11,5,5,14] z5) (args.set 1 y3.2.1.dd))) λy6=>
          .bd (cF (IntKind.i64.wrap ((IntKind.u64.wrap de).tmod 5)) 5) λz7=>
           .bf (au [7,10,4,6,13] z7==7) (
            .bf (y6.2.1.cD==341) (
             .bd (eC sh y6.1 y3.1) λz8=>
              .ok z8)<|
            .bf (y6.2.2==0) (
             .bf (y6.2.1.cD==0) (
              .bd (eC sh (aM.mk y6.1.ar y6.1.aI (bG.mk y6.1.ay.ab z1.ay.aN) y6.1.aq) z1) λz8=>
               .bf (z8) (
                .bd (cF (IntKind.i64.wrap ((IntKind.u64.wrap de).tmod 5)) 5) λz9=>
                 .bf (au [7,10,4,6,13] z9 !=13) (
                  .ok true)<|
                 .ok (y6.2.1.dd==au args 2))<|
               .ok false)<|
             .ok false)<|
            .ok false)<|
           .bf (y6.2.2==0) (
            .bf (y6.2.1.cD==0) (
             .bd (eC sh y6.1 z1) λz8=>
              .bf (z8) (
               .bd (cF (IntKind.i64.wrap ((IntKind.u64.wrap de).tmod 5)) 5) λz9=>
                .bf (au [7,10,4,6,13] z9 !=13) (
                 .ok true)<|
                .ok (y6.2.1.dd==au args 2))<|
              .ok false)<|
            .ok false)<|
           .ok false)<|
       .bf (au [7,10,4,6,13] z4==13) (
        .gd (OQ z1.aq.ax args)<|
         .bd (BY sh z1.aq.ax args) λqg=> .cs qg (λy5=>
          .bf (decide (y5>=0)) (
           .ok true)<|
          .bd (cF (IntKind.i64.wrap ((IntKind.u64.wrap de).tmod 5)) 5) λz6=>
           .bd (kb sh y3.1 (aW.mk (au [8,11,5,5,14] z6) (args.set 0 (au args 1)))) λy7=>
            .bd (cF (IntKind.i64.wrap ((IntKind.u64.wrap de).tmod 5)) 5) λz8=>
             .bf (au [7,10,4,6,13] z8==7) (
              .bf (y7.2.1.cD==341) (
               .bd (eC sh y7.1 y3.1) λz9=>
                .ok z9)<|
              .bf (y7.2.2==0) (
               .bf (y7.2.1.cD==0) (
                .bd (eC sh (aM.mk y7.1.ar y7.1.aI (bG.mk y7.1.ay.ab z1.ay.aN) y7.1.aq) z1) λz9=>
                 .bf (z9) (
                  .bd (cF (IntKind.i64.wrap ((IntKind.u64.wrap de).tmod 5)) 5) λkJ=>
                   .bf (au [7,10,4,6,13] kJ !=13) (
                    .ok true)<|
                   .ok (y7.2.1.dd==au args 2))<|
                 .ok false)<|
               .ok false)<|
              .ok false)<|
             .bf (y7.2.2==0) (
              .bf (y7.2.1.cD==0) (
               .bd (eC sh y7.1 z1) λz9=>
                .bf (z9) (
                 .bd (cF (IntKind.i64.wrap ((IntKind.u64.wrap de).tmod 5)) 5) λkJ=>
                  .bf (au [7,10,4,6,13] kJ !=13) (
                   .ok true)<|
                  .ok (y7.2.1.dd==au args 2))<|
                .ok false)<|
              .ok false)<|
             .ok false) λy5=>
          .bd (cF (IntKind.i64.wrap ((IntKind.u64.wrap de).tmod 5)) 5) λz6=>
           .bd (kb sh y3.1 (aW.mk (au [8,11,5,5,14] z6) (args.set 0 (au args 1)))) λy7=>
            .bd (cF (IntKind.i64.wrap ((IntKind.u64.wrap de).tmod 5)) 5) λz8=>
             .bf (au [7,10,4,6,13] z8==7) (
              .bf (y7.2.1.cD==341) (
               .bd (eC sh y7.1 y3.1) λz9=>
                .ok z9)<|
              .bf (y7.2.2==0) (
               .bf (y7.2.1.cD==0) (
                .bd (eC sh (aM.mk y7.1.ar y7.1.aI (bG.mk y7.1.ay.ab z1.ay.aN) y7.1.aq) z1) λz9=>
                 .bf (z9) (
                  .bd (cF (IntKind.i64.wrap ((IntKind.u64.wrap de).tmod 5)) 5) λkJ=>
                   .bf (au [7,10,4,6,13] kJ !=13) (
                    .ok true)<|
                   .ok (y7.2.1.dd==au args 2))<|
                 .ok false)<|
               .ok false)<|
              .ok false)<|
             .bf (y7.2.2==0) (
              .bf (y7.2.1.cD==0) (
               .bd (eC sh y7.1 z1) λz9=>
                .bf (z9) (
                 .bd (cF (IntKind.i64.wrap ((IntKind.u64.wrap de).tmod 5)) 5) λkJ=>
                  .bf (au [7,10,4,6,13] kJ !=13) (
                   .ok true)<|
                  .ok (y7.2.1.dd==au args 2))<|
                .ok false)<|
              .ok false)<|
             .ok false)<|
       .bd (cF (IntKind.i64.wrap ((IntKind.u64.wrap de).tmod 5)) 5) λz5=>
        .bd (kb sh y3.1 (aW.mk (au [8,11,5,5,14] z5) args)) λy6=>
         .bd (cF (IntKind.i64.wrap ((IntKind.u64.wrap de).tmod 5)) 5) λz7=>
          .bf (au [7,10,4,6,13] z7==7) (
           .bf (y6.2.1.cD==341) (
            .bd (eC sh y6.1 y3.1) λz8=>
             .ok z8)<|
           .bf (y6.2.2==0) (
            .bf (y6.2.1.cD==0) (
             .bd (eC sh (aM.mk y6.1.ar y6.1.aI (bG.mk y6.1.ay.ab z1.ay.aN) y6.1.aq) z1) λz8=>
              .bf (z8) (
               .bd (cF (IntKind.i64.wrap ((IntKind.u64.wrap de).tmod 5)) 5) λz9=>
                .bf (au [7,10,4,6,13] z9 !=13) (
                 .ok true)<|
                .ok (y6.2.1.dd==au args 2))<|
              .ok false)<|
            .ok false)<|
           .ok false)<|
          .bf (y6.2.2==0) (
           .bf (y6.2.1.cD==0) (
            .bd (eC sh y6.1 z1) λz8=>
             .bf (z8) (
              .bd (cF (IntKind.i64.wrap ((IntKind.u64.wrap de).tmod 5)) 5) λz9=>
               .bf (au [7,10,4,6,13] z9 !=13) (
                .ok true)<|
               .ok (y6.2.1.dd==au args 2))<|
             .ok false)<|
           .ok false)<|
          .ok false)<|
      .bf (au [7,10,4,6,13] z4==6) (
       .bd (cF (IntKind.i64.wrap ((IntKind.u64.wrap de).tmod 5)) 5) λz5=>
        .bd (kb sh y3.1 (aW.mk (au [8,11,5,5,14] z5) (args.set 1 y3.2.1.dd))) λy6=>
         .bd (cF (IntKind.i64.wrap ((IntKind.u64.wrap de).tmod 5)) 5) λz7=>
          .bf (au [7,10,4,6,13] z7==7) (
           .bf (y6.2.1.cD==341) (
            .bd (eC sh y6.1 y3.1) λz8=>
             .ok z8)<|
           .bf (y6.2.2==0) (
            .bf (y6.2.1.cD==0) (
             .bd (eC sh (aM.mk y6.1.ar y6.1.aI (bG.mk y6.1.ay.ab z1.ay.aN) y6.1.aq) z1) λz8=>
              .bf (z8) (
               .bd (cF (IntKind.i64.wrap ((IntKind.u64.wrap de).tmod 5)) 5) λz9=>
                .bf (au [7,10,4,6,13] z9 !=13) (
                 .ok true)<|
                .ok (y6.2.1.dd==au args 2))<|
              .ok false)<|
            .ok false)<|
           .ok false)<|
          .bf (y6.2.2==0) (
           .bf (y6.2.1.cD==0) (
            .bd (eC sh y6.1 z1) λz8=>
             .bf (z8) (
              .bd (cF (IntKind.i64.wrap ((IntKind.u64.wrap de).tmod 5)) 5) λz9=>
               .bf (au [7,10,4,6,13] z9 !=13) (
                .ok true)<|
               .ok (y6.2.1.dd==au args 2))<|
             .ok false)<|
           .ok false)<|
          .ok false)<|
      .bf (au [7,10,4,6,13] z4==13) (
       .gd (OQ z1.aq.ax args)<|
        .bd (BY sh z1.aq.ax args) λx9=> .cs x9 (λy5=>
         .bf (decide (y5>=0)) (
          .ok true)<|
         .bd (cF (IntKind.i64.wrap ((IntKind.u64.wrap de).tmod 5)) 5) λz6=>
          .bd (kb sh y3.1 (aW.mk (au [8,11,5,5,14] z6) (args.set 0 (au args 1)))) λy7=>
           .bd (cF (IntKind.i64.wrap ((IntKind.u64.wrap de).tmod 5)) 5) λz8=>
            .bf (au [7,10,4,6,13] z8==7) (
             .bf (y7.2.1.cD==341) (
              .bd (eC sh y7.1 y3.1) λz9=>
               .ok z9)<|
             .bf (y7.2.2==0) (
              .bf (y7.2.1.cD==0) (
               .bd (eC sh (aM.mk y7.1.ar y7.1.aI (bG.mk y7.1.ay.ab z1.ay.aN) y7.1.aq) z1) λz9=>
                .bf (z9) (
                 .bd (cF (IntKind.i64.wrap ((IntKind.u64.wrap de).tmod 5)) 5) λkJ=>
                  .bf (au [7,10,4,6,13] kJ !=13) (
                   .ok true)<|
                  .ok (y7.2.1.dd==au args 2))<|
                .ok false)<|
              .ok false)<|
             .ok false)<|
            .bf (y7.2.2==0) (
             .bf (y7.2.1.cD==0) (
              .bd (eC sh y7.1 z1) λz9=>
               .bf (z9) (
                .bd (cF (IntKind.i64.wrap ((IntKind.u64.wrap de).tmod 5)) 5) λkJ=>
                 .bf (au [7,10,4,6,13] kJ !=13) (
                  .ok true)<|
                 .ok (y7.2.1.dd==au args 2))<|
               .ok false)<|
             .ok false)<|
            .ok false) λy5=>
         .bd (cF (IntKind.i64.wrap ((IntKind.u64.wrap de).tmod 5)) 5) λz6=>
          .bd (kb sh y3.1 (aW.mk (au [8,11,5,5,14] z6) (args.set 0 (au args 1)))) λy7=>
           .bd (cF (IntKind.i64.wrap ((IntKind.u64.wrap de).tmod 5)) 5) λz8=>
            .bf (au [7,10,4,6,13] z8==7) (
             .bf (y7.2.1.cD==341) (
              .bd (eC sh y7.1 y3.1) λz9=>
               .ok z9)<|
             .bf (y7.2.2==0) (
              .bf (y7.2.1.cD==0) (
               .bd (eC sh (aM.mk y7.1.ar y7.1.aI (bG.mk y7.1.ay.ab z1.ay.aN) y7.1.aq) z1) λz9=>
                .bf (z9) (
                 .bd (cF (IntKind.i64.wrap ((IntKind.u64.wrap de).tmod 5)) 5) λkJ=>
                  .bf (au [7,10,4,6,13] kJ !=13) (
                   .ok true)<|
                  .ok (y7.2.1.dd==au args 2))<|
                .ok false)<|
              .ok false)<|
             .ok false)<|
            .bf (y7.2.2==0) (
             .bf (y7.2.1.cD==0) (
              .bd (eC sh y7.1 z1) λz9=>
               .bf (z9) (
                .bd (cF (IntKind.i64.wrap ((IntKind.u64.wrap de).tmod 5)) 5) λkJ=>
                 .bf (au [7,10,4,6,13] kJ !=13) (
                  .ok true)<|
                 .ok (y7.2.1.dd==au args 2))<|
               .ok false)<|
             .ok false)<|
            .ok false)<|
      .bd (cF (IntKind.i64.wrap ((IntKind.u64.wrap de).tmod 5)) 5) λz5=>
       .bd (kb sh y3.1 (aW.mk (au [8,11,5,5,14] z5) args)) λy6=>
        .bd (cF (IntKind.i64.wrap ((IntKind.u64.wrap de).tmod 5)) 5) λz7=>
         .bf (au [7,10,4,6,13] z7==7) (
          .bf (y6.2.1.cD==341) (
           .bd (eC sh y6.1 y3.1) λz8=>
            .ok z8)<|
          .bf (y6.2.2==0) (
           .bf (y6.2.1.cD==0) (
            .bd (eC sh (aM.mk y6.1.ar y6.1.aI (bG.mk y6.1.ay.ab z1.ay.aN) y6.1.aq) z1) λz8=>
             .bf (z8) (
              .bd (cF (IntKind.i64.wrap ((IntKind.u64.wrap de).tmod 5)) 5) λz9=>
               .bf (au [7,10,4,6,13] z9 !=13) (
                .ok true)<|
               .ok (y6.2.1.dd==au args 2))<|
             .ok false)<|
           .ok false)<|
          .ok false)<|
         .bf (y6.2.2==0) (
          .bf (y6.2.1.cD==0) (
           .bd (eC sh y6.1 z1) λz8=>
            .bf (z8) (
             .bd (cF (IntKind.i64.wrap ((IntKind.u64.wrap de).tmod 5)) 5) λz9=>
              .bf (au [7,10,4,6,13] z9 !=13) (
               .ok true)<|
              .ok (y6.2.1.dd==au args 2))<|
            .ok false)<|
          .ok false)<|
         .ok false
noncomputable def Th (sh:Sh) (x:aM) (args:List Int) (de:Int):Option (Bool):=sh.s _ (Dd sh x args de).val
theorem t_7 {R:Type} (x:aM) (args:List Int) (de:Int) (k:Rs SS->Option R):b8 G8 100 7 [KK.ah 36 x,KK.ah 48 args,KK.ah 3 de] [] (cg KK [4] k)=(Dd shut x args de).run (λr=>k (.ret (.s (KK.ah 4 r)))):=by kernel_rfl
end Go.Proofs.YtdhaaaeffhaadaaGreatDoor
end
section
namespace Go.Proofs.YtdhaaaeffhaadaaGreatDoor
open Go.RowKit Go.Dc Go.Vx
set_option maxRecDepth 100000
theorem ajw (de:Int): ∃j,j<5/\cF (IntKind.i64.wrap ((IntKind.u64.wrap de).tmod 5)) 5=some j:=by
 have h0:0<=IntKind.u64.wrap de:=by
  simp[IntKind.wrap,IntKind.signed,IntKind.bits]
  omega
 have U:=Int.tmod_eq_emod_of_nonneg (b:=5) h0
 have hw:IntKind.i64.wrap ((IntKind.u64.wrap de).tmod 5)=(IntKind.u64.wrap de).tmod 5:=ez (by omega) (by omega)
 rw[hw,rf (by omega) (by omega)]
 exact⟨_,by omega,rfl⟩
theorem xT {s:aM} {k:Int} {args:List Int} (hk:1<=k/\k<=14) (hr:cG s.ar.ab (au args 0)=true):dY s ⟨k,args⟩=match ji s k (au args 0) (au args 1) (au args 2) with| .ok (n,v)=>(n,⟨0,v⟩)| .error e=>(s,⟨e,0⟩):=by
 unfold dY ma
 simp only[if_pos hk,hr,Bool.or_true,cond_true]
 cases ji s k (au args 0) (au args 1) (au args 2)<;>rfl
theorem PE {args:List Int} (h: ∀x∈args,dv x) {i:Nat} {v:Int} (hv:dv v): ∀x∈args.set i v,dv x:=λx hx=>by
 rcases List.mem_or_eq_of_mem_set hx with hx|rfl
 ·exact h x hx
 ·exact hv
theorem rN {args:List Int} (h: ∀x∈args,dv x) (k:Int):l6 ⟨k,args⟩:=by
 have: ∀i,dv (au args i):=λi=>by
  unfold au
  cases e:args[i]? with
  |none=>exact⟨by simp,by simp⟩
  |some x=>exact h x (List.mem_of_getElem? e)
 exact⟨this 0,this 1⟩
theorem L78 (l:List ao) (args:List Int):BY aj l args=match l.findIdx? (λb=>b.aa==au args 1) with|some i=>some (.inl (i:Int))|none=>some (.inr (false,(l.length:Int))):=by
 show cS (λi z a=>(Cq aj l args i z a).val) (λi a=>(Bs aj l args i a).val) 0 l ()=_
 rw[Gp (p:=λb=>b.aa==au args 1) (e:=λi=> .inl (i:Int)) λi z _=>by unfold Cq;rfl]
 unfold Bs
 cases l.findIdx? (λb=>b.aa==au args 1)<;>simp
theorem abV {x:aM} (hx:nF x) {args:List Int} (ha:(∀x∈args,dv x)/\args.length=4) (de:Int):Th aj x args de=some true:=by
 show(Dd aj x args de).val=_
 obtain⟨j,hj,hi⟩:=ajw de
 unfold Dd
 simp only[T.bB,T.bn,T.cM,T.eP,T.bo,v8,v9,Option.bind_some,Bool.not_true,cond_false,hi,v12,L78]
 rcases NT hx with h|h
 rotate_left
 ·simp only[ZT h,h,Option.bind_some]
  rfl
 generalize jq x=s at*
 obtain⟨ha,hl⟩:=ha
 simp only[qf h (rN ha _),f11 h,Option.bind_some,show((0:Int) !=0)=false from rfl,cond_false]
 have hs:=Sz h ⟨au [7,10,4,6,13] j,args⟩
 have eW:=Sy h ⟨au [7,10,4,6,13] j,args⟩
 have hn:=xS h (rN ha (au [7,10,4,6,13] j)).a
 rcases eW with⟨he,fQ⟩|⟨he,dz,a_⟩
 ·have:((dY s ⟨au [7,10,4,6,13] j,args⟩).2.cD !=0)=true:=by simpa using he
  rw[this,fQ]
  simp
 rw[he]
 simp only[show((0:Int) !=0)=false from rfl,cond_false] at*
 generalize (dY s ⟨au [7,10,4,6,13] j,args⟩).1=n at*
 generalize (dY s ⟨au [7,10,4,6,13] j,args⟩).2.dd=v at*
 have hj:j=0\/j=1\/j=2\/j=3\/j=4:=by omega
 rcases hj with rfl|rfl|rfl|rfl|rfl
 ·simp only[show au [7,10,4,6,13] 0=7 from rfl,show au [8,11,5,5,14] 0=8 from rfl,Int.reduceBEq,Int.reduceBNe,cond_true,cond_false,qf hn (rN ha _),Option.bind_some] at*
  have hp:n.ar=s.ar:=by cases dz;rfl
  have hr:=(iR h.p.ord).2 (a_ (by omega) (by omega))
  rw[<-hp] at hr
  rw[xT (by omega) hr]
  rcases ads h dz (au args 2) (au args 2) with e|e
  ·rw[e]
   simp
  ·rw[e]
   simp
 ·simp only[show au [7,10,4,6,13] 1=10 from rfl,show au [8,11,5,5,14] 1=11 from rfl,Int.reduceBEq,Int.reduceBNe,cond_true,cond_false,qf hn (rN ha _),Option.bind_some] at*
  have hp:n.ar=s.ar:=by cases dz;rfl
  have hr:=(iR h.p.ord).2 (a_ (by omega) (by omega))
  rw[<-hp] at hr
  rw[xT (by omega) hr,adt dz]
  simp
 ·have hp:n.ar=s.ar:=by cases dz;rfl
  have hv:dv v:=by cases dz with|ah x i _ _ U=>exact⟨by omega,by have:=(uK U).1;omega⟩
  simp only[show au [7,10,4,6,13] 2=4 from rfl,show au [8,11,5,5,14] 2=5 from rfl,Int.reduceBEq,Int.reduceBNe,cond_true,cond_false,qf hn (rN (PE ha hv) _),Option.bind_some] at*
  have hr:=(iR h.p.ord).2 (a_ (by omega) (by omega))
  rw[<-hp] at hr
  have e0:au (args.set 1 v) 0=au args 0:=by rw[mA (by omega),if_neg (by omega)]
  have e1:au (args.set 1 v) 1=v:=by rw[mA (by omega),if_pos rfl]
  have e2:au (args.set 1 v) 2=au args 2:=by rw[mA (by omega),if_neg (by omega)]
  rw[xT (by omega) (by rw[e0];exact hr),e0,e1,e2,R7 (.inl rfl) dz]
  simp
 ·have hp:n.ar=s.ar:=by cases dz;rfl
  have hv:dv v:=by cases dz with|dup w i _ U=>exact⟨by omega,by have:=(uK U).1;omega⟩
  simp only[show au [7,10,4,6,13] 3=6 from rfl,show au [8,11,5,5,14] 3=5 from rfl,Int.reduceBEq,Int.reduceBNe,cond_true,cond_false,qf hn (rN (PE ha hv) _),Option.bind_some] at*
  have hr:=(iR h.p.ord).2 (a_ (by omega) (by omega))
  rw[<-hp] at hr
  have e0:au (args.set 1 v) 0=au args 0:=by rw[mA (by omega),if_neg (by omega)]
  have e1:au (args.set 1 v) 1=v:=by rw[mA (by omega),if_pos rfl]
  have e2:au (args.set 1 v) 2=au args 2:=by rw[mA (by omega),if_neg (by omega)]
  rw[xT (by omega) (by rw[e0];exact hr),e0,e1,e2,R7 (.inr rfl) dz]
  simp
 ·have hp:n.ar=s.ar:=by cases dz;rfl
  simp only[show au [7,10,4,6,13] 4=13 from rfl,show au [8,11,5,5,14] 4=14 from rfl,Int.reduceBEq,Int.reduceBNe,cond_true,cond_false] at*
  cases hf:s.aq.ax.findIdx? (λb=>b.aa==au args 1) with
  |some i=>
   have:decide ((i:Int)>=0)=true:=decide_eq_true (by omega)
   simp[this]
  |none=>
   have iI: ∀b∈s.aq.ax,b.aa≠au args 1:=λb hb=>by simpa using List.findIdx?_eq_none_iff.1 hf b hb
   have hv:dv (au args 1):=(rN ha 0).a
   have e0:au (args.set 0 (au args 1)) 0=au args 1:=by rw[mA (by omega),if_pos rfl]
   obtain⟨b1,b2⟩:=adu h dz iI (au (args.set 0 (au args 1)) 1) (au (args.set 0 (au args 1)) 2)
   simp only[Option.bind_some,qf hn (rN (PE ha hv) _)]
   rw[xT (by omega) (by rw[e0];exact(iR hn.p.ord).2 b1),e0,b2]
   simp
theorem ajS {O:List Nat} {w:World} (hO:OB O w) (hg:jM.ptr.is O w (.pointer (some ⟨0,0,none⟩)) uL) {v0 v1 v2:Value} {x0:aM} {x1:List Int} {x2:Int} (h0:tE.is O w v0 x0) (U:(l_ .u64 4).is O w v1 x1) (h2:(Ty.int .i64).is O w v2 x2) {r:Bool} (h:Th aj x0 x1 x2=some r):Calls Tryz.prog 7 #[v0,v1,v2] w (jP (rH Ty.bool) O w r):=by
 rw[<-rJ] at h
 have hc:fY KK Tryz.prog 7 [KK.ah 36 x0,KK.ah 48 x1,KK.ah 3 x2] (.ret (.s (KK.ah 4 r))):=wb (G:=G8) abr (kf:=λ{R} (k:Rs SS->Option R)=>(λr=>k (.ret (.s (KK.ah 4 r))))) (λk=>t_7 x0 x1 x2 k) rfl (yo h) λk=>rfl
 exact JE hc (A:=vK) (vs:=[v0,v1,v2]) ⟨v0,_,rfl,jo ep (t:=36) rfl rfl h0,v1,_,rfl,jo ep (t:=48) rfl rfl U,v2,_,rfl,jo ep (t:=3) rfl rfl h2,rfl⟩ hO (Ky hg)
end Go.Proofs.YtdhaaaeffhaadaaGreatDoor
end
section
namespace Go.Proofs.YtdhaaaeffhaadaaGreatDoor.modelPairs
open Go.ChangeShapes Go.WideShapes Go.ChangeAt Go.RowKit Go.Dc Go.Vx
set_option maxRecDepth 100000
theorem own:ownKnob Tryz.prog.godebug=none:=by kernel_rfl
theorem laidOut:laidOutB Tryz.prog=true:=by kernel_rfl
theorem xQ (H:Type) (enc:TypeId×Value->H) (W:World) (base:Nat) (args:Array Value) (ds gs:List (DataW H)) (before:List MemPlace)
  (gZ: ∀(j:Nat) t v,Tryz.f7.params[j]? =some t->args[j]? =some v->Value.okWide Tryz.prog W .any base t v)
  (hW:DataW.Whole enc Tryz.prog Tryz.f7.params.toList Rows.modelPairsSpec.vars false W args.toList ds gs before) (hL:laidMetH Tryz.prog Rows.modelPairsRow.laid W):
  Calls Tryz.prog 7 args W λe W'=> ∃v,e= .returned v/\Rows.modelPairsSpec.post enc Tryz.prog Tryz.f7 false true false false W args v W':=by
 have yH:=hW
 have aH:=hW.lt
 obtain⟨p,q,mf,hV,rfl,gv,nY⟩:=hW
 have hA:DataW.TrodAll enc Tryz.prog W 0 (λ_=>true) true Tryz.f7.params.toList args.toList ds p:=mf
 have lF:=mf
 rw[Tryz.params7] at hA gZ
 obtain⟨v0,AN,d0,SA,p0,q0,Uq,rfl,rfl,h0,r0⟩:=trodAll_cons hA
 obtain⟨v1,GJ,d1,SB,p1,q1,rfl,rfl,rfl,U,r1⟩:=trodAll_cons r0
 obtain⟨v2,Z5,d2,ds2,p2,q2,rfl,rfl,rfl,h2,r2⟩:=trodAll_cons r1
 obtain⟨rfl,rfl,rfl⟩:=trodAll_nil r2
 obtain rfl:args= #[v0,v1,v2]:=by cases args;simp_all
 obtain⟨rfl,rfl⟩:=trodVars_none hV
 obtain⟨x0,mu,D0⟩:=NQ.arg (gZ 0 36 v0 rfl rfl) h0 (λb off hm=>gv b off (by simp[hm]))
 obtain⟨x1,sS,D1⟩:=Xl.arg (gZ 1 48 v1 rfl rfl) U (λb off hm=>gv b off (by simp[hm]))
 obtain⟨x2,Ms,D2⟩:=NO.arg (gZ 2 3 v2 rfl rfl) h2 (λb off hm=>gv b off (by simp[hm]))
 obtain⟨y0,sC,wq⟩:=MT (g:=0) (by kernel_rfl) (by kernel_rfl) FT (by decide) (MS hL (.head _))
 obtain rfl:=Kv wq
 have fO:=ajS (O:=[]) (w:=W) (λk hk=>by cases hk) sC mu sS Ms (abV (PF D0) (aai D1) x2)
 refine fO.mono λe W' ⟨v,he,hv,hF⟩=>?_
 subst he
 obtain rfl:=mU.1 hv
 refine⟨_,rfl,_,_,_,[],(p0++(p1++(p2++[]))),[],yH,?_,?_,?_,hF.below.frame _,λh=>by cases h⟩
 ·exact trodAll_cons_mk (shut_bool Tryz.underlying4 _) trodAll_mk0
 ·exact Ds laidOut (by rw[Tryz.params7];intro t ht;simp only[List.mem_cons,List.not_mem_nil,or_false] at ht;rcases ht with rfl|rfl|rfl<;>exact⟨by kernel_rfl,of_decide_eq_true (by kernel_rfl)⟩) lF hF.below (λx hx=>aH x (List.mem_append_left _ hx)) _ (λx hx=>by simpa using aH x (List.mem_append_left _ hx))
 ·rfl
noncomputable def ng (os:Os):World:=
 let w0:=World.holding Tryz.prog os ⟨#[],#[],[]⟩
 { w0 with heap:=w0.heap.modify 0 λ
  | .cells _ t frozen=> .cells #[.int .u64 1,.int .u64 0,.bool false,.int .u64 0] t frozen
  |o=>o }
theorem zI (os:Os):laidMet Tryz.prog Rows.modelPairsRow.laid ((ng os).forCall (λ_ _=>0) ⟨#[],#[(.agg #[.int .i64 0,.int .i64 0,.int .i64 0,.int .i64 0,.int .i64 0,.int .i64 0,.int .i64 0,.int .i64 0,.int .i64 0,.int .i64 0,.int .i64 0,.int .i64 0,.int .i64 0,.int .i64 0,.int .i64 0,.int .i64 0,.slice none 0 0,.slice none 0 0,.slice none 0 0,.int .u64 0,.slice none 0 0,.slice none 0 0]:Value),(.agg #[.int .u64 0,.int .u64 0,.int .u64 0,.int .u64 0]:Value),(.int .i64 0:Value)],[]⟩).memory:=
 laidMet_of_run' 8 (by kernel_rfl) (by kernel_rfl)
theorem reads (os:Os) {H:Type} (enc:TypeId×Value->H):(DataW.whole enc Tryz.prog ((ng os).forCall (λ_ _=>0) ⟨#[],#[(.agg #[.int .i64 0,.int .i64 0,.int .i64 0,.int .i64 0,.int .i64 0,.int .i64 0,.int .i64 0,.int .i64 0,.int .i64 0,.int .i64 0,.int .i64 0,.int .i64 0,.int .i64 0,.int .i64 0,.int .i64 0,.int .i64 0,.slice none 0 0,.slice none 0 0,.slice none 0 0,.int .u64 0,.slice none 0 0,.slice none 0 0]:Value),(.agg #[.int .u64 0,.int .u64 0,.int .u64 0,.int .u64 0]:Value),(.int .i64 0:Value)],[]⟩).memory Tryz.f7.params.toList Rows.modelPairsSpec.vars false (#[(.agg #[.int .i64 0,.int .i64 0,.int .i64 0,.int .i64 0,.int .i64 0,.int .i64 0,.int .i64 0,.int .i64 0,.int .i64 0,.int .i64 0,.int .i64 0,.int .i64 0,.int .i64 0,.int .i64 0,.int .i64 0,.int .i64 0,.slice none 0 0,.slice none 0 0,.slice none 0 0,.int .u64 0,.slice none 0 0,.slice none 0 0]:Value),(.agg #[.int .u64 0,.int .u64 0,.int .u64 0,.int .u64 0]:Value),(.int .i64 0:Value)]:Array Value).toList 8).map (λx=>(x.1,x.2.1))=some ([.agg [.agg [.agg [.lit (.int .i64 0),.lit (.int .i64 0),.lit (.int .i64 0),.lit (.int .i64 0),.lit (.int .i64 0),.lit (.int .i64 0),.lit (.int .i64 0),.lit (.int .i64 0),.lit (.int .i64 0),.lit (.int .i64 0),.lit (.int .i64 0),.lit (.int .i64 0),.lit (.int .i64 0),.lit (.int .i64 0),.lit (.int .i64 0),.lit (.int .i64 0)],.nil],.nil,.agg [.nil,.lit (.int .u64 0)],.agg [.nil,.nil]],.agg [.lit (.int .u64 0),.lit (.int .u64 0),.lit (.int .u64 0),.lit (.int .u64 0)],.lit (.int .i64 0)],[]):=by kernel_rfl
theorem lifted (os:Os) (started:os.Started) (H:Type) (enc:TypeId×Value->H) (F:Stop.Interp):
  ReturnsInHanded {} Tryz.checked os 7 .any ((OpenSpec.ofChange Rows.modelPairsSpec).preRow enc Tryz.prog Tryz.f7 Rows.modelPairsRow.domain false Rows.modelPairsRow.laid) (((OpenSpec.ofChange Rows.modelPairsSpec).at F).post enc Tryz.prog Tryz.f7 false true false false):=by
 obtain⟨⟨z1,z2,z3⟩,hx,hz⟩:=Option.map_eq_some_iff.1 (reads os enc)
 simp only[Prod.mk.injEq] at hz
 obtain⟨rfl,rfl⟩:=hz
 refine returnsInHanded_of_row (C:=Tryz.checked) (s:=OpenSpec.ofChange Rows.modelPairsSpec) own started (by kernel_rfl) Tryz.func7
  (witness_row_atRef (enc:=enc) (C:=Tryz.checked) false (ng os) #[(.agg #[.int .i64 0,.int .i64 0,.int .i64 0,.int .i64 0,.int .i64 0,.int .i64 0,.int .i64 0,.int .i64 0,.int .i64 0,.int .i64 0,.int .i64 0,.int .i64 0,.int .i64 0,.int .i64 0,.int .i64 0,.int .i64 0,.slice none 0 0,.slice none 0 0,.slice none 0 0,.int .u64 0,.slice none 0 0,.slice none 0 0]:Value),(.agg #[.int .u64 0,.int .u64 0,.int .u64 0,.int .u64 0]:Value),(.int .i64 0:Value)] rfl (by kernel_rfl) (by kernel_rfl) (by kernel_rfl)
   (OpenSpec.preRow_of_cond 8 hx (by kernel_rfl) (λk hk=>by cases hk) (by kernel_rfl) (zI os))) ?_
 intro W base args ds gs before gZ hW _ _ _ hL _ _
 exact xQ H enc W base args ds gs before gZ hW hL
theorem said:Rows.ModelPairsSaid:=
 OpenClaim.holds_of_cond 7 Tryz.f7 rfl rfl rfl rfl rfl rfl rfl ⟨rfl,rfl,rfl,rfl,rfl⟩ rfl rfl rfl rfl rfl (by kernel_rfl) Tryz.func7 (by kernel_rfl)
  (of_decide_eq_true (by kernel_rfl)) (by unfold Func.isWrapper;first|(rw[if_pos (by decide+kernel)];kernel_rfl)|(rw[if_neg (by decide+kernel)];exact⟨rfl,rfl⟩))
  (λos started H enc _ F=>by rw[OpenClaim.pre_eq_preRow];exact lifted os started H enc F)
theorem plain (f:FuncId) (fn:Func) (hf:Tryz.pinned.checked.prog.funcNamed "afterglow/afterglowlaw26.ModelPairs" =some f) (pA:Tryz.pinned.checked.prog.funcs[f]? =some fn):
  true=Tryz.pinned.checked.prog.looks []/\ ∀(j:Nat) t,fn.params[j]? =some t->Tryz.pinned.checked.prog.wantsStandIn t=false:=by
 obtain rfl:f=7:=Option.some.inj ((show Tryz.prog.funcNamed "afterglow/afterglowlaw26.ModelPairs" =some 7 by kernel_rfl).symm.trans hf)|>.symm
 obtain rfl:fn=Tryz.f7:=(Option.some.inj (Tryz.func7.symm.trans pA)).symm
 refine⟨by kernel_rfl,λj t ht=>?_⟩
 rw[Tryz.params7] at ht
 have ht:=Array.mem_of_getElem? ht
 simp only[List.mem_toArray,List.mem_cons,List.not_mem_nil,or_false] at ht
 rcases ht with rfl|rfl|rfl
 ·exact(show Tryz.prog.wantsStandIn 36=false by kernel_rfl)
 ·exact(show Tryz.prog.wantsStandIn 48=false by kernel_rfl)
 ·exact(show Tryz.prog.wantsStandIn 3=false by kernel_rfl)
theorem card:Rows.ModelPairsCardSaid:=
 Claim7.holds_tied_plain_at .later [] _ _ _ _ said (λ_ h=>by cases h) (by kernel_rfl) (λ_ h=>by cases h) modelPairs_row_tie rfl ⟨rfl,rfl⟩ (by kernel_rfl) rfl plain (by kernel_rfl)
end Go.Proofs.YtdhaaaeffhaadaaGreatDoor.modelPairs
end
