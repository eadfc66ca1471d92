/- A part of the proof that ModelErrors, ModelNever and ModelPairs return true for every input: the machine of values, its soundness, the program as plain functions, the laws. Conditions: those of the given rows. -/
import Derived.Test.YtdhaaaeffhaadaaGreatDoorR4
import Derived.Laws.Bits64b
import Derived.Laws.Strings
import Derived.ProofKit
import Derived.OpenShut
import Derived.Lib.LaidTab
import Derived.Test.YtdhaaaeffhaadaaGreatDoorCards
import Derived.Test.YtdhaaaeffhaadaaGreatDoorTie
set_option linter.unusedVariables false
set_option linter.unusedSimpArgs false
noncomputable section
section
namespace Go.Proofs.YtdhaaaeffhaadaaGreatDoor
open Go.RowKit Go.Dc Go.Vx
set_option maxRecDepth 100000
set_option maxHeartbeats 4000000
noncomputable def ub (sh:Sh) (s:aM) (c:aW):T (aM×cH×Int):=
 .bd (kO sh s) λz0=>
  .bf (z0 !=0) (
   .ok (⟨⟨[0,0,0,0,0,0,0,0,0,0,0,0,0,0,0,0],[]⟩,[],⟨[],0⟩,⟨[],[]⟩⟩,⟨0,0⟩,z0))<|
  .bd (D9 sh s) λz1=>
   .bd (D8 sh z1 c) λy2=>
    .ok (y2.1,y2.2,0)
noncomputable def kb (sh:Sh) (s:aM) (c:aW):Option (aM×cH×Int):=sh.s _ (ub sh s c).val
theorem anW {R:Type} (s:aM) (c:aW) (k:Rs SS->Option R):b8 (BM shut) 100 19 [KK.ah 36 s,KK.ah 50 c] [] (cg KK [36,53,40] k)=(ub shut s c).run (λr=>k (.ret (.bj [KK.ah 36 r.1,KK.ah 53 r.2.1,KK.ah 40 r.2.2]))):=by kernel_rfl
noncomputable def aee (sh:Sh):b6 SS:=cf KK 19 [36,50] (λ{R} xs k=>match xs with| .cons s (.cons c .nil)=>(kb sh s c).bind (λr=>k (.ret (.bj [KK.ah 36 r.1,KK.ah 53 r.2.1,KK.ah 40 r.2.2]))))
noncomputable def BC (sh:Sh):aK SS:= { (BM sh) with C:=aee sh::(BM sh).C }
theorem Q2:aw (BC shut) Tryz.prog:=aw.cm Q_ λxs k z _ hz=>ct (aw.all Q_ rfl) (λ{R} xs k z h=>by
 match xs,h with
 | .cons s (.cons c .nil),h=>exact⟨100,(anW s c k).trans (cv h)⟩) hz
noncomputable def uc (sh:Sh) (s:aM) (c:aW):T (Bool):=
 .bd (kb sh s c) λy0=>
  .bf (y0.2.2==0) (
   .bd (eC sh y0.1 s) λz1=>
    .ok (!z1))<|
  .ok false
noncomputable def nO (sh:Sh) (s:aM) (c:aW):Option (Bool):=sh.s _ (uc sh s c).val
theorem an3 {R:Type} (s:aM) (c:aW) (k:Rs SS->Option R):b8 (BC shut) 100 21 [KK.ah 36 s,KK.ah 50 c] [] (cg KK [4] k)=(uc shut s c).run (λr=>k (.ret (.s (KK.ah 4 r)))):=by kernel_rfl
noncomputable def aen (sh:Sh):b6 SS:=cf KK 21 [36,50] (λ{R} xs k=>match xs with| .cons s (.cons c .nil)=>(nO sh s c).bind (λr=>k (.ret (.s (KK.ah 4 r)))))
noncomputable def wM (sh:Sh):aK SS:= { (BC sh) with C:=aen sh::(BC sh).C }
theorem HV:aw (wM shut) Tryz.prog:=aw.cm Q2 λxs k z _ hz=>ct (aw.all Q2 rfl) (λ{R} xs k z h=>by
 match xs,h with
 | .cons s (.cons c .nil),h=>exact⟨100,(an3 s c k).trans (cv h)⟩) hz
noncomputable def KJ (p0:List aW) (p1:List Int) (p2:List ae) (p3:List ai) (p4:List az) (p5:Int) (p6:List aA) (p7:List ao) (p8:Int) (p9:List cH):AS SS:=⟨[(0,(vs .dW)),(2,(va 2 0)),(8,(vd 46 p0)),(9,(vi (↑p0.length:Int))),(10,(vi p8))],[(some (.bN 117 [] [(.one (.bu 1 0)),(.one (.bu 2 0))])),(bX 46 [(.aV 46 p0)]),(bX 120 [(.bu 3 0)]),(bX 36 [(.bQ .i64 16 p1),(.aV 23 p2),(.aV 26 p3),(.aV 27 p4),(lu p5),(.aV 31 p6),(.aV 32 p7)]),(bX 51 [(.own 5)]),(rX 53 p9)],5,(some ⟨⟨Tryz.f116,aE 116⟩,[7],(gN (bm Tryz.f116) 4),(gO (bm Tryz.f116) 4),[(2,(va 4 0)),(6,(vc 0))],none⟩),false,[],[3,4]⟩
noncomputable def YI (p0:List aW) (p1:List Int) (p2:List ae) (p3:List ai) (p4:List az) (p5:Int) (p6:List aA) (p7:List ao) (p9:List cH):AS SS:=KJ p0 p1 p2 p3 p4 p5 p6 p7 0 p9
noncomputable def afo (p0:List aW) (a0:Bool) (a1:Int) (a2:List Int) (a3:List ae) (a4:List ai) (a5:List az) (a6:Int) (a7:List aA) (a8:List ao) (a9:List cH):AS SS:= { KJ p0 a2 a3 a4 a5 a6 a7 a8 a1 a9 with env:=[(11,(vb a0)),(0,(vs .dW)),(2,(va 2 0)),(8,(vd 46 p0)),(9,(vi (↑p0.length:Int))),(10,(vi a1))] }
noncomputable def Rt (sh:Sh) (p0:List aW) (p8:Int) (z0:aW) (a:List Int×List ae×List ai×List az×Int×List aA×List ao×List cH):T ((List Int×List ae×List ai×List az×Int×List aA×List ao×List cH) ⊕ (Bool×Int×List Int×List ae×List ai×List az×Int×List aA×List ao×List cH)):=
 .bd (D8 sh (aM.mk (br.mk a.1 a.2.1) a.2.2.1 (bG.mk a.2.2.2.1 a.2.2.2.2.1) (aL.mk a.2.2.2.2.2.1 a.2.2.2.2.2.2.1)) z0) λy1=>
  .bd (app 16 a.2.2.2.2.2.2.2 [y1.2]) λz2=>
   .ok (.inl (y1.1.ar.aJ,y1.1.ar.ab,y1.1.aI,y1.1.ay.ab,y1.1.ay.aN,y1.1.aq.aB,y1.1.aq.ax,z2))
noncomputable def QO (sh:Sh) (p0:List aW) (p8:Int) (a:List Int×List ae×List ai×List az×Int×List aA×List ao×List cH):T ((Bool×Int×List Int×List ae×List ai×List az×Int×List aA×List ao×List cH)):=
 .ok ((decide (p8<(↑p0.length:Int))),p8,a.1,a.2.1,a.2.2.1,a.2.2.2.1,a.2.2.2.2.1,a.2.2.2.2.2.1,a.2.2.2.2.2.2.1,a.2.2.2.2.2.2.2)
noncomputable def Rh (sh:Sh) (p0:List aW) (p1:List Int) (p2:List ae) (p3:List ai) (p4:List az) (p5:Int) (p6:List aA) (p7:List ao) (p9:List cH):Option ((Bool×Int×List Int×List ae×List ai×List az×Int×List aA×List ao×List cH)):=cP sh (Rt sh p0) (QO sh p0) p0 (p1,p2,p3,p4,p5,p6,p7,p9)
noncomputable def ab7 {R:Type} (k:AX->AS SS->Option R) (p0:List aW) (x:(Bool×Int×List Int×List ae×List ai×List az×Int×List aA×List ao×List cH)):Option R:=(λv=>k (.exit 0) (afo p0 v.1 v.2.1 v.2.2.1 v.2.2.2.1 v.2.2.2.2.1 v.2.2.2.2.2.1 v.2.2.2.2.2.2.1 v.2.2.2.2.2.2.2.1 v.2.2.2.2.2.2.2.2.1 v.2.2.2.2.2.2.2.2.2)) x
noncomputable def VR:bM SS:=pS (λst=>gc (aE 117 2) (ka [3,4] (jk 4 0 53 (st))))<|cd 2 (λst=>((ey st 0 117).bind λ_=>kC st 13 4).bind λ_=>(bE 46 (bD st 8 0)).bind λp0=>(gS (bq st 3 0)).bind λp1=>(bE 23 (bq st 3 1)).bind λp2=>(bE 26 (bq st 3 2)).bind λp3=>(bE 27 (bq st 3 3)).bind λp4=>(bT (bq st 3 4)).bind λp5=>(bE 31 (bq st 3 5)).bind λp6=>(bE 32 (bq st 3 6)).bind λp7=>(dD st 5 53).bind λp9=>some (p0,p1,p2,p3,p4,p5,p6,p7,p9)) (λp=>YI p.1 p.2.1 p.2.2.1 p.2.2.2.1 p.2.2.2.2.1 p.2.2.2.2.2.1 p.2.2.2.2.2.2.1 p.2.2.2.2.2.2.2.1 p.2.2.2.2.2.2.2.2) (λp=>Rh shut p.1 p.2.1 p.2.2.1 p.2.2.2.1 p.2.2.2.2.1 p.2.2.2.2.2.1 p.2.2.2.2.2.2.1 p.2.2.2.2.2.2.2.1 p.2.2.2.2.2.2.2.2) (λk p=>ab7 k p.1)
theorem alq:aO KK Tryz.prog ⟨Tryz.f117,aE 117⟩ (b9 (bm Tryz.f117) 2) VR:=aO.pre (du.comp (du.gc (aE 117 2)) (du.comp (du.ka [3,4]) (du.jk 4 0 53)))<|
 aO.c_ (π:=List aW×List Int×List ae×List ai×List az×Int×List aA×List ao×List cH) (σ:=List Int×List ae×List ai×List az×Int×List aA×List ao×List cH) (aw.all HV rfl) (aC.nil) rfl 60 (λp i a=>KJ p.1 a.1 a.2.1 a.2.2.1 a.2.2.2.1 a.2.2.2.2.1 a.2.2.2.2.2.1 a.2.2.2.2.2.2.1 i a.2.2.2.2.2.2.2) (λp=>p.1) (λp=>(p.2.1,p.2.2.1,p.2.2.2.1,p.2.2.2.2.1,p.2.2.2.2.2.1,p.2.2.2.2.2.2.1,p.2.2.2.2.2.2.2.1,p.2.2.2.2.2.2.2.2)) (St:=λp=>Rt shut p.1) (F:=λp=>QO shut p.1) (λp=>rfl)
  (λm p i a k=>by kernel_rfl) (λp x=>⟨_,_,λ_=>rfl⟩) (λp N C A O w a hr=>dQ hr (t:=46) (sl:=8) rfl λv h=>h)
noncomputable def Qv:aK SS:= { (wM shut) with T:=bI ((wM shut).T) 117 ⟨⟨Tryz.f117,aE 117⟩,[VR]⟩ }
theorem aa_:aS Qv Tryz.prog:=(aS.cj (aw.all HV rfl) Tryz.func117 rfl bA λc hc=>by cases hc;exact aC.cons (aC.nil) (by kernel_rfl) alq)
noncomputable def RK (sh:Sh) (s:aM) (l:List aW):T (aM×List cH×Int):=
 .bd (kO sh s) λz0=>
  .bf (z0 !=0) (
   .ok (⟨⟨[0,0,0,0,0,0,0,0,0,0,0,0,0,0,0,0],[]⟩,[],⟨[],0⟩,⟨[],[]⟩⟩,[],z0))<|
  .bd (D9 sh s) λz1=>
   .gd (YI l z1.ar.aJ z1.ar.ab z1.aI z1.ay.ab z1.ay.aN z1.aq.aB z1.aq.ax [])<|
    .bd (Rh sh l z1.ar.aJ z1.ar.ab z1.aI z1.ay.ab z1.ay.aN z1.aq.aB z1.aq.ax []) λy2=>
     .ok (⟨⟨y2.2.2.1,y2.2.2.2.1⟩,y2.2.2.2.2.1,⟨y2.2.2.2.2.2.1,y2.2.2.2.2.2.2.1⟩,⟨y2.2.2.2.2.2.2.2.1,y2.2.2.2.2.2.2.2.2.1⟩⟩,y2.2.2.2.2.2.2.2.2.2,0)
noncomputable def Tb (sh:Sh) (s:aM) (l:List aW):Option (aM×List cH×Int):=sh.s _ (RK sh s l).val
theorem an8 {R:Type} (s:aM) (l:List aW) (k:Rs SS->Option R):b8 Qv 100 25 [KK.ah 36 s,KK.ah 46 l] [] (cg KK [36,51,40] k)=(RK shut s l).run (λr=>k (.ret (.bj [KK.ah 36 r.1,KK.ah 51 r.2.1,KK.ah 40 r.2.2]))):=by kernel_rfl
noncomputable def aes (sh:Sh):b6 SS:=cf KK 25 [36,46] (λ{R} xs k=>match xs with| .cons s (.cons l .nil)=>(Tb sh s l).bind (λr=>k (.ret (.bj [KK.ah 36 r.1,KK.ah 51 r.2.1,KK.ah 40 r.2.2]))))
noncomputable def wQ (sh:Sh):aK SS:= { (wM sh) with C:=aes sh::(wM sh).C }
theorem H0:aw (wQ shut) Tryz.prog:=aw.cm HV λxs k z _ hz=>ct aa_ (λ{R} xs k z h=>by
 match xs,h with
 | .cons s (.cons l .nil),h=>exact⟨100,(an8 s l k).trans (cv h)⟩) hz
noncomputable def EN (p0 p1:List cH) (p2:Int):AS SS:=⟨[(0,(vd 51 p0)),(1,(vd 51 p1)),(12,(vi (↑p0.length:Int))),(13,(vi p2))],[],0,none,false,[],[]⟩
noncomputable def YY (p0 p1:List cH):AS SS:=EN p0 p1 0
noncomputable def agf (p0 p1:List cH):AS SS:= { EN p0 p1 0 with env:=[(4,(vb false))] }
noncomputable def agh (p0 p1:List cH) (a0:Bool) (a1:Int):AS SS:= { EN p0 p1 a1 with env:=[(14,(vb a0)),(0,(vd 51 p0)),(1,(vd 51 p1)),(12,(vi (↑p0.length:Int))),(13,(vi a1))] }
noncomputable def Rz (sh:Sh) (p0 p1:List cH) (p2:Int) (z0:cH) (a:Unit):T (Unit ⊕ Unit ⊕ (Bool×Int)):=
 .bd (idx p1 p2) λz1=>
  .bf (!uy z0 z1) (
   .ok (.inr (.inl ())))<|
  .ok (.inl ())
noncomputable def QP (sh:Sh) (p0 p1:List cH) (p2:Int) (a:Unit):T (Unit ⊕ (Bool×Int)):=
 .ok (.inr ((decide (p2<(↑p0.length:Int))),p2))
noncomputable def Rm (sh:Sh) (p0 p1:List cH):Option (Unit ⊕ (Bool×Int)):=cP sh (Rz sh p0 p1) (QP sh p0 p1) p0 ()
noncomputable def acJ {R:Type} (k:AX->AS SS->Option R) (p0 p1:List cH) (x:Unit ⊕ (Bool×Int)):Option R:=(λx=>Sum.rec (λv=>k .ret (agf p0 p1)) (λv=>k (.exit 0) (agh p0 p1 v.1 v.2)) x) x
noncomputable def Wb:bM SS:=cd 5 (λst=>(bE 51 (bD st 0 0)).bind λp0=>(bE 51 (bD st 1 0)).bind λp1=>some (p0,p1)) (λp=>YY p.1 p.2) (λp=>Rm shut p.1 p.2) (λk p=>acJ k p.1 p.2)
theorem alV:aO KK Tryz.prog ⟨Tryz.f26,aE 26⟩ (b9 (bm Tryz.f26) 5) Wb:=
 aO.c_ (π:=List cH×List cH) (σ:=Unit) (aw.all H0 rfl) (aC.nil) rfl 60 (λp i a=>EN p.1 p.2 i) (λp=>p.1) (λp=>()) (St:=λp=>Rz shut p.1 p.2) (F:=λp=>QP shut p.1 p.2) (λp=>rfl)
  (λm p i a k=>by kernel_rfl) (by rintro p (x|x)<;>exact⟨_,_,λ_=>rfl⟩) (λp N C A O w a hr=>dQ hr (t:=51) (sl:=0) rfl λv h=>h)
noncomputable def Qx:aK SS:= { (wQ shut) with T:=bI ((wQ shut).T) 26 ⟨⟨Tryz.f26,aE 26⟩,[Wb]⟩ }
theorem aba:aS Qx Tryz.prog:=(aS.cj (aw.all H0 rfl) Tryz.func26 rfl bA λc hc=>by cases hc;exact aC.cons (aC.nil) (by kernel_rfl) alV)
noncomputable def RL (sh:Sh) (a b:List cH):T (Bool):=
 .bf ((↑a.length:Int) !=(↑b.length:Int)) (
  .ok false)<|
 .gd (YY a b)<|
  .bd (Rm sh a b) λx3=> .cs x3 (λ_=>
   .ok false) λy0=>
   .ok true
noncomputable def Tc (sh:Sh) (a b:List cH):Option (Bool):=sh.s _ (RL sh a b).val
theorem an9 {R:Type} (a b:List cH) (k:Rs SS->Option R):b8 Qx 100 26 [KK.ah 51 a,KK.ah 51 b] [] (cg KK [4] k)=(RL shut a b).run (λr=>k (.ret (.s (KK.ah 4 r)))):=by kernel_rfl
noncomputable def aet (sh:Sh):b6 SS:=cf KK 26 [51,51] (λ{R} xs k=>match xs with| .cons a (.cons b .nil)=>(Tc sh a b).bind (λr=>k (.ret (.s (KK.ah 4 r)))))
noncomputable def BG (sh:Sh):aK SS:= { (wQ sh) with C:=aet sh::(wQ sh).C }
theorem Q4:aw (BG shut) Tryz.prog:=aw.cm H0 λxs k z _ hz=>ct aba (λ{R} xs k z h=>by
 match xs,h with
 | .cons a (.cons b .nil),h=>exact⟨100,(an9 a b k).trans (cv h)⟩) hz
noncomputable def RP (sh:Sh):T (Bool):=
 .bd (D7 sh (ByteArray.mk #[47,97])) λz0=>
  .bd (D7 sh (ByteArray.mk #[120])) λz1=>
   .bd (S9 sh) λz2=>
    .bd (D7 sh (ByteArray.mk #[47,97,47,98])) λz3=>
     .bd (Tb sh z2 [aW.mk 7 (cW [0,0,0,0] [1,z0]),aW.mk 4 (cW [0,0,0,0] [1,z3]),aW.mk 8 (cW [0,0,0,0] [1,z0]),aW.mk 9 (cW [0,0,0,0] [7,z0]),aW.mk 1 (cW [0,0,0,0] [1]),aW.mk 10 (cW [0,0,0,0] [2,z1]),aW.mk 2 (cW [0,0,0,0] [2]),aW.mk 12 (cW [0,0,0,0] [9,z1]),aW.mk 11 (cW [0,0,0,0] [1,z1]),aW.mk 14 (cW [0,0,0,0] [1]),aW.mk 15 (cW [0,0,0,0] [])]) λy4=>
      .bf (decide (z0>0)) (
       .bf (decide (z1>0)) (
        .bf (y4.2.2==0) (
         .bd (Tc sh y4.2.1 [cH.mk 0 1,cH.mk 0 0,cH.mk 341 0,cH.mk 0 1,cH.mk 0 2,cH.mk 0 0,cH.mk 341 0,cH.mk 0 2,cH.mk 362 0,cH.mk 322 0,cH.mk 361 0]) λy5=>
          .bf (y5) (
           .bd (DP sh y4.1) λz6=>
            .bf (z6==[1,1,2,1,0]) (
             .bd (nO sh y4.1 (aW.mk 1 (cW [0,0,0,0] [1]))) λy7=>
              .bf (y7) (
               .bd (nO sh y4.1 (aW.mk 12 (cW [0,0,0,0] [1,z1]))) λy8=>
                .ok (!y8))<|
              .ok false)<|
            .ok false)<|
          .ok false)<|
        .ok false)<|
       .ok false)<|
      .ok false
noncomputable def yf (sh:Sh):Option (Bool):=sh.s _ (RP sh).val
theorem t_8 {R:Type} (k:Rs SS->Option R):b8 (BG shut) 100 8 [] [] (cg KK [4] k)=(RP shut).run (λr=>k (.ret (.s (KK.ah 4 r)))):=by kernel_rfl
noncomputable def aeP (sh:Sh):b6 SS:=cf KK 8 [] (λ{R} xs k=>match xs with| .nil=>(yf sh).bind (λr=>k (.ret (.s (KK.ah 4 r)))))
noncomputable def rZ (sh:Sh):aK SS:= { (BG sh) with C:=aeP sh::(BG sh).C }
theorem qm:aw (rZ shut) Tryz.prog:=aw.cm Q4 λxs k z _ hz=>ct (aw.all Q4 rfl) (λ{R} xs k z h=>by
 match xs,h with
 | .nil,h=>exact⟨100,(t_8 k).trans (cv h)⟩) hz

noncomputable def aik (p0:Int) (p1:ByteArray):AS SS:=⟨[(0,(vu p0)),(4,(vs (.v (.string p1))))],[],0,none,false,[],[]⟩
noncomputable def B8 (sh:Sh) (a:Int×ByteArray):T ((Int×ByteArray) ⊕ Unit ⊕ (Bool×Int×ByteArray)):=
 .bf (decide (a.1>0)) (
  .bf (a.1.tmod 256==0) (
   .ok (.inr (.inl ())))<|
  .bd (qc a.2 (strOf [IntKind.u8.wrap (a.1.tmod 256)])) λz0=>
   .ok (.inl ((IntKind.u64.wrap (a.1.tdiv 256)),z0)))<|
 .ok (.inr (.inr ((decide (a.1>0)),a.1,a.2)))
noncomputable def Ri (sh:Sh) (p0:Int) (p1:ByteArray):Option (Unit ⊕ (Bool×Int×ByteArray)):=da sh (B8 sh) 1000000 (p0,p1)
noncomputable def Jk (sh:Sh) (w:Int):T (ByteArray×Bool):=
 .gd (aik w (ByteArray.mk #[]))<|
  .bd (Ri sh w (ByteArray.mk #[])) λx3=> .cs x3 (λ_=>
   .ok ((ByteArray.mk #[]),false)) λy0=>
   .ok (y0.2.2,true)
noncomputable def S4 (sh:Sh) (w:Int):Option (ByteArray×Bool):=sh.s _ (Jk sh w).val
noncomputable def ain (p0:ByteArray) (p1 p2:Int):AS SS:=⟨[(0,(vs (.v (.string p0)))),(5,(vi p1)),(6,(vi p2))],[],0,none,false,[],[]⟩
noncomputable def xm (sh:Sh) (p0:ByteArray) (p1 a:Int):T (Int ⊕ Unit ⊕ (Bool×Int)):=
 .bf (decide (a<p1)) (
  .bd (lY p0 a) λz0=>
   .bf (decide (z0>=97)) (
    .bd (lY p0 a) λz1=>
     .bf (decide (z1<=122)) (
      .ok (.inl (IntKind.i64.wrap (a+1))))<|
     .bd (lY p0 a) λz2=>
      .bf (decide (z2>=48)) (
       .bd (lY p0 a) λz3=>
        .bf (!decide (z3<=57)) (
         .ok (.inr (.inl ())))<|
        .ok (.inl (IntKind.i64.wrap (a+1))))<|
      .ok (.inr (.inl ())))<|
   .bd (lY p0 a) λz1=>
    .bf (decide (z1>=48)) (
     .bd (lY p0 a) λz2=>
      .bf (!decide (z2<=57)) (
       .ok (.inr (.inl ())))<|
      .ok (.inl (IntKind.i64.wrap (a+1))))<|
    .ok (.inr (.inl ())))<|
 .ok (.inr (.inr ((decide (a<p1)),a)))
noncomputable def Rl (sh:Sh) (p0:ByteArray) (p1 p2:Int):Option (Unit ⊕ (Bool×Int)):=da sh (xm sh p0 p1) 1000000 p2
noncomputable def Jn (sh:Sh) (s:ByteArray):T (Bool):=
 .gd (ain s ((↑s.size:Int)) 0)<|
  .bd (Rl sh s ((↑s.size:Int)) 0) λx3=> .cs x3 (λ_=>
   .ok false) λy0=>
   .ok (decide ((↑s.size:Int)>0))
noncomputable def Ta (sh:Sh) (s:ByteArray):Option (Bool):=sh.s _ (Jn sh s).val
noncomputable def aim (p0:ByteArray) (p1 p2:Int) (p3:List ByteArray):AS SS:=⟨[(0,(vs (.v (.string p0)))),(3,(vo 0)),(6,(vi p1)),(7,(vi p2))],[(rX 9 p3)],0,none,false,[],[]⟩
noncomputable def xl (sh:Sh) (p0:ByteArray) (p1:Int) (a:Int×List ByteArray):T ((Int×List ByteArray) ⊕ (Bool×Int×List ByteArray)):=
 .bf (decide (a.1<p1)) (
  .bd (lY p0 a.1) λz0=>
   .bf (z0==47) (
    .bd (app 16 a.2 [ByteArray.mk #[]]) λz1=>
     .ok (.inl ((IntKind.i64.wrap (a.1+1)),z1)))<|
   .bf (decide ((↑a.2.length:Int)>0)) (
    .bd (idx a.2 (IntKind.i64.wrap ((↑a.2.length:Int)-1))) λz1=>
     .bd (a.2[(IntKind.i64.wrap ((↑a.2.length:Int)-1)).toNat]?) λz2=>
      .bd (gr p0 (some a.1) (some (IntKind.i64.wrap (a.1+1)))) λz3=>
       .bd (qc z2 z3) λz4=>
        .bd (idx a.2 (IntKind.i64.wrap ((↑a.2.length:Int)-1))) λz5=>
         .bd (a.2[(IntKind.i64.wrap ((↑a.2.length:Int)-1)).toNat]?) λz6=>
          .ok (.inl ((IntKind.i64.wrap (a.1+1)),(a.2.set (IntKind.i64.wrap ((↑a.2.length:Int)-1)).toNat z4))))<|
   .ok (.inl ((IntKind.i64.wrap (a.1+1)),a.2)))<|
 .ok (.inr ((decide (a.1<p1)),a.1,a.2))
noncomputable def Rk (sh:Sh) (p0:ByteArray) (p1 p2:Int) (p3:List ByteArray):Option ((Bool×Int×List ByteArray)):=da sh (xl sh p0 p1) 1000000 (p2,p3)
noncomputable def Jm (sh:Sh) (s:ByteArray):T (List ByteArray):=
 .gd (aim s ((↑s.size:Int)) 0 [])<|
  .bd (Rk sh s ((↑s.size:Int)) 0 []) λy0=>
   .ok y0.2.2
noncomputable def S_ (sh:Sh) (s:ByteArray):Option (List ByteArray):=sh.s _ (Jm sh s).val
noncomputable def ail (p0:ByteArray) (p1:List ByteArray) (p2:Int):AS SS:=⟨[(0,(vs (.v (.string p0)))),(3,(vd 185 p1)),(10,(vd 185 p1)),(11,(vi (↑p1.length:Int))),(12,(vi p2))],[],0,none,false,[],[]⟩
noncomputable def am2 (p0:ByteArray) (p1:List ByteArray):AS SS:=ail p0 p1 0
noncomputable def Jf (sh:Sh) (p0:ByteArray) (p1:List ByteArray) (p2:Int) (z0:ByteArray) (a:Unit):T (Unit ⊕ Unit ⊕ (Bool×Int)):=
 .bd (Ta sh z0) λy1=>
  .bf (!y1) (
   .ok (.inr (.inl ())))<|
  .ok (.inl ())
noncomputable def G9 (sh:Sh) (p0:ByteArray) (p1:List ByteArray) (p2:Int) (a:Unit):T (Unit ⊕ (Bool×Int)):=
 .ok (.inr ((decide (p2<(↑p1.length:Int))),p2))
noncomputable def Rj (sh:Sh) (p0:ByteArray) (p1:List ByteArray):Option (Unit ⊕ (Bool×Int)):=cP sh (Jf sh p0 p1) (G9 sh p0 p1) p1 ()
noncomputable def Jl (sh:Sh) (s:ByteArray):T (Bool):=
 .bf (s.toList==(ByteArray.mk #[47]).toList) (
  .ok true)<|
 .bd (S_ sh s) λy0=>
  .gd (am2 s y0)<|
   .bd (Rj sh s y0) λx4=> .cs x4 (λ_=>
    .ok false) λy1=>
    .bf (decide ((↑s.size:Int)>0)) (
     .bf (decide ((↑s.size:Int)<=8)) (
      .bd (lY s 0) λz2=>
       .bf (z2==47) (
        .bf (decide ((↑y0.length:Int)>=1)) (
         .ok (decide ((↑y0.length:Int)<=4)))<|
        .ok false)<|
       .ok false)<|
     .ok false)<|
    .ok false
noncomputable def S8 (sh:Sh) (s:ByteArray):Option (Bool):=sh.s _ (Jl sh s).val
noncomputable def Jo (sh:Sh) (w:Int):T (Bool):=
 .bd (S4 sh w) λy0=>
  .bf (y0.2) (
   .bd (S8 sh y0.1) λy1=>
    .ok y1)<|
  .ok false
noncomputable def Ti (sh:Sh) (w:Int):Option (Bool):=sh.s _ (Jo sh w).val
end Go.Proofs.YtdhaaaeffhaadaaGreatDoor
end
section
namespace Go.Proofs.YtdhaaaeffhaadaaGreatDoor
open Go.RowKit Go.Dc Go.Vx
set_option maxRecDepth 100000
theorem ez {x:Int} (h0: -9223372036854775808<=x) (U:x<9223372036854775808):IntKind.i64.wrap x=x:=by
 simp[IntKind.wrap,IntKind.signed,IntKind.bits]
 omega
theorem rQ {x:Int} (h0:0<=x) (U:x<18446744073709551616):IntKind.u64.wrap x=x:=by
 simp[IntKind.wrap,IntKind.signed,IntKind.bits]
 omega
def ix (pid:Int):Int:=IntKind.i64.wrap (pid.tmod 64)
theorem zF {pid:Int} (h:0<=pid):ix pid=pid%64:=by
 unfold ix
 rw[Int.tmod_eq_emod_of_nonneg h]
 exact ez (by omega) (by omega)
@[simp] theorem v93 (pid:Int):sk aj pid=some (ix pid):=rfl
def jm (l:List ae) (pid:Int):Option ae:=l.find? λz=>z.aa==pid
def cG (l:List ae) (pid:Int):Bool:=match jm l pid with|some z=>!z.bC|none=>false
def mB (p:br) (x:ae):Bool:=decide (1<=ix x.aa)&&(decide (ix x.aa<=16)&&((x.aa/64+1==au p.aJ (ix x.aa-1).toNat)&&(!(x.ba==x.aa)&&((x.ba==0||cG p.ab x.ba)&&bif x.bC then x.ba !=0 else x.cJ==0))))
def qI (g:List Int):Bool:=(List.range 16).all λi=>decide (0<=au g i)&&decide (au g i<=65536)
def lW (l:List ae) (i:Nat) (x:ae):Bool:=i==0||(match l[i-1]? with|some y=>decide (ix y.aa<ix x.aa)|none=>false)
def ow (p:br):Bool:=qI p.aJ&&(allI (λi x=>mB p x&&lW p.ab i x) 0 p.ab&&(match p.ab with|z::_=>jU z ⟨1,0,false,0⟩|[]=>false))
structure Hy (p:br):Prop where
 pid: ∀x∈p.ab,0<=x.aa/\x.aa<18446744073709551616
 len:p.ab.length<=maxLen
theorem ajI {pid:Int} (h:0<=pid):0<=ix pid/\ix pid<64:=by rw[zF h];omega
theorem rf {j:Int} {n:Nat} (h0:0<=j) (U:j<n):cF j n=some j.toNat:=by
 unfold cF
 rw[if_pos ⟨h0,U⟩]
theorem Vs {α:Type} {l:List α} {i:Nat} (h:i<l.length) (hm:l.length<=maxLen) (h0:0<i):idx l (IntKind.i64.wrap ((i:Int)-1))=l[i-1]? :=by
 unfold maxLen at hm
 rw[ez (by omega) (by omega)]
 unfold idx
 rw[if_pos (by omega)]
 congr 1
 omega
theorem ahJ {S:Int->T (Int ⊕ Int ⊕ (Bool×Int))} {g:List Int} (hS: ∀a:Int,(S a).val=bif decide (a<16) then(cF a 16).bind λz0=>bif decide (au g z0<0) then some (.inr (.inl a)) else bif decide (au g z0>65536) then some (.inr (.inl a)) else some (.inl (IntKind.i64.wrap (a+1))) else some (.inr (.inr (decide (a<16),a)))):
  ∃n:Nat,dH (λa=>(S a).val) 1000000 (0:Int)=some (bif qI g then .inr (false,16) else .inl (n:Int)):=by
 have h:=GN (step:=λa=>(S a).val) (q:=λa=>decide (0<=au g a)&&decide (au g a<=65536)) (x:=λa=> .inl (a:Int)) (y:= .inr (false,16)) (N:=16) (λa ha=>by
  rw[hS,decide_eq_true (by omega:(a:Int)<16),cond_true,rf (by omega) (by omega),Option.bind_some,Int.toNat_natCast]
  by_cases U:au g a<0
  ·simp[U,show ¬(0<=au g a) by omega]
  by_cases h2:au g a>65536
  ·simp[U,h2,show ¬(au g a<=65536) by omega]
  ·rw[ez (by omega) (by omega)]
   simp[U,h2,show(0<=au g a) by omega,show(au g a<=65536) by omega]) (by rw[hS];rfl) (k:=16) (n:=1000000) (a:=0) rfl (by omega)
 rw[show((0:Nat):Int)=0 from rfl] at h
 unfold qI
 rw[List.range_eq_range']
 cases hf:List.find? (λb=>!(decide (0<=au g b)&&decide (au g b<=65536))) (List.range' 0 16) with
 |none=>
  have:((List.range' 0 16).all λi=>decide (0<=au g i)&&decide (au g i<=65536))=true:=by
   rw[List.all_eq_true]
   intro i hi
   have:=List.find?_eq_none.1 hf i hi
   simpa using this
  rw[this]
  rw[hf] at h
  exact⟨0,h⟩
 |some b=>
  have:((List.range' 0 16).all λi=>decide (0<=au g i)&&decide (au g i<=65536))=false:=by
   rw[Bool.eq_false_iff]
   intro ht
   rw[List.all_eq_true] at ht
   have U:=ht b (List.mem_of_find?_eq_some hf)
   have h2:=List.find?_some hf
   rw[U] at h2
   cases h2
  rw[this]
  rw[hf] at h
  exact⟨b,h⟩
theorem ahC (g:List Int) (l:List ae) (pid:Int):nB aj g l pid=some (match jm l pid with|some z=> .inl z|none=> .inr (false,(l.length:Int))):=by
 show cS (λi z a=>(B_ aj g l pid i z a).val) (λi a=>(A_ aj g l pid i a).val) 0 l ()=_
 unfold jm
 rw[Am (p:=λz=>z.aa==pid) (e:=λz=> .inl z)]
 ·cases List.find? (λz=>z.aa==pid) l with
  |none=>unfold A_;simp
  |some z=>rfl
 ·intro i z _
  unfold B_
  cases z.aa==pid<;>rfl
theorem v46 {p:br} (hp:Hy p):qF aj p=some (bif ow p then 0 else 320):=by
 show(C2 aj p).val=_
 unfold C2 ow
 simp only[T.cM,T.bB,T.eP,T.bn,T.bo]
 cases mo:p.ab with
 |nil=>
  have:(match([]:List ae) with|z::_=>jU z ⟨1,0,false,0⟩|[]=>false)=false:=rfl
  simp
 |cons z0 r=>
  rw[<-mo]
  have h0:((p.ab.length:Int)==0)=false:=by rw[mo];simp;omega
  have U:idx p.ab 0=some z0:=by rw[mo];rfl
  rw[h0,U]
  simp only[cond_false,Option.bind_some]
  cases he:jU z0 ⟨1,0,false,0⟩ with
  |false=>simp[mo,he]
  |true=>
   have hm:(match p.ab with|z::_=>jU z ⟨1,0,false,0⟩|[]=>false)=true:=by rw[mo];exact he
   rw[hm,Bool.and_true]
   simp only[Bool.not_true,cond_false]
   obtain⟨n,hg⟩:=ahJ (S:=Jg aj p.aJ p.ab) (g:=p.aJ) λa=>rfl
   have hg:Il aj p.aJ p.ab 0=some (bif qI p.aJ then .inr (false,16) else .inl (n:Int)):=hg
   rw[hg]
   cases LN:qI p.aJ with
   |false=>
    have:decide ((n:Int)>=0)=true:=decide_eq_true (by omega)
    simp[this]
   |true=>
    simp only[cond_true,Option.bind_some,Bool.true_and]
    have hl:BV aj p.aJ p.ab=bif allI (λi x=>mB p x&&lW p.ab i x) 0 p.ab then some (.inr (false,(p.ab.length:Int))) else some (.inl ()):=by
     show cS (λi z a=>(B9 aj p.aJ p.ab i z a).val) (λi a=>(A9 aj p.aJ p.ab i a).val) 0 p.ab ()=_
     rw[tv (q:=λi x=>mB p x&&lW p.ab i x) (x:= .inl ())]
     ·congr 1
      unfold A9
      simp
     ·intro i z hz
      have aH:=(List.getElem?_eq_some_iff.1 hz).1
      have hx:=hp.pid z (List.mem_of_getElem? hz)
      have hr:=ajI hx.1
      unfold B9 mB lW cG
      simp only[T.bB,T.bn,T.bo,T.cM,T.eP,v93,Option.bind_some,ahC]
      by_cases U:1<=ix z.aa
      rotate_left
      ·simp[show ¬(ix z.aa>=1) from U,U]
      by_cases h2:ix z.aa<=16
      rotate_left
      ·simp[show(ix z.aa>=1) from U,U,h2]
      have hw:IntKind.i64.wrap (ix z.aa-1)=ix z.aa-1:=ez (by omega) (by omega)
      have hi:cF (ix z.aa-1) 16=some (ix z.aa-1).toNat:=rf (by omega) (by omega)
      have pB:0<=au p.aJ (ix z.aa-1).toNat/\au p.aJ (ix z.aa-1).toNat<=65536:=by
       unfold qI at LN
       rw[List.all_eq_true] at LN
       have:=LN (ix z.aa-1).toNat (by simp;omega)
       simpa using this
      have hd:IntKind.u64.wrap (z.aa.tdiv 64)=z.aa/64:=by
       rw[Int.tdiv_eq_ediv_of_nonneg hx.1]
       exact rQ (by omega) (by omega)
      have hc:(IntKind.u64.wrap (IntKind.u64.wrap (z.aa.tdiv 64)+1) !=IntKind.u64.wrap (au p.aJ (ix z.aa-1).toNat))=!(z.aa/64+1==au p.aJ (ix z.aa-1).toNat):=by
       rw[hd,rQ (by omega) (by omega),rQ (by omega) (by omega)]
       rfl
      rw[hw,hi]
      simp only[Option.bind_some]
      rw[hc]
      have aU:(z.ba !=0)=!(z.ba==0):=rfl
      have fl:(z.cJ !=0)=!(z.cJ==0):=rfl
      have U':(z.ba==0)=true->(z.ba==z.aa)=false:=λh=>by
       rw[zF hx.1] at U
       simp at h ⊢
       omega
      simp only[show(ix z.aa>=1) from U,U,h2,decide_true,cond_true,Bool.true_and,aU,fl]
      cases i with
      |zero=>
       rw[show(((0:Nat):Int)==0)=true from rfl,show((0:Nat)==0)=true from rfl]
       simp only[cond_true,Bool.true_or,Bool.and_true]
       cases hq:z.ba==0 with
       |true=>rw[U' hq];cases z.aa/64+1==au p.aJ (ix z.aa-1).toNat<;>cases z.bC<;>cases z.cJ==0<;>simp
       |false=>
        cases z.aa/64+1==au p.aJ (ix z.aa-1).toNat<;>cases z.ba==z.aa<;>cases z.bC<;>cases z.cJ==0<;>(cases jm p.ab z.ba with|none=>simp|some y=>cases y.bC<;>simp)
      |succ i=>
       have e0:((((i+1:Nat):Int))==0)=false:=by simp;omega
       rw[e0,show(i+1==0)=false from rfl,Vs aH hp.len (by omega)]
       have hi:i<p.ab.length:=by omega
       simp only[Nat.add_sub_cancel,List.getElem?_eq_getElem hi,Option.bind_some,v93,cond_false,Bool.false_or]
       cases hq:z.ba==0 with
       |true=>rw[U' hq];cases decide (ix p.ab[i].aa<ix z.aa)<;>cases z.aa/64+1==au p.aJ (ix z.aa-1).toNat<;>cases z.bC<;>cases z.cJ==0<;>simp
       |false=>
        cases decide (ix p.ab[i].aa<ix z.aa)<;>cases z.aa/64+1==au p.aJ (ix z.aa-1).toNat<;>cases z.ba==z.aa<;>cases z.bC<;>cases z.cJ==0<;>(cases jm p.ab z.ba with|none=>simp|some y=>cases y.bC<;>simp)
    rw[hl]
    cases allI (λi x=>mB p x&&lW p.ab i x) 0 p.ab<;>rfl
def mw (d:ai):Bool:=decide (d.aa<4294967296)&&(decide (d.bL>=0)&&decide (d.bL<=7))
def e_ (a b:ai):Bool:=decide (a.aa<b.aa)||(a.aa==b.aa&&decide (a.bL<b.bL))
def jI {α:Type} (q:α->α->Bool) (l:List α) (i:Nat) (z:α):Bool:=i==0||(match l[i-1]? with|some y=>q y z|none=>false)
def FU (l:List ai) (i:Nat) (x:ai):Bool:=jI e_ l i x
theorem fv {σ X:Type} {step:σ->Option (σ ⊕ X)} {n:Nat} {a:σ}:dH step (n+1) a=(step a).bind λy=>match y with| .inl a'=>dH step n a'| .inr x=>some x:=rfl
def tq (l:List ai):Bool:=allI (λi x=>mw x&&FU l i x) 0 l&&decide (l.length<=64)
@[simp] theorem v94 (d:ai):Kq aj d=some (mw d):=by
 show(Dh aj d).val=_
 unfold Dh mw
 have:decide (d.bL<8)=decide (d.bL<=7):=by rw[Bool.eq_iff_iff];simp;omega
 simp only[T.bn,T.bo,this]
 cases decide (d.aa<4294967296)<;>cases decide (d.bL>=0)<;>rfl
def lr (x y:Int):Int:=if x<y then -1 else if x>y then 1 else 0
@[simp] theorem mL (x y:Int):mW aj x y=some (lr x y):=by
 show(Cz aj x y).val=_
 unfold Cz lr
 simp only[T.bn,T.bo]
 by_cases U:x<y
 ·simp[U]
 ·by_cases h2:x>y
  ·simp[U,h2]
  ·simp[U,h2]
@[simp] theorem v130 (x y:Int):Kh aj x y=some (lr x y):=mL x y
def xP (a b:ai):Int:=if lr a.aa b.aa=0 then lr a.bL b.bL else lr a.aa b.aa
@[simp] theorem Pp (a b:ai):yh aj a b=some (xP a b):=by
 show(Di aj a b).val=_
 unfold Di xP
 simp only[T.bB,mL,v130,Option.bind_some,T.cM,T.eP,T.bo]
 generalize lr a.aa b.aa=c1
 generalize lr a.bL b.bL=c2
 have h:Ir aj [c1,c2] 0=some (if c1=0 then(if c2=0 then .inr (false,2) else .inl c2) else .inl c1):=by
  show dH (λa=>(qp aj [c1,c2] a).val) 1000000 0=_
  have e0:(qp aj [c1,c2] 0).val=if c1=0 then some (.inl 1) else some (.inr (.inl c1)):=by
   unfold qp
   simp only[T.bn,T.bB,T.bo]
   by_cases h:c1=0
   ·simp[idx,h];rfl
   ·have:(c1 !=0)=true:=by simp[h]
    simp[idx,h,this]
  have e1:(qp aj [c1,c2] 1).val=if c2=0 then some (.inl 2) else some (.inr (.inl c2)):=by
   unfold qp
   simp only[T.bn,T.bB,T.bo]
   by_cases h:c2=0
   ·simp[idx,h];rfl
   ·have:(c2 !=0)=true:=by simp[h]
    simp[idx,h,this]
  have e2:(qp aj [c1,c2] 2).val=some (.inr (.inr (false,2))):=rfl
  rw[show(1000000:Nat)=999997+1+1+1 from rfl,fv,e0]
  by_cases h:c1=0
  ·rw[if_pos h,if_pos h,Option.bind_some]
   simp only
   rw[fv,e1]
   by_cases h2:c2=0
   ·rw[if_pos h2,if_pos h2,Option.bind_some]
    simp only
    rw[fv,e2,Option.bind_some]
   ·rw[if_neg h2,if_neg h2,Option.bind_some]
  ·rw[if_neg h,if_neg h,Option.bind_some]
 rw[h]
 by_cases U:c1=0
 ·by_cases h2:c2=0<;>simp[U,h2]
 ·simp[U]
theorem Sp (a b:ai):decide (xP a b>=0)=!e_ a b:=by
 unfold xP e_ lr
 rw[Bool.eq_iff_iff]
 by_cases U:a.aa<b.aa
 ·simp[U]
 ·by_cases h2:a.aa>b.aa
  ·have: ¬a.aa=b.aa:=by omega
   simp[U,h2,this]
  ·have h3:a.aa=b.aa:=by omega
   by_cases h4:a.bL<b.bL
   ·simp[h3,h4]
   ·by_cases h5:b.bL<a.bL<;>simp[h3,h4,h5]<;>omega
theorem NY {α X:Type} {S:T (Unit ⊕ Unit ⊕ X)} {l:List α} {i:Nat} {z:α} {g:α->Bool} {q:α->α->Bool} (hm:l.length<=maxLen) (hz:l[i]? =some z)
  (hS:S.val=bif !g z then some (.inr (.inl ())) else bif decide ((i:Int)>0) then(idx l (IntKind.i64.wrap ((i:Int)-1))).bind λy=>bif !q y z then some (.inr (.inl ())) else some (.inl ()) else some (.inl ())):
  S.val=bif g z&&jI q l i z then some (.inl ()) else some (.inr (.inl ())):=by
 have aH:=(List.getElem?_eq_some_iff.1 hz).1
 rw[hS]
 unfold jI
 cases g z with
 |false=>rfl
 |true=>
  cases i with
  |zero=>rfl
  |succ i=>
   have U:decide (((i+1:Nat):Int)>0)=true:=decide_eq_true (by omega)
   have hi:i<l.length:=by omega
   rw[U,Vs aH hm (by omega)]
   simp only[Bool.not_true,cond_false,cond_true,Bool.true_and,show(i+1==0)=false from rfl,Bool.false_or,Nat.add_sub_cancel,List.getElem?_eq_getElem hi,Option.bind_some]
   cases q l[i] z<;>rfl
theorem ZX {l:List ai} (hm:l.length<=maxLen):nQ aj l=some (bif tq l then 0 else 330):=by
 show(C3 aj l).val=_
 unfold C3 tq
 simp only[T.cM,T.bB,T.eP,T.bo,T.bn]
 have hl:IQ aj l=bif allI (λi x=>mw x&&FU l i x) 0 l then some (.inr (false,(l.length:Int))) else some (.inl ()):=by
  show cS (λi z a=>(xw aj l i z a).val) (λi a=>(Bj aj l i a).val) 0 l ()=_
  rw[tv (q:=λi x=>mw x&&FU l i x) (x:= .inl ())]
  ·congr 1
   unfold Bj
   simp
  ·intro i z hz
   exact NY (S:=xw aj l i z ()) (g:=mw) (q:=e_) hm hz (by unfold xw;simp only[T.bB,T.bn,T.bo,v94,Pp,Sp,Option.bind_some])
 rw[hl]
 by_cases h:l.length<=64
 ·have U:decide ((l.length:Int)>64)=false:=decide_eq_false (by omega)
  rw[U,decide_eq_true h]
  cases allI (λi x=>mw x&&FU l i x) 0 l<;>rfl
 ·have U:decide ((l.length:Int)>64)=true:=decide_eq_true (by omega)
  rw[U,decide_eq_false h]
  simp
def fL (s:ByteArray) (j:Nat):Nat:=((s.data.toList[j]?).map UInt8.toNat).getD 0
def iu (c:Nat->Nat):Nat->Nat
 |0=>0
 |i+1=>iu c i+256^i*c i
def nJ (s:ByteArray):Int×Int:=if 8<s.size then(0,111) else if(List.range s.size).any (λj=>fL s j==0) then(0,2) else((iu (fL s) 8:Nat),0)
theorem adC (s:ByteArray) (j:Nat):fL s j<256:=by
 unfold fL
 cases s.data.toList[j]? with
 |none=>simp
 |some b=>simpa using b.toNat_lt
theorem NV {c:Nat->Nat} (hc: ∀j,c j<256): ∀i,iu c i<256^i
 |0=>by simp[iu]
 |i+1=>by
  have U:=NV hc i
  have h2:256^i*c i<=256^i*255:=Nat.mul_le_mul_left _ (by have:=hc i;omega)
  simp only[iu,Nat.pow_succ]
  generalize (256:Nat)^i=q at*
  generalize q*c i=r at*
  omega
theorem anc (c i:Nat) (hc:c<256) (hi:i<8):tD .u64 (c:Int) ((8*i:Nat):Int)=some ((256^i*c:Nat):Int):=by
 unfold tD
 rw[if_neg (by omega)]
 have Ej:IntKind.u64.bits=64:=rfl
 have hm:min ((8*i:Nat):Int).toNat IntKind.u64.bits=8*i:=by rw[Ej,Int.toNat_natCast];omega
 have hp:(2:Nat)^(8*i)=256^i:=by rw[Nat.pow_mul]
 have hle:256^i<=256^7:=Nat.pow_le_pow_right (by omega) (by omega)
 have e7:(256:Nat)^7=72057594037927936:=by decide
 have e:(c:Int)*2^(8*i)=((256^i*c:Nat):Int):=by rw[<-hp,Int.natCast_mul,Int.natCast_pow,Int.mul_comm];rfl
 rw[hm,IntKind.wrap_u64,e]
 have aH:256^i*c<18446744073709551616:=by
  have U:256^i*c<=256^7*c:=Nat.mul_le_mul_right _ hle
  rw[e7] at U
  omega
 generalize 256^i*c=q at*
 rw[Option.some.injEq]
 omega
theorem ak3 {c:Nat->Nat} (hc: ∀j,c j<256) (i:Nat) (hi:i<8):bits .or .u64 (iu c i:Int) ((256^i*c i:Nat):Int)=(iu c (i+1):Int):=by
 have U:=NV hc i
 have h2:=NV hc (i+1)
 have hle:256^(i+1)<=256^8:=Nat.pow_le_pow_right (by omega) (by omega)
 have e8:(256:Nat)^8=18446744073709551616:=by decide
 rw[e8] at hle
 have h3:iu c (i+1)=iu c i+256^i*c i:=rfl
 rw[bits_or_u64_nat _ _ (by omega) (by omega),Nat.or_comm,h3]
 have hp:(2:Nat)^(8*i)=256^i:=by rw[Nat.pow_mul]
 have:=Nat.two_pow_add_eq_or_of_lt (i:=8*i) (b:=iu c i) (by rw[hp];exact U) (c i)
 rw[hp] at this
 rw[<-this,Nat.add_comm]
theorem Dq {α:Type} {b:Nat} {xs ys:List α} (h:(xs.length+ys.length)*b<=140737488355328):app b xs ys=some (xs++ys):=by
 unfold app
 rw[if_pos h]
def dg:Nat->Nat->List Nat
 |0,_=>[]
 |k+1,n=>if n%256=0 then[] else n%256::dg k (n/256)
def gP:Nat->Nat->Nat
 |0,n=>n
 |k+1,n=>if n%256=0 then n else gP k (n/256)
def bs (l:List Nat):ByteArray:=⟨(l.map UInt8.ofNat).toArray⟩
theorem um: ∀(k n:Nat),(dg k n).length<=k
 |0,_=>by simp[dg]
 |k+1,n=>by
  simp only[dg]
  split
  ·simp
  ·have:=um k (n/256)
   simp
   omega
theorem DH: ∀(k n:Nat),∀x∈dg k n,0<x/\x<256
 |0,_,x,h=>by simp[dg] at h
 |k+1,n,x,h=>by
  simp only[dg] at h
  split at h
  ·cases h
  ·rcases List.mem_cons.1 h with e|h
   ·omega
   ·exact DH k _ x h
theorem fH (l:List Nat):(bs l).size=l.length:=by simp[bs,ByteArray.size]
theorem adA (l m:List Nat):bs l++bs m=bs (l++m):=by
 apply ByteArray.ext
 simp[bs,ByteArray.data_append]
theorem foldl_push: ∀(xs:List Int) (r:ByteArray),(xs.foldl (λr n=>r.push (UInt8.ofNat n.toNat)) r).data.toList=r.data.toList++xs.map (λn=>UInt8.ofNat n.toNat)
 |[],r=>by simp
 |x::xs,r=>by
  rw[List.foldl_cons,foldl_push xs]
  simp[ByteArray.data_push]
theorem Zz (l:List Nat):strOf (l.map λ(n:Nat)=>(n:Int))=bs l:=by
 apply ByteArray.ext
 apply Array.ext'
 unfold strOf
 rw[foldl_push]
 show[]++_=_
 simp[bs]
theorem Gv {l m:List Nat} (h:l.length+m.length<=1000):qc (bs l) (bs m)=some (bs (l++m)):=by
 unfold qc
 rw[fH,fH,if_pos (by omega),adA]
theorem aoy (n:Nat):((n:Int).tmod 256)=((n%256:Nat):Int):=by
 rw[Int.tmod_eq_emod_of_nonneg (by omega)];omega
theorem aow (n:Nat):((n:Int).tdiv 256)=((n/256:Nat):Int):=by
 rw[Int.tdiv_eq_ediv_of_nonneg (by omega)];omega
theorem adl {n:Nat} (h:n<18446744073709551616):bits .and .u64 (n:Int) 255=((n%256:Nat):Int):=by
 have e:bits .and .u64 (n:Int) ((255:Nat):Int)=((n&&&255:Nat):Int):=bits_and_u64_nat n 255 h (by omega)
 have e2:n&&&255=n%256:=by
  have:=Nat.and_two_pow_sub_one_eq_mod n 8
  simpa using this
 rw[e2] at e
 exact e
def pk:List Nat->Nat
 |[]=>0
 |x::r=>x+256*pk r
theorem NW (c:Nat->Nat): ∀k,iu c (k+1)=c 0+256*iu (λi=>c (i+1)) k
 |0=>by simp[iu]
 |k+1=>by
  rw[iu,NW c k]
  simp only[iu,Nat.pow_succ,Nat.mul_add]
  rw[Nat.mul_comm (256^k) 256]
  simp only[Nat.mul_assoc,Nat.add_assoc]
theorem NU: ∀(k:Nat) (l:List Nat),l.length<=k->iu (λi=>(l[i]?).getD 0) k=pk l
 |0,l,h=>by
  have:l=[]:=List.eq_nil_of_length_eq_zero (by omega)
  subst this;rfl
 |k+1,[],h=>by
  rw[NW]
  have:=NU k [] (by simp)
  simp only[List.getElem?_nil,Option.getD_none] at this ⊢
  rw[this];rfl
 |k+1,x::r,h=>by
  rw[NW]
  have:=NU k r (by simpa using h)
  simp only[List.getElem?_cons_succ,List.getElem?_cons_zero,Option.getD_some] at this ⊢
  rw[this];rfl
theorem N4: ∀(k n:Nat),pk (dg k n)+256^(dg k n).length*gP k n=n
 |0,n=>by simp[dg,gP,pk]
 |k+1,n=>by
  simp only[dg,gP]
  split
  ·simp[pk]
  ·have:=N4 k (n/256)
   simp only[pk,List.length_cons,Nat.pow_succ]
   rw[Nat.mul_comm (256^_) 256,Nat.mul_assoc]
   omega
theorem Sd {l:List Nat} (h: ∀x∈l,x<256) (j:Nat):fL (bs l) j=(l[j]?).getD 0:=by
 unfold fL bs
 simp only[List.getElem?_map]
 cases hj:l[j]? with
 |none=>simp
 |some x=>
  have:=h x (List.mem_of_getElem? hj)
  simp
  omega
theorem JA {l:List Nat} (h: ∀x∈l,0<x/\x<256) (hl:l.length<=8):nJ (bs l)=(((pk l:Nat):Int),0):=by
 unfold nJ
 rw[fH,if_neg (by omega)]
 have e:(List.range l.length).any (λj=>fL (bs l) j==0)=false:=by
  rw[List.any_eq_false]
  intro j hj
  have hj:j<l.length:=by simpa using hj
  rw[Sd (λx hx=>(h x hx).2),List.getElem?_eq_getElem hj]
  have:=(h _ (List.getElem_mem hj)).1
  simp
  omega
 rw[e,if_neg (by simp)]
 rw[show fL (bs l)=λi=>(l[i]?).getD 0 from funext λj=>Sd (λx hx=>(h x hx).2) j,NU 8 l hl]
theorem TG {l:List Nat} (h: ∀x∈l,x<256) {i x:Nat} (hx:l[i]? =some x):((bs l).get! i).toNat=x:=by
 have hl:=(List.getElem?_eq_some_iff.1 hx).1
 have aH:=h x (List.mem_of_getElem? hx)
 have e:(bs l).get! i=UInt8.ofNat x:=by
  unfold ByteArray.get! bs
  have:((l.map UInt8.ofNat).toArray)[i]? =some (UInt8.ofNat x):=by simp[hx]
  simp[getElem!_def,this]
 rw[e]
 simp
 omega
theorem JZ {s:ByteArray} {i:Nat} (h:(s.get! i).toNat<128):Go.Utf8.decode s i=((s.get! i).toNat,1):=by
 unfold Go.Utf8.decode
 simp only[Nat.add_zero]
 rw[if_pos h]
theorem decode_high {s:ByteArray} {i:Nat} (h: ¬(s.get! i).toNat<128):128<=(Go.Utf8.decode s i).1:=by
 unfold Go.Utf8.decode
 simp only[Nat.add_zero]
 rw[if_neg h]
 have hr:128<=Go.Utf8.runeError:=by decide
 repeat' split
 all_goals first|exact hr|skip
 ·assumption
 ·rename_i hc;simp only[Bool.and_eq_true,decide_eq_true_eq] at hc;have:=hc.1;show 128<=_;omega
 ·rename_i hc;simp only[Bool.and_eq_true,decide_eq_true_eq] at hc;have:=hc.1;show 128<=_;omega
def iG (c:Nat):Bool:=decide (97<=c/\c<=122\/48<=c/\c<=57)
theorem Dy {c:Nat} (h:128<=c):iG c=false:=by
 unfold iG
 simp
 omega
theorem OV {l:List Nat} (h: ∀x∈l,x<256) {i x:Nat} (hx:l[i]? =some x):lY (bs l) (i:Int)=some (x:Int):=by
 have hl:=(List.getElem?_eq_some_iff.1 hx).1
 have aH:=h x (List.mem_of_getElem? hx)
 have hs:i<(bs l).size:=by rw[fH];exact hl
 unfold lY
 rw[if_pos (by omega),Int.toNat_natCast,getElem?_pos (bs l) i hs]
 have hg:(bs l)[i]=UInt8.ofNat x:=by
  show(bs l).data[i]=_
  have im:=(List.getElem?_eq_some_iff.1 hx).2
  simp[bs,im]
 rw[hg]
 simp
 omega
theorem DG (n:Nat): ∀x∈dg 8 n,x<256:=λx hx=>(DH 8 n x hx).2
theorem J3 (l:List Nat):((bs l).toList==(⟨#[]⟩:ByteArray).toList)=l.isEmpty:=by
 have e1: ∀x:ByteArray,x.toList=x.data.toList:=λx=>ByteArray.toList_eq x
 rw[e1,e1]
 cases l<;>simp[bs]
def gL (n:Int):Bool:=(gP 8 n.toNat==0)&&!(dg 8 n.toNat).isEmpty&&(dg 8 n.toNat).all iG
theorem Rp {n:Nat} {l:List Nat} (hn:n<18446744073709551616) (hl:l.length<=100):(B8 aj ((n:Int),bs l)).val=if n=0 then some (.inr (.inr (false,0,bs l))) else if n%256=0 then some (.inr (.inl ())) else some (.inl (((n/256:Nat):Int),bs (l++[n%256]))):=by
 unfold B8
 simp only[T.bn,T.bB,T.bo]
 rw[aoy,aow]
 by_cases h0:n=0
 ·subst h0
  rfl
 ·have hp:decide ((n:Int)>0)=true:=by simp;omega
  rw[hp,if_neg h0]
  simp only[cond_true]
  by_cases hm:n%256=0
  ·have e:(((n%256:Nat):Int)==0)=true:=by rw[hm];rfl
   rw[e,if_pos hm]
   rfl
  ·have e:(((n%256:Nat):Int)==0)=false:=by simp;omega
   rw[e,if_neg hm]
   have hw:IntKind.u8.wrap ((n%256:Nat):Int)=((n%256:Nat):Int):=by rw[IntKind.wrap_u8];omega
   have lQ:IntKind.u64.wrap ((n/256:Nat):Int)=((n/256:Nat):Int):=by rw[IntKind.wrap_u64];omega
   have hs:strOf [((n%256:Nat):Int)]=bs [n%256]:=Zz [n%256]
   simp only[cond_false]
   rw[hw,lQ,hs,Gv (by simp;omega)]
   rfl
theorem ZL: ∀(k f n:Nat) (l:List Nat),n<256^k->n<18446744073709551616->l.length+k<=100->
  dH (λa=>(B8 aj a).val) (k+1+f) ((n:Int),bs l)=some (if gP k n=0 then .inr (false,0,bs (l++dg k n)) else .inl ())
 |0,f,n,l,h,_,_=>by
  have:n=0:=by simpa using h
  subst this
  rw[show 0+1+f=f+1 by omega,fv,Rp (by omega) (by omega)]
  simp[gP,dg]
 |k+1,f,n,l,h,hn,hl=>by
  rw[show k+1+1+f=(k+1+f)+1 by omega,fv,Rp hn (by omega)]
  by_cases h0:n=0
  ·subst h0
   simp[gP,dg]
  ·rw[if_neg h0]
   by_cases hm:n%256=0
   ·rw[if_pos hm]
    simp[gP,hm,h0]
   ·rw[if_neg hm,Option.bind_some]
    simp only
    rw[ZL k f (n/256) (l++[n%256]) (by rw[Nat.pow_succ] at h;omega) (by omega) (by simp;omega)]
    simp only[gP,dg,if_neg hm,List.append_assoc,List.singleton_append]
theorem aoK {n:Nat} (h:n<18446744073709551616):S4 aj (n:Int)=some (if gP 8 n=0 then(bs (dg 8 n),true) else(⟨#[]⟩,false)):=by
 show(Jk aj (n:Int)).val=_
 unfold Jk
 simp only[T.cM,T.bB,T.eP,T.bo]
 have:=ZL 8 999991 n [] (by omega) h (by simp)
 rw[List.nil_append] at this
 have hL:Ri aj (n:Int) (ByteArray.mk #[])=_:=this
 rw[hL]
 by_cases h0:gP 8 n=0
 ·rw[if_pos h0,if_pos h0];rfl
 ·rw[if_neg h0,if_neg h0];rfl
theorem akl {s:ByteArray} (hs:s.size<=8) {i:Nat} (hi:i<8):au (cW [0,0,0,0,0,0,0,0] (s.data.toList.map λb=>(b.toNat:Int))) i=(fL s i:Int):=by
 have hl:s.data.toList.length=s.size:=by rw[Array.length_toList];rfl
 unfold au cW fL
 simp only[List.length_map,List.length_cons,List.length_nil,hl]
 by_cases h:i<s.size
 ·rw[List.getElem?_append_left (by rw[List.length_take,List.length_map];omega),List.getElem?_take,if_pos (by omega),List.getElem?_map,List.getElem?_eq_getElem (by omega)]
  rfl
 ·have hn:s.data.toList[i]? =none:=List.getElem?_eq_none (by omega)
  rw[hn,List.getElem?_append_right (by rw[List.length_take,List.length_map];omega)]
  have: ∀(k:Nat) (l:List Int),(∀x∈l,x=0)->(l[k]?).getD 0=0:=λk l hl=>by
   cases hk:l[k]? with
   |none=>rfl
   |some x=>exact hl x (List.mem_of_getElem? hk)
  exact this _ _ λx hx=>by
   have:=List.mem_of_mem_drop hx
   simp only[List.mem_cons,List.not_mem_nil,or_false] at this
   omega
theorem Vv: ∀l:List Int,n_ KK 5 .u8 l=some l
 |[]=>rfl
 |x::l=>by
  have ih:=Vv l
  show(match n_ KK 5 .u8 l with|some zs=>some (x::zs)|none=>none)=_
  rw[ih]
theorem S79 {s:ByteArray} (hs:s.size<=8) {i:Nat} (hi:i<8):(xx aj s (cW [0,0,0,0,0,0,0,0] (s.data.toList.map λb=>(b.toNat:Int))) (((iu (fL s) i:Nat):Int),(i:Int))).val=if fL s i=0/\i<s.size then some (.inr (.inl ())) else some (.inl (((iu (fL s) (i+1):Nat):Int),((i+1:Nat):Int))):=by
 have hb:=adC s
 unfold xx
 simp only[T.bn,T.bB,T.bo]
 have U:decide ((i:Int)<8)=true:=decide_eq_true (by omega)
 have jZ:IntKind.u64.wrap (fL s i:Int)=(fL s i:Int):=by have:=hb i;rw[IntKind.wrap_u64];omega
 have lQ:IntKind.i64.wrap (8*(i:Int))=((8*i:Nat):Int):=by rw[ez (by omega) (by omega)];omega
 have ra:IntKind.i64.wrap ((i:Int)+1)=((i+1:Nat):Int):=by rw[ez (by omega) (by omega)];omega
 rw[U,rf (by omega) (by omega)]
 simp only[cond_true,Option.bind_some,Int.toNat_natCast]
 rw[akl hs hi,jZ,lQ,ra,anc _ i (hb i) hi]
 simp only[Option.bind_some]
 rw[ak3 hb i hi]
 by_cases h0:fL s i=0
 ·by_cases hz:i<s.size
  ·have e:decide ((i:Int)<(s.size:Int))=true:=decide_eq_true (by omega)
   rw[h0,e,if_pos ⟨rfl,hz⟩]
   rfl
  ·have e:decide ((i:Int)<(s.size:Int))=false:=decide_eq_false (by omega)
   rw[h0,e,if_neg (λh=>hz h.2)]
   rfl
 ·have e:((fL s i:Int)==0)=false:=by simp;omega
  rw[e,if_neg (λh=>h0 h.1)]
  rfl
theorem ZZ {s:ByteArray} (hs:s.size<=8): ∀(k f i:Nat),i+k=8->(∀j,j<i->j<s.size->fL s j≠0)->
  dH (λa=>(xx aj s (cW [0,0,0,0,0,0,0,0] (s.data.toList.map λb=>(b.toNat:Int))) a).val) (k+1+f) (((iu (fL s) i:Nat):Int),(i:Int))=some (if(List.range s.size).any (λj=>fL s j==0) then .inl () else .inr (false,((iu (fL s) 8:Nat):Int),8))
 |0,f,i,e,h=>by
  obtain rfl:i=8:=by omega
  have iI:(List.range s.size).any (λj=>fL s j==0)=false:=by
   rw[List.any_eq_false]
   intro j hj
   have hj:j<s.size:=by simpa using hj
   have:=h j (by omega) hj
   simpa using this
  rw[iI,show 0+1+f=f+1 by omega,fv]
  rfl
 |k+1,f,i,e,h=>by
  rw[show k+1+1+f=(k+1+f)+1 by omega,fv,S79 hs (by omega)]
  by_cases h0:fL s i=0/\i<s.size
  ·have ajn:(List.range s.size).any (λj=>fL s j==0)=true:=by
    rw[List.any_eq_true]
    exact⟨i,by simpa using h0.2,by simpa using h0.1⟩
   rw[if_pos h0,ajn]
   rfl
  ·rw[if_neg h0,Option.bind_some]
   simp only
   exact ZZ hs k f (i+1) (by omega) λj hj u7=>by
    rcases Nat.lt_succ_iff_lt_or_eq.1 hj with U|U
    ·exact h j U u7
    ·subst U;exact λhz=>h0 ⟨hz,u7⟩
theorem ZY (s:ByteArray):ye aj s=some (nJ s):=by
 show(Df aj s).val=_
 unfold Df nJ
 simp only[T.cM,T.bB,T.eP,T.bo,T.bn]
 by_cases h:8<s.size
 ·have e:decide ((s.size:Int)>8)=true:=decide_eq_true (by omega)
  rw[e,if_pos h]
  rfl
 ·have e:decide ((s.size:Int)>8)=false:=decide_eq_false (by omega)
  have hb:Nat.ble s.size 8=true:=Nat.ble_eq_true_of_le (by omega)
  rw[e,if_neg h]
  simp only[cond_false,Gw,sameKind,hb,Bool.true_and,cond_true,Option.bind_some]
  have hL:I3 aj s (cW [0,0,0,0,0,0,0,0] (s.data.toList.map λb=>(b.toNat:Int))) 0 0=_:=ZZ (by omega) 8 999991 0 rfl λj hj=>by omega
  rw[hL]
  cases (List.range s.size).any (λj=>fL s j==0)<;>rfl
def ints (l:List Nat):List Int:=l.map λ(n:Nat)=>(n:Int)
theorem Rq (p0:Int) {n:Nat} {l:List Nat} (hn:n<18446744073709551616) (hl:l.length<=100):(xk aj p0 ((n:Int),ints l)).val=if n%256=0 then some (.inr (false,0,(n:Int),ints l)) else some (.inl (((n/256:Nat):Int),ints (l++[n%256]))):=by
 unfold xk
 simp only[T.bn,T.bB,T.bo]
 rw[adl hn]
 by_cases hm:n%256=0
 ·have e:(((n%256:Nat):Int) !=0)=false:=by rw[hm];rfl
  rw[e,if_pos hm,hm]
  rfl
 ·have e:(((n%256:Nat):Int) !=0)=true:=by simp;omega
  rw[e,if_neg hm]
  simp only[cond_true]
  have hw:IntKind.u8.wrap (n:Int)=((n%256:Nat):Int):=by rw[IntKind.wrap_u8];omega
  have lQ:(n:Int).fdiv 256=((n/256:Nat):Int):=by
   rw[Int.fdiv_eq_ediv_of_nonneg _ (by omega)];omega
  rw[hw,lQ,Dq (by simp[ints];omega)]
  simp only[Option.bind_some]
  rw[ints,ints,List.map_append]
  rfl
theorem ZN (p0:Int): ∀(k f n:Nat) (l:List Nat),n<256^k->n<18446744073709551616->l.length+k<=100->
  ∃m,dH (λa=>(xk aj p0 a).val) (k+1+f) ((n:Int),ints l)=some (false,0,m,ints (l++dg k n))
 |0,f,n,l,h,_,_=>by
  have:n=0:=by simpa using h
  subst this
  rw[show 0+1+f=f+1 by omega,fv,Rq p0 (by omega) (by omega)]
  exact⟨0,by simp[dg]⟩
 |k+1,f,n,l,h,hn,hl=>by
  rw[show k+1+1+f=(k+1+f)+1 by omega,fv,Rq p0 hn (by omega)]
  by_cases hm:n%256=0
  ·rw[if_pos hm]
   exact⟨(n:Int),by simp[dg,hm]⟩
  ·rw[if_neg hm,Option.bind_some]
   simp only
   obtain⟨m,sI⟩:=ZN p0 k f (n/256) (l++[n%256]) (by rw[Nat.pow_succ] at h;omega) (by omega) (by simp;omega)
   rw[sI]
   exact⟨m,by simp only[dg,if_neg hm,List.append_assoc,List.singleton_append]⟩
theorem ZM {n:Nat} (h:n<18446744073709551616):DO aj (n:Int)=some (if gP 8 n=0 then(bs (dg 8 n),0) else(⟨#[]⟩,2)):=by
 show(CB aj (n:Int)).val=_
 unfold CB
 simp only[T.cM,T.bB,T.bn,T.bo]
 obtain⟨m,hm⟩:=ZN (n:Int) 8 999991 n [] (by omega) h (by simp)
 rw[List.nil_append] at hm
 have hL:Is aj (n:Int) (n:Int) []=_:=hm
 rw[hL]
 simp only[Option.bind_some,Vv,ZY]
 rw[show strOf (ints (dg 8 n))=bs (dg 8 n) from Zz _,JA (DH 8 n) (um 8 n)]
 have:=N4 8 n
 simp only[bne_self_eq_false,cond_false]
 by_cases h0:gP 8 n=0
 ·rw[h0,Nat.mul_zero,Nat.add_zero] at this
  rw[this,if_pos h0]
  simp
 ·have U:0<256^(dg 8 n).length*gP 8 n:=Nat.mul_pos (Nat.pow_pos (by omega)) (by omega)
  have e:(((pk (dg 8 n):Nat):Int) !=(n:Int))=true:=by simp;omega
  rw[e,if_neg h0]
  rfl
theorem JK (c:Nat):iG c=(bif decide ((c:Int)>=97) then(bif decide ((c:Int)<=122) then true else(bif decide ((c:Int)>=48) then decide ((c:Int)<=57) else false)) else(bif decide ((c:Int)>=48) then decide ((c:Int)<=57) else false)):=by
 unfold iG
 by_cases U:(c:Int)>=97<;>by_cases h2:(c:Int)<=122<;>by_cases h3:(c:Int)>=48<;>by_cases h4:(c:Int)<=57<;>simp[U,h2,h3,h4]<;>omega
def FW:((Bool×Bool×Int×Bool×Bool×Bool×Bool×Int×Nat) ⊕ (Bool×Int×Bool×Bool×Bool×Int×Nat) ⊕ (Bool×Bool×Int×Bool×Bool×Bool×Int×Nat) ⊕ (Bool×Int×Bool×Bool×Int×Nat) ⊕ (Bool×Int×Int×Nat) ⊕ (Bool×Nat))->Bool
 | .inl y=>y.2.1
 | .inr (.inl _)=>false
 | .inr (.inr (.inl y))=>y.2.1
 | .inr (.inr (.inr (.inl _)))=>false
 | .inr (.inr (.inr (.inr (.inl _))))=>false
 | .inr (.inr (.inr (.inr (.inr y))))=>y.1
theorem S98 {s:ByteArray} {pos:Nat} (ok:Bool) (hp:pos<s.size):(ok&&iG (Utf8.decode s pos).1)=true/\(qu aj s (ok,pos)).val=some (.inl (true,pos+(Utf8.decode s pos).2))\/(ok&&iG (Utf8.decode s pos).1)=false/\ ∃x,(qu aj s (ok,pos)).val=some (.inr x)/\FW x=false:=by
 unfold qu
 simp only[T.bn,T.bo]
 rw[decide_eq_true hp,JK]
 cases ok with
 |false=>exact .inr ⟨rfl,_,rfl,rfl⟩
 |true=>
  simp only[cond_true,Bool.true_and]
  cases decide (((Utf8.decode s pos).1:Int)>=97) with
  |true=>
   cases decide (((Utf8.decode s pos).1:Int)<=122) with
   |true=>exact .inl ⟨rfl,rfl⟩
   |false=>
    cases decide (((Utf8.decode s pos).1:Int)>=48) with
    |false=>exact .inr ⟨rfl,_,rfl,rfl⟩
    |true=>
     cases decide (((Utf8.decode s pos).1:Int)<=57) with
     |true=>exact .inl ⟨rfl,rfl⟩
     |false=>exact .inr ⟨rfl,_,rfl,rfl⟩
  |false=>
   cases decide (((Utf8.decode s pos).1:Int)>=48) with
   |false=>exact .inr ⟨rfl,_,rfl,rfl⟩
   |true=>
    cases decide (((Utf8.decode s pos).1:Int)<=57) with
    |true=>exact .inl ⟨rfl,rfl⟩
    |false=>exact .inr ⟨rfl,_,rfl,rfl⟩
theorem Pq {l:List Nat} (h: ∀x∈l,x<256): ∀(k f pos:Nat) (ok:Bool),pos+k=l.length-> ∃x,dH (λa=>(qu aj (bs l) a).val) (k+1+f) (ok,pos)=some x/\FW x=(ok&&(l.drop pos).all iG)
 |0,f,pos,ok,e=>by
  obtain rfl:pos=l.length:=by omega
  rw[show 0+1+f=f+1 by omega,fv]
  have:(qu aj (bs l) (ok,l.length)).val=some (.inr (.inr (.inr (.inr (.inr (.inr (ok,l.length))))))):=by
   unfold qu
   simp[fH]
  rw[this]
  exact⟨_,rfl,by simp[FW]⟩
 |k+1,f,pos,ok,e=>by
  have hp:pos<l.length:=by omega
  have hx:=List.getElem?_eq_getElem hp
  have hg:=TG h hx
  rw[show k+1+1+f=(k+1+f)+1 by omega,fv,List.drop_eq_getElem_cons hp,List.all_cons]
  rcases S98 (s:=bs l) ok (pos:=pos) (by rw[fH];exact hp) with⟨U,h2⟩|⟨U,x,h2,h3⟩
  ·have hb:((bs l).get! pos).toNat<128:=by
    apply Classical.byContradiction
    intro hb
    rw[Dy (decode_high hb)] at U
    simp at U
   rw[JZ hb,hg] at U h2
   rw[h2,Option.bind_some]
   simp only
   obtain⟨x,sS,Ms⟩:=Pq h k f (pos+1) true (by omega)
   refine⟨x,sS,?_⟩
   rw[Ms,<-Bool.and_assoc,U]
  ·rw[h2,Option.bind_some]
   refine⟨x,rfl,?_⟩
   rw[h3,<-Bool.and_assoc]
   by_cases hb:((bs l).get! pos).toNat<128
   ·rw[JZ hb,hg] at U
    rw[U];rfl
   ·have h4:=Dy (c:=l[pos]) (by rw[<-hg];omega)
    rw[h4];simp
theorem Z1 (x:(Bool×Bool×Int×Bool×Bool×Bool×Bool×Int×Nat) ⊕ (Bool×Int×Bool×Bool×Bool×Int×Nat) ⊕ (Bool×Bool×Int×Bool×Bool×Bool×Int×Nat) ⊕ (Bool×Int×Bool×Bool×Int×Nat) ⊕ (Bool×Int×Int×Nat) ⊕ (Bool×Nat)):
  (T.cs x (λy1=> .ok y1.2.1) λPJ=> .cs PJ (λ_=> .ok false) λPK=> .cs PK (λy1=> .ok y1.2.1) λPL=> .cs PL (λ_=> .ok false) λPM=> .cs PM (λ_=> .ok false) λy1=> .ok y1.1:T Bool).val=some (FW x):=by
 rcases x with x|x|x|x|x|x<;>rfl
theorem v98 {n:Nat} (h:n<18446744073709551616):oZ aj (n:Int)=some (gL (n:Int)):=by
 show(Dl aj (n:Int)).val=_
 unfold Dl gL
 simp only[T.cM,T.bB,T.bn,ZM h,Option.bind_some,Int.toNat_natCast]
 have hl:=um 8 n
 by_cases h0:gP 8 n=0
 ·rw[if_pos h0,h0]
  obtain⟨x,U,h2⟩:=Pq (DG n) (dg 8 n).length (999999-(dg 8 n).length) 0 (!(dg 8 n).isEmpty) (by omega)
  rw[show(dg 8 n).length+1+(999999-(dg 8 n).length)=1000000 by omega] at U
  rw[List.drop_zero] at h2
  simp only[J3]
  have hL:xe aj (!(dg 8 n).isEmpty) (bs (dg 8 n)) 0=some x:=U
  rw[hL]
  simp only[Option.bind_some,beq_self_eq_true,cond_true,Bool.true_and]
  exact(Z1 x).trans (by rw[h2])
 ·rw[if_neg h0]
  have e:(gP 8 n==0)=false:=by simp[h0]
  obtain⟨x,U,h2⟩:=Pq (l:=[]) (by simp) 0 999999 0 false rfl
  have hL:xe aj false (ByteArray.mk #[]) 0=some x:=U
  rw[e]
  simp only[show((2:Int)==0)=false from rfl,cond_false]
  rw[hL]
  simp only[Option.bind_some,Bool.false_and]
  exact(Z1 x).trans (by rw[h2];rfl)
abbrev dv (x:Int):Prop:=0<=x/\x<18446744073709551616
def fS (p:Int):Bool:=decide (p>=1)&&decide (p<4294967296)
@[simp] theorem Pr (p:Int):uI aj p=some (fS p):=by
 show(ud aj p).val=_
 unfold ud fS
 simp only[T.bn,T.bo]
 cases decide (p>=1)<;>rfl
theorem GI {w:Int} (h:dv w):oZ aj w=some (gL w):=by
 obtain⟨n,rfl⟩:=Int.eq_ofNat_of_zero_le h.1
 exact v98 (by have:=h.2;omega)
def vN (z:aA):Bool:=gL z.bl&&fS z.aa
def okB (z:ao):Bool:=fS z.aa&&(decide (1<=z.bg.length)&&decide (z.bg.length<=4))
def vH (l:List aA):Bool:=allI (λi z=>vN z&&jI (λy z=>decide (y.bl<z.bl)) l i z) 0 l
def uj (l:List ao):Bool:=allI (λi z=>okB z&&jI (λy z=>decide (y.aa<z.aa)) l i z) 0 l
def tt (s:aL):Bool:=vH s.aB&&(uj s.ax&&decide (s.aB.length<=16))
structure QS (s:aL):Prop where
 names: ∀z∈s.aB,dv z.bl
 ln:s.aB.length<=maxLen
 lb:s.ax.length<=maxLen
theorem TD (a b:Int):decide (a>=b)=!decide (a<b):=by rw[Bool.eq_iff_iff];simp
theorem aj5 {S:Int->aA->Unit->T (Unit ⊕ Unit ⊕ (Bool×Int))} {F:Int->Unit->T (Unit ⊕ (Bool×Int))} {l:List aA} (hm:l.length<=maxLen)
  (hF:(F (l.length:Int) ()).val=some (.inr (false,(l.length:Int))))
  (hS: ∀(i:Int) z,z∈l->(S i z ()).val=bif !gL z.bl then some (.inr (.inl ())) else bif !fS z.aa then some (.inr (.inl ())) else bif decide (i>0) then(idx l (IntKind.i64.wrap (i-1))).bind λy=>bif decide (y.bl>=z.bl) then some (.inr (.inl ())) else some (.inl ()) else some (.inl ())):
  cS (λi z a=>(S i z a).val) (λi a=>(F i a).val) 0 l ()=bif vH l then some (.inr (false,(l.length:Int))) else some (.inl ()):=by
 unfold vH
 rw[tv (q:=λi z=>vN z&&jI (λy z=>decide (y.bl<z.bl)) l i z) (x:= .inl ()),hF]
 intro i z hz
 refine NY (S:=S i z ()) (g:=vN) (q:=λy z=>decide (y.bl<z.bl)) hm hz ?_
 rw[hS _ z (List.mem_of_getElem? hz)]
 unfold vN
 simp only[TD]
 cases gL z.bl<;>cases fS z.aa<;>rfl
theorem adz {S:Int->ao->Unit->T (Unit ⊕ Unit ⊕ (Bool×Int))} {F:Int->Unit->T (Unit ⊕ (Bool×Int))} {l:List ao} (hm:l.length<=maxLen)
  (hF:(F (l.length:Int) ()).val=some (.inr (false,(l.length:Int))))
  (hS: ∀(i:Int) z,(S i z ()).val=bif !fS z.aa then some (.inr (.inl ())) else bif decide ((z.bg.length:Int)<1) then some (.inr (.inl ())) else bif decide ((z.bg.length:Int)>4) then some (.inr (.inl ())) else bif decide (i>0) then(idx l (IntKind.i64.wrap (i-1))).bind λy=>bif decide (y.aa>=z.aa) then some (.inr (.inl ())) else some (.inl ()) else some (.inl ())):
  cS (λi z a=>(S i z a).val) (λi a=>(F i a).val) 0 l ()=bif uj l then some (.inr (false,(l.length:Int))) else some (.inl ()):=by
 unfold uj
 rw[tv (q:=λi z=>okB z&&jI (λy z=>decide (y.aa<z.aa)) l i z) (x:= .inl ()),hF]
 intro i z hz
 refine NY (S:=S i z ()) (g:=okB) (q:=λy z=>decide (y.aa<z.aa)) hm hz ?_
 rw[hS]
 unfold okB
 have e1:decide ((z.bg.length:Int)<1)=!decide (1<=z.bg.length):=by
  by_cases h:1<=z.bg.length
  ·rw[decide_eq_true h,decide_eq_false (by omega)];rfl
  ·rw[decide_eq_false h,decide_eq_true (by omega)];rfl
 have e2:decide ((z.bg.length:Int)>4)=!decide (z.bg.length<=4):=by
  by_cases h:z.bg.length<=4
  ·rw[decide_eq_true h,decide_eq_false (by omega)];rfl
  ·rw[decide_eq_false h,decide_eq_true (by omega)];rfl
 simp only[TD,e1,e2]
 cases fS z.aa<;>cases decide (1<=z.bg.length)<;>cases decide (z.bg.length<=4)<;>rfl
theorem v49 {s:aL} (h:QS s):oY aj s=some (bif tt s then 0 else 350):=by
 show(C5 aj s).val=_
 unfold C5 tt
 simp only[T.cM,T.bB,T.eP,T.bo,T.bn]
 have U:IT aj s.aB s.ax=_:=aj5 (S:=Cm aj s.aB s.ax) (F:=Bn aj s.aB s.ax) h.ln (by unfold Bn;simp) (λi z hz=>by
  unfold Cm
  simp only[T.bB,T.bn,T.bo,GI (h.names z hz),Pr,Option.bind_some])
 have h2:IS aj s.ax s.aB=_:=adz (S:=Cl aj s.ax s.aB) (F:=Bm aj s.ax s.aB) h.lb (by unfold Bm;simp) (λi z=>by
  unfold Cl
  simp only[T.bB,T.bn,T.bo,Pr,Option.bind_some])
 rw[U,h2]
 by_cases hl:s.aB.length<=16
 ·rw[decide_eq_false (by omega: ¬(s.aB.length:Int)>16),decide_eq_true hl]
  cases vH s.aB<;>cases uj s.ax<;>rfl
 ·rw[decide_eq_true (by omega:(s.aB.length:Int)>16),decide_eq_false hl]
  cases vH s.aB<;>cases uj s.ax<;>rfl
theorem uz {α:Type} [DecidableEq α] {S:Int->α->Unit->T (Unit ⊕ Unit ⊕ (Bool×Int))} {F:Int->Unit->T (Unit ⊕ (Bool×Int))} {l m:List α} {e:α->α->Bool} (he: ∀x y,e x y=decide (x=y)) (hl:l.length=m.length)
  (hF:(F (l.length:Int) ()).val=some (.inr (false,(l.length:Int))))
  (hS: ∀(i:Int) z,(S i z ()).val=(idx m i).bind λy=>bif !e z y then some (.inr (.inl ())) else some (.inl ())):
  cS (λi z a=>(S i z a).val) (λi a=>(F i a).val) 0 l ()=bif decide (l=m) then some (.inr (false,(l.length:Int))) else some (.inl ()):=by
 rw[tv (q:=λi z=>decide (m[i]? =some z)) (x:= .inl ()),hF]
 ·congr 1
  rw[Bool.eq_iff_iff,qw]
  constructor
  ·intro h
   refine decide_eq_true (List.ext_getElem? λi=>?_)
   cases hz:l[i]? with
   |none=>rw[List.getElem?_eq_none_iff] at hz;rw[List.getElem?_eq_none (by omega)]
   |some z=>
    have:=h i z hz
    rw[Nat.zero_add] at this
    exact(of_decide_eq_true this).symm
  ·intro h k z hk
   have h:=of_decide_eq_true h
   rw[Nat.zero_add,<-h]
   exact decide_eq_true hk
 ·intro i z hz
  have aH:=(List.getElem?_eq_some_iff.1 hz).1
  have hm:m[i]? =some m[i]:=List.getElem?_eq_getElem (by omega)
  have hi:idx m (i:Int)=some m[i]:=MB hm
  rw[hS,hi,hm]
  simp only[Option.bind_some,he,Option.some.injEq]
  by_cases h:z=m[i]
  ·rw[decide_eq_true h,decide_eq_true h.symm];rfl
  ·rw[decide_eq_false h,decide_eq_false (λx=>h x.symm)];rfl
theorem uA {L:Option (Unit ⊕ (Bool×Int))} {p:Bool} {n:Int} (h:L=bif p then some (.inr (false,n)) else some (.inl ())):(T.bd L λx=> .cs x (λ_=> .ok false) λ_=> .ok true:T Bool).val=some p:=by
 rw[h]
 cases p<;>rfl
theorem vD {α:Type} {l m:List α}:((l.length:Int) !=(m.length:Int))=!decide (l.length=m.length):=by
 by_cases h:l.length=m.length
 ·rw[decide_eq_true h,h];simp
 ·rw[decide_eq_false h];simp;omega
theorem vI {α:Type} [DecidableEq α] {l m:List α} (h:l.length≠m.length):decide (l=m)=false:=decide_eq_false λe=>h (by rw[e])
theorem eqP (x y:ae):jU x y=decide (x=y):=by
 rw[Bool.eq_iff_iff]
 cases x;cases y
 simp[jU,and_assoc]
theorem eqD (x y:ai):me x y=decide (x=y):=by
 rw[Bool.eq_iff_iff]
 cases x;cases y
 simp[me,and_assoc]
theorem eqM (x y:az):oU x y=decide (x=y):=by
 rw[Bool.eq_iff_iff]
 cases x;cases y
 simp[oU]
theorem eqN (x y:aA):oV x y=decide (x=y):=by
 rw[Bool.eq_iff_iff]
 cases x;cases y
 simp[oV]
theorem eqI (x y:Int):(x==y)=decide (x=y):=by rw[Bool.eq_iff_iff];simp
@[simp] theorem v57 (a b:List ai):Km aj a b=some (decide (a=b)):=by
 show(C8 aj a b).val=_
 unfold C8
 simp only[T.bn,T.bo,T.cM,vD]
 by_cases h:a.length=b.length
 ·rw[decide_eq_true h]
  exact uA (uz (S:=Ji aj a b) (F:=Bo aj a b) (e:=me) eqD h (by unfold Bo;simp) (λi z=>rfl))
 ·rw[decide_eq_false h,vI h]
  rfl
@[simp] theorem aoH (a b:List ae):Kd aj a b=some (decide (a=b)):=by
 show(Ct aj a b).val=_
 unfold Ct
 simp only[T.bn,T.bo,T.cM,vD]
 by_cases h:a.length=b.length
 ·rw[decide_eq_true h]
  exact uA (uz (S:=Ja aj a b) (F:=AW aj a b) (e:=jU) eqP h (by unfold AW;simp) (λi z=>rfl))
 ·rw[decide_eq_false h,vI h]
  rfl
@[simp] theorem aoI (a b:List az):Ke aj a b=some (decide (a=b)):=by
 show(Cu aj a b).val=_
 unfold Cu
 simp only[T.bn,T.bo,T.cM,vD]
 by_cases h:a.length=b.length
 ·rw[decide_eq_true h]
  exact uA (uz (S:=Jb aj a b) (F:=AY aj a b) (e:=oU) eqM h (by unfold AY;simp) (λi z=>rfl))
 ·rw[decide_eq_false h,vI h]
  rfl
@[simp] theorem aoJ (a b:List aA):Kf aj a b=some (decide (a=b)):=by
 show(Cv aj a b).val=_
 unfold Cv
 simp only[T.bn,T.bo,T.cM,vD]
 by_cases h:a.length=b.length
 ·rw[decide_eq_true h]
  exact uA (uz (S:=Jc aj a b) (F:=AZ aj a b) (e:=oV) eqN h (by unfold AZ;simp) (λi z=>rfl))
 ·rw[decide_eq_false h,vI h]
  rfl
@[simp] theorem v105 (a b:List Int):Kg aj a b=some (decide (a=b)):=by
 show(Cw aj a b).val=_
 unfold Cw
 simp only[T.bn,T.bo,T.cM,vD]
 by_cases h:a.length=b.length
 ·rw[decide_eq_true h]
  exact uA (uz (S:=Jd aj a b) (F:=A6 aj a b) (e:=(λx y=>x==y)) eqI h (by unfold A6;simp) (λi z=>rfl))
 ·rw[decide_eq_false h,vI h]
  rfl
theorem v56 (a b:br):Kl aj a b=some (decide (a=b)):=by
 show(C7 aj a b).val=_
 unfold C7
 simp only[T.bn,T.bB,T.bo,aoH,Option.bind_some]
 obtain⟨g,l⟩:=a
 obtain⟨g',l'⟩:=b
 by_cases hg:g=g'
 ·subst hg
  simp
 ·have e:(g==g')=false:=by simp[hg]
  simp[hg,e]
theorem v58 (a b:bG):Kn aj a b=some (decide (a=b)):=by
 show(C9 aj a b).val=_
 unfold C9
 simp only[T.bn,T.bB,T.bo,aoI,Option.bind_some]
 obtain⟨l,g⟩:=a
 obtain⟨l',g'⟩:=b
 by_cases hg:g=g'
 ·subst hg
  simp
 ·have e:(g==g')=false:=by simp[hg]
  simp[hg,e]
def DK (x y:ao):Bool:=(x.aa==y.aa)&&decide (x.bg=y.bg)
theorem ahh (x y:ao):DK x y=decide (x=y):=by
 rw[Bool.eq_iff_iff]
 cases x;cases y
 simp[DK]
theorem ajF (a b:aL):decide (a=b)=(decide (a.aB=b.aB)&&decide (a.ax=b.ax)):=by
 rw[Bool.eq_iff_iff]
 cases a;cases b
 simp
theorem v59 (a b:aL):Ko aj a b=some (decide (a=b)):=by
 show(C_ aj a b).val=_
 unfold C_
 rw[ajF]
 simp only[T.bn,T.bo,T.cM,T.bB,aoJ,Option.bind_some,vD]
 cases decide (a.aB=b.aB) with
 |false=>rfl
 |true=>
  simp only[cond_true,Bool.true_and]
  by_cases h2:a.ax.length=b.ax.length
  rotate_left
  ·rw[decide_eq_false h2,vI h2]
   rfl
  rw[decide_eq_true h2]
  have h4:Ih aj b.ax a.ax=_:=uz (S:=B7 aj b.ax a.ax) (F:=A4 aj b.ax a.ax) (l:=a.ax) (m:=b.ax) (e:=DK) ahh h2 (by unfold A4;simp) (λi z=>by
   unfold B7 DK
   simp only[T.bB,T.bn,T.bo,v105,Option.bind_some]
   cases idx b.ax i with
   |none=>rfl
   |some y=>
    simp only[Option.bind_some]
    cases h:z.aa==y.aa<;>simp)
  exact uA h4
theorem anl (a b:aM):decide (a=b)=(decide (a.ar=b.ar)&&(decide (a.aI=b.aI)&&(decide (a.ay=b.ay)&&decide (a.aq=b.aq)))):=by
 rw[Bool.eq_iff_iff]
 cases a;cases b
 simp
theorem v12 (a b:aM):eC aj a b=some (decide (a=b)):=by
 show(Cy aj a b).val=_
 unfold Cy
 rw[anl]
 simp only[T.bn,T.bo,T.bB,v56,v57,v58,v59,Option.bind_some]
 cases decide (a.ar=b.ar)<;>cases decide (a.aI=b.aI)<;>cases decide (a.ay=b.ay)<;>rfl
theorem uk {α:Type} (l:List α) (n:Nat) (k:Int) (hk:k=n):gF l none (some (if k<(l.length:Int) then k else(l.length:Int))) none=some (l.take n):=by
 subst hk
 unfold gF
 by_cases h:(n:Int)<(l.length:Int)
 ·rw[if_pos h]
  simp only[Option.getD_none,Option.getD_some]
  rw[if_pos ⟨by omega,by omega,by omega,by omega,by omega,by simp⟩]
  simp
 ·rw[if_neg h]
  simp only[Option.getD_none,Option.getD_some]
  rw[if_pos ⟨by omega,by omega,by omega,by omega,by omega,by simp⟩,Int.toNat_natCast]
  show some ((l.take l.length).drop 0)=_
  rw[List.drop_zero,List.take_length,List.take_of_length_le (by omega)]
theorem qx {α:Type} {b n:Nat} {xs ys:List α} (h:xs.length+ys.length<=n) (hb:b*n<=140737488355328):app b xs ys=some (xs++ys):=by
 refine Dq ?_
 have:(xs.length+ys.length)*b<=n*b:=Nat.mul_le_mul_right _ h
 rw[Nat.mul_comm n b] at this
 omega
theorem Yk {α β X:Type} {step:Int->α->List β->Option (List β ⊕ X)} {fin:Int->List β->Option X} {g:α->β} {l:List α} (h: ∀(i:Nat) z (a:List β),a.length=i->l[i]? =some z->step i z a=some (.inl (a++[g z]))):
  ∀(r pre:List α),l=pre++r->cS step fin pre.length r (pre.map g)=fin (l.length:Int) (l.map g)
 |[],pre,e=>by
  rw[List.append_nil] at e
  subst e
  rfl
 |z::r,pre,e=>by
  rw[mI,h pre.length z (pre.map g) (by simp) (by rw[e];simp),Option.bind_some]
  have:=Yk (fin:=fin) h r (pre++[z]) (by rw[e];simp)
  rw[show(pre++[z]).length=pre.length+1 by simp,List.map_append] at this
  exact this
def FZ (b:ao):ao:=⟨b.aa,b.bg.take 6⟩
def jq (s:aM):aM:=⟨⟨s.ar.aJ,s.ar.ab.take 18⟩,s.aI.take 66,⟨s.ay.ab.take 18,s.ay.aN⟩,⟨s.aq.aB.take 18,(s.aq.ax.take 18).map FZ⟩⟩
theorem tF {α:Type} (l:List α) (n:Nat):(l.take n).length<=n:=by rw[List.length_take];omega
theorem v9 (s:aM):yg aj s=some (jq s):=by
 show(Dg aj s).val=_
 unfold Dg jq
 simp only[T.bB,T.cM,T.bo]
 rw[uk s.ar.ab 18 18 rfl,Option.bind_some,qx (n:=18) (by simpa using tF _ 18) (by omega),Option.bind_some]
 rw[uk s.aI 66 66 rfl,Option.bind_some,qx (n:=66) (by simpa using tF _ 66) (by omega),Option.bind_some]
 rw[uk s.ay.ab 18 18 rfl,Option.bind_some,qx (n:=18) (by simpa using tF _ 18) (by omega),Option.bind_some]
 rw[uk s.aq.aB 18 18 rfl,Option.bind_some,qx (n:=18) (by simpa using tF _ 18) (by omega),Option.bind_some]
 rw[uk s.aq.ax 18 18 rfl,Option.bind_some]
 simp only[List.nil_append]
 have hl: ∀(p1:List Int) (p2:Int) (p4:List ae) (p5:List ai) (p6:List az) (p7:List aA),B0 aj (s.aq.ax.take 18) p1 p2 s.aq.ax p4 p5 p6 p7 []=some (false,((s.aq.ax.take 18).length:Int),(s.aq.ax.take 18).map FZ):=by
  intro p1 p2 p4 p5 p6 p7
  have:=Yk (step:=λi z a=>(xy aj (s.aq.ax.take 18) p1 p2 s.aq.ax p4 p5 p6 p7 i z a).val) (fin:=λi a=>(Bu aj (s.aq.ax.take 18) p1 p2 s.aq.ax p4 p5 p6 p7 i a).val) (g:=FZ) (l:=s.aq.ax.take 18) (λi z a ha hz=>by
   have aH:=(List.getElem?_eq_some_iff.1 hz).1
   have h18:=tF s.aq.ax 18
   show(xy aj (s.aq.ax.take 18) p1 p2 s.aq.ax p4 p5 p6 p7 i z a).val=_
   unfold xy
   simp only[T.bB,T.bo]
   rw[uk z.bg 6 6 rfl,Option.bind_some,qx (n:=6) (by simpa using tF _ 6) (by omega),Option.bind_some,qx (n:=18) (by simp;omega) (by omega),Option.bind_some]
   rfl) (s.aq.ax.take 18) [] rfl
  have h2:B0 aj (s.aq.ax.take 18) p1 p2 s.aq.ax p4 p5 p6 p7 []=_:=this
  rw[h2]
  unfold Bu
  simp
 rw[hl]
 rfl
def rowsOf (s:aM):List Int:=[(s.aq.aB.length:Int),(s.ay.ab.length:Int),(s.ar.ab.length:Int),(s.aI.length:Int),s.aq.ax.foldl (λa z=>IntKind.i64.wrap (a+(z.bg.length:Int))) 0]
theorem v15 {s:aM} {e:Int} (he:kO aj s=some e):DP aj s=some (bif e !=0 then[0,0,0,0,0] else rowsOf s):=by
 show(CC aj s).val=_
 unfold CC rowsOf
 simp only[T.bB,T.cM,T.bo,T.bn,he,Option.bind_some]
 have h:It aj s.aq.ax s.ar.aJ s.ar.ab s.aI s.ay.ab s.ay.aN s.aq.aB 0=_:=p_ (g:=λa (z:ao)=>IntKind.i64.wrap (a+(z.bg.length:Int))) (l:=s.aq.ax) (i:=0) (a:=0) (step:=λi z a=>(Jh aj s.aq.ax s.ar.aJ s.ar.ab s.aI s.ay.ab s.ay.aN s.aq.aB i z a).val) (fin:=λi a=>(Hb aj s.aq.ax s.ar.aJ s.ar.ab s.aI s.ay.ab s.ay.aN s.aq.aB i a).val) (λi z a _=>rfl)
 rw[h]
 cases e !=0<;>rfl
theorem vE (p:Int×Int) (r:List (Int×Int)) (j:Int):b5 (p::r) j=bif j==p.1 then some p.2 else b5 r j:=by
 unfold b5
 rw[List.find?_cons]
 cases j==p.1<;>rfl
theorem Zn (p:Int×Int) (r:List (Int×Int)) (k v:Int):cR (p::r) k v=bif k==p.1 then(k,v)::r else p::cR r k v:=by
 unfold cR
 rw[List.findIdx?_cons]
 cases k==p.1 with
 |true=>rfl
 |false=>
  simp only[cond_false,Bool.false_eq_true,if_false]
  cases List.findIdx? (λp=>k==p.1) r<;>rfl
theorem zN (k v j:Int): ∀m:List (Int×Int),b5 (cR m k v) j=if j=k then some v else b5 m j
 |[]=>by
  show b5 [(k,v)] j=_
  rw[vE]
  by_cases h:j=k
  ·simp[h]
  ·have e:(j==k)=false:=by simp[h]
   simp[h,e]
 |p::r=>by
  rw[Zn]
  cases hk:k==p.1 with
  |true=>
   have hk:=eq_of_beq hk
   simp only[cond_true]
   rw[vE,vE]
   by_cases h:j=k
   ·simp[h]
   ·have h2:(j==p.1)=false:=by rw[<-hk];simp[h]
    have e:(j==k)=false:=by simp[h]
    simp[h,h2,e]
  |false=>
   simp only[cond_false]
   rw[vE,vE,zN k v j r]
   by_cases h:j=k
   ·subst h
    rw[hk]
    simp
   ·simp[h]
theorem Wz {α:Type} (c:α->Bool) (key:α->Int) (j:Int): ∀(l:List α) (m:List (Int×Int)),b5 (l.foldl (λa z=>bif c z then cR a (key z) 1 else a) m) j=if l.any (λz=>c z&&(key z==j)) then some 1 else b5 m j
 |[],m=>by simp
 |z::l,m=>by
  rw[List.foldl_cons,Wz c key j l,List.any_cons]
  cases c z with
  |false=>simp
  |true=>
   simp only[cond_true,Bool.true_and,zN]
   by_cases h:j=key z
   ·subst h;simp
   ·have:(key z==j)=false:=by simp;exact λe=>h e.symm
    simp[h,this]
theorem WA {α:Type} (c:α->Bool) (key:α->Int) (j:Int) (l:List α):((b5 (l.foldl (λa z=>bif c z then cR a (key z) 1 else a) []) j).getD 0==1)=l.any (λz=>c z&&(key z==j)):=by
 rw[Wz]
 cases l.any (λz=>c z&&(key z==j))<;>rfl
theorem NR {l:List ae} (h: ∀i x,l[i]? =some x->lW l i x=true): ∀(j i:Nat) (x y:ae),i<j->l[i]? =some x->l[j]? =some y->ix x.aa<ix y.aa
 |0,i,x,y,dC,_,_=>by omega
 |j+1,i,x,y,dC,hx,hy=>by
  have U:=h (j+1) y hy
  have aH:=(List.getElem?_eq_some_iff.1 hy).1
  have hj:l[j]? =some l[j]:=List.getElem?_eq_getElem (by omega)
  unfold lW at U
  rw[show(j+1==0)=false from rfl,Bool.false_or,Nat.add_sub_cancel,hj] at U
  have U:ix l[j].aa<ix y.aa:=of_decide_eq_true U
  rcases Nat.lt_succ_iff_lt_or_eq.1 dC with h2|h2
  ·have:=NR h j i x l[j] h2 hx hj
   omega
  ·subst h2
   rw[hj] at hx
   cases hx
   exact U
theorem am1 {p:br} (h:allI (λi x=>mB p x&&lW p.ab i x) 0 p.ab=true) (pid:Int):cG p.ab pid=p.ab.any (λz=>!z.bC&&(z.aa==pid)):=by
 have ho: ∀i x,p.ab[i]? =some x->lW p.ab i x=true:=λi x hx=>by
  have:=qw.1 h i x hx
  rw[Nat.zero_add,Bool.and_eq_true] at this
  exact this.2
 unfold cG jm
 cases hf:p.ab.find? (λz=>z.aa==pid) with
 |none=>
  symm
  rw[List.any_eq_false]
  intro z hz
  have:=List.find?_eq_none.1 hf z hz
  simp only[Bool.and_eq_true,not_and]
  exact λ_=>this
 |some z0=>
  have Vp:=List.mem_of_find?_eq_some hf
  have kj:(z0.aa==pid)=true:=List.find?_some (p:=λz:ae=>z.aa==pid) hf
  rw[Bool.eq_iff_iff,List.any_eq_true]
  constructor
  ·intro hd
   have hd:(!z0.bC)=true:=hd
   exact⟨z0,Vp,by rw[hd,kj];rfl⟩
  ·rintro ⟨z,hz,hc⟩
   rw[Bool.and_eq_true] at hc
   obtain⟨i,hi⟩:=List.getElem?_of_mem hz
   obtain⟨j,hj⟩:=List.getElem?_of_mem Vp
   have e:z.aa=z0.aa:=(eq_of_beq hc.2).trans (eq_of_beq kj).symm
   rcases Nat.lt_trichotomy i j with U|U|U
   ·have:=NR ho j i z z0 U hi hj
    rw[e] at this;omega
   ·subst U
    rw[hi] at hj
    cases hj
    exact hc.1
   ·have:=NR ho i j z0 z U hj hi
    rw[e] at this;omega
def FV {A B C D:Type}:(A×Bool×B) ⊕ (C×Bool×D)->Bool
 | .inl y=>y.2.1
 | .inr y=>y.2.1
theorem Gn {α X:Type} {step:Int->α->Bool->Option (Bool ⊕ X)} {fin:Int->Bool->Option X} {out:X->Bool} {q:α->Bool} (hF: ∀i a,∃x,fin i a=some x/\out x=a):
  ∀ {l:List α} {i:Nat},(∀i z a,z∈l->(q z=true/\step i z a=some (.inl true))\/(q z=false/\ ∃x,step i z a=some (.inr x)/\out x=false))-> ∃x,cS step fin i l true=some x/\out x=l.all q
 |[],i,_=>by
  obtain⟨x,U,h2⟩:=hF i true
  exact⟨x,U,h2⟩
 |z::l,i,h=>by
  rw[mI,List.all_cons]
  rcases h i z true List.mem_cons_self with⟨U,h2⟩|⟨U,x,h2,h3⟩
  ·rw[U,h2,Option.bind_some]
   obtain⟨x,h4,h5⟩:=Gn hF (l:=l) (i:=i+1) λi z a hz=>h i z a (List.mem_cons_of_mem _ hz)
   exact⟨x,h4,by simpa using h5⟩
  ·rw[U,h2,Option.bind_some]
   exact⟨x,rfl,by simpa using h3⟩
def Aj (s:aM):Bool:=(s.aI.all λd=>cG s.ar.ab d.aa&&s.ay.ab.any λm=>m.aZ==d.cK)&&((s.aq.aB.all λn=>cG s.ar.ab n.aa)&&s.aq.ax.all λb=>cG s.ar.ab b.aa)
structure Hz (s:aM):Prop where
 p:Hy s.ar
 d:s.aI.length<=maxLen
 i:QS s.aq
theorem S50 (l:List ai) (M1 M2:List (Int×Int)) (i:Int) (z:ai) (a:Bool):(tZ aj l M1 M2 i z a).val=bif ((b5 M1 z.aa).getD 0==1) then(bif !((b5 M2 z.cK).getD 0==1) then some (.inr (.inl (!((b5 M2 z.cK).getD 0==1),((b5 M2 z.cK).getD 0==1),z.aa,z.bL,z.cK,z,decide (i<l.length),a,i))) else some (.inl ((b5 M2 z.cK).getD 0==1))) else some (.inr (.inl (true,false,z.aa,z.bL,z.cK,z,decide (i<l.length),a,i))):=by
 unfold tZ
 cases b5 M1 z.aa<;>cases b5 M2 z.cK<;>rfl
theorem S52 (l:List aA) (M1:List (Int×Int)) (i:Int) (z:aA) (a:Bool):(t_ aj l M1 i z a).val=bif !((b5 M1 z.aa).getD 0==1) then some (.inr (.inl (!((b5 M1 z.aa).getD 0==1),((b5 M1 z.aa).getD 0==1),z.bl,z.aa,z,decide (i<l.length),a,i))) else some (.inl ((b5 M1 z.aa).getD 0==1)):=by
 unfold t_
 cases b5 M1 z.aa<;>rfl
theorem S54 (l:List ao) (M1:List (Int×Int)) (i:Int) (z:ao) (a:Bool):(ua aj l M1 i z a).val=bif !((b5 M1 z.aa).getD 0==1) then some (.inr (.inl (!((b5 M1 z.aa).getD 0==1),((b5 M1 z.aa).getD 0==1),z.aa,z.bg,z,decide (i<l.length),a,i))) else some (.inl ((b5 M1 z.aa).getD 0==1)):=by
 unfold ua
 cases b5 M1 z.aa<;>rfl
theorem v11 {s:aM} (h:Hz s) {m:Bool} (hm:yd aj s.ay=some (bif m then 0 else 340)):kO aj s=some (bif ow s.ar&&(tq s.aI&&(m&&(tt s.aq&&Aj s))) then 0 else 360):=by
 show(Cx aj s).val=_
 unfold Cx
 simp only[T.bB,T.bn,T.bo,T.cM,v46 h.p,ZX h.d,hm,v49 h.i,Option.bind_some]
 cases hp:ow s.ar
 ·rfl
 cases tq s.aI
 ·rfl
 cases m
 ·rfl
 cases tt s.aq
 ·rfl
 have gu:allI (λi x=>mB s.ar x&&lW s.ar.ab i x) 0 s.ar.ab=true:=by
  unfold ow at hp
  rw[Bool.and_eq_true,Bool.and_eq_true] at hp
  exact hp.2.1
 have hr:=am1 gu
 simp only[cond_true,cond_false,Bool.true_and,show((0:Int) !=0)=false from rfl]
 obtain⟨M1,T_⟩: ∃M,M=s.ar.ab.foldl (λa z=>bif !z.bC then cR a z.aa 1 else a) []:=⟨_,rfl⟩
 obtain⟨M2,T'⟩: ∃M,M=s.ay.ab.foldl (λa z=>bif (λ_:az=>true) z then cR a z.aZ 1 else a) []:=⟨_,rfl⟩
 have U:BT aj s.ar.ab s.ar.aJ s.aI s.ay.ab s.ay.aN s.aq.aB s.aq.ax []=some (false,(s.ar.ab.length:Int),M1):=by
  have:=p_ (g:=λa (z:ae)=>bif !z.bC then cR a z.aa 1 else a) (l:=s.ar.ab) (i:=0) (a:=[]) (step:=λi z a=>(xg aj s.ar.ab s.ar.aJ s.aI s.ay.ab s.ay.aN s.aq.aB s.aq.ax i z a).val) (fin:=λi a=>(A8 aj s.ar.ab s.ar.aJ s.aI s.ay.ab s.ay.aN s.aq.aB s.aq.ax i a).val) (λi z a _=>by
   show(xg aj s.ar.ab s.ar.aJ s.aI s.ay.ab s.ay.aN s.aq.aB s.aq.ax i z a).val=_
   unfold xg
   cases z.bC<;>rfl)
  have h2:BT aj s.ar.ab s.ar.aJ s.aI s.ay.ab s.ay.aN s.aq.aB s.aq.ax []=_:=this
  rw[h2,T_]
  unfold A8
  simp
 have h2:BS aj s.ay.ab s.ar.aJ s.ar.ab s.aI s.ay.aN s.aq.aB s.aq.ax M1 []=some (false,(s.ay.ab.length:Int),M2):=by
  have:=p_ (g:=λa (z:az)=>bif (λ_:az=>true) z then cR a z.aZ 1 else a) (l:=s.ay.ab) (i:=0) (a:=[]) (step:=λi z a=>(Je aj s.ay.ab s.ar.aJ s.ar.ab s.aI s.ay.aN s.aq.aB s.aq.ax M1 i z a).val) (fin:=λi a=>(A7 aj s.ay.ab s.ar.aJ s.ar.ab s.aI s.ay.aN s.aq.aB s.aq.ax M1 i a).val) (λi z a _=>rfl)
  have h2:BS aj s.ay.ab s.ar.aJ s.ar.ab s.aI s.ay.aN s.aq.aB s.aq.ax M1 []=_:=this
  rw[h2,T']
  unfold A7
  simp
 have a_: ∀pid,((b5 M1 pid).getD 0==1)=cG s.ar.ab pid:=λpid=>by rw[T_,WA (λz:ae=>!z.bC) (λz=>z.aa),hr pid]
 have hmt: ∀id,((b5 M2 id).getD 0==1)=s.ay.ab.any λm=>m.aZ==id:=λid=>by rw[T',WA (λ_:az=>true) (λz=>z.aZ)];simp
 obtain⟨x6,h6,o6⟩:=Gn (out:=FV) (q:=λd:ai=>cG s.ar.ab d.aa&&s.ay.ab.any λm=>m.aZ==d.cK) (step:=λi z a=>(tZ aj s.aI M1 M2 i z a).val) (fin:=λi a=>(He aj s.aI M1 M2 i a).val) (λi a=>⟨_,rfl,rfl⟩) (l:=s.aI) (i:=0) (λi z a _=>by
  show _/\(tZ aj s.aI M1 M2 i z a).val=_\/_
  rw[S50,a_,hmt]
  cases cG s.ar.ab z.aa with
  |false=>exact .inr ⟨rfl,_,rfl,rfl⟩
  |true=>
   cases (s.ay.ab.any λm=>m.aZ==z.cK) with
   |false=>exact .inr ⟨rfl,_,rfl,rfl⟩
   |true=>exact .inl ⟨rfl,rfl⟩)
 obtain⟨x7,h7,o7⟩:=Gn (out:=FV) (q:=λd:aA=>cG s.ar.ab d.aa) (step:=λi z a=>(t_ aj s.aq.aB M1 i z a).val) (fin:=λi a=>(Hf aj s.aq.aB M1 i a).val) (λi a=>⟨_,rfl,rfl⟩) (l:=s.aq.aB) (i:=0) (λi z a _=>by
  show _/\(t_ aj s.aq.aB M1 i z a).val=_\/_
  rw[S52,a_]
  cases cG s.ar.ab z.aa with
  |false=>exact .inr ⟨rfl,_,rfl,rfl⟩
  |true=>exact .inl ⟨rfl,rfl⟩)
 obtain⟨x8,h8,o8⟩:=Gn (out:=FV) (q:=λd:ao=>cG s.ar.ab d.aa) (step:=λi z a=>(ua aj s.aq.ax M1 i z a).val) (fin:=λi a=>(Hg aj s.aq.ax M1 i a).val) (λi a=>⟨_,rfl,rfl⟩) (l:=s.aq.ax) (i:=0) (λi z a _=>by
  show _/\(ua aj s.aq.ax M1 i z a).val=_\/_
  rw[S54,a_]
  cases cG s.ar.ab z.aa with
  |false=>exact .inr ⟨rfl,_,rfl,rfl⟩
  |true=>exact .inl ⟨rfl,rfl⟩)
 have h6:IU aj s.aI M1 M2 true=some x6:=h6
 have h7:BX aj s.aq.aB M1 true=some x7:=h7
 have h8:tU aj s.aq.ax M1 true=some x8:=h8
 unfold Aj
 rw[U]
 simp only[Option.bind_some]
 rw[h2]
 simp only[Option.bind_some]
 rw[h6,h7,h8,<-o6,<-o7,<-o8]
 simp only[Option.bind_some]
 rcases x6 with y6|y6<;>rcases x7 with y7|y7<;>rcases x8 with y8|y8<;>simp only[T.eP,T.bB,T.cM,T.bn,T.bo,FV,Option.bind_some]<;>cases y6.2.1<;>cases y7.2.1<;>cases y8.2.1<;>rfl
def I_ (w:Int) (b:Bool):Prop:=Ti aj w=some b/\yi aj w=some (bif b then 0 else 310)
structure Hx (P:Int->Bool) (m:bG):Prop where
 path: ∀z∈m.ab,I_ z.bp (P z.bp)
 len:m.ab.length<=maxLen
def zV (P:Int->Bool) (next:Int) (z:az):Bool:=P z.bp&&(decide (1<=z.aZ)&&decide (z.aZ<next))
def vJ (l:List az) (i:Nat) (z:az):Bool:=!(l.take i).any λy=>y.bp==z.bp
def FH (P:Int->Bool) (next:Int) (l:List az):Bool:=allI (λi z=>(zV P next z&&jI (λy z=>decide (y.aZ<z.aZ)) l i z)&&vJ l i z) 0 l
def Al (P:Int->Bool) (m:bG):Bool:=FH P m.aN m.ab&&(decide (m.ab.length<=16)&&(decide (m.aN>=1)&&decide (m.aN<=1073741825)))
theorem aeZ {α:Type} {l:List α} {i:Nat} (h:i<=l.length):gF l none (some (i:Int)) none=some (l.take i):=by
 unfold gF
 simp only[Option.getD_none,Option.getD_some]
 rw[if_pos ⟨by omega,by omega,by omega,by omega,by omega,by simp⟩,Int.toNat_natCast]
 rfl
def tC (P:Int->Bool) (next:Int):Int->List az->Bool
 |_,[]=>true
 |a,z::r=>(P z.bp&&(decide (a<z.aZ)&&decide (z.aZ<next)))&&tC P next z.aZ r
theorem Zm {P:Int->Bool} {l0:List az} {next:Int}: ∀(l:List az) (i:Nat) (a:Int),(∀z∈l,I_ z.bp (P z.bp))->(tC P next a l=true/\ ∃b,cS (λi z a=>(qq aj l0 next i z a).val) (λi a=>(Bl aj l0 next i a).val) i l a=some (.inr b))\/(tC P next a l=false/\cS (λi z a=>(qq aj l0 next i z a).val) (λi a=>(Bl aj l0 next i a).val) i l a=some (.inl ()))
 |[],i,a,_=> .inl ⟨rfl,_,rfl⟩
 |z::l,i,a,h=>by
  have hs:(qq aj l0 next i z a).val=bif P z.bp&&(decide (a<z.aZ)&&decide (z.aZ<next)) then some (.inl z.aZ) else some (.inr (.inl ())):=by
   unfold qq
   simp only[T.bB,T.bn,T.bo,(h z List.mem_cons_self).2,Option.bind_some]
   have e1:decide (z.aZ<=a)=!decide (a<z.aZ):=by rw[Bool.eq_iff_iff];simp
   have e2:decide (z.aZ>=next)=!decide (z.aZ<next):=by rw[Bool.eq_iff_iff];simp
   rw[e1,e2]
   cases P z.bp<;>cases decide (a<z.aZ)<;>cases decide (z.aZ<next)<;>rfl
  rw[mI]
  show _/\(∃b,((qq aj l0 next i z a).val.bind _)=_)\/_/\((qq aj l0 next i z a).val.bind _)=_
  rw[hs]
  unfold tC
  cases P z.bp&&(decide (a<z.aZ)&&decide (z.aZ<next)) with
  |false=>exact .inr ⟨rfl,rfl⟩
  |true=>
   simp only[cond_true,Option.bind_some,Bool.true_and]
   exact Zm l (i+1) z.aZ λy hy=>h y (List.mem_cons_of_mem _ hy)
theorem Zl {P:Int->Bool} {next:Int} {l0:List az}: ∀(r pre:List az) (a:Int),l0=pre++r->(pre=[]->a=0)->(∀y,pre.getLast? =some y->a=y.aZ/\1<=y.aZ)->tC P next a r=allI (λi z=>zV P next z&&jI (λy z=>decide (y.aZ<z.aZ)) l0 i z) pre.length r
 |[],_,_,_,_,_=>rfl
 |z::r,pre,a,e,h0,U=>by
  unfold tC allI zV
  have hq:(P z.bp&&(decide (a<z.aZ)&&decide (z.aZ<next)))=((P z.bp&&(decide (1<=z.aZ)&&decide (z.aZ<next)))&&jI (λy z=>decide (y.aZ<z.aZ)) l0 pre.length z):=by
   unfold jI
   rcases List.eq_nil_or_concat pre with hp|⟨p,y,hp⟩
   ·subst hp
    rw[h0 rfl]
    have:decide ((0:Int)<z.aZ)=decide (1<=z.aZ):=by rw[Bool.eq_iff_iff];simp;omega
    rw[this]
    simp
   ·subst hp
    obtain⟨e1,e2⟩:=U y (by simp)
    have hg:l0[(p++[y]).length-1]? =some y:=by rw[e];simp
    have aU:((p++[y]).length==0)=false:=by simp
    have:decide (a<z.aZ)=(decide (1<=z.aZ)&&decide (y.aZ<z.aZ)):=by rw[Bool.eq_iff_iff];simp;omega
    simp only[List.concat_eq_append] at*
    rw[hg,aU,this]
    simp only[Bool.false_or]
    cases P z.bp<;>cases decide (1<=z.aZ)<;>cases decide (y.aZ<z.aZ)<;>cases decide (z.aZ<next)<;>rfl
  rw[hq]
  cases hc:(P z.bp&&(decide (1<=z.aZ)&&decide (z.aZ<next)))&&jI (λy z=>decide (y.aZ<z.aZ)) l0 pre.length z with
  |false=>rfl
  |true=>
   have sD:1<=z.aZ:=by
    simp only[Bool.and_eq_true,decide_eq_true_eq] at hc
    exact hc.1.2.1
   have:=Zl (P:=P) (next:=next) (l0:=l0) r (pre++[z]) z.aZ (by rw[e];simp) (λh=>by simp at h) (λy hy=>by simp at hy;subst hy;exact⟨rfl,sD⟩)
   rw[show(pre++[z]).length=pre.length+1 by simp] at this
   rw[this]
   rfl
def mapM:List (Int×Int)->List az->List (Int×Int)
 |m,[]=>m
 |m,z::r=>mapM (cR m z.bp z.aZ) r
def lD:List (Int×Int)->List az->Bool
 |_,[]=>true
 |m,z::r=>!(b5 m z.bp).isSome&&lD (cR m z.bp z.aZ) r
theorem Wx (k v:Int): ∀m:List (Int×Int),(cR m k v).length=if(b5 m k).isSome then m.length else m.length+1
 |[]=>rfl
 |p::r=>by
  rw[Zn,vE]
  cases k==p.1 with
  |true=>simp
  |false=>
   simp only[cond_false,List.length_cons,Wx k v r]
   split<;>rfl
theorem WJ: ∀(l:List az) (m:List (Int×Int)),(mapM m l).length<=m.length+l.length/\(lD m l=true->(mapM m l).length=m.length+l.length)/\(lD m l=false->(mapM m l).length<m.length+l.length)
 |[],m=>by simp[mapM,lD]
 |z::r,m=>by
  obtain⟨U,h2,h3⟩:=WJ r (cR m z.bp z.aZ)
  have hl:=Wx z.bp z.aZ m
  simp only[mapM,lD,List.length_cons]
  cases hs:(b5 m z.bp).isSome with
  |true=>
   rw[hs,if_pos rfl] at hl
   simp only[Bool.not_true,Bool.false_and]
   refine⟨by omega,λh=>(by cases h),λ_=>by omega⟩
  |false=>
   rw[hs,if_neg (by simp)] at hl
   simp only[Bool.not_false,Bool.true_and]
   exact⟨by omega,λh=>by have:=h2 h;omega,λh=>by have:=h3 h;omega⟩
theorem WK (j:Int): ∀(l:List az) (m:List (Int×Int)),(b5 (mapM m l) j).isSome=(l.any (λy=>y.bp==j)||(b5 m j).isSome)
 |[],m=>by simp[mapM]
 |z::r,m=>by
  simp only[mapM,List.any_cons]
  rw[WK j r,zN]
  by_cases h:j=z.bp
  ·subst h;simp
  ·have:(z.bp==j)=false:=by simp;exact λe=>h e.symm
   simp[h,this]
theorem WI: ∀(l r:List az) (m:List (Int×Int)),mapM m (l++r)=mapM (mapM m l) r
 |[],r,m=>rfl
 |z::l,r,m=>WI l r _
theorem TC {l0:List az}: ∀(r pre:List az),l0=pre++r->lD (mapM [] pre) r=allI (λi z=>vJ l0 i z) pre.length r
 |[],_,_=>rfl
 |z::r,pre,e=>by
  unfold lD allI vJ
  rw[WK]
  have ht:l0.take pre.length=pre:=by rw[e];simp
  have hn:(b5 ([]:List (Int×Int)) z.bp).isSome=false:=rfl
  rw[ht,hn,Bool.or_false]
  have:=TC (l0:=l0) r (pre++[z]) (by rw[e];simp)
  rw[show(pre++[z]).length=pre.length+1 by simp,WI] at this
  have this:lD (cR (mapM [] pre) z.bp z.aZ) r=_:=this
  rw[this]
  rfl
theorem RW {α:Type} {p q:Nat->α->Bool}: ∀ {l:List α} {i:Nat},allI (λi z=>p i z&&q i z) i l=(allI p i l&&allI q i l)
 |[],_=>rfl
 |z::l,i=>by
  simp only[allI]
  rw[RW]
  cases p i z<;>cases q i z<;>cases allI p (i+1) l<;>simp
theorem ajT {P:Int->Bool} {next:Int} {l:List az}:FH P next l=(tC P next 0 l&&lD [] l):=by
 unfold FH
 rw[RW,Zl (l0:=l) l [] 0 rfl (λ_=>rfl) (λy hy=>by simp at hy)]
 have:=TC (l0:=l) l [] rfl
 have this:lD [] l=_:=this
 rw[this]
 rfl
theorem fold_map: ∀(l:List az) (m:List (Int×Int)),l.foldl (λa z=>cR a z.bp z.aZ) m=mapM m l
 |[],_=>rfl
 |z::r,m=>fold_map r _
theorem Po {P:Int->Bool} {m:bG} (h:Hx P m):yd aj m=some (bif Al P m then 0 else 340):=by
 show(C4 aj m).val=_
 unfold C4 Al
 rw[ajT]
 simp only[T.cM,T.bB,T.eP,T.bn,T.bo]
 have h2:BZ aj m.ab []=some (false,(m.ab.length:Int),mapM [] m.ab):=by
  have:=p_ (g:=λa (z:az)=>cR a z.bp z.aZ) (l:=m.ab) (i:=0) (a:=[]) (step:=λi z a=>(Jj aj m.ab i z a).val) (fin:=λi a=>(Bt aj m.ab i a).val) (λi z a _=>rfl)
  have h2:BZ aj m.ab []=_:=this
  rw[h2,fold_map]
  unfold Bt
  simp
 obtain⟨q1,q2,q3⟩:=WJ m.ab []
 have bR:decide (((mapM [] m.ab).length:Int)<(m.ab.length:Int))=!lD [] m.ab:=by
  cases hf:lD [] m.ab with
  |true=>have:=q2 hf;simp at this;exact decide_eq_false (by omega)
  |false=>have:=q3 hf;simp at this;exact decide_eq_true (by omega)
 have e1:decide ((m.ab.length:Int)>16)=!decide (m.ab.length<=16):=by
  by_cases h:m.ab.length<=16
  ·rw[decide_eq_true h,decide_eq_false (by omega)];rfl
  ·rw[decide_eq_false h,decide_eq_true (by omega)];rfl
 have e2:decide (m.aN<1)=!decide (m.aN>=1):=by rw[Bool.eq_iff_iff];simp
 have e3:decide (m.aN>1073741825)=!decide (m.aN<=1073741825):=by rw[Bool.eq_iff_iff];simp
 rcases Zm (P:=P) (l0:=m.ab) (next:=m.aN) m.ab 0 0 h.path with⟨h3,b,h4⟩|⟨h3,h4⟩
 ·have h4:BW aj m.ab m.aN 0=some (.inr b):=h4
  rw[h4,h3,h2]
  simp only[Option.bind_some,Bool.true_and]
  rw[bR,e1,e2,e3]
  cases lD [] m.ab<;>cases decide (m.ab.length<=16)<;>cases decide (m.aN>=1)<;>cases decide (m.aN<=1073741825)<;>rfl
 ·have h4:BW aj m.ab m.aN 0=some (.inl ()):=h4
  rw[h4,h3]
  rfl
def eZ (l:List Nat):Bool:=l.all iG&&!l.isEmpty
theorem abY {l:List Nat} (h: ∀x∈l,x<256) (hl:l.length<=100) {pos:Nat} (hp:pos<l.length):(xm aj (bs l) (l.length:Int) (pos:Int)).val=bif iG l[pos] then some (.inl ((pos+1:Nat):Int)) else some (.inr (.inl ())):=by
 have hs:=OV h (List.getElem?_eq_getElem hp)
 have hw:IntKind.i64.wrap ((pos:Int)+1)=((pos+1:Nat):Int):=by rw[ez (by omega) (by omega)];omega
 unfold xm
 simp only[T.bn,T.bo,T.bB]
 rw[decide_eq_true (by omega:(pos:Int)<(l.length:Int)),hs,hw,JK]
 simp only[cond_true,Option.bind_some]
 cases decide ((l[pos]:Int)>=97)<;>cases decide ((l[pos]:Int)<=122)<;>cases decide ((l[pos]:Int)>=48)<;>cases decide ((l[pos]:Int)<=57)<;>rfl
theorem ZP {l:List Nat} (h: ∀x∈l,x<256) (hl:l.length<=100): ∀(k f pos:Nat),pos+k=l.length->dH (λa=>(xm aj (bs l) (l.length:Int) a).val) (k+1+f) (pos:Int)=some (bif (l.drop pos).all iG then .inr (false,(l.length:Int)) else .inl ())
 |0,f,pos,e=>by
  obtain rfl:pos=l.length:=by omega
  rw[show 0+1+f=f+1 by omega,fv]
  unfold xm
  simp
 |k+1,f,pos,e=>by
  have hp:pos<l.length:=by omega
  rw[show k+1+1+f=(k+1+f)+1 by omega,fv,abY h hl hp,List.drop_eq_getElem_cons hp,List.all_cons]
  cases iG l[pos] with
  |false=>rfl
  |true=>
   simp only[cond_true,Option.bind_some,Bool.true_and]
   exact ZP h hl k f (pos+1) (by omega)
theorem v171 {l:List Nat} (h: ∀x∈l,x<256) (hl:l.length<=100):Ta aj (bs l)=some (eZ l):=by
 show(Jn aj (bs l)).val=_
 unfold Jn eZ
 simp only[T.cM,T.bB,T.eP,T.bo]
 have:=ZP h hl l.length (999999-l.length) 0 (by omega)
 rw[show l.length+1+(999999-l.length)=1000000 by omega,List.drop_zero] at this
 have hL:Rl aj (bs l) (l.length:Int) 0=some (bif l.all iG then .inr (false,(l.length:Int)) else .inl ()):=this
 rw[fH,hL]
 cases l.all iG with
 |false=>rfl
 |true=>
  cases l with
  |nil=>rfl
  |cons x r=>
   have:decide (((x::r).length:Int)>0)=true:=decide_eq_true (by simp)
   simp only[cond_true,Option.bind_some,this]
   rfl
theorem abZ {s:ByteArray} {pos:Nat} (hp:pos<s.size):(tW aj s pos).val=bif iG (Utf8.decode s pos).1 then some (.inl (pos+(Utf8.decode s pos).2)) else some (.inr (.inl ())):=by
 unfold tW
 simp only[T.bn,T.bo]
 rw[decide_eq_true hp,JK]
 cases decide (((Utf8.decode s pos).1:Int)>=97)<;>cases decide (((Utf8.decode s pos).1:Int)<=122)<;>cases decide (((Utf8.decode s pos).1:Int)>=48)<;>cases decide (((Utf8.decode s pos).1:Int)<=57)<;>rfl
theorem ZQ {l:List Nat} (h: ∀x∈l,x<256): ∀(k f pos:Nat),pos+k=l.length->dH (λa=>(tW aj (bs l) a).val) (k+1+f) pos=some (bif (l.drop pos).all iG then .inr l.length else .inl ())
 |0,f,pos,e=>by
  obtain rfl:pos=l.length:=by omega
  rw[show 0+1+f=f+1 by omega,fv]
  unfold tW
  simp[fH]
 |k+1,f,pos,e=>by
  have hp:pos<l.length:=by omega
  have hg:=TG h (List.getElem?_eq_getElem hp)
  rw[show k+1+1+f=(k+1+f)+1 by omega,fv,abZ (by rw[fH];exact hp),List.drop_eq_getElem_cons hp,List.all_cons]
  by_cases hb:((bs l).get! pos).toNat<128
  ·rw[JZ hb,hg]
   cases iG l[pos] with
   |false=>rfl
   |true=>
    simp only[cond_true,Option.bind_some,Bool.true_and]
    exact ZQ h k f (pos+1) (by omega)
  ·have h4:=Dy (c:=l[pos]) (by rw[<-hg];omega)
   rw[Dy (decode_high hb),h4]
   rfl
theorem v175 {l:List Nat} (h: ∀x∈l,x<256) (hl:l.length<=100):xY aj (bs l)=some (eZ l):=by
 show(CE aj (bs l)).val=_
 unfold CE eZ
 simp only[T.cM,T.bB,T.eP,T.bo]
 have:=ZQ h l.length (999999-l.length) 0 (by omega)
 rw[show l.length+1+(999999-l.length)=1000000 by omega,List.drop_zero] at this
 have hL:Iu aj (bs l) 0=some (bif l.all iG then .inr l.length else .inl ()):=this
 rw[hL]
 cases l.all iG with
 |false=>rfl
 |true=>
  simp only[cond_true,Option.bind_some,Bool.true_and]
  rw[J3]
def eO (acc:List (List Nat)) (x:Nat):List (List Nat):=if x=47 then acc++[[]] else match acc[acc.length-1]? with|some y=>acc.set (acc.length-1) (y++[x])|none=>acc
theorem ae1 {l:List Nat} {i:Nat} (hi:i<l.length) (hl:l.length<=100):gr (bs l) (some (i:Int)) (some (IntKind.i64.wrap ((i:Int)+1)))=some (bs [l[i]]):=by
 rw[ez (by omega) (by omega)]
 unfold gr
 simp only[Option.getD_some]
 rw[if_pos ⟨by omega,by omega,by rw[fH];omega⟩]
 congr 1
 apply ByteArray.ext
 rw[ByteArray.data_extract,Int.toNat_natCast,show((i:Int)+1).toNat=i+1 by omega]
 unfold bs
 apply Array.ext'
 rw[Array.toList_extract]
 simp[List.extract,List.drop_eq_getElem_cons hi]
 rw[List.drop_eq_getElem_cons (by simpa using hi)]
 simp
theorem abX {l:List Nat} (h: ∀x∈l,x<256) (hl:l.length<=100) {i:Nat} (hi:i<l.length) {acc:List (List Nat)} (ha:acc.length<=i) (hy: ∀y∈acc,y.length<=i):(xl aj (bs l) (l.length:Int) ((i:Int),acc.map bs)).val=some (.inl (((i+1:Nat):Int),(eO acc l[i]).map bs)):=by
 have hs:=OV h (List.getElem?_eq_getElem hi)
 have hw:IntKind.i64.wrap ((i:Int)+1)=((i+1:Nat):Int):=by rw[ez (by omega) (by omega)];omega
 have hc:=ae1 hi hl
 unfold xl eO
 simp only[T.bn,T.bo,T.bB]
 rw[decide_eq_true (by omega:(i:Int)<(l.length:Int)),hs,hc,hw]
 simp only[cond_true,Option.bind_some]
 by_cases pa:l[i]=47
 ·have e:((l[i]:Int)==47)=true:=by rw[pa];rfl
  rw[e,if_pos pa]
  simp only[cond_true]
  rw[qx (n:=200) (by simp;omega) (by omega),Option.bind_some,List.map_append]
  rfl
 ·have e:((l[i]:Int)==47)=false:=by simp;omega
  rw[e,if_neg pa]
  simp only[cond_false]
  rcases List.eq_nil_or_concat acc with hp|⟨p,y,hp⟩
  ·subst hp
   rfl
  ·subst hp
   have hlen:(List.map bs (p.concat y)).length=p.length+1:=by simp
   have hd:decide (((List.map bs (p.concat y)).length:Int)>0)=true:=decide_eq_true (by rw[hlen];omega)
   have Mp:IntKind.i64.wrap (((List.map bs (p.concat y)).length:Int)-1)=(p.length:Int):=by
    rw[hlen,ez (by simp at ha;omega) (by simp at ha;omega)];omega
   have UK:(List.map bs (p.concat y))[p.length]? =some (bs y):=by simp
   have aiL:idx (List.map bs (p.concat y)) (p.length:Int)=some (bs y):=MB UK
   have Fk:=hy y (by simp)
   rw[hd,Mp,aiL]
   simp only[cond_true,Option.bind_some,Int.toNat_natCast]
   rw[UK]
   simp only[Option.bind_some]
   rw[Gv (by simp;omega)]
   simp only[Option.bind_some]
   have mi:(p.concat y)[(p.concat y).length-1]? =some y:=by simp
   rw[mi]
   simp only
   rw[show(p.concat y).length-1=p.length by simp,List.map_set]
theorem Zt {acc:List (List Nat)} {x i:Nat} (ha:acc.length<=i) (hy: ∀y∈acc,y.length<=i):(eO acc x).length<=i+1/\ ∀y∈eO acc x,y.length<=i+1:=by
 unfold eO
 split
 ·refine⟨by simp;omega,λy h=>?_⟩
  rcases List.mem_append.1 h with h|h
  ·have:=hy y h;omega
  ·have:y=[]:=by simpa using h
   subst this;simp
 ·split
  ·rename_i y hg
   refine⟨by simp;omega,λz h=>?_⟩
   rcases List.mem_or_eq_of_mem_set h with h|h
   ·have:=hy z h;omega
   ·subst h
    have:=hy y (List.mem_of_getElem? hg)
    simp;omega
  ·exact⟨by omega,λy h=>by have:=hy y h;omega⟩
theorem ZO {l:List Nat} (h: ∀x∈l,x<256) (hl:l.length<=100): ∀(k f pos:Nat) (acc:List (List Nat)),pos+k=l.length->acc.length<=pos->(∀y∈acc,y.length<=pos)->dH (λa=>(xl aj (bs l) (l.length:Int) a).val) (k+1+f) ((pos:Int),acc.map bs)=some (false,(l.length:Int),((l.drop pos).foldl eO acc).map bs)
 |0,f,pos,acc,e,_,_=>by
  obtain rfl:pos=l.length:=by omega
  rw[show 0+1+f=f+1 by omega,fv]
  unfold xl
  simp
 |k+1,f,pos,acc,e,ha,hy=>by
  have hp:pos<l.length:=by omega
  rw[show k+1+1+f=(k+1+f)+1 by omega,fv,abX h hl hp ha hy,Option.bind_some,List.drop_eq_getElem_cons hp,List.foldl_cons]
  obtain⟨U,h2⟩:=Zt (x:=l[pos]) ha hy
  exact ZO h hl k f (pos+1) _ (by omega) U h2
theorem aoL {l:List Nat} (h: ∀x∈l,x<256) (hl:l.length<=100):S_ aj (bs l)=some ((l.foldl eO []).map bs):=by
 show(Jm aj (bs l)).val=_
 unfold Jm
 simp only[T.cM,T.bB,T.bo]
 have:=ZO h hl l.length (999999-l.length) 0 [] (by omega) (by simp) (by simp)
 rw[show l.length+1+(999999-l.length)=1000000 by omega,List.drop_zero] at this
 have hL:Rk aj (bs l) (l.length:Int) 0 []=some (false,(l.length:Int),(l.foldl eO []).map bs):=this
 rw[fH,hL]
 rfl
theorem Tz: ∀(a:List Nat) (acc:List (List Nat)) (y:List Nat),(∀x∈a,x≠47)->a.foldl eO (acc++[y])=acc++[y++a]
 |[],acc,y,_=>by simp
 |x::a,acc,y,h=>by
  have hx:eO (acc++[y]) x=acc++[y++[x]]:=by
   unfold eO
   rw[if_neg (h x List.mem_cons_self)]
   simp
  rw[List.foldl_cons,hx,Tz a acc (y++[x]) λz hz=>h z (List.mem_cons_of_mem _ hz)]
  simp
def wd (t:List Nat):List Nat:=t.takeWhile λx=>x !=47
def rs (t:List Nat):List Nat:=t.dropWhile λx=>x !=47
theorem Z9: ∀(t:List Nat) (x:Nat),x∈wd t->x≠47
 |[],x,h=>by simp[wd] at h
 |z::t,x,h=>by
  unfold wd at h
  rw[List.takeWhile_cons] at h
  cases hz:z !=47 with
  |true=>
   rw[hz] at h
   rcases List.mem_cons.1 h with rfl|h
   ·simpa using hz
   ·exact Z9 t x h
  |false=>rw[hz] at h;simp at h
theorem Ee (t:List Nat) (acc:List (List Nat)):(47::t).foldl eO acc=(rs t).foldl eO (acc++[wd t]):=by
 rw[List.foldl_cons]
 have U:eO acc 47=acc++[[]]:=by unfold eO;rw[if_pos rfl]
 rw[U]
 conv=>lhs;rw[<-List.takeWhile_append_dropWhile (p:=λx=>x !=47) (l:=t)]
 rw[List.foldl_append]
 show List.foldl eO (List.foldl eO (acc++[[]]) (wd t)) (rs t)=_
 rw[Tz _ acc [] λx hx=>Z9 t x hx]
 rfl
theorem v_ (t:List Nat):rs t=[]\/ ∃u,rs t=47::u:=by
 unfold rs
 cases h:t.dropWhile λx=>x !=47 with
 |nil=>exact .inl rfl
 |cons x u=>
  right
  have:=List.head?_dropWhile_not (λx=>x !=47) t
  rw[h] at this
  simp at this
  exact⟨u,by rw[this]⟩
theorem Ed: ∀(k:Nat) (r:List Nat) (acc:List (List Nat)),r.length<=k->(r=[]\/ ∃t,r=47::t)->r.foldl eO acc=acc++r.foldl eO []
 |0,r,acc,hk,_=>by
  have:r=[]:=List.eq_nil_of_length_eq_zero (by omega)
  subst this;simp
 |k+1,r,acc,hk,hr=>by
  rcases hr with rfl|⟨t,rfl⟩
  ·simp
  ·have hl:(rs t).length<=k:=by
    have:(rs t).length<=t.length:=(List.dropWhile_sublist _).length_le
    simp at hk
    omega
   rw[Ee,Ee,Ed k (rs t) _ hl (v_ t),Ed k (rs t) ([]++[wd t]) hl (v_ t)]
   simp
theorem MC: ∀(t:List Nat),(∀x∈t,x<256)->Lib.indexByte (bs t).data.toList (Nat.toUInt8 47)=if rs t=[] then -1 else((wd t).length:Int)
 |[],_=>rfl
 |x::t,h=>by
  have ih:=MC t λz hz=>h z (List.mem_cons_of_mem _ hz)
  have hx:=h x List.mem_cons_self
  have e1:(bs (x::t)).data.toList=UInt8.ofNat x::(bs t).data.toList:=by simp[bs]
  rw[e1]
  unfold Lib.indexByte rs wd
  rw[List.dropWhile_cons,List.takeWhile_cons]
  by_cases pa:x=47
  ·subst pa
   rfl
  ·have e2:(UInt8.ofNat x==Nat.toUInt8 47)=false:=by
    rw[beq_eq_false_iff_ne]
    intro e
    have:=congrArg UInt8.toNat e
    simp at this
    omega
   have e3:(x !=47)=true:=by simp[pa]
   rw[e2,e3]
   simp only[Bool.false_eq_true,if_false,if_true]
   unfold rs wd at ih
   rw[ih]
   split
   ·rfl
   ·rename_i aU
    rw[if_neg (by simp)]
    simp
theorem Z_ (t:List Nat):wd t++rs t=t:=List.takeWhile_append_dropWhile
theorem ae0 {l:List Nat} {i j:Nat} (dC:i<=j) (hj:j<=l.length):(bs l).extract i j=bs ((l.take j).drop i):=by
 apply ByteArray.ext
 rw[ByteArray.data_extract]
 unfold bs
 apply Array.ext'
 rw[Array.toList_extract]
 simp[List.extract,List.map_drop,List.map_take,List.take_drop,show i+(j-i)=j by omega]
theorem nL {l:List Nat} {i j:Nat} (dC:i<=j) (hj:j<=l.length) {lo hi:Option Int} (U:lo.getD 0=(i:Int)) (h2:hi.getD ((bs l).size:Int)=(j:Int)):gr (bs l) lo hi=some (bs ((l.take j).drop i)):=by
 unfold gr
 rw[U,h2,if_pos ⟨by omega,by omega,by rw[fH];omega⟩,Int.toNat_natCast,Int.toNat_natCast,ae0 dC hj]
theorem ab0 {d t:List Nat} {w:Int} {acc:List (List Nat)} (hd:((bs d).toList==(ByteArray.mk #[47]).toList)=false) (h: ∀x∈t,x<256) (hl:t.length<=50) (ha:acc.length<=50):
  (kL aj (bs d) w (true,bs (47::t),acc.map bs)).val=bif eZ (wd t) then some (.inl (true,bs (rs t),(acc++[wd t]).map bs)) else some (.inr (.inl (false,bs (47::t),acc.map bs))):=by
 have vj:=Z_ t
 have hlen:(wd t).length+(rs t).length=t.length:=by rw[<-List.length_append,vj]
 have hw: ∀x∈wd t,x<256:=λx hx=>h x (by rw[<-vj];exact List.mem_append_left _ hx)
 have e1:decide (((bs (47::t)).size:Int)>=1)=true:=decide_eq_true (by rw[fH];simp;omega)
 have c1:gr (bs (47::t)) none (some 1)=some (bs [47]):=nL (i:=0) (j:=1) (by omega) (by simp) rfl rfl
 have c2:gr (bs (47::t)) (some 1) none=some (bs t):=by
  have:=nL (l:=47::t) (i:=1) (j:=t.length+1) (lo:=some 1) (hi:=none) (by omega) (by simp) rfl (by rw[fH];simp)
  rw[this]
  simp
 have e2:((bs [47]).toList==(ByteArray.mk #[47]).toList)=true:=by
  have:bs [47]=ByteArray.mk #[47]:=rfl
  rw[this];exact beq_self_eq_true _
 have yQ:app 16 (acc.map bs) [bs (wd t)]=some ((acc++[wd t]).map bs):=by
  rw[qx (n:=200) (by simp;omega) (by omega),List.map_append]
  rfl
 unfold kL
 simp only[T.bn,T.bo,T.bB]
 rw[e1,c1]
 simp only[cond_true,Option.bind_some]
 rw[e2,c2]
 simp only[cond_true,Option.bind_some]
 rw[MC t h,hd]
 by_cases hr:rs t=[]
 ·have hwt:wd t=t:=by rw[hr,List.append_nil] at vj;exact vj
  rw[if_pos hr]
  have e3:(IntKind.i64.wrap (-1+1)==0)=true:=rfl
  have c3:gr (bs (47::t)) (some 1) (some ((bs (47::t)).size:Int))=some (bs (wd t)):=by
   have:=nL (l:=47::t) (i:=1) (j:=t.length+1) (lo:=some 1) (hi:=some ((bs (47::t)).size:Int)) (by omega) (by simp) rfl (by rw[fH];simp)
   rw[this,hwt]
   simp
  have c4:gr (bs (47::t)) (some ((bs (47::t)).size:Int)) none=some (bs (rs t)):=by
   have:=nL (l:=47::t) (i:=t.length+1) (j:=t.length+1) (lo:=some ((bs (47::t)).size:Int)) (hi:=none) (by omega) (by simp) (by rw[fH];simp) (by rw[fH];simp)
   rw[this,hr]
   simp
  rw[e3]
  simp only[cond_true]
  rw[c3]
  simp only[Option.bind_some,cond_false]
  rw[v175 hw (by omega),yQ,c4]
  cases eZ (wd t)<;>rfl
 ·rw[if_neg hr]
  have mq:0<(rs t).length:=List.length_pos_iff.2 hr
  have Mp:IntKind.i64.wrap (((wd t).length:Int)+1)=(((wd t).length+1:Nat):Int):=by rw[ez (by omega) (by omega)];omega
  rw[Mp]
  have e3:((((wd t).length+1:Nat):Int)==0)=false:=by simp;omega
  have c3:gr (bs (47::t)) (some 1) (some (((wd t).length+1:Nat):Int))=some (bs (wd t)):=by
   have:=nL (l:=47::t) (i:=1) (j:=(wd t).length+1) (lo:=some 1) (hi:=some (((wd t).length+1:Nat):Int)) (by omega) (by simp;omega) rfl rfl
   rw[this]
   have:t.take (wd t).length=wd t:=by
    have:=List.take_left (l₁:=wd t) (l₂:=rs t)
    rwa [vj] at this
   simp[this]
  have c4:gr (bs (47::t)) (some (((wd t).length+1:Nat):Int)) none=some (bs (rs t)):=by
   have:=nL (l:=47::t) (i:=(wd t).length+1) (j:=t.length+1) (lo:=some (((wd t).length+1:Nat):Int)) (hi:=none) (by omega) (by simp) rfl (by rw[fH];simp)
   rw[this]
   have:t.drop (wd t).length=rs t:=by
    have:=List.drop_left (l₁:=wd t) (l₂:=rs t)
    rwa [vj] at this
   simp[this]
  rw[e3]
  simp only[cond_false]
  rw[c3]
  simp only[Option.bind_some,cond_false]
  rw[v175 hw (by omega),yQ,c4]
  cases eZ (wd t)<;>rfl
theorem ZU {d:List Nat} {w:Int} (hd:((bs d).toList==(ByteArray.mk #[47]).toList)=false): ∀(k f:Nat) (r:List Nat) (acc:List (List Nat)),r.length<=k->(∀x∈r,x<256)->r.length+acc.length<=50->acc.all eZ=true->(r=[]\/ ∃t,r=47::t)->
  ((r.foldl eO []).all eZ=true/\ ∃b s0,dH (λa=>(kL aj (bs d) w a).val) (k+1+f) (true,bs r,acc.map bs)=some (.inr (b,s0,true,(acc++r.foldl eO []).map bs)))\/
  ((r.foldl eO []).all eZ=false/\ ∃s0 ps,ps.all eZ=true/\(∃q,acc++r.foldl eO []=ps++q)/\dH (λa=>(kL aj (bs d) w a).val) (k+1+f) (true,bs r,acc.map bs)=some (.inl (false,s0,ps.map bs)))
 |k,f,[],acc,_,_,_,_,_=>by
  left
  refine⟨rfl,false,bs [],?_⟩
  rw[show k+1+f=(k+f)+1 by omega,fv]
  have:(kL aj (bs d) w (true,bs [],acc.map bs)).val=some (.inr (.inr (false,bs [],true,acc.map bs))):=by
   unfold kL
   rfl
  rw[this]
  simp
 |0,f,x::r,acc,hk,_,_,_,_=>by simp at hk
 |k+1,f,x::t,acc,hk,h,hl,ha,hr=>by
  rcases hr with h0|⟨t',e⟩
  ·cases h0
  cases e
  have ht: ∀x∈t,x<256:=λx hx=>h x (List.mem_cons_of_mem _ hx)
  simp only[List.length_cons] at hk hl
  have hlen:(rs t).length<=t.length:=(List.dropWhile_sublist _).length_le
  rw[show k+1+1+f=(k+1+f)+1 by omega,fv,ab0 hd ht (by omega) (by omega),Ee,List.nil_append,Ed (rs t).length (rs t) _ (Nat.le_refl _) (v_ t)]
  rw[List.all_append]
  cases hp:eZ (wd t) with
  |false=>
   right
   refine⟨by simp[hp],bs (47::t),acc,ha,⟨_,rfl⟩,rfl⟩
  |true=>
   simp only[cond_true,Option.bind_some]
   have fy:(acc++[wd t]).all eZ=true:=by rw[List.all_append,ha];simp[hp]
   have vg: ∀x∈rs t,x<256:=λx hx=>ht x ((List.dropWhile_sublist (λx=>x !=47)).subset hx)
   have e1:acc++([wd t]++(rs t).foldl eO [])=(acc++[wd t])++(rs t).foldl eO []:=by simp
   have e2:[wd t].all eZ=true:=by simp[hp]
   rw[e1,e2,Bool.true_and]
   exact ZU hd k f (rs t) (acc++[wd t]) (by omega) vg (by simp;omega) fy (v_ t)
def jt (ps:List (List Nat)):List Nat:=(ps.map λp=>47::p).flatten
def tx (ps:List (List Nat)):List Nat:=match ps with|[]=>[47]|_=>jt ps
theorem ajJ (p:List Nat) (ps:List (List Nat)):lR ((p::ps).map bs) (ByteArray.mk #[47])=bs (p++jt ps):=by
 unfold lR
 apply ByteArray.ext
 apply Array.ext'
 show Lib.join (((p::ps).map bs).map (·.data.toList)) [47]=_
 rw[List.map_cons,List.map_cons,Lib.join_cons]
 unfold Lib.joinTail jt bs
 simp only[List.map_append,List.map_map]
 congr 1
 rw[List.map_flatten,List.map_map]
 congr 1
theorem anf: ∀(ps:List (List Nat)),(tx ps).length<=500->qc (ByteArray.mk #[47]) (lR (ps.map bs) (ByteArray.mk #[47]))=some (bs (tx ps))/\(lR (ps.map bs) (ByteArray.mk #[47])).size<=500
 |[],_=>by
  have e:lR [] (ByteArray.mk #[47])=bs []:=rfl
  rw[List.map_nil,e]
  exact⟨Gv (l:=[47]) (m:=[]) (by simp),by rw[fH];simp⟩
 |p::ps,h=>by
  rw[ajJ]
  have h:(47::p++jt ps).length<=500:=by simpa[tx,jt] using h
  refine⟨?_,by rw[fH];simp at h ⊢;omega⟩
  have:=Gv (l:=[47]) (m:=p++jt ps) (by simp at h ⊢;omega)
  have e:bs [47]=ByteArray.mk #[47]:=rfl
  rw[e] at this
  rw[this]
  rfl
theorem GG {ps:List (List Nat)} (fy:ps.all eZ=true) (h: ∀p∈ps,(∀x∈p,x<256)/\p.length<=100) (hl:(tx ps).length<=500) (hn:ps.length<=100):oX aj (ps.map bs)=some ((nJ (bs (tx ps))).1,(nJ (bs (tx ps))).2==0&&decide (ps.length<=4)):=by
 show(CF aj (ps.map bs)).val=_
 unfold CF
 obtain⟨U,h2⟩:=anf ps hl
 simp only[T.bn,T.bB,T.bo,T.cM,T.eP]
 rw[U,decide_eq_true (by simp;omega:(ps.map bs).length<=140737488355328),decide_eq_true (by omega:(lR (ps.map bs) (ByteArray.mk #[47])).size<=140737488355328)]
 simp only[Bool.and_self,cond_true,Option.bind_some,ZY]
 have e1:decide (((ps.map bs).length:Int)<=4)=decide (ps.length<=4):=by rw[Bool.eq_iff_iff];simp;omega
 have hL:IN aj (ps.map bs)=some (.inr (false,((ps.map bs).length:Int))):=by
  show cS (λi z a=>(Cj aj (ps.map bs) i z a).val) (λi a=>(Bh aj (ps.map bs) i a).val) 0 (ps.map bs) ()=_
  rw[p_ (g:=λa _=>a)]
  ·unfold Bh
   simp
  ·intro i z a hz
   obtain⟨p,hp,rfl⟩:=List.mem_map.1 hz
   unfold Cj
   have:=List.all_eq_true.1 fy p hp
   simp only[T.bn,T.bB,T.bo,v175 (h p hp).1 (h p hp).2,this,Option.bind_some]
   rfl
 rw[e1,hL]
 cases (nJ (bs (tx ps))).2==0<;>cases decide (ps.length<=4)<;>rfl
def eT (d:List Nat):List (List Nat):=d.foldl eO []
theorem N3 (t:List Nat):eT (47::t)=wd t::eT (rs t):=by
 unfold eT
 rw[Ee,List.nil_append,Ed (rs t).length (rs t) _ (Nat.le_refl _) (v_ t)]
 rfl
theorem Fy: ∀(k:Nat) (r:List Nat),r.length<=k->(r=[]\/ ∃t,r=47::t)->jt (eT r)=r
 |_,[],_,_=>rfl
 |0,x::r,hk,_=>by simp at hk
 |k+1,x::t,hk,hr=>by
  rcases hr with h0|⟨t',e⟩
  ·cases h0
  cases e
  have hlen:(rs t).length<=t.length:=(List.dropWhile_sublist _).length_le
  simp only[List.length_cons] at hk
  have ih:=Fy k (rs t) (by omega) (v_ t)
  rw[N3]
  unfold jt at ih ⊢
  rw[List.map_cons,List.flatten_cons,ih]
  show 47::(wd t++rs t)=_
  rw[Z_]
theorem OY {d:List Nat} (h: ∀x∈d,x<256):((bs d).toList==(ByteArray.mk #[47]).toList)=decide (d=[47]):=by
 have e1: ∀x:ByteArray,x.toList=x.data.toList:=λx=>ByteArray.toList_eq x
 rw[e1,e1,Bool.eq_iff_iff]
 simp only[beq_iff_eq,decide_eq_true_eq]
 constructor
 ·intro e
  have e:d.map UInt8.ofNat=[47]:=by simpa[bs] using e
  obtain⟨x,rfl⟩:=List.length_eq_one_iff.1 (by simpa using congrArg List.length e)
  have hx:=h x (by simp)
  simp at e
  have:=congrArg UInt8.toNat e
  simp at this
  rw[show x=47 by omega]
 ·rintro rfl
  rfl
def ri (d:List Nat):Bool:=decide (d=[47])||(match d with|47::_=>(eT d).all eZ&&decide ((eT d).length<=4)|_=>false)
def dr (w:Int):Bool:=(gP 8 w.toNat==0)&&ri (dg 8 w.toNat)
def N6 (d:List Nat):List (List Nat):=if d=[47] then[] else eT d
def ej (w:Int):List (List Nat):=N6 (dg 8 w.toNat)
theorem aj2 {ps:List (List Nat)} {p:List Nat} {x:Nat} (hp:p∈ps) (hx:x∈p):x∈jt ps:=by
 unfold jt
 rw[List.mem_flatten]
 exact⟨47::p,List.mem_map.2 ⟨p,hp,rfl⟩,List.mem_cons_of_mem _ hx⟩
theorem VA: ∀ {ps:List (List Nat)} {p:List Nat},p∈ps->p.length+1<=(jt ps).length
 |q::ps,p,h=>by
  have e:(jt (q::ps)).length=q.length+1+(jt ps).length:=by simp[jt];omega
  rcases List.mem_cons.1 h with rfl|h
  ·omega
  ·have:=VA h
   omega
theorem MP: ∀(ps:List (List Nat)),ps.length<=(jt ps).length
 |[]=>by simp
 |q::ps=>by
  have e:(jt (q::ps)).length=q.length+1+(jt ps).length:=by simp[jt];omega
  have:=MP ps
  simp only[List.length_cons]
  omega
theorem Vz (ps q:List (List Nat)):jt (ps++q)=jt ps++jt q:=by simp[jt]
theorem WM {d:List Nat} (hd: ∀x∈d,x<256) (hl:d.length<=8) (hs: ∃t,d=47::t) {p:List Nat} (hp:p∈eT d):(∀x∈p,x<256)/\p.length<=100:=by
 have hj:=Fy d.length d (Nat.le_refl _) (.inr hs)
 refine⟨λx hx=>hd x (by rw[<-hj];exact aj2 hp hx),?_⟩
 have:=VA hp
 rw[hj] at this
 omega
theorem Xv: ∀(d:List Nat) (acc:List (List Nat)) (i:Nat),(∀x∈d,x<256)->(∀p∈acc,∀x∈p,x<256)->acc.length<=i->(∀p∈acc,p.length<=i)->(∀p∈d.foldl eO acc,(∀x∈p,x<256)/\p.length<=i+d.length)
 |[],acc,i,_,h2,_,h4=>λp hp=>⟨h2 p hp,by have:=h4 p hp;simp;omega⟩
 |x::d,acc,i,U,h2,h3,h4=>by
  rw[List.foldl_cons]
  obtain⟨q1,q2⟩:=Zt (x:=x) h3 h4
  have hx:=U x List.mem_cons_self
  have h5: ∀p∈eO acc x,∀y∈p,y<256:=by
   unfold eO
   split
   ·intro p hp y hy
    rcases List.mem_append.1 hp with hp|hp
    ·exact h2 p hp y hy
    ·have:p=[]:=by simpa using hp
     subst this;simp at hy
   ·split
    ·rename_i z hg
     intro p hp y hy
     rcases List.mem_or_eq_of_mem_set hp with hp|hp
     ·exact h2 p hp y hy
     ·subst hp
      rcases List.mem_append.1 hy with hy|hy
      ·exact h2 z (List.mem_of_getElem? hg) y hy
      ·have:y=x:=by simpa using hy
       omega
    ·exact h2
  intro p hp
  have:=Xv d (eO acc x) (i+1) (λy hy=>U y (List.mem_cons_of_mem _ hy)) h5 q1 q2 p hp
  exact⟨this.1,by have:=this.2;simp;omega⟩
theorem abM {s:ByteArray} {ps:List (List Nat)} (h: ∀p∈ps,(∀x∈p,x<256)/\p.length<=100):Rj aj s (ps.map bs)=bif ps.all eZ then some (.inr (false,((ps.map bs).length:Int))) else some (.inl ()):=by
 show cS (λi z a=>(Jf aj s (ps.map bs) i z a).val) (λi a=>(G9 aj s (ps.map bs) i a).val) 0 (ps.map bs) ()=_
 rw[tv (q:=λi _=>match ps[i]? with|some p=>eZ p|none=>false) (x:= .inl ())]
 ·have e:allI (λi (_:ByteArray)=>match ps[i]? with|some p=>eZ p|none=>false) 0 (ps.map bs)=ps.all eZ:=by
   rw[Bool.eq_iff_iff,qw,List.all_eq_true]
   constructor
   ·intro hq p hp
    obtain⟨i,hi⟩:=List.getElem?_of_mem hp
    have:=hq i (bs p) (by simp[hi])
    rw[Nat.zero_add,hi] at this
    exact this
   ·intro hq k z hz
    rw[Nat.zero_add]
    rw[List.getElem?_map] at hz
    cases hk:ps[k]? with
    |none=>rw[hk] at hz;simp at hz
    |some p=>exact hq p (List.mem_of_getElem? hk)
  rw[e]
  congr 1
  unfold G9
  simp
 ·intro i z hz
  rw[List.getElem?_map] at hz
  cases hk:ps[i]? with
  |none=>rw[hk] at hz;simp at hz
  |some p=>
   rw[hk] at hz
   have hz:bs p=z:=by simpa using hz
   subst hz
   have hp:=h p (List.mem_of_getElem? hk)
   unfold Jf
   simp only[T.bn,T.bB,T.bo,v171 hp.1 hp.2,Option.bind_some]
   cases eZ p<;>rfl
theorem v124 {d:List Nat} (hd: ∀x∈d,x<256) (hl:d.length<=8):S8 aj (bs d)=some (ri d):=by
 show(Jl aj (bs d)).val=_
 unfold Jl ri
 simp only[T.bn,T.bB,T.bo,T.cM,T.eP]
 rw[OY hd]
 by_cases pa:d=[47]
 ·rw[decide_eq_true pa];rfl
 rw[decide_eq_false pa,aoL hd (by omega)]
 simp only[cond_false,Option.bind_some,Bool.false_or]
 have lO:=Xv d [] 0 hd (by simp) (by simp) (by simp)
 rw[abM (ps:=d.foldl eO []) (λp hp=>⟨(lO p hp).1,by have:=(lO p hp).2;omega⟩)]
 show _=some (match d with|47::_=>(eT d).all eZ&&decide ((eT d).length<=4)|_=>false)
 change (Option.bind (bif (eT d).all eZ then _ else _) _)=_
 cases d with
 |nil=>rfl
 |cons x t=>
  have bz:decide (((bs (x::t)).size:Int)>0)=true:=decide_eq_true (by rw[fH];simp)
  have hs8:decide (((bs (x::t)).size:Int)<=8)=true:=decide_eq_true (by rw[fH];omega)
  have mj:lY (bs (x::t)) 0=some (x:Int):=OV (i:=0) hd rfl
  rw[bz,hs8,mj]
  have hc:((List.map bs (List.foldl eO [] (x::t))).length:Int)=((eT (x::t)).length:Int):=by unfold eT;simp
  by_cases hx:x=47
  ·subst hx
   have U:decide (((eT (47::t)).length:Int)>=1)=true:=decide_eq_true (by rw[N3];simp;omega)
   have h4:decide (((eT (47::t)).length:Int)<=4)=decide ((eT (47::t)).length<=4):=by rw[Bool.eq_iff_iff];simp;omega
   rw[hc,U,h4]
   cases (eT (47::t)).all eZ<;>rfl
  ·have e:((x:Int)==47)=false:=by simp;omega
   have e2:(match x::t with|47::_=>(eT (x::t)).all eZ&&decide ((eT (x::t)).length<=4)|_=>false)=false:=by
    split
    ·rename_i h;cases h;exact absurd rfl hx
    ·rfl
   rw[e2]
   simp only[e,Option.bind_some,cond_true,cond_false]
   cases (eT (x::t)).all eZ<;>rfl
theorem v84 {n:Nat} (h:n<18446744073709551616):Ti aj (n:Int)=some (dr (n:Int)):=by
 show(Jo aj (n:Int)).val=_
 unfold Jo dr
 simp only[T.bB,T.bn,T.bo,aoK h,Option.bind_some,Int.toNat_natCast]
 by_cases h0:gP 8 n=0
 ·rw[if_pos h0,h0]
  simp only[cond_true,v124 (DG n) (um 8 n),Option.bind_some]
  rfl
 ·rw[if_neg h0]
  have e:(gP 8 n==0)=false:=by simp[h0]
  rw[e]
  rfl
theorem aox:nJ (bs (tx []))=(47,0):=JA (l:=[47]) (by simp) (by simp)
theorem ZR:oX aj []=some (47,true):=by
 have:=GG (ps:=[]) rfl (by simp) (by simp[tx]) (by simp)
 rw[List.map_nil] at this
 rw[this,aox]
 rfl
theorem GB {α:Type} {w:Int} {ps:List ByteArray} {b:Bool} {s0:α} {r:Int×Bool} (hr:oX aj ps=some r):(T.bd (oX aj ps) λy2=> .bf (!b) (.ok (nA.mk [] 0,false))<| .bf (!y2.2) (.ok (nA.mk [] 0,false))<| .bf (y2.1 !=w) (.ok (nA.mk [] 0,false))<| .ok (nA.mk ps w,true):T (nA×Bool)).val=some (bif b&&(r.2&&r.1==w) then⟨ps,w⟩ else⟨[],0⟩,b&&(r.2&&r.1==w)):=by
 rw[T.bB,hr,Option.bind_some]
 simp only[T.bn,T.bo]
 have e:(r.1 !=w)=!(r.1==w):=rfl
 rw[e]
 cases b<;>cases r.2<;>cases r.1==w<;>rfl
theorem v131 {n:Nat} (h:n<18446744073709551616):sj aj (n:Int)=some (bif dr (n:Int) then⟨(ej (n:Int)).map bs,(n:Int)⟩ else⟨[],0⟩,dr (n:Int)):=by
 show(CA aj (n:Int)).val=_
 unfold CA dr ej
 simp only[T.bB,T.bn,T.bo,T.cM,ZM h,Option.bind_some,Int.toNat_natCast]
 by_cases h0:gP 8 n=0
 rotate_left
 ·rw[if_neg h0]
  have e:(gP 8 n==0)=false:=by simp[h0]
  rw[e]
  rfl
 rw[if_pos h0,h0]
 simp only[show((0:Int) !=0)=false from rfl,cond_false,J3,beq_self_eq_true,Bool.true_and]
 have hd:=DG n
 have hl:=um 8 n
 have kV:=N4 8 n
 rw[h0,Nat.mul_zero,Nat.add_zero] at kV
 have L4:=DH 8 n
 generalize dg 8 n=d at*
 cases d with
 |nil=>rfl
 |cons x t=>
  simp only[List.isEmpty_cons,cond_false]
  by_cases hx:x=47
  ·subst hx
   cases t with
   |nil=>
    have hn:(n:Int)=47:=by simp[pk] at kV;omega
    have hL:tT aj (bs [47]) (n:Int) true (bs [47]) []=some (.inl (true,bs [47],[])):=by
     show dH (λa=>(kL aj (bs [47]) (n:Int) a).val) 1000000 (true,bs [47],[])=_
     rw[show(1000000:Nat)=999999+1 from rfl,fv]
     have:(kL aj (bs [47]) (n:Int) (true,bs [47],[])).val=some (.inr (.inl (true,bs [47],[]))):=by
      have e1:decide (((bs [47]).size:Int)>=1)=true:=decide_eq_true (by rw[fH];simp)
      have c1:gr (bs [47]) none (some 1)=some (bs [47]):=nL (l:=[47]) (i:=0) (j:=1) (by omega) (by simp) rfl rfl
      have c2:gr (bs [47]) (some 1) none=some (bs []):=nL (l:=[47]) (i:=1) (j:=1) (by omega) (by simp) rfl (by rw[fH];simp)
      have c3:gr (bs [47]) (some 1) (some ((bs [47]).size:Int))=some (bs []):=nL (l:=[47]) (i:=1) (j:=1) (by omega) (by simp) rfl (by rw[fH];simp)
      have e2:((bs [47]).toList==(ByteArray.mk #[47]).toList)=true:=by
       have:bs [47]=ByteArray.mk #[47]:=rfl
       rw[this];exact beq_self_eq_true _
      unfold kL
      simp only[T.bn,T.bB,T.bo]
      rw[e1,c1]
      simp only[cond_true,Option.bind_some]
      rw[e2,c2]
      simp only[cond_true,Option.bind_some]
      rw[MC [] (by simp),if_pos (show rs []=[] from rfl),show(IntKind.i64.wrap (-1+1)==0)=true from rfl]
      simp only[cond_true]
      rw[c3]
      simp only[Option.bind_some]
     rw[this]
     rfl
    rw[hL]
    simp only[Option.bind_some,T.eP]
    refine(GB (s0:=()) (b:=true) (w:=(n:Int)) ZR).trans ?_
    rw[hn]
    rfl
   |cons y t=>
    have aU:decide (47::y::t=[47])=false:=decide_eq_false (by simp)
    have hs:=OY hd
    rw[aU] at hs
    have hj:=Fy _ (47::y::t) (Nat.le_refl _) (.inr ⟨_,rfl⟩)
    have LS:ri (47::y::t)=((eT (47::y::t)).all eZ&&decide ((eT (47::y::t)).length<=4)):=by
     unfold ri
     rw[aU]
     rfl
    rw[LS]
    have nW:=ZU (w:=(n:Int)) hs (47::y::t).length (999999-(47::y::t).length) (47::y::t) [] (Nat.le_refl _) hd (by simp at hl ⊢;omega) rfl (.inr ⟨_,rfl⟩)
    rw[show(47::y::t).length+1+(999999-(47::y::t).length)=1000000 by omega] at nW
    have lN: ∀p∈eT (47::y::t),(∀x∈p,x<256)/\p.length<=100:=λp hp=>WM hd hl ⟨_,rfl⟩ hp
    have aiA:=MP (eT (47::y::t))
    rw[hj] at aiA
    rcases nW with⟨U,b,s0,h2⟩|⟨U,s0,ps,h3,⟨q,h4⟩,h2⟩
    ·have hL:tT aj (bs (47::y::t)) (n:Int) true (bs (47::y::t)) []=some (.inr (b,s0,true,(eT (47::y::t)).map bs)):=h2
     have U:(eT (47::y::t)).all eZ=true:=U
     rw[hL,U]
     simp only[Option.bind_some,T.eP]
     have Vj:tx (eT (47::y::t))=47::y::t:=by
      rw[N3] at hj ⊢
      exact hj
     have Eh:=GG U lN (by rw[Vj];omega) (by omega)
     rw[Vj,JA L4 hl,kV] at Eh
     refine(GB (s0:=()) (b:=true) (w:=(n:Int)) Eh).trans ?_
     rw[show N6 (47::y::t)=eT (47::y::t) from if_neg (by simp)]
     simp
    ·have hL:tT aj (bs (47::y::t)) (n:Int) true (bs (47::y::t)) []=some (.inl (false,s0,ps.map bs)):=h2
     have U:(eT (47::y::t)).all eZ=false:=U
     have h4:eT (47::y::t)=ps++q:=by simpa[eT] using h4
     rw[hL,U]
     simp only[Option.bind_some,T.eP]
     have jb:(jt ps).length<=8:=by
      rw[h4,Vz] at hj
      have:=congrArg List.length hj
      rw[List.length_append] at this
      omega
     have Eh:=GG h3 (λp hp=>lN p (by rw[h4];exact List.mem_append_left _ hp)) (by
      cases ps with
      |nil=>simp[tx]
      |cons a b=>show(jt (a::b)).length<=500;omega) (by have:=MP ps;omega)
     exact GB (s0:=()) (b:=false) (w:=(n:Int)) Eh
  ·have LS:ri (x::t)=false:=by
    unfold ri
    rw[decide_eq_false (by simp;intro e;exact absurd e hx),Bool.false_or]
    split
    ·rename_i h;cases h;exact absurd rfl hx
    ·rfl
   have hL:tT aj (bs (x::t)) (n:Int) true (bs (x::t)) []=some (.inr (false,bs (x::t),true,[])):=by
    show dH (λa=>(kL aj (bs (x::t)) (n:Int) a).val) 1000000 (true,bs (x::t),[])=_
    rw[show(1000000:Nat)=999999+1 from rfl,fv]
    have:(kL aj (bs (x::t)) (n:Int) (true,bs (x::t),[])).val=some (.inr (.inr (false,bs (x::t),true,[]))):=by
     have e1:decide (((bs (x::t)).size:Int)>=1)=true:=decide_eq_true (by rw[fH];simp;omega)
     have c1:gr (bs (x::t)) none (some 1)=some (bs [x]):=nL (i:=0) (j:=1) (by omega) (by simp) rfl rfl
     have e2:((bs [x]).toList==(ByteArray.mk #[47]).toList)=false:=by
      rw[OY (λz hz=>by have:z=x:=by simpa using hz
                       subst this;exact hd z List.mem_cons_self)]
      exact decide_eq_false (by simp;exact hx)
     unfold kL
     simp only[T.bn,T.bB,T.bo]
     rw[e1,c1]
     simp only[cond_true,Option.bind_some]
     rw[e2]
     rfl
    rw[this]
    rfl
   rw[hL,LS]
   simp only[Option.bind_some,T.eP]
   refine(GB (s0:=()) (b:=true) (w:=(n:Int)) ZR).trans ?_
   have hn:((47:Int)==(n:Int))=false:=by
    have apV:=hd x List.mem_cons_self
    simp[pk] at kV
    simp
    omega
   rw[hn]
   rfl
theorem v96 {n:Nat} (h:n<18446744073709551616):yi aj (n:Int)=some (bif dr (n:Int) then 0 else 310):=by
 show(Dk aj (n:Int)).val=_
 unfold Dk
 simp only[T.bB,T.bn,T.bo,v131 h,Option.bind_some]
 cases dr (n:Int)<;>rfl
theorem N1 {w:Int} (h:dv w):I_ w (dr w):=by
 obtain⟨n,rfl⟩:=Int.eq_ofNat_of_zero_le h.1
 have hn:n<18446744073709551616:=by have:=h.2;omega
 exact⟨v84 hn,v96 hn⟩
abbrev jS (α:Type):=Except Int α
def cz {α:Type} (lt:α->Bool) (x:α) (l:List α):List α:=l.takeWhile lt++x::l.dropWhile lt
def nh (p:br):Option Nat:=(List.range 16).find? λi=>!(p.ab.any λx=>ix x.aa==(i:Int)+1)&&decide (au p.aJ i<=65535)
def e9 (p:br) (i:Nat):Int:=au p.aJ i*64+i+1
def oB (p:br) (parent:Int):jS (br×Int):=
 bif cG p.ab parent then match nh p with
  |some i=> .ok (⟨p.aJ.set i (au p.aJ i+1),cz (λy=>decide (ix y.aa<=i+1)) ⟨e9 p i,parent,false,0⟩ p.ab⟩,e9 p i)
  |none=> .error 322
 else .error 321
def jW (pid code:Int) (y:ae):Option ae:=
 bif y.aa==pid then bif y.ba==0 then none else some ⟨y.aa,y.ba,true,code⟩
 else bif y.ba==pid then bif y.bC then none else some ⟨y.aa,0,y.bC,y.cJ⟩
 else some y
def nN (p:br) (pid code:Int):jS br:=
 bif cG p.ab pid then bif pid==1 then .error 323 else .ok ⟨p.aJ,p.ab.filterMap (jW pid code)⟩ else .error 321
def oD (p:br) (pid child:Int):jS (br×Int):=
 bif cG p.ab pid then match jm p.ab child with
  |some x=>bif x.ba==pid then bif x.bC then .ok (⟨p.aJ,p.ab.filter λy=>!(y.aa==child)⟩,x.cJ) else .error 322 else .error 324
  |none=> .error 324
 else .error 321
def eE (l:List ai) (pid fd:Int):Option Int:=(l.find? λd=>d.aa==pid&&d.bL==fd).map ai.cK
def lC (l:List ai) (pid:Int):Option Nat:=(List.range 8).find? λ(i:Nat)=>(eE l pid i).isNone
def mD (l:List ai) (pid bH:Int):jS (List ai×Int):=
 match lC l pid with
 |some i=>bif l.length==64 then .error 6 else .ok (cz (λy=>e_ y ⟨pid,i,bH⟩) ⟨pid,i,bH⟩ l,i)
 |none=> .error 6
def mb (l:List ai) (pid fd:Int):jS (List ai×Int):=
 match eE l pid fd with
 |some bH=>mD l pid bH
 |none=> .error 4
def j9 (l:List ai) (pid fd:Int):jS (List ai):=
 match eE l pid fd with
 |some _=> .ok (l.filter λd=>!(d.aa==pid&&d.bL==fd))
 |none=> .error 4
def uo (l:List ai) (pid:Int):List ai:=l.filter λd=>!(d.aa==pid)
def oR (l:List ai) (bH:Int):Nat:=(l.filter λd=>d.cK==bH).length
def eG (m:bG) (w:Int):Option Int:=(m.ab.find? λx=>x.bp==w).map az.aZ
def AR (ps:List (List Nat)):Int:=(nJ (bs (tx ps))).1
def ug (a b:Int):Bool:=dr a&&(dr b&&(ej a).isPrefixOf (ej b))
def nH (m:bG) (w:Int):jS (bG×Int):=
 bif dr w then match eG m w with
  |some _=> .error 5
  |none=>bif m.ab.length==16||decide (m.aN>1073741824) then .error 6 else .ok (⟨m.ab++[⟨w,m.aN⟩],m.aN+1⟩,m.aN)
 else .error 310
def nj (m:bG) (w:Int):jS Int:=
 bif dr w then match eG m w with
  |some i=> .ok i
  |none=> .error 4
 else .error 310
def oO (m:bG) (w:Int):Bool:=m.ab.any λx=>!(x.bp==w)&&ug w x.bp
def nt (m:bG) (w:Int):jS bG:=
 bif dr w then match eG m w with
  |some _=>bif oO m w then .error 341 else .ok ⟨m.ab.filter λx=>!(x.bp==w),m.aN⟩
  |none=> .error 4
 else .error 310
def tI (w:Int):List Int:=(List.range ((ej w).length+1)).reverse.map λk=>AR ((ej w).take k)
def GF (m:bG) (w:Int):Option Int:=(tI w).findSome? (eG m)
def j3 (m:bG) (w:Int):jS Int:=
 bif dr w then match GF m w with
  |some i=> .ok i
  |none=> .error 4
 else .error 310
def gM (l:List aA) (n:Int):Option Int:=(l.find? λz=>z.bl==n).map aA.aa
def ov (s:aL) (n pid:Int):jS aL:=
 bif gL n then bif fS pid then match gM s.aB n with
  |some _=> .error 5
  |none=>bif s.aB.length==16 then .error 6 else .ok ⟨cz (λy=>decide (y.bl<n)) ⟨n,pid⟩ s.aB,s.ax⟩
 else .error 2 else .error 351
def kB (s:aL) (n:Int):jS Int:=
 bif gL n then match gM s.aB n with
  |some p=> .ok p
  |none=> .error 4
 else .error 351
def wg (s:aL) (n:Int):aL:=⟨s.aB.filter λy=>!(y.bl==n),s.ax⟩
def pz (s:aL) (pid:Int):List Int:=(s.aB.filter λy=>y.aa==pid).map aA.bl
def dV (s:aL) (pid:Int):List Int:=match s.ax.find? λb=>b.aa==pid with|some b=>b.bg|none=>[]
def gC (s:aL) (pid:Int) (ws:List Int):aL:=
 ⟨s.aB,(s.ax.filter λb=>decide (b.aa<pid))++((if ws=[] then[] else[⟨pid,ws⟩])++s.ax.filter λb=>decide (pid<b.aa))⟩
def rI (s:aL) (pid w:Int):jS aL:=bif (dV s pid).length==4 then .error 322 else .ok (gC s pid (dV s pid++[w]))
def pW (s:aL) (pid:Int):jS (aL×Int):=
 match dV s pid with
 |w::r=> .ok (gC s pid r,w)
 |[]=> .error 322
def mG (c:aW):Bool:=c.bJ==9||c.bJ==12
def ji (s:aM) (k p a b:Int):jS (aM×Int):=
 if k=1 then match oB s.ar p with| .ok (q,v)=> .ok (⟨q,s.aI,s.ay,s.aq⟩,v)| .error e=> .error e
 else if k=2 then match nN s.ar p a with
  | .ok q=>if pz s.aq p=[] then .ok (⟨q,uo s.aI p,s.ay,gC s.aq p []⟩,0) else .error 341
  | .error e=> .error e
 else if k=3 then match oD s.ar p a with| .ok (q,v)=> .ok (⟨q,s.aI,s.ay,s.aq⟩,v)| .error e=> .error e
 else if k=4 then match j3 s.ay a with
  | .ok i=>match mD s.aI p i with| .ok (l,v)=> .ok (⟨s.ar,l,s.ay,s.aq⟩,v)| .error e=> .error e
  | .error e=> .error e
 else if k=5 then match j9 s.aI p a with| .ok l=> .ok (⟨s.ar,l,s.ay,s.aq⟩,0)| .error e=> .error e
 else if k=6 then match mb s.aI p a with| .ok (l,v)=> .ok (⟨s.ar,l,s.ay,s.aq⟩,v)| .error e=> .error e
 else if k=7 then match nH s.ay a with| .ok (m,v)=> .ok (⟨s.ar,s.aI,m,s.aq⟩,v)| .error e=> .error e
 else if k=8 then match nj s.ay a with
  | .ok i=>if oR s.aI i=0 then match nt s.ay a with| .ok m=> .ok (⟨s.ar,s.aI,m,s.aq⟩,0)| .error e=> .error e else .error 341
  | .error e=> .error e
 else if k=9 then match j3 s.ay a with| .ok i=> .ok (s,i)| .error e=> .error e
 else if k=10 then match ov s.aq a p with| .ok i=> .ok (⟨s.ar,s.aI,s.ay,i⟩,0)| .error e=> .error e
 else if k=11 then match kB s.aq a with
  | .ok q=>if q=p then .ok (⟨s.ar,s.aI,s.ay,wg s.aq a⟩,0) else .error 362
  | .error e=> .error e
 else if k=12 then match kB s.aq a with| .ok q=> .ok (s,q)| .error e=> .error e
 else if k=13 then bif cG s.ar.ab a then match rI s.aq a b with| .ok i=> .ok (⟨s.ar,s.aI,s.ay,i⟩,0)| .error e=> .error e else .error 4
 else match pW s.aq p with| .ok (i,v)=> .ok (⟨s.ar,s.aI,s.ay,i⟩,v)| .error e=> .error e
def ma (s:aM) (c:aW):jS (aM×Int):=
 if 1<=c.bJ/\c.bJ<=14 then bif mG c||cG s.ar.ab (au c.fArgs 0) then ji s c.bJ (au c.fArgs 0) (au c.fArgs 1) (au c.fArgs 2) else .error 321
 else .error 361
def dY (s:aM) (c:aW):aM×cH:=
 match ma s c with
 | .ok (n,v)=>(n,⟨0,v⟩)
 | .error e=>(s,⟨e,0⟩)
theorem ahi {a b:ae} (h:jU a b=true):a=b:=by
 obtain⟨a1,a2,a3,a4⟩:=a
 obtain⟨b1,b2,b3,b4⟩:=b
 simp[jU] at h
 simp[h]
section
variable {α:Type} {q:α->α->Bool} {A:α->Bool} {l:List α}
theorem Aa (ht: ∀a b c,q a b=true->q b c=true->q a c=true):
  allI (λi z=>A z&&jI q l i z) 0 l=true↔(∀z∈l,A z=true)/\l.Pairwise λa b=>q a b=true:=by
 rw[qw]
 constructor
 ·intro h
  have U: ∀z∈l,A z=true:=λz hz=>by
   obtain⟨k,hk⟩:=List.getElem?_of_mem hz
   have:=h k z hk
   rw[Bool.and_eq_true] at this
   exact this.1
  have h2: ∀k (hk:k+1<l.length),q l[k] l[k+1]=true:=λk hk=>by
   have:=h (k+1) l[k+1] (List.getElem?_eq_getElem hk)
   rw[Bool.and_eq_true] at this
   have:=this.2
   unfold jI at this
   rw[Nat.zero_add,show(k+1==0)=false from rfl,Bool.false_or,Nat.add_sub_cancel,List.getElem?_eq_getElem (by omega)] at this
   exact this
  refine⟨U,List.pairwise_iff_getElem.2 λi j hi hj dC=>?_⟩
  obtain⟨d,rfl⟩: ∃d,j=i+1+d:=⟨j-(i+1),by omega⟩
  induction d with
  |zero=>exact h2 i hj
  |succ d ih=>exact ht _ _ _ (ih (by omega) (by omega)) (h2 (i+1+d) hj)
 ·rintro ⟨U,h2⟩ k z hk
  rw[Bool.and_eq_true]
  refine⟨U z (List.mem_of_getElem? hk),?_⟩
  unfold jI
  rw[Nat.zero_add]
  cases k with
  |zero=>rfl
  |succ k=>
   have aH:=(List.getElem?_eq_some_iff.1 hk).1
   rw[show(k+1==0)=false from rfl,Bool.false_or,Nat.add_sub_cancel,List.getElem?_eq_getElem (by omega)]
   have:=List.pairwise_iff_getElem.1 h2 k (k+1) (by omega) aH (by omega)
   obtain⟨_,rfl⟩:=List.getElem?_eq_some_iff.1 hk
   exact this
theorem take_drop (p:α->Bool) (l:List α):l.takeWhile p++l.dropWhile p=l:=List.takeWhile_append_dropWhile
theorem rj {lt:α->Bool} {x z:α}:z∈cz lt x l↔z=x\/z∈l:=by
 unfold cz
 conv=>rhs;rw[<-take_drop lt l]
 simp only[List.mem_append,List.mem_cons]
 constructor
 ·rintro (h|h|h)
  ·exact .inr (.inl h)
  ·exact .inl h
  ·exact .inr (.inr h)
 ·rintro (h|h|h)
  ·exact .inr (.inl h)
  ·exact .inl h
  ·exact .inr (.inr h)
theorem Nc {lt:α->Bool} {x:α}:(cz lt x l).length=l.length+1:=by
 unfold cz
 conv=>rhs;rw[<-take_drop lt l]
 simp only[List.length_append,List.length_cons]
 omega
theorem WN {p:α->Bool} {z:α} (h:z∈l.takeWhile p):p z=true:=by
 have:=List.all_takeWhile (p:=p) (l:=l)
 rw[List.all_eq_true] at this
 exact this z h
theorem afd {p:α->Bool} {z:α} {r:List α} (h:l.dropWhile p=z::r):p z=false:=by
 have:=List.head?_dropWhile_not p l
 rw[h] at this
 simpa using this
theorem NX {R:α->α->Prop} {lt:α->Bool} {x:α} (ho:l.Pairwise R) (ht: ∀a b c,R a b->R b c->R a c) (U: ∀z∈l,lt z=true->R z x) (h2: ∀z∈l,lt z=false->R x z):(cz lt x l).Pairwise R:=by
 unfold cz
 have zh: ∀z,z∈l.takeWhile lt->z∈l:=λz hz=>(List.takeWhile_sublist lt).mem hz
 have sI: ∀z,z∈l.dropWhile lt->z∈l:=λz hz=>(List.dropWhile_sublist lt).mem hz
 have eh:=ho
 rw[<-take_drop lt l,List.pairwise_append] at eh
 have hx: ∀z∈l.dropWhile lt,R x z:=by
  intro z hz
  cases e:l.dropWhile lt with
  |nil=>rw[e] at hz;cases hz
  |cons y r=>
   have hy:=h2 y (sI y (by rw[e];exact List.mem_cons_self)) (afd e)
   rw[e] at hz
   rcases List.mem_cons.1 hz with rfl|hz
   ·exact hy
   ·have:=eh.2.1
    rw[e,List.pairwise_cons] at this
    exact ht _ _ _ hy (this.1 z hz)
 rw[List.pairwise_append,List.pairwise_cons]
 refine⟨eh.1,⟨hx,eh.2.1⟩,λa ha b hb=>?_⟩
 have Ur:=U a (zh a ha) (WN ha)
 rcases List.mem_cons.1 hb with rfl|hb
 ·exact Ur
 ·exact ht _ _ _ Ur (hx b hb)
theorem mX {p:α->Bool}:l.find? p=none↔ ∀z∈l,p z=false:=by
 rw[List.find?_eq_none]
 constructor
 ·intro h z hz
  have:=h z hz
  cases e:p z with
  |true=>exact absurd e this
  |false=>rfl
 ·intro h z hz
  rw[h z hz]
  exact Bool.false_ne_true
theorem ahB {p:α->Bool} {z:α} (hu: ∀a∈l,∀b∈l,p a=true->p b=true->a=b):l.find? p=some z↔z∈l/\p z=true:=by
 constructor
 ·intro h
  exact⟨List.mem_of_find?_eq_some h,List.find?_some h⟩
 ·rintro ⟨U,h2⟩
  cases e:l.find? p with
  |none=>rw[mX.1 e z U] at h2;cases h2
  |some y=>rw[hu y (List.mem_of_find?_eq_some e) z U (List.find?_some e) h2]
theorem NZ {R:α->α->Prop} (ho:l.Pairwise R) {a b:α} (ha:a∈l) (hb:b∈l):a=b\/R a b\/R b a:=by
 obtain⟨i,hi,rfl⟩:=List.getElem_of_mem ha
 obtain⟨j,hj,rfl⟩:=List.getElem_of_mem hb
 rcases Nat.lt_trichotomy i j with h|h|h
 ·exact .inr (.inl (List.pairwise_iff_getElem.1 ho i j hi hj h))
 ·subst h;exact .inl rfl
 ·exact .inr (.inr (List.pairwise_iff_getElem.1 ho j i hj hi h))
theorem Zp {key:α->Int} {n:Nat}: ∀ {l:List α} {a:Int},l.Pairwise (λx y=>key x<key y)->(∀z∈l,a<key z/\key z<=a+n)->l.length<=n
 |[],_,_,_=>by simp
 |z::r,a,ho,h=>by
  rw[List.pairwise_cons] at ho
  obtain⟨hz1,hz2⟩:=h z List.mem_cons_self
  have hn:0<n:=by omega
  obtain⟨m,hm⟩: ∃m:Nat,(m:Int)=a+n-key z:=⟨(a+n-key z).toNat,by omega⟩
  have:=Zp (n:=m) (a:=key z) ho.2 λy hy=>by
   have U:=ho.1 y hy
   have h2:=h y (List.mem_cons_of_mem _ hy)
   omega
  simp only[List.length_cons]
  omega
end
def eH (l:List ae) (pid:Int):Prop:= ∃x∈l,x.aa=pid/\x.bC=false
structure Ro (p:br) (x:ae):Prop where
 i1:1<=ix x.aa
 i2:ix x.aa<=16
 gen:x.aa/64+1=au p.aJ (ix x.aa-1).toNat
 self:x.ba≠x.aa
 par:x.ba=0\/eH p.ab x.ba
 dead:x.bC=true->x.ba≠0
 live:x.bC=false->x.cJ=0
structure fi (p:br):Prop where
 gl:p.aJ.length=16
 qH: ∀i,i<16->0<=au p.aJ i/\au p.aJ i<=65536
 u: ∀x∈p.ab,dv x.aa
 one: ∀x∈p.ab,Ro p x
 ord:p.ab.Pairwise λa b=>ix a.aa<ix b.aa
 head:p.ab.head? =some ⟨1,0,false,0⟩
theorem F5 {l:List ae} (ho:l.Pairwise λa b=>ix a.aa<ix b.aa) {a b:ae} (ha:a∈l) (hb:b∈l) (h:a.aa=b.aa):a=b:=by
 rcases NZ ho ha hb with U|U|U
 ·exact U
 ·rw[h] at U;omega
 ·rw[h] at U;omega
theorem NH {l:List ae} (ho:l.Pairwise λa b=>ix a.aa<ix b.aa) {pid:Int} {x:ae}:jm l pid=some x↔x∈l/\x.aa=pid:=by
 unfold jm
 rw[ahB λa ha b hb U h2=>F5 ho ha hb ((eq_of_beq U).trans (eq_of_beq h2).symm),beq_iff_eq]
theorem iR {l:List ae} (ho:l.Pairwise λa b=>ix a.aa<ix b.aa) {pid:Int}:cG l pid=true↔eH l pid:=by
 unfold cG
 constructor
 ·intro h
  cases e:jm l pid with
  |none=>rw[e] at h;cases h
  |some x=>
   rw[e] at h
   have:=(NH ho).1 e
   exact⟨x,this.1,this.2,by simpa using h⟩
 ·rintro ⟨x,hx,hp,hd⟩
  rw[(NH ho).2 ⟨hx,hp⟩]
  simp[hd]
theorem ak4 (l:List ae):lW l=jI (λa b=>decide (ix a.aa<ix b.aa)) l:=by funext i x;unfold lW jI;cases l[i-1]? <;>rfl
theorem Xq {p:br}:allI (λi x=>mB p x&&lW p.ab i x) 0 p.ab=true↔(∀x∈p.ab,mB p x=true)/\p.ab.Pairwise λa b=>ix a.aa<ix b.aa:=by
 rw[ak4]
 have:=Aa (q:=λa b:ae=>decide (ix a.aa<ix b.aa)) (A:=mB p) (l:=p.ab) (λa b c U h2=>decide_eq_true (by have:=of_decide_eq_true U;have:=of_decide_eq_true h2;omega))
 rw[this]
 simp only[decide_eq_true_eq]
theorem Xc {p:br} (ho:p.ab.Pairwise λa b=>ix a.aa<ix b.aa) {x:ae}:mB p x=true↔Ro p x:=by
 unfold mB
 simp only[Bool.and_eq_true,decide_eq_true_eq,beq_iff_eq,Bool.not_eq_true',beq_eq_false_iff_ne,ne_eq,Bool.or_eq_true,iR ho]
 constructor
 ·rintro ⟨U,h2,h3,h4,h5,h6⟩
  refine⟨U,h2,h3,h4,h5,λhd=>?_,λhd=>?_⟩
  ·rw[hd] at h6;simpa using h6
  ·rw[hd] at h6;simpa using h6
 ·rintro ⟨U,h2,h3,h4,h5,h6,h7⟩
  refine⟨U,h2,h3,h4,h5,?_⟩
  cases hd:x.bC with
  |true=>simpa using h6 hd
  |false=>simpa using h7 hd
theorem TE {g:List Int}:qI g=true↔ ∀i,i<16->0<=au g i/\au g i<=65536:=by
 unfold qI
 simp only[List.all_eq_true,List.mem_range,Bool.and_eq_true,decide_eq_true_eq]
theorem ajD {p:br} (gl:p.aJ.length=16) (u: ∀x∈p.ab,dv x.aa) (h:ow p=true):fi p:=by
 unfold ow at h
 rw[Bool.and_eq_true,Bool.and_eq_true,TE,Xq] at h
 obtain⟨U,⟨h2,h3⟩,h4⟩:=h
 refine⟨gl,U,u,λx hx=>(Xc h3).1 (h2 x hx),h3,?_⟩
 cases e:p.ab with
 |nil=>rw[e] at h4;cases h4
 |cons z r=>
  rw[e] at h4
  have:z=⟨1,0,false,0⟩:=ahi h4
  rw[this]
  rfl
theorem Yh {p:br} (h:fi p):ow p=true:=by
 unfold ow
 rw[Bool.and_eq_true,Bool.and_eq_true,TE,Xq]
 refine⟨h.qH,⟨λx hx=>(Xc h.ord).2 (h.one x hx),h.ord⟩,?_⟩
 have:=h.head
 cases e:p.ab with
 |nil=>rw[e] at this;cases this
 |cons z r=>
  rw[e] at this
  cases this
  rfl
theorem fi.len {p:br} (h:fi p):p.ab.length<=16:=
 Zp (a:=0) h.ord λz hz=>by have:=h.one z hz;have:=this.i1;have:=(h.one z hz).i2;omega
theorem fi.pid {p:br} (h:fi p) {x:ae} (hx:x∈p.ab):1<=x.aa/\x.aa<4194304:=by
 have U:=h.one x hx
 have h2:=h.u x hx
 have e:=zF h2.1
 have h3:=U.i1;have h4:=U.i2;have h5:=U.gen
 have h6:=h.qH (ix x.aa-1).toNat (by omega)
 omega
theorem ahD {p:br} (h:fi p):⟨1,0,false,0⟩∈p.ab:=List.mem_of_mem_head? h.head
theorem mA {g:List Int} {i j:Nat} {v:Int} (hi:i<g.length):au (g.set i v) j=if j=i then v else au g j:=by
 unfold au
 rw[List.getElem?_set]
 by_cases h:i=j
 ·subst h;simp[hi]
 ·rw[if_neg h,if_neg (λe=>h e.symm)]
theorem vB {p:br} {i:Nat} (h:nh p=some i):i<16/\(∀x∈p.ab,ix x.aa≠(i:Int)+1)/\au p.aJ i<=65535:=by
 have U:=List.mem_of_find?_eq_some h
 have h2:=List.find?_some h
 simp only[Bool.and_eq_true,Bool.not_eq_true',List.any_eq_false,decide_eq_true_eq,beq_iff_eq] at h2
 exact⟨List.mem_range.1 U,h2.1,h2.2⟩
theorem Nj {p:br} (hp:fi p) {i:Nat} (h:nh p=some i):0<=e9 p i/\e9 p i<4194304/\ix (e9 p i)=i+1/\e9 p i/64=au p.aJ i:=by
 obtain⟨U,h2,h3⟩:=vB h
 have h4:=hp.qH i U
 have h0:0<=e9 p i:=by unfold e9;omega
 rw[zF h0]
 unfold e9
 omega
theorem YA {l l':List ae} {q:Int} (h: ∀x∈l,x.aa=q->x.bC=false-> ∃y∈l',y.aa=q/\y.bC=false):eH l q->eH l' q:=λ⟨x,hx,hp,hd⟩=>h x hx hp hd
theorem anj {p:br} {parent:Int} {q:br} {v:Int} (h:oB p parent= .ok (q,v)): ∃i,cG p.ab parent=true/\nh p=some i/\v=e9 p i/\q=⟨p.aJ.set i (au p.aJ i+1),cz (λy=>decide (ix y.aa<=i+1)) ⟨e9 p i,parent,false,0⟩ p.ab⟩:=by
 unfold oB at h
 cases U:cG p.ab parent with
 |false=>rw[U] at h;cases h
 |true=>
  rw[U] at h
  cases h2:nh p with
  |none=>rw[h2] at h;cases h
  |some i=>
   rw[h2] at h
   cases h
   exact⟨i,rfl,rfl,rfl,rfl⟩
theorem ani {p:br} (hp:fi p) {parent:Int} {i:Nat} (hr:cG p.ab parent=true) (h:nh p=some i):fi ⟨p.aJ.set i (au p.aJ i+1),cz (λy=>decide (ix y.aa<=i+1)) ⟨e9 p i,parent,false,0⟩ p.ab⟩:=by
 obtain⟨U,h2,h3⟩:=vB h
 obtain⟨n0,n1,n2,n3⟩:=Nj hp h
 have a_:=(iR hp.ord).1 hr
 have pC:i<p.aJ.length:=by rw[hp.gl];exact U
 have hm: ∀q,eH p.ab q->eH (cz (λy=>decide (ix y.aa<=i+1)) ⟨e9 p i,parent,false,0⟩ p.ab) q:=λq=>YA λx hx e d=>⟨x,rj.2 (.inr hx),e,d⟩
 refine⟨?_,?_,?_,?_,?_,?_⟩
 ·simp[hp.gl]
 ·intro j hj
  show 0<=au (p.aJ.set i _) j/\au (p.aJ.set i _) j<=65536
  rw[mA pC]
  have:=hp.qH j hj
  have:=hp.qH i U
  split<;>omega
 ·intro x hx
  rcases rj.1 hx with rfl|hx
  ·exact⟨n0,by show e9 p i<_;omega⟩
  ·exact hp.u x hx
 ·intro x hx
  rcases rj.1 hx with rfl|hx
  ·refine⟨?_,?_,?_,?_,.inr (hm _ a_),λe=>(Bool.false_ne_true e).elim,λ_=>rfl⟩
   ·show 1<=ix (e9 p i);omega
   ·show ix (e9 p i)<=16;omega
   ·show e9 p i/64+1=au (p.aJ.set i _) (ix (e9 p i)-1).toNat
    rw[n2,n3,show((i:Int)+1-1).toNat=i by omega,mA pC,if_pos rfl]
   ·show parent≠e9 p i
    intro e
    obtain⟨x,hx,dx,_⟩:=a_
    apply h2 x hx
    rw[dx,e,n2]
  ·have ho:=hp.one x hx
   refine⟨ho.i1,ho.i2,?_,ho.self,ho.par.imp_right (hm _),ho.dead,ho.live⟩
   show x.aa/64+1=au (p.aJ.set i _) (ix x.aa-1).toNat
   rw[mA pC,if_neg,ho.gen]
   intro e
   apply h2 x hx
   have:=ho.i1
   omega
 ·refine NX hp.ord (λa b c U h2=>by omega) (λz hz e=>?_) λz hz e=>?_
  ·have e:=of_decide_eq_true e
   have:=h2 z hz
   show ix z.aa<ix (e9 p i)
   omega
  ·have e:=of_decide_eq_false e
   show ix (e9 p i)<ix z.aa
   omega
 ·have:=hp.head
  show(cz _ _ p.ab).head? =_
  cases e:p.ab with
  |nil=>rw[e] at this;cases this
  |cons z r=>
   rw[e] at this
   cases this
   have:ix 1=1:=by rw[zF (by omega)];rfl
   unfold cz
   rw[List.takeWhile_cons]
   have:decide (ix (ae.mk 1 0 false 0).aa<=(i:Int)+1)=true:=decide_eq_true (by show ix 1<=_;omega)
   simp only[this,if_true]
   rfl
theorem ahu {p:br} {pid code:Int} {q:br} (h:nN p pid code= .ok q):cG p.ab pid=true/\pid≠1/\q=⟨p.aJ,p.ab.filterMap (jW pid code)⟩:=by
 unfold nN at h
 cases U:cG p.ab pid with
 |false=>rw[U] at h;cases h
 |true=>
  rw[U] at h
  cases h2:pid==1 with
  |true=>rw[h2] at h;cases h
  |false=>
   rw[h2] at h
   cases h
   exact⟨rfl,by simpa using h2,rfl⟩
theorem xX {pid code:Int} {x y:ae} (h:jW pid code x=some y):y.aa=x.aa/\((x.aa=pid/\x.ba≠0/\y=⟨x.aa,x.ba,true,code⟩)\/(x.aa≠pid/\x.ba=pid/\x.bC=false/\y=⟨x.aa,0,x.bC,x.cJ⟩)\/(x.aa≠pid/\x.ba≠pid/\y=x)):=by
 unfold jW at h
 cases U:x.aa==pid with
 |true=>
  rw[U] at h
  cases h2:x.ba==0 with
  |true=>rw[h2] at h;cases h
  |false=>
   rw[h2] at h
   cases h
   exact⟨rfl,.inl ⟨by simpa using U,by simpa using h2,rfl⟩⟩
 |false=>
  rw[U] at h
  cases h2:x.ba==pid with
  |true=>
   rw[h2] at h
   cases h3:x.bC with
   |true=>rw[h3] at h;cases h
   |false=>
    rw[h3] at h
    cases h
    exact⟨rfl,.inr (.inl ⟨by simpa using U,by simpa using h2,rfl,rfl⟩)⟩
  |false=>
   rw[h2] at h
   cases h
   exact⟨rfl,.inr (.inr ⟨by simpa using U,by simpa using h2,rfl⟩)⟩
theorem aht {pid code:Int} {x:ae} (U:x.aa≠pid) (h2:x.bC=false): ∃y,jW pid code x=some y/\y.aa=x.aa/\y.bC=false:=by
 unfold jW
 rw[show(x.aa==pid)=false by simpa using U,h2]
 cases x.ba==pid
 ·exact⟨_,rfl,rfl,h2⟩
 ·exact⟨_,rfl,rfl,rfl⟩
theorem DN {l:List ae} {pid code q:Int} (hq:q≠pid) (h:eH l q):eH (l.filterMap (jW pid code)) q:=by
 obtain⟨x,hx,rfl,hd⟩:=h
 obtain⟨y,hy,hp,Lt⟩:=aht (code:=code) hq hd
 exact⟨y,List.mem_filterMap.2 ⟨x,hx,hy⟩,hp,Lt⟩
theorem SZ {l:List ae} {pid code:Int}: ¬eH (l.filterMap (jW pid code)) pid:=by
 rintro ⟨y,hy,hp,hd⟩
 obtain⟨x,hx,h⟩:=List.mem_filterMap.1 hy
 obtain⟨e,h⟩:=xX h
 rcases h with⟨_,_,rfl⟩|⟨h,_⟩|⟨h,_⟩
 ·cases hd
 ·exact h (e▸hp)
 ·exact h (e▸hp)
theorem ahs {p:br} (hp:fi p) {pid code:Int} (hr:eH p.ab pid) (U:pid≠1):fi ⟨p.aJ,p.ab.filterMap (jW pid code)⟩:=by
 refine⟨hp.gl,hp.qH,?_,?_,?_,?_⟩
 ·intro y hy
  obtain⟨x,hx,h⟩:=List.mem_filterMap.1 hy
  rw[(xX h).1]
  exact hp.u x hx
 ·intro y hy
  obtain⟨x,hx,h⟩:=List.mem_filterMap.1 hy
  obtain⟨e,h'⟩:=xX h
  have ho:=hp.one x hx
  have U9:x.ba≠pid->x.ba=0\/eH (p.ab.filterMap (jW pid code)) x.ba:=λhn=>ho.par.imp_right λhr=>DN hn hr
  refine⟨by rw[e];exact ho.i1,by rw[e];exact ho.i2,by rw[e];exact ho.gen,?_,?_,?_,?_⟩
  ·rcases h' with⟨_,_,rfl⟩|⟨_,_,_,rfl⟩|⟨_,_,rfl⟩
   ·exact ho.self
   ·have:=(hp.pid hx).1
    show(0:Int)≠x.aa
    omega
   ·exact ho.self
  ·rcases h' with⟨k,_,rfl⟩|⟨_,_,_,rfl⟩|⟨_,k,rfl⟩
   ·exact U9 (λe=>ho.self (e.trans k.symm))
   ·exact .inl rfl
   ·exact U9 k
  ·intro hd
   rcases h' with⟨_,k,rfl⟩|⟨_,_,k,rfl⟩|⟨_,k,rfl⟩
   ·exact k
   ·rw[show(ae.mk x.aa 0 x.bC x.cJ).bC=x.bC from rfl,k] at hd;cases hd
   ·exact ho.dead hd
  ·intro hd
   rcases h' with⟨_,k,rfl⟩|⟨_,_,k,rfl⟩|⟨_,k,rfl⟩
   ·cases hd
   ·exact ho.live k
   ·exact ho.live hd
 ·refine hp.ord.filterMap _ λa b hab a' ha b' hb=>?_
  rw[(xX ha).1,(xX hb).1]
  exact hab
 ·have:=hp.head
  show(p.ab.filterMap (jW pid code)).head? =_
  cases e:p.ab with
  |nil=>rw[e] at this;cases this
  |cons z r=>
   rw[e] at this
   cases this
   have h0:(0:Int)≠pid:=by
    obtain⟨x,hx,rfl,_⟩:=hr
    have:=(hp.pid hx).1
    omega
   rw[List.filterMap_cons]
   have:jW pid code ⟨1,0,false,0⟩=some ⟨1,0,false,0⟩:=by
    unfold jW
    rw[show((ae.mk 1 0 false 0).aa==pid)=false by simpa using λe=>U (Eq.symm e),show((ae.mk 1 0 false 0).ba==pid)=false by simpa using h0]
    rfl
   rw[this]
   rfl
theorem aoZ {p:br} (hp:fi p) {pid child:Int} {q:br} {v:Int} (h:oD p pid child= .ok (q,v)): ∃x∈p.ab,x.aa=child/\x.ba=pid/\x.bC=true/\v=x.cJ/\eH p.ab pid/\q=⟨p.aJ,p.ab.filter λy=>!(y.aa==child)⟩:=by
 unfold oD at h
 cases U:cG p.ab pid with
 |false=>rw[U] at h;cases h
 |true=>
  rw[U] at h
  cases h2:jm p.ab child with
  |none=>rw[h2] at h;cases h
  |some x=>
   rw[h2] at h
   obtain⟨hx,hc⟩:=(NH hp.ord).1 h2
   cases h3:x.ba==pid with
   |false=>simp only[h3,cond_true,cond_false] at h;cases h
   |true=>
    cases h4:x.bC with
    |false=>simp only[h3,h4,cond_true,cond_false] at h;cases h
    |true=>
     simp only[h3,h4,cond_true] at h
     cases h
     exact⟨x,hx,hc,by simpa using h3,h4,rfl,(iR hp.ord).1 U,rfl⟩
theorem Z7 {p:br} (hp:fi p) {x:ae} (hx:x∈p.ab) (hd:x.bC=true) {q:Int} (h:eH p.ab q):eH (p.ab.filter λy=>!(y.aa==x.aa)) q:=by
 obtain⟨y,hy,rfl,hl⟩:=h
 refine⟨y,List.mem_filter.2 ⟨hy,?_⟩,rfl,hl⟩
 have:y.aa≠x.aa:=λe=>by
  rw[F5 hp.ord hy hx e,hd] at hl
  cases hl
 simpa using this
theorem aoY {p:br} (hp:fi p) {x:ae} (hx:x∈p.ab) (hd:x.bC=true):fi ⟨p.aJ,p.ab.filter λy=>!(y.aa==x.aa)⟩:=by
 refine⟨hp.gl,hp.qH,λy hy=>hp.u y (List.mem_filter.1 hy).1,λy hy=>?_,hp.ord.filter _,?_⟩
 ·have ho:=hp.one y (List.mem_filter.1 hy).1
  exact⟨ho.i1,ho.i2,ho.gen,ho.self,ho.par.imp_right λh=>Z7 hp hx hd h,ho.dead,ho.live⟩
 ·have:=hp.head
  show(p.ab.filter λy=>!(y.aa==x.aa)).head? =_
  cases e:p.ab with
  |nil=>rw[e] at this;cases this
  |cons z r=>
   rw[e] at this
   cases this
   have U:(1:Int)≠x.aa:=λh=>by
    have:=F5 hp.ord (ahD hp) hx h
    rw[<-this] at hd
    cases hd
   rw[List.filter_cons,show(!((ae.mk 1 0 false 0).aa==x.aa))=true by simpa using U]
   rfl
structure jR (l:List ai):Prop where
 is: ∀d∈l,mw d=true
 ord:l.Pairwise λa b=>e_ a b=true
 len:l.length<=64
theorem xD {a b:ai}:e_ a b=true↔a.aa<b.aa\/a.aa=b.aa/\a.bL<b.bL:=by simp[e_]
theorem Jx (a b c:ai) (U:e_ a b=true) (h2:e_ b c=true):e_ a c=true:=by rw[xD] at*;omega
theorem Ye {l:List ai}:tq l=true↔jR l:=by
 unfold tq
 rw[Bool.and_eq_true,decide_eq_true_eq]
 have:=Aa (q:=e_) (A:=mw) (l:=l) Jx
 constructor
 ·rintro ⟨U,h2⟩
  have:=this.1 U
  exact⟨this.1,this.2,h2⟩
 ·rintro ⟨U,h2,h3⟩
  exact⟨this.2 ⟨U,h2⟩,h3⟩
theorem ae' {l:List ai} (h:jR l) {a b:ai} (ha:a∈l) (hb:b∈l) (U:a.aa=b.aa) (h2:a.bL=b.bL):a=b:=by
 rcases NZ h.ord ha hb with e|e|e
 ·exact e
 ·rw[xD] at e;omega
 ·rw[xD] at e;omega
theorem Li {l:List ai} {pid fd w:Int} (h:eE l pid fd=some w): ∃d∈l,d.aa=pid/\d.bL=fd/\d.cK=w:=by
 unfold eE at h
 cases e:l.find? (λd=>d.aa==pid&&d.bL==fd) with
 |none=>rw[e] at h;cases h
 |some d=>
  rw[e] at h
  have:=List.find?_some e
  simp only[Bool.and_eq_true,beq_iff_eq] at this
  exact⟨d,List.mem_of_find?_eq_some e,this.1,this.2,by simpa using h⟩
theorem aip {l:List ai} {pid fd:Int} (h:eE l pid fd=none): ∀d∈l,¬(d.aa=pid/\d.bL=fd):=by
 unfold eE at h
 rw[Option.map_eq_none_iff] at h
 intro d hd
 have:=mX.1 h d hd
 simpa using this
theorem FR {l:List ai} {pid bH:Int} {l':List ai} {v:Int} (h:mD l pid bH= .ok (l',v)): ∃i:Nat,lC l pid=some i/\l.length≠64/\v=i/\l'=cz (λy=>e_ y ⟨pid,i,bH⟩) ⟨pid,i,bH⟩ l:=by
 unfold mD at h
 cases U:lC l pid with
 |none=>rw[U] at h;cases h
 |some i=>
  rw[U] at h
  cases h2:l.length==64 with
  |true=>simp only[h2,cond_true] at h;cases h
  |false=>
   simp only[h2,cond_false] at h
   cases h
   exact⟨i,rfl,by simpa using h2,rfl,rfl⟩
theorem uK {l:List ai} {pid:Int} {i:Nat} (h:lC l pid=some i):i<8/\ ∀d∈l,¬(d.aa=pid/\d.bL=i):=by
 have U:=List.mem_of_find?_eq_some h
 have h2:=List.find?_some h
 exact⟨List.mem_range.1 U,aip (Option.isNone_iff_eq_none.1 h2)⟩
theorem akI {l:List ai} (h:jR l) {pid bH:Int} {i:Nat} (hp:pid<4294967296) (hf:lC l pid=some i) (hl:l.length≠64):jR (cz (λy=>e_ y ⟨pid,i,bH⟩) ⟨pid,i,bH⟩ l):=by
 obtain⟨U,h2⟩:=uK hf
 refine⟨λd hd=>?_,NX h.ord Jx (λ_ _ e=>e) λz hz e=>?_,?_⟩
 ·rcases rj.1 hd with rfl|hd
  ·simp only[mw,Bool.and_eq_true,decide_eq_true_eq]
   omega
  ·exact h.is d hd
 ·have:=h2 z hz
  rw[xD]
  have e: ¬_:=λk=>Bool.false_ne_true (e.symm.trans (xD.2 k))
  simp only at e ⊢
  omega
 ·rw[Nc]
  have:=h.len
  omega
theorem jR.filter {l:List ai} (h:jR l) (p:ai->Bool):jR (l.filter p):=
 ⟨λd hd=>h.is d (List.mem_filter.1 hd).1,h.ord.filter _,Nat.le_trans (List.length_filter_le _ _) h.len⟩
theorem SE {l:List ai} {pid fd:Int} {r:List ai×Int} (h:mb l pid fd= .ok r): ∃w,eE l pid fd=some w/\mD l pid w= .ok r:=by
 unfold mb at h
 cases e:eE l pid fd with
 |none=>rw[e] at h;cases h
 |some w=>rw[e] at h;exact⟨w,rfl,h⟩
theorem Sn {l:List ai} {pid fd:Int} {r:List ai} (h:j9 l pid fd= .ok r): ∃w,eE l pid fd=some w/\r=l.filter λd=>!(d.aa==pid&&d.bL==fd):=by
 unfold j9 at h
 cases e:eE l pid fd with
 |none=>rw[e] at h;cases h
 |some w=>rw[e] at h;cases h;exact⟨w,rfl,rfl⟩
structure j6 (m:bG):Prop where
 path: ∀x∈m.ab,dv x.bp/\dr x.bp=true
 id: ∀x∈m.ab,1<=x.aZ/\x.aZ<m.aN
 ord:m.ab.Pairwise λa b=>a.aZ<b.aZ
 new:m.ab.Pairwise λa b=>a.bp≠b.bp
 len:m.ab.length<=16
 n1:1<=m.aN
 n2:m.aN<=1073741825
theorem adk {α:Type} {p q:Nat->α->Bool} {l:List α} {i:Nat}:allI (λi z=>p i z&&q i z) i l=true↔allI p i l=true/\allI q i l=true:=by
 simp only[qw,Bool.and_eq_true]
 exact⟨λh=>⟨λk z hk=>(h k z hk).1,λk z hk=>(h k z hk).2⟩,λh k z hk=>⟨h.1 k z hk,h.2 k z hk⟩⟩
theorem akd {l:List az}:allI (λi z=>vJ l i z) 0 l=true↔l.Pairwise λa b=>a.bp≠b.bp:=by
 rw[qw,List.pairwise_iff_getElem]
 constructor
 ·intro h i j hi hj dC e
  have:=h j l[j] (List.getElem?_eq_getElem hj)
  unfold vJ at this
  rw[Bool.not_eq_true',List.any_eq_false,Nat.zero_add] at this
  apply this l[i] (List.mem_take_iff_getElem.2 ⟨i,by omega,rfl⟩)
  simpa using e
 ·intro h k z hk
  obtain⟨aH,rfl⟩:=List.getElem?_eq_some_iff.1 hk
  unfold vJ
  rw[Bool.not_eq_true',List.any_eq_false,Nat.zero_add]
  intro y hy e
  obtain⟨i,hi,rfl⟩:=List.mem_take_iff_getElem.1 hy
  exact h i k (by omega) aH (by omega) (by simpa using e)
theorem Yg {m:bG} (hu: ∀x∈m.ab,dv x.bp):Al dr m=true↔j6 m:=by
 unfold Al FH
 rw[Bool.and_eq_true,Bool.and_eq_true,Bool.and_eq_true,adk,akd,decide_eq_true_eq,decide_eq_true_eq,decide_eq_true_eq]
 have:=Aa (q:=λy z:az=>decide (y.aZ<z.aZ)) (A:=zV dr m.aN) (l:=m.ab) (λa b c U h2=>decide_eq_true (by have:=of_decide_eq_true U;have:=of_decide_eq_true h2;omega))
 simp only[decide_eq_true_eq] at this
 rw[this]
 simp only[zV,Bool.and_eq_true,decide_eq_true_eq]
 constructor
 ·rintro ⟨⟨⟨U,h2⟩,h3⟩,h4,h5,h6⟩
  exact⟨λx hx=>⟨hu x hx,(U x hx).1⟩,λx hx=>(U x hx).2,h2,h3,h4,h5,h6⟩
 ·rintro ⟨U,h2,h3,h4,h5,h6,h7⟩
  exact⟨⟨⟨λx hx=>⟨(U x hx).2,h2 x hx⟩,h3⟩,h4⟩,h5,h6,h7⟩
theorem aj4 {m:bG} (h:j6 m) {a b:az} (ha:a∈m.ab) (hb:b∈m.ab) (e:a.bp=b.bp):a=b:=by
 rcases NZ h.new ha hb with k|k|k
 ·exact k
 ·exact(k e).elim
 ·exact(k e.symm).elim
theorem MA {m:bG} {w i:Int} (h:eG m w=some i): ∃x∈m.ab,x.bp=w/\x.aZ=i:=by
 unfold eG at h
 cases e:m.ab.find? (λx=>x.bp==w) with
 |none=>rw[e] at h;cases h
 |some x=>
  rw[e] at h
  exact⟨x,List.mem_of_find?_eq_some e,by simpa using List.find?_some e,by simpa using h⟩
theorem Mz {m:bG} {w:Int} (h:eG m w=none): ∀x∈m.ab,x.bp≠w:=by
 unfold eG at h
 rw[Option.map_eq_none_iff] at h
 intro x hx
 simpa using mX.1 h x hx
theorem adh {m:bG} {w:Int} {n:bG} {v:Int} (h:nH m w= .ok (n,v)):dr w=true/\eG m w=none/\m.ab.length≠16/\m.aN<=1073741824/\v=m.aN/\n=⟨m.ab++[⟨w,m.aN⟩],m.aN+1⟩:=by
 unfold nH at h
 cases U:dr w with
 |false=>rw[U] at h;cases h
 |true=>
  rw[U] at h
  cases h2:eG m w with
  |some _=>rw[h2] at h;cases h
  |none=>
   rw[h2] at h
   cases h3:(m.ab.length==16||decide (m.aN>1073741824)) with
   |true=>simp only[h3,cond_true] at h;cases h
   |false=>
    simp only[h3,cond_true,cond_false] at h
    cases h
    simp only[Bool.or_eq_false_iff,beq_eq_false_iff_ne,decide_eq_false_iff_not] at h3
    exact⟨rfl,rfl,h3.1,by omega,rfl,rfl⟩
theorem adf {m:bG} (h:j6 m) {w:Int} (hu:dv w) (hw:dr w=true) (hi:eG m w=none) (hl:m.ab.length≠16) (hn:m.aN<=1073741824):j6 ⟨m.ab++[⟨w,m.aN⟩],m.aN+1⟩:=by
 refine⟨λx hx=>?_,λx hx=>?_,?_,?_,?_,?_,?_⟩
 ·rcases List.mem_append.1 hx with hx|hx
  ·exact h.path x hx
  ·cases List.mem_singleton.1 hx
   exact⟨hu,hw⟩
 ·rcases List.mem_append.1 hx with hx|hx
  ·have:=h.id x hx
   show 1<=x.aZ/\x.aZ<m.aN+1
   omega
  ·cases List.mem_singleton.1 hx
   have:=h.n1
   show 1<=m.aN/\m.aN<m.aN+1
   omega
 ·refine List.pairwise_append.2 ⟨h.ord,List.pairwise_singleton _ _,λa ha b hb=>?_⟩
  cases List.mem_singleton.1 hb
  exact(h.id a ha).2
 ·refine List.pairwise_append.2 ⟨h.new,List.pairwise_singleton _ _,λa ha b hb=>?_⟩
  cases List.mem_singleton.1 hb
  exact Mz hi a ha
 ·have:=h.len
  show(m.ab++_).length<=16
  rw[List.length_append,List.length_singleton]
  omega
 ·have:=h.n1
  show 1<=m.aN+1
  omega
 ·show m.aN+1<=_
  omega
theorem aoB {m:bG} {w:Int} {n:bG} (h:nt m w= .ok n):dr w=true/\(∃i,eG m w=some i)/\oO m w=false/\n=⟨m.ab.filter λx=>!(x.bp==w),m.aN⟩:=by
 unfold nt at h
 cases U:dr w with
 |false=>rw[U] at h;cases h
 |true=>
  rw[U] at h
  cases h2:eG m w with
  |none=>rw[h2] at h;cases h
  |some i=>
   rw[h2] at h
   cases h3:oO m w with
   |true=>simp only[h3,cond_true] at h;cases h
   |false=>
    simp only[h3,cond_true,cond_false] at h
    cases h
    exact⟨rfl,⟨i,rfl⟩,rfl,rfl⟩
theorem j6.filter {m:bG} (h:j6 m) (p:az->Bool):j6 ⟨m.ab.filter p,m.aN⟩:=
 ⟨λx hx=>h.path x (List.mem_filter.1 hx).1,λx hx=>h.id x (List.mem_filter.1 hx).1,h.ord.filter _,h.new.filter _,Nat.le_trans (List.length_filter_le _ _) h.len,h.n1,h.n2⟩
theorem akq {m:bG} {w i:Int} (h:nj m w= .ok i):dr w=true/\eG m w=some i:=by
 unfold nj at h
 cases U:dr w with
 |false=>rw[U] at h;cases h
 |true=>
  rw[U] at h
  cases h2:eG m w with
  |none=>rw[h2] at h;cases h
  |some j=>rw[h2] at h;cases h;exact⟨rfl,rfl⟩
theorem amB {m:bG} {w i:Int} (h:j3 m w= .ok i): ∃x∈m.ab,x.aZ=i:=by
 unfold j3 at h
 cases U:dr w with
 |false=>rw[U] at h;cases h
 |true=>
  rw[U] at h
  cases h2:GF m w with
  |none=>rw[h2] at h;cases h
  |some j=>
   rw[h2] at h
   cases h
   obtain⟨u,_,h2⟩:=List.exists_of_findSome?_eq_some h2
   obtain⟨x,hx,_,e⟩:=MA h2
   exact⟨x,hx,e⟩
structure gD (s:aL):Prop where
 name: ∀z∈s.aB,dv z.bl/\gL z.bl=true/\fS z.aa=true
 pT:s.aB.Pairwise λa b=>a.bl<b.bl
 len:s.aB.length<=16
 box: ∀b∈s.ax,fS b.aa=true/\1<=b.bg.length/\b.bg.length<=4
 oq:s.ax.Pairwise λa b=>a.aa<b.aa
theorem WH {α:Type} {f:α->Int} (a b c:α) (U:decide (f a<f b)=true) (h2:decide (f b<f c)=true):decide (f a<f c)=true:=decide_eq_true (by have:=of_decide_eq_true U;have:=of_decide_eq_true h2;omega)
theorem Yf {s:aL} (hu: ∀z∈s.aB,dv z.bl):tt s=true↔gD s:=by
 unfold tt vH uj
 rw[Bool.and_eq_true,Bool.and_eq_true,decide_eq_true_eq]
 have U:=Aa (q:=λy z:aA=>decide (y.bl<z.bl)) (A:=vN) (l:=s.aB) WH
 have h2:=Aa (q:=λy z:ao=>decide (y.aa<z.aa)) (A:=okB) (l:=s.ax) WH
 simp only[decide_eq_true_eq] at U h2
 rw[U,h2]
 simp only[vN,okB,Bool.and_eq_true,decide_eq_true_eq]
 constructor
 ·rintro ⟨⟨a1,a2⟩,⟨a3,a4⟩,a5⟩
  exact⟨λz hz=>⟨hu z hz,a1 z hz⟩,a2,a5,a3,a4⟩
 ·rintro ⟨a1,a2,a3,a4,a5⟩
  exact⟨⟨λz hz=>(a1 z hz).2,a2⟩,⟨a4,a5⟩,a3⟩
theorem WD {l:List aA} {n p:Int} (h:gM l n=some p): ∃z∈l,z.bl=n/\z.aa=p:=by
 unfold gM at h
 cases e:l.find? (λz=>z.bl==n) with
 |none=>rw[e] at h;cases h
 |some z=>
  rw[e] at h
  exact⟨z,List.mem_of_find?_eq_some e,by simpa using List.find?_some e,by simpa using h⟩
theorem Nf {l:List aA} {n:Int} (h:gM l n=none): ∀z∈l,z.bl≠n:=by
 unfold gM at h
 rw[Option.map_eq_none_iff] at h
 intro z hz
 simpa using mX.1 h z hz
theorem amw {s:aL} {n pid:Int} {r:aL} (h:ov s n pid= .ok r):gL n=true/\fS pid=true/\gM s.aB n=none/\s.aB.length≠16/\r=⟨cz (λy=>decide (y.bl<n)) ⟨n,pid⟩ s.aB,s.ax⟩:=by
 unfold ov at h
 cases U:gL n with
 |false=>rw[U] at h;cases h
 |true=>
  cases h2:fS pid with
  |false=>rw[U,h2] at h;cases h
  |true=>
   rw[U,h2] at h
   cases h3:gM s.aB n with
   |some _=>rw[h3] at h;cases h
   |none=>
    rw[h3] at h
    cases h4:s.aB.length==16 with
    |true=>simp only[h4,cond_true] at h;cases h
    |false=>
     simp only[h4,cond_true,cond_false] at h
     cases h
     exact⟨rfl,rfl,rfl,by simpa using h4,rfl⟩
theorem amv {s:aL} (h:gD s) {n pid:Int} (hu:dv n) (U:gL n=true) (h2:fS pid=true) (h3:gM s.aB n=none) (h4:s.aB.length≠16):gD ⟨cz (λy=>decide (y.bl<n)) ⟨n,pid⟩ s.aB,s.ax⟩:=by
 refine⟨λz hz=>?_,NX h.pT (λa b c U h2=>by omega) (λz hz e=>of_decide_eq_true e) λz hz e=>?_,?_,h.box,h.oq⟩
 ·rcases rj.1 hz with rfl|hz
  ·exact⟨hu,U,h2⟩
  ·exact h.name z hz
 ·have:=Nf h3 z hz
  have e:=of_decide_eq_false e
  show n<z.bl
  omega
 ·show(cz _ _ _).length<=16
  rw[Nc]
  have:=h.len
  omega
theorem zO {s:aL} {n p:Int} (h:kB s n= .ok p):gL n=true/\gM s.aB n=some p:=by
 unfold kB at h
 cases U:gL n with
 |false=>rw[U] at h;cases h
 |true=>
  rw[U] at h
  cases h3:gM s.aB n with
  |none=>rw[h3] at h;cases h
  |some q=>rw[h3] at h;cases h;exact⟨rfl,rfl⟩
theorem aoE {s:aL} (h:gD s) (n:Int):gD (wg s n):=
 ⟨λz hz=>h.name z (List.mem_filter.1 hz).1,h.pT.filter _,Nat.le_trans (List.length_filter_le _ _) h.len,h.box,h.oq⟩
theorem wh {s:aL} {pid:Int} {ws:List Int} {b:ao}:b∈(gC s pid ws).ax↔(b∈s.ax/\b.aa≠pid)\/(ws≠[]/\b=⟨pid,ws⟩):=by
 unfold gC
 simp only[List.mem_append,List.mem_filter,decide_eq_true_eq]
 have h:b∈(if ws=[] then[] else[ao.mk pid ws])↔ws≠[]/\b=⟨pid,ws⟩:=by
  split
  ·rename_i e;simp[e]
  ·rename_i e;simp[e]
 rw[h]
 constructor
 ·rintro (⟨U,h2⟩|h|⟨U,h2⟩)
  ·exact .inl ⟨U,by omega⟩
  ·exact .inr h
  ·exact .inl ⟨U,by omega⟩
 ·rintro (⟨U,h2⟩|h)
  ·rcases Int.lt_or_gt_of_ne h2 with k|k
   ·exact .inl ⟨U,k⟩
   ·exact .inr (.inr ⟨U,k⟩)
  ·exact .inr (.inl h)
theorem Pz {s:aL} (h:s.ax.Pairwise λa b=>a.aa<b.aa) {pid:Int} {ws:List Int}:(gC s pid ws).ax.Pairwise λa b=>a.aa<b.aa:=by
 have nZ:(if ws=[] then[] else[ao.mk pid ws]).Pairwise λa b=>a.aa<b.aa:=by
  split
  ·exact .nil
  ·exact List.pairwise_singleton _ _
 have hm: ∀b∈(if ws=[] then[] else[ao.mk pid ws]),b.aa=pid:=by
  intro b hb
  split at hb
  ·cases hb
  ·cases List.mem_singleton.1 hb;rfl
 refine List.pairwise_append.2 ⟨h.filter _,List.pairwise_append.2 ⟨nZ,h.filter _,λa ha b hb=>?_⟩,λa ha b hb=>?_⟩
 ·have:=of_decide_eq_true (List.mem_filter.1 hb).2
  rw[hm a ha]
  exact this
 ·have ha:=of_decide_eq_true (List.mem_filter.1 ha).2
  rcases List.mem_append.1 hb with hb|hb
  ·rw[hm b hb];exact ha
  ·have:=of_decide_eq_true (List.mem_filter.1 hb).2
   omega
theorem Py {s:aL} (h:gD s) {pid:Int} {ws:List Int} (hp:fS pid=true) (hl:ws.length<=4):gD (gC s pid ws):=by
 refine⟨h.name,h.pT,h.len,λb hb=>?_,Pz h.oq⟩
 rcases wh.1 hb with⟨hb,_⟩|⟨hn,rfl⟩
 ·exact h.box b hb
 ·refine⟨hp,?_,hl⟩
  cases ws with
  |nil=>exact(hn rfl).elim
  |cons _ _=>exact Nat.succ_le_succ (Nat.zero_le _)
theorem Zr {α:Type} {R:α->α->Prop} (ha: ∀a b,R a b->R b a->False): ∀ {l m:List α},l.Pairwise R->m.Pairwise R->(∀x,x∈l↔x∈m)->l=m
 |[],[],_,_,_=>rfl
 |[],y::r,_,_,h=>by cases (h y).2 List.mem_cons_self
 |z::r,[],_,_,h=>by cases (h z).1 List.mem_cons_self
 |z::r,y::r',U,h2,h=>by
  rw[List.pairwise_cons] at U h2
  have e:z=y:=by
   rcases List.mem_cons.1 ((h z).1 List.mem_cons_self) with e|hz
   ·exact e
   ·rcases List.mem_cons.1 ((h y).2 List.mem_cons_self) with e|hy
    ·exact e.symm
    ·exact(ha _ _ (U.1 y hy) (h2.1 z hz)).elim
  subst e
  rw[Zr ha U.2 h2.2 λx=>?_]
  constructor
  ·intro hx
   rcases List.mem_cons.1 ((h x).1 (List.mem_cons_of_mem _ hx)) with rfl|im
   ·exact(ha _ _ (U.1 _ hx) (U.1 _ hx)).elim
   ·exact im
  ·intro hx
   rcases List.mem_cons.1 ((h x).2 (List.mem_cons_of_mem _ hx)) with rfl|im
   ·exact(ha _ _ (h2.1 _ hx) (h2.1 _ hx)).elim
   ·exact im
theorem Pt {s:aL} (h:gD s) (pid:Int):(dV s pid).length<=4:=by
 unfold dV
 cases e:s.ax.find? (λb=>b.aa==pid) with
 |none=>exact Nat.zero_le _
 |some b=>exact(h.box b (List.mem_of_find?_eq_some e)).2.2
theorem GL {s:aL} {pid:Int} {ws:List Int}:dV (gC s pid ws) pid=ws:=by
 unfold dV
 have h0: ∀(p:ao->Bool),(∀b,p b=true->b.aa≠pid)->(s.ax.filter p).find? (λb=>b.aa==pid)=none:=λp hp=>mX.2 λb hb=>by simpa using hp b (List.mem_filter.1 hb).2
 unfold gC
 rw[List.find?_append,h0 _ (λb hb=>by have:=of_decide_eq_true hb;omega),Option.none_or,List.find?_append]
 by_cases hw:ws=[]
 ·rw[if_pos hw,h0 _ (λb hb=>by have:=of_decide_eq_true hb;omega),hw]
  rfl
 ·rw[if_neg hw]
  simp
theorem anb {s:aL} {pid w:Int} {r:aL} (h:rI s pid w= .ok r):(dV s pid).length≠4/\r=gC s pid (dV s pid++[w]):=by
 unfold rI at h
 cases U:(dV s pid).length==4 with
 |true=>rw[U] at h;cases h
 |false=>rw[U] at h;cases h;exact⟨by simpa using U,rfl⟩
theorem amt {s:aL} {pid v:Int} {r:aL} (h:pW s pid= .ok (r,v)): ∃ws,dV s pid=v::ws/\r=gC s pid ws:=by
 unfold pW at h
 cases U:dV s pid with
 |nil=>rw[U] at h;cases h
 |cons w ws=>rw[U] at h;cases h;exact⟨ws,rfl,rfl⟩
structure eQ (s:aM):Prop where
 p:fi s.ar
 d:jR s.aI
 m:j6 s.ay
 i:gD s.aq
 bH: ∀d∈s.aI,eH s.ar.ab d.aa/\ ∃x∈s.ay.ab,x.aZ=d.cK
 names: ∀n∈s.aq.aB,eH s.ar.ab n.aa
 boxes: ∀b∈s.aq.ax,eH s.ar.ab b.aa
def xO (s:aM):Bool:=ow s.ar&&(tq s.aI&&(Al dr s.ay&&(tt s.aq&&Aj s)))
structure nF (s:aM):Prop where
 gl:s.ar.aJ.length=16
 pid: ∀z∈s.ar.ab,dv z.aa
 path: ∀z∈s.ay.ab,dv z.bp
 name: ∀z∈s.aq.aB,dv z.bl
theorem ajE {s:aM} (h:eQ s):nF s:=⟨h.p.gl,h.p.u,λz hz=>(h.m.path z hz).1,λz hz=>(h.i.name z hz).1⟩
theorem Yc {s:aM} (h:s.ar.ab.Pairwise λa b=>ix a.aa<ix b.aa):Aj s=true↔(∀d∈s.aI,eH s.ar.ab d.aa/\ ∃x∈s.ay.ab,x.aZ=d.cK)/\(∀n∈s.aq.aB,eH s.ar.ab n.aa)/\ ∀b∈s.aq.ax,eH s.ar.ab b.aa:=by
 unfold Aj
 simp only[Bool.and_eq_true,List.all_eq_true,List.any_eq_true,iR h,beq_iff_eq]
theorem Si {s:aM} (h:nF s):xO s=true↔eQ s:=by
 unfold xO
 rw[Bool.and_eq_true,Bool.and_eq_true,Bool.and_eq_true,Bool.and_eq_true,Ye,Yg h.path,Yf h.name]
 constructor
 ·rintro ⟨U,h2,h3,h4,h5⟩
  have U:=ajD h.gl h.pid U
  obtain⟨h5,h6,h7⟩:=(Yc U.ord).1 h5
  exact⟨U,h2,h3,h4,h5,h6,h7⟩
 ·intro h
  exact⟨Yh h.p,h.d,h.m,h.i,(Yc h.p.ord).2 ⟨h.bH,h.names,h.boxes⟩⟩
theorem oz {p:br} (h:fi p) {q:Int} (hr:eH p.ab q):fS q=true/\q<4294967296/\1<=q:=by
 obtain⟨x,hx,rfl,_⟩:=hr
 have:=h.pid hx
 unfold fS
 simp only[Bool.and_eq_true,decide_eq_true_eq]
 omega
inductive Step (s:aM) (p a b:Int):Int->aM->Int->Prop
 |spawn (i:Nat):cG s.ar.ab p=true->nh s.ar=some i->Step s p a b 1 ⟨⟨s.ar.aJ.set i (au s.ar.aJ i+1),cz (λy=>decide (ix y.aa<=i+1)) ⟨e9 s.ar i,p,false,0⟩ s.ar.ab⟩,s.aI,s.ay,s.aq⟩ (e9 s.ar i)
 |exit:eH s.ar.ab p->p≠1->(∀n∈s.aq.aB,n.aa≠p)->Step s p a b 2 ⟨⟨s.ar.aJ,s.ar.ab.filterMap (jW p a)⟩,uo s.aI p,s.ay,gC s.aq p []⟩ 0
 |wait (x:ae):x∈s.ar.ab->x.aa=a->x.ba=p->x.bC=true->Step s p a b 3 ⟨⟨s.ar.aJ,s.ar.ab.filter λy=>!(y.aa==x.aa)⟩,s.aI,s.ay,s.aq⟩ x.cJ
 |ah (x:az) (i:Nat):j3 s.ay a= .ok x.aZ->x∈s.ay.ab->lC s.aI p=some i->s.aI.length≠64->Step s p a b 4 ⟨s.ar,cz (λy=>e_ y ⟨p,i,x.aZ⟩) ⟨p,i,x.aZ⟩ s.aI,s.ay,s.aq⟩ i
 |close (w:Int):eE s.aI p a=some w->Step s p a b 5 ⟨s.ar,s.aI.filter λd=>!(d.aa==p&&d.bL==a),s.ay,s.aq⟩ 0
 |dup (w:Int) (i:Nat):eE s.aI p a=some w->lC s.aI p=some i->s.aI.length≠64->Step s p a b 6 ⟨s.ar,cz (λy=>e_ y ⟨p,i,w⟩) ⟨p,i,w⟩ s.aI,s.ay,s.aq⟩ i
 |vG:dr a=true->eG s.ay a=none->s.ay.ab.length≠16->s.ay.aN<=1073741824->Step s p a b 7 ⟨s.ar,s.aI,⟨s.ay.ab++[⟨a,s.ay.aN⟩],s.ay.aN+1⟩,s.aq⟩ s.ay.aN
 |Ph (x:az):x∈s.ay.ab->x.bp=a->(∀d∈s.aI,d.cK≠x.aZ)->oO s.ay a=false->Step s p a b 8 ⟨s.ar,s.aI,⟨s.ay.ab.filter λx=>!(x.bp==a),s.ay.aN⟩,s.aq⟩ 0
 |resolve (i:Int):j3 s.ay a= .ok i->Step s p a b 9 s i
 |register:gL a=true->fS p=true->gM s.aq.aB a=none->s.aq.aB.length≠16->Step s p a b 10 ⟨s.ar,s.aI,s.ay,⟨cz (λy=>decide (y.bl<a)) ⟨a,p⟩ s.aq.aB,s.aq.ax⟩⟩ 0
 |unregister:gL a=true->gM s.aq.aB a=some p->Step s p a b 11 ⟨s.ar,s.aI,s.ay,wg s.aq a⟩ 0
 |lookup (q:Int):gL a=true->gM s.aq.aB a=some q->Step s p a b 12 s q
 |send:eH s.ar.ab a->(dV s.aq a).length≠4->Step s p a b 13 ⟨s.ar,s.aI,s.ay,gC s.aq a (dV s.aq a++[b])⟩ 0
 |Ox (v:Int) (ws:List Int):dV s.aq p=v::ws->Step s p a b 14 ⟨s.ar,s.aI,s.ay,gC s.aq p ws⟩ v
theorem ajO {s:aM} (h:eQ s) {k p a b:Int} (k0:1<=k/\k<=14) {n:aM} {v:Int} (hk:ji s k p a b= .ok (n,v)):Step s p a b k n v:=by
 unfold ji at hk
 by_cases k1:k=1
 ·rw[if_pos k1] at hk
  subst k1
  cases e:oB s.ar p with
  |error _=>rw[e] at hk;cases hk
  |ok r=>
   obtain⟨q,w⟩:=r
   rw[e] at hk
   cases hk
   obtain⟨i,U,h2,rfl,rfl⟩:=anj e
   exact .spawn i U h2
 rw[if_neg k1] at hk
 by_cases k2:k=2
 ·rw[if_pos k2] at hk
  subst k2
  cases e:nN s.ar p a with
  |error _=>rw[e] at hk;cases hk
  |ok q=>
   rw[e] at hk
   obtain⟨U,h2,rfl⟩:=ahu e
   by_cases hh:pz s.aq p=[]
   ·simp only[hh,if_true] at hk
    cases hk
    refine .exit ((iR h.p.ord).1 U) h2 λn hn e=>?_
    have:n.bl∈pz s.aq p:=List.mem_map.2 ⟨n,List.mem_filter.2 ⟨hn,by simpa using e⟩,rfl⟩
    rw[hh] at this
    cases this
   ·simp only[hh,if_false] at hk
    cases hk
 rw[if_neg k2] at hk
 by_cases k3:k=3
 ·rw[if_pos k3] at hk
  subst k3
  cases e:oD s.ar p a with
  |error _=>rw[e] at hk;cases hk
  |ok r=>
   obtain⟨q,w⟩:=r
   rw[e] at hk
   cases hk
   obtain⟨x,hx,rfl,U,hd,rfl,_,rfl⟩:=aoZ h.p e
   exact .wait x hx rfl U hd
 rw[if_neg k3] at hk
 by_cases k4:k=4
 ·rw[if_pos k4] at hk
  subst k4
  cases e:j3 s.ay a with
  |error _=>rw[e] at hk;cases hk
  |ok i=>
   rw[e] at hk
   cases e2:mD s.aI p i with
   |error _=>simp only[e2] at hk;cases hk
   |ok r=>
    obtain⟨l,w⟩:=r
    simp only[e2] at hk
    cases hk
    obtain⟨x,hx,rfl⟩:=amB e
    obtain⟨j,U,h2,rfl,rfl⟩:=FR e2
    exact .ah x j e hx U h2
 rw[if_neg k4] at hk
 by_cases k5:k=5
 ·rw[if_pos k5] at hk
  subst k5
  cases e:j9 s.aI p a with
  |error _=>rw[e] at hk;cases hk
  |ok l=>
   rw[e] at hk
   cases hk
   obtain⟨w,hw,rfl⟩:=Sn e
   exact .close w hw
 rw[if_neg k5] at hk
 by_cases k6:k=6
 ·rw[if_pos k6] at hk
  subst k6
  cases e:mb s.aI p a with
  |error _=>rw[e] at hk;cases hk
  |ok r=>
   obtain⟨l,w⟩:=r
   rw[e] at hk
   cases hk
   obtain⟨bH,U,h2⟩:=SE e
   obtain⟨j,h3,h4,rfl,rfl⟩:=FR h2
   exact .dup bH j U h3 h4
 rw[if_neg k6] at hk
 by_cases k7:k=7
 ·rw[if_pos k7] at hk
  subst k7
  cases e:nH s.ay a with
  |error _=>rw[e] at hk;cases hk
  |ok r=>
   obtain⟨m,w⟩:=r
   rw[e] at hk
   cases hk
   obtain⟨U,h2,h3,h4,rfl,rfl⟩:=adh e
   exact .vG U h2 h3 h4
 rw[if_neg k7] at hk
 by_cases k8:k=8
 ·rw[if_pos k8] at hk
  subst k8
  cases e:nj s.ay a with
  |error _=>rw[e] at hk;cases hk
  |ok i=>
   rw[e] at hk
   by_cases hc:oR s.aI i=0
   ·simp only[hc,if_true] at hk
    cases e2:nt s.ay a with
    |error _=>simp only[e2] at hk;cases hk
    |ok m=>
     simp only[e2] at hk
     cases hk
     obtain⟨U,_,h2,rfl⟩:=aoB e2
     obtain⟨x0,mu,kj,rfl⟩:=MA (akq e).2
     refine .Ph x0 mu kj (λd hd hw=>?_) h2
     have:d∈s.aI.filter λd=>d.cK==x0.aZ:=List.mem_filter.2 ⟨hd,by simpa using hw⟩
     rw[List.eq_nil_of_length_eq_zero hc] at this
     cases this
   ·simp only[hc,if_false] at hk
    cases hk
 rw[if_neg k8] at hk
 by_cases k9:k=9
 ·rw[if_pos k9] at hk
  subst k9
  cases e:j3 s.ay a with
  |error _=>rw[e] at hk;cases hk
  |ok i=>rw[e] at hk;cases hk;exact .resolve _ e
 rw[if_neg k9] at hk
 by_cases vv:k=10
 ·rw[if_pos vv] at hk
  subst vv
  cases e:ov s.aq a p with
  |error _=>rw[e] at hk;cases hk
  |ok r=>
   rw[e] at hk
   cases hk
   obtain⟨U,h2,h3,h4,rfl⟩:=amw e
   exact .register U h2 h3 h4
 rw[if_neg vv] at hk
 by_cases vx:k=11
 ·rw[if_pos vx] at hk
  subst vx
  cases e:kB s.aq a with
  |error _=>rw[e] at hk;cases hk
  |ok q=>
   rw[e] at hk
   by_cases hq:q=p
   ·subst hq
    simp only[if_true] at hk
    cases hk
    exact .unregister (zO e).1 (zO e).2
   ·simp only[hq,if_false] at hk
    cases hk
 rw[if_neg vx] at hk
 by_cases vy:k=12
 ·rw[if_pos vy] at hk
  subst vy
  cases e:kB s.aq a with
  |error _=>rw[e] at hk;cases hk
  |ok i=>rw[e] at hk;cases hk;exact .lookup _ (zO e).1 (zO e).2
 rw[if_neg vy] at hk
 by_cases vz:k=13
 ·rw[if_pos vz] at hk
  subst vz
  cases q_:cG s.ar.ab a with
  |false=>rw[q_] at hk;cases hk
  |true=>
   rw[q_] at hk
   cases e:rI s.aq a b with
   |error _=>rw[e] at hk;cases hk
   |ok r=>
    rw[e] at hk
    cases hk
    obtain⟨U,rfl⟩:=anb e
    exact .send ((iR h.p.ord).1 q_) U
 rw[if_neg vz] at hk
 obtain rfl:k=14:=by omega
 cases e:pW s.aq p with
 |error _=>rw[e] at hk;cases hk
 |ok r=>
  obtain⟨r,w⟩:=r
  rw[e] at hk
  cases hk
  obtain⟨ws,U,rfl⟩:=amt e
  exact .Ox _ ws U
theorem Xj {s:aM} (h:eQ s) {p bH:Int} {i:Nat} (a_:eH s.ar.ab p) (hw: ∃x∈s.ay.ab,x.aZ=bH) (U:lC s.aI p=some i) (h2:s.aI.length≠64):eQ ⟨s.ar,cz (λy=>e_ y ⟨p,i,bH⟩) ⟨p,i,bH⟩ s.aI,s.ay,s.aq⟩:=by
 refine⟨h.p,akI h.d (oz h.p a_).2.1 U h2,h.m,h.i,λd hd=>?_,h.names,h.boxes⟩
 rcases rj.1 hd with rfl|hd
 ·exact⟨a_,hw⟩
 ·exact h.bH d hd
theorem anm {s:aM} (h:eQ s) {k p a b:Int} (hu:dv a) (hr:k≠9->k≠12->eH s.ar.ab p) {n:aM} {v:Int} (hk:Step s p a b k n v):eQ n:=by
 cases hk with
 |spawn i U h2=>
  have hm: ∀ {y},eH s.ar.ab y->eH (cz (λy=>decide (ix y.aa<=i+1)) ⟨e9 s.ar i,p,false,0⟩ s.ar.ab) y:=λ{y}=>YA λx hx e d=>⟨x,rj.2 (.inr hx),e,d⟩
  exact⟨ani h.p U h2,h.d,h.m,h.i,λd hd=>(h.bH d hd).imp_left hm,λn hn=>hm (h.names n hn),λb hb=>hm (h.boxes b hb)⟩
 |exit a_ h2 aiY=>
  refine⟨ahs h.p a_ h2,h.d.filter _,h.m,Py h.i (oz h.p a_).1 (Nat.zero_le _),λd hd=>?_,λn hn=>DN (aiY n hn) (h.names n hn),λb hb=>?_⟩
  ·obtain⟨hd,aU⟩:=List.mem_filter.1 hd
   have aU:d.aa≠p:=by simpa using aU
   exact(h.bH d hd).imp_left (DN aU)
  ·rcases wh.1 hb with⟨hb,aU⟩|⟨hn,_⟩
   ·exact DN aU (h.boxes b hb)
   ·exact(hn rfl).elim
 |wait x hx _ _ hd=>
  have hm: ∀ {y},eH s.ar.ab y->eH (s.ar.ab.filter λy=>!(y.aa==x.aa)) y:=λ{y}=>Z7 h.p hx hd
  exact⟨aoY h.p hx hd,h.d,h.m,h.i,λd hd=>(h.bH d hd).imp_left hm,λn hn=>hm (h.names n hn),λb hb=>hm (h.boxes b hb)⟩
 |ah x i h0 hx U h2=>exact Xj h (hr (by omega) (by omega)) ⟨x,hx,rfl⟩ U h2
 |close=>exact⟨h.p,h.d.filter _,h.m,h.i,λd hd=>h.bH d (List.mem_filter.1 hd).1,h.names,h.boxes⟩
 |dup w i h0 U h2=>
  obtain⟨d,hd,_,_,rfl⟩:=Li h0
  exact Xj h (hr (by omega) (by omega)) (h.bH d hd).2 U h2
 |vG U h2 h3 h4=>exact⟨h.p,h.d,adf h.m hu U h2 h3 h4,h.i,λd hd=>⟨(h.bH d hd).1,(h.bH d hd).2.imp λx hx=>⟨List.mem_append_left _ hx.1,hx.2⟩⟩,h.names,h.boxes⟩
 |Ph x0 mu kj hc h2=>
  refine⟨h.p,h.d,h.m.filter _,h.i,λd hd=>⟨(h.bH d hd).1,?_⟩,h.names,h.boxes⟩
  obtain⟨x,hx,hw⟩:=(h.bH d hd).2
  refine⟨x,List.mem_filter.2 ⟨hx,?_⟩,hw⟩
  have aU:x.bp≠a:=λe=>by
   have:=aj4 h.m hx mu (e.trans kj.symm)
   subst this
   exact hc d hd hw.symm
  simpa using aU
 |resolve=>exact h
 |register U h2 h3 h4=>
  refine⟨h.p,h.d,h.m,amv h.i hu U h2 h3 h4,h.bH,λn hn=>?_,h.boxes⟩
  rcases rj.1 hn with rfl|hn
  ·exact hr (by omega) (by omega)
  ·exact h.names n hn
 |unregister=>exact⟨h.p,h.d,h.m,aoE h.i a,h.bH,λn hn=>h.names n (List.mem_filter.1 hn).1,h.boxes⟩
 |lookup=>exact h
 |send a_ U=>
  have:=Pt h.i a
  refine⟨h.p,h.d,h.m,Py h.i (oz h.p a_).1 (by rw[List.length_append,List.length_singleton];omega),h.bH,h.names,λb hb=>?_⟩
  rcases wh.1 hb with⟨hb,_⟩|⟨_,rfl⟩
  ·exact h.boxes b hb
  ·exact a_
 |Ox v ws U=>
  have a_:=hr (by omega) (by omega)
  have:=Pt h.i p
  rw[U,List.length_cons] at this
  refine⟨h.p,h.d,h.m,Py h.i (oz h.p a_).1 (by omega),h.bH,h.names,λb hb=>?_⟩
  rcases wh.1 hb with⟨hb,_⟩|⟨_,rfl⟩
  ·exact h.boxes b hb
  ·exact a_
theorem Dx {s:aM} (h:eQ s) {c:aW} {n:aM} {v:Int} (hk:ma s c= .ok (n,v)):Step s (au c.fArgs 0) (au c.fArgs 1) (au c.fArgs 2) c.bJ n v/\(c.bJ≠9->c.bJ≠12->eH s.ar.ab (au c.fArgs 0)):=by
 unfold ma at hk
 split at hk
 ·rename_i k0
  cases e:mG c||cG s.ar.ab (au c.fArgs 0) with
  |false=>rw[e] at hk;cases hk
  |true=>
   rw[e] at hk
   refine⟨ajO h k0 hk,λk1 k2=>?_⟩
   rw[<-iR h.p.ord]
   simpa[mG,k1,k2] using e
 ·cases hk
theorem xS {s:aM} (h:eQ s) {c:aW} (hu:dv (au c.fArgs 1)):eQ (dY s c).1:=by
 unfold dY
 cases e:ma s c with
 |error _=>exact h
 |ok r=>
  obtain⟨U,h2⟩:=Dx h e
  exact anm h hu h2 U
theorem ou {α:Type} {l:List α} {lt:α->Bool} {x:α} (h:cz lt x l=l):False:=by
 have:=congrArg List.length h
 rw[Nc] at this
 omega
theorem Eb {α:Type} {l:List α} {p:α->Bool} {x:α} (hx:x∈l) (hp:p x=false) (h:l.filter p=l):False:=by
 rw[<-h] at hx
 have:=(List.mem_filter.1 hx).2
 rw[hp] at this
 cases this
theorem anq {s:aM} {k p a b:Int} {n:aM} {v:Int} (hk:Step s p a b k n v):n=s↔k=9\/k=12:=by
 constructor
 ·intro e
  cases hk with
  |spawn i=>exact(ou (congrArg (λx=>x.ar.ab) e)).elim
  |exit hr=>
   have:=congrArg (λx=>x.ar.ab) e
   simp only at this
   exact(SZ (this▸hr)).elim
  |wait x hx=>exact(Eb hx (by simp) (congrArg (λx=>x.ar.ab) e)).elim
  |ah=>exact(ou (congrArg (λx=>x.aI) e)).elim
  |close w hw=>
   obtain⟨d,hd,U,h2,_⟩:=Li hw
   exact(Eb hd (by simp[U,h2]) (congrArg (λx=>x.aI) e)).elim
  |dup=>exact(ou (congrArg (λx=>x.aI) e)).elim
  |vG=>
   have:=congrArg (λx=>x.ay.aN) e
   simp only at this
   omega
  |Ph x hx hp=>exact(Eb hx (by simp[hp]) (congrArg (λx=>x.ay.ab) e)).elim
  |resolve=>exact .inl rfl
  |register=>exact(ou (congrArg (λx=>x.aq.aB) e)).elim
  |unregister _ U=>
   obtain⟨z,hz,h2,_⟩:=WD U
   exact(Eb hz (by simp[h2]) (congrArg (λx=>x.aq.aB) e)).elim
  |lookup=>exact .inr rfl
  |send _ U=>
   have:=congrArg (λx=>(dV x.aq a).length) e
   simp only[GL,List.length_append,List.length_singleton] at this
   omega
  |Ox v ws U=>
   have:=congrArg (λx=>(dV x.aq p).length) e
   simp only[GL,U,List.length_cons] at this
   omega
 ·intro e
  cases hk<;>first|rfl|omega
def jV:List Int:=[2,4,5,6,310,321,322,323,324,341,351,361,362]
theorem SU {e:Int} (h:e∈jV):e≠0:=by
 intro e0
 subst e0
 revert h
 decide
theorem lB {e:Int} (h:e∈jV):(e==0)=false:=by simpa using SU h
theorem Zs {x:br} {y e:Int} (h:oB x y= .error e):e∈jV:=by
 unfold oB at h
 cases U:cG x.ab y with
 |false=>rw[U] at h;cases h;decide
 |true=>
  rw[U] at h
  cases h2:nh x<;>(rw[h2] at h;cases h)
  decide
theorem SY {x:br} {y z e:Int} (h:nN x y z= .error e):e∈jV:=by
 unfold nN at h
 cases U:cG x.ab y with
 |false=>rw[U] at h;cases h;decide
 |true=>
  rw[U] at h
  cases h2:y==1<;>(rw[h2] at h;cases h)
  decide
theorem Z6 {x:br} {y z e:Int} (h:oD x y z= .error e):e∈jV:=by
 unfold oD at h
 cases U:cG x.ab y with
 |false=>rw[U] at h;cases h;decide
 |true=>
  rw[U] at h
  cases h2:jm x.ab z with
  |none=>rw[h2] at h;cases h;decide
  |some u=>
   rw[h2] at h
   cases h3:u.ba==y with
   |false=>simp only[h3,cond_true,cond_false] at h;cases h;decide
   |true=>cases h4:u.bC<;>(simp only[h3,h4,cond_true,cond_false] at h;cases h);decide
theorem NN {x:List ai} {y z e:Int} (h:mD x y z= .error e):e∈jV:=by
 unfold mD at h
 cases U:lC x y with
 |none=>rw[U] at h;cases h;decide
 |some i=>
  rw[U] at h
  cases h2:x.length==64<;>(simp only[h2,cond_true,cond_false] at h;cases h)
  decide
theorem adQ {x:List ai} {y z e:Int} (h:j9 x y z= .error e):e∈jV:=by
 unfold j9 at h
 cases e:eE x y z<;>(rw[e] at h;cases h)
 decide
theorem SD {x:List ai} {y z e:Int} (h:mb x y z= .error e):e∈jV:=by
 unfold mb at h
 cases e:eE x y z with
 |none=>rw[e] at h;cases h;decide
 |some w=>rw[e] at h;exact NN h
theorem Gm {x:bG} {y e:Int} (h:j3 x y= .error e):e∈jV:=by
 unfold j3 at h
 cases U:dr y with
 |false=>rw[U] at h;cases h;decide
 |true=>
  rw[U] at h
  cases h2:GF x y<;>(rw[h2] at h;cases h)
  decide
theorem W9 {x:bG} {y e:Int} (h:nj x y= .error e):e∈jV:=by
 unfold nj at h
 cases U:dr y with
 |false=>rw[U] at h;cases h;decide
 |true=>
  rw[U] at h
  cases h2:eG x y<;>(rw[h2] at h;cases h)
  decide
theorem RT {x:bG} {y e:Int} (h:nH x y= .error e):e∈jV:=by
 unfold nH at h
 cases U:dr y with
 |false=>rw[U] at h;cases h;decide
 |true=>
  rw[U] at h
  cases h2:eG x y with
  |some _=>rw[h2] at h;cases h;decide
  |none=>
   rw[h2] at h
   cases h3:(x.ab.length==16||decide (x.aN>1073741824))<;>(simp only[h3,cond_true,cond_false] at h;cases h)
   decide
theorem ZH {x:bG} {y e:Int} (h:nt x y= .error e):e∈jV:=by
 unfold nt at h
 cases U:dr y with
 |false=>rw[U] at h;cases h;decide
 |true=>
  rw[U] at h
  cases h2:eG x y with
  |none=>rw[h2] at h;cases h;decide
  |some i=>
   rw[h2] at h
   cases h3:oO x y<;>(simp only[h3,cond_true,cond_false] at h;cases h)
   decide
theorem FI {x:aL} {y e:Int} (h:kB x y= .error e):e∈jV:=by
 unfold kB at h
 cases U:gL y with
 |false=>rw[U] at h;cases h;decide
 |true=>
  rw[U] at h
  cases h2:gM x.aB y<;>(rw[h2] at h;cases h)
  decide
theorem X1 {x:aL} {y z e:Int} (h:ov x y z= .error e):e∈jV:=by
 unfold ov at h
 cases U:gL y with
 |false=>rw[U] at h;cases h;decide
 |true=>
  cases h2:fS z with
  |false=>rw[U,h2] at h;cases h;decide
  |true=>
   rw[U,h2] at h
   cases h3:gM x.aB y with
   |some _=>rw[h3] at h;cases h;decide
   |none=>
    rw[h3] at h
    cases h4:x.aB.length==16<;>(simp only[h4,cond_true,cond_false] at h;cases h)
    decide
theorem ana {x:aL} {y z e:Int} (h:rI x y z= .error e):e∈jV:=by
 unfold rI at h
 cases e:(dV x y).length==4<;>(rw[e] at h;cases h)
 decide
theorem ams {x:aL} {y e:Int} (h:pW x y= .error e):e∈jV:=by
 unfold pW at h
 cases e:dV x y<;>(rw[e] at h;cases h)
 decide
theorem ajN {s:aM} {k p a b e:Int} (hk:ji s k p a b= .error e):e≠0:=by
 refine SU ?_
 unfold ji at hk
 by_cases k1:k=1
 ·rw[if_pos k1] at hk
  cases e:oB s.ar p with
  |error _=>rw[e] at hk;cases hk;exact Zs e
  |ok r=>rw[e] at hk;cases hk
 rw[if_neg k1] at hk
 by_cases k2:k=2
 ·rw[if_pos k2] at hk
  cases e:nN s.ar p a with
  |error _=>rw[e] at hk;cases hk;exact SY e
  |ok r=>
   rw[e] at hk
   by_cases hh:pz s.aq p=[]
   ·simp only[hh,if_true] at hk;cases hk
   ·simp only[hh,if_false] at hk;cases hk;decide
 rw[if_neg k2] at hk
 by_cases k3:k=3
 ·rw[if_pos k3] at hk
  cases e:oD s.ar p a with
  |error _=>rw[e] at hk;cases hk;exact Z6 e
  |ok r=>rw[e] at hk;cases hk
 rw[if_neg k3] at hk
 by_cases k4:k=4
 ·rw[if_pos k4] at hk
  cases e:j3 s.ay a with
  |error _=>rw[e] at hk;cases hk;exact Gm e
  |ok i=>
   rw[e] at hk
   cases e2:mD s.aI p i with
   |error _=>simp only[e2] at hk;cases hk;exact NN e2
   |ok r=>simp only[e2] at hk;cases hk
 rw[if_neg k4] at hk
 by_cases k5:k=5
 ·rw[if_pos k5] at hk
  cases e:j9 s.aI p a with
  |error _=>rw[e] at hk;cases hk;exact adQ e
  |ok r=>rw[e] at hk;cases hk
 rw[if_neg k5] at hk
 by_cases k6:k=6
 ·rw[if_pos k6] at hk
  cases e:mb s.aI p a with
  |error _=>rw[e] at hk;cases hk;exact SD e
  |ok r=>rw[e] at hk;cases hk
 rw[if_neg k6] at hk
 by_cases k7:k=7
 ·rw[if_pos k7] at hk
  cases e:nH s.ay a with
  |error _=>rw[e] at hk;cases hk;exact RT e
  |ok r=>rw[e] at hk;cases hk
 rw[if_neg k7] at hk
 by_cases k8:k=8
 ·rw[if_pos k8] at hk
  cases e:nj s.ay a with
  |error _=>rw[e] at hk;cases hk;exact W9 e
  |ok i=>
   rw[e] at hk
   by_cases hc:oR s.aI i=0
   ·simp only[hc,if_true] at hk
    cases e2:nt s.ay a with
    |error _=>simp only[e2] at hk;cases hk;exact ZH e2
    |ok m=>simp only[e2] at hk;cases hk
   ·simp only[hc,if_false] at hk;cases hk;decide
 rw[if_neg k8] at hk
 by_cases k9:k=9
 ·rw[if_pos k9] at hk
  cases e:j3 s.ay a with
  |error _=>rw[e] at hk;cases hk;exact Gm e
  |ok r=>rw[e] at hk;cases hk
 rw[if_neg k9] at hk
 by_cases vv:k=10
 ·rw[if_pos vv] at hk
  cases e:ov s.aq a p with
  |error _=>rw[e] at hk;cases hk;exact X1 e
  |ok r=>rw[e] at hk;cases hk
 rw[if_neg vv] at hk
 by_cases vx:k=11
 ·rw[if_pos vx] at hk
  cases e:kB s.aq a with
  |error _=>rw[e] at hk;cases hk;exact FI e
  |ok q=>
   rw[e] at hk
   by_cases hq:q=p
   ·simp only[hq,if_true] at hk;cases hk
   ·simp only[hq,if_false] at hk;cases hk;decide
 rw[if_neg vx] at hk
 by_cases vy:k=12
 ·rw[if_pos vy] at hk
  cases e:kB s.aq a with
  |error _=>rw[e] at hk;cases hk;exact FI e
  |ok r=>rw[e] at hk;cases hk
 rw[if_neg vy] at hk
 by_cases vz:k=13
 ·rw[if_pos vz] at hk
  cases q_:cG s.ar.ab a with
  |false=>rw[q_] at hk;cases hk;decide
  |true=>
   rw[q_] at hk
   cases e:rI s.aq a b with
   |error _=>rw[e] at hk;cases hk;exact ana e
   |ok r=>rw[e] at hk;cases hk
 rw[if_neg vz] at hk
 cases e:pW s.aq p with
 |error _=>rw[e] at hk;cases hk;exact ams e
 |ok r=>rw[e] at hk;cases hk
theorem JI {s:aM} {c:aW} {e:Int} (hk:ma s c= .error e):e≠0:=by
 unfold ma at hk
 split at hk
 ·cases U:mG c||cG s.ar.ab (au c.fArgs 0) with
  |false=>rw[U] at hk;cases hk;decide
  |true=>rw[U] at hk;exact ajN hk
 ·cases hk;decide
theorem Sz {s:aM} (h:eQ s) (c:aW):(dY s c).1=s↔(dY s c).2.cD≠0\/mG c=true:=by
 unfold dY
 cases e:ma s c with
 |error x=>exact⟨λ_=> .inl (JI e),λ_=>rfl⟩
 |ok r=>
  rw[show mG c=true↔c.bJ=9\/c.bJ=12 by simp[mG]]
  rw[<-anq (Dx h e).1]
  simp
theorem afb {s:aM} (h:eQ s) {c:aW} (hk:c.bJ=12) (he:(dY s c).2.cD=0):cG s.ar.ab (dY s c).2.dd=true:=by
 unfold dY at he ⊢
 cases e:ma s c with
 |error x=>rw[e] at he;exact(JI e he).elim
 |ok r=>
  obtain⟨U,_⟩:=Dx h e
  rw[hk] at U
  cases U with
  |lookup q _ h2=>
   obtain⟨z,hz,_,h3⟩:=WD h2
   have:=h.names z hz
   rw[h3] at this
   exact(iR h.p.ord).2 this
def Used (s:aM) (q:Int):Prop:=0<=q/\1<=ix q/\ix q<=16/\q/64+1<=au s.ar.aJ (ix q-1).toNat
theorem aoG {s:aM} (h:eQ s) {x:ae} (hx:x∈s.ar.ab):Used s x.aa:=by
 have U:=h.p.one x hx
 exact⟨(h.p.u x hx).1,U.i1,U.i2,Int.le_of_eq U.gen⟩
theorem ans {s:aM} (h:eQ s) {k p a b:Int} {n:aM} {v:Int} (hk:Step s p a b k n v) {q:Int} (hu:Used s q):Used n q:=by
 cases hk with
 |spawn i U h2=>
  obtain⟨u1,u2,u3,u4⟩:=hu
  refine⟨u1,u2,u3,?_⟩
  show q/64+1<=au (s.ar.aJ.set i _) _
  rw[mA (by rw[h.p.gl];exact(vB h2).1)]
  split
  ·rename_i e;rw[e] at u4;omega
  ·exact u4
 |_=>exact hu
theorem anr {s:aM} (h:eQ s) {p a b:Int} {n:aM} {v:Int} (hk:Step s p a b 1 n v): ¬Used s v/\Used n v:=by
 cases hk with
 |spawn i U h2=>
  obtain⟨n0,n1,n2,n3⟩:=Nj h.p h2
  have e:((ix (e9 s.ar i))-1).toNat=i:=by omega
  constructor
  ·rintro ⟨_,_,_,u⟩
   rw[e] at u
   omega
  ·refine⟨n0,by omega,by have:=(vB h2).1;omega,?_⟩
   show _<=au (s.ar.aJ.set i _) _
   rw[e,mA (by rw[h.p.gl];exact(vB h2).1),if_pos rfl]
   omega
theorem ano {s:aM} {k p a b:Int} {n:aM} {v:Int} (hk:Step s p a b k n v):s.ay.aN<=n.ay.aN:=by
 cases hk with
 |vG=>
  show s.ay.aN<=s.ay.aN+1
  omega
 |_=>exact Int.le_refl _
theorem ann {s:aM} {p a b:Int} {n:aM} {v:Int} (hk:Step s p a b 7 n v):s.ay.aN<=v/\v<n.ay.aN:=by
 cases hk with
 |vG=>
  refine⟨Int.le_refl _,?_⟩
  show s.ay.aN<s.ay.aN+1
  omega
theorem step_exit {s:aM} {p a b:Int} {n:aM} {v:Int} (hk:Step s p a b 2 n v):(∀d∈n.aI,d.aa≠p)/\dV n.aq p=[]/\pz n.aq p=[]/\ ¬eH n.ar.ab p:=by
 cases hk with
 |exit _ _ h3=>
  refine⟨λd hd=>by simpa using(List.mem_filter.1 hd).2,GL,?_,SZ⟩
  show(s.aq.aB.filter λy=>y.aa==p).map aA.bl=[]
  rw[List.map_eq_nil_iff,List.filter_eq_nil_iff]
  intro z hz
  simpa using h3 z hz
theorem filter_all {α:Type} {l:List α} {p:α->Bool} (h: ∀z∈l,p z=true):l.filter p=l:=List.filter_eq_self.2 h
theorem Tm {α:Type} {l:List α} {p lt:α->Bool} {x:α} (h: ∀z∈l,p z=true) (hx:p x=false):(cz lt x l).filter p=l:=by
 unfold cz
 rw[List.filter_append,List.filter_cons_of_neg (by simp[hx]),<-List.filter_append,take_drop,filter_all h]
theorem Ts {α:Type} {l:List α} {p lt:α->Bool} {x:α} (h: ∀z∈l,p z=false) (hx:p x=true):(cz lt x l).find? p=some x:=by
 unfold cz
 rw[List.find?_append,mX.2 λz hz=>h z ((List.takeWhile_sublist lt).mem hz),Option.none_or,List.find?_cons,hx]
theorem ao6 {s:aL} (h:gD s) {p:Int} {ws:List Int} (hn: ∀b∈s.ax,b.aa≠p):gC (gC s p ws) p []=s:=by
 have e:(gC (gC s p ws) p []).ax=s.ax:=by
  refine Zr (λa b U h2=>by omega) (Pz (Pz h.oq)) h.oq λx=>?_
  rw[wh,wh]
  constructor
  ·rintro (⟨⟨U,_⟩|⟨_,rfl⟩,h2⟩|⟨U,_⟩)
   ·exact U
   ·exact(h2 rfl).elim
   ·exact(U rfl).elim
  ·intro hx
   exact .inl ⟨.inl ⟨hx,hn x hx⟩,hn x hx⟩
 obtain⟨ns,bs⟩:=s
 exact congrArg (aL.mk ns) e
theorem ao0 {s:aL} {p:Int} (hn: ∀b∈s.ax,b.aa≠p):dV s p=[]:=by
 unfold dV
 rw[mX.2 λb hb=>by simpa using hn b hb]
theorem ads {s:aM} (h:eQ s) {p a b:Int} {n:aM} {v:Int} (hk:Step s p a b 7 n v) (c d:Int):ji n 8 p a c= .error 341\/ji n 8 p a d= .ok (⟨s.ar,s.aI,⟨s.ay.ab,n.ay.aN⟩,s.aq⟩,0):=by
 cases hk with
 |vG U h2 h3 h4=>
  have hi:eG ⟨s.ay.ab++[⟨a,s.ay.aN⟩],s.ay.aN+1⟩ a=some s.ay.aN:=by
   unfold eG
   rw[List.find?_append,mX.2 λx hx=>by simpa using Mz h2 x hx]
   simp
  have hc:oR s.aI s.ay.aN=0:=by
   unfold oR
   rw[List.length_eq_zero_iff,List.filter_eq_nil_iff]
   intro d hd e
   obtain⟨x,hx,hw⟩:=(h.bH d hd).2
   have:=(h.m.id x hx).2
   have:d.cK=s.ay.aN:=by simpa using e
   omega
  unfold ji nj nt
  simp only[U,hi,hc,if_true,cond_true,show((8:Int)=1)=False by simp,show((8:Int)=2)=False by simp,show((8:Int)=3)=False by simp,show((8:Int)=4)=False by simp,show((8:Int)=5)=False by simp,show((8:Int)=6)=False by simp,show((8:Int)=7)=False by simp,if_false]
  cases oO ⟨s.ay.ab++[⟨a,s.ay.aN⟩],s.ay.aN+1⟩ a with
  |true=>exact .inl rfl
  |false=>
   right
   simp only[cond_false]
   rw[List.filter_append,filter_all λx hx=>by simpa using Mz h2 x hx]
   simp
theorem adt {s:aM} {p a b:Int} {n:aM} {v:Int} (hk:Step s p a b 10 n v) (d:Int):ji n 11 p a d= .ok (s,0):=by
 cases hk with
 |register U h2 h3 h4=>
  have hl:gM (cz (λy=>decide (y.bl<a)) ⟨a,p⟩ s.aq.aB) a=some p:=by
   unfold gM
   rw[Ts (λz hz=>by simpa using Nf h3 z hz) (by simp)]
   rfl
  unfold ji kB wg
  simp[U,hl,Tm (l:=s.aq.aB) (x:=aA.mk a p) (lt:=λy=>decide (y.bl<a)) (p:=λy=>!(y.bl==a)) (λz hz=>by simpa using Nf h3 z hz) (by simp)]
theorem R8 {l:List ai} {p w:Int} {i:Nat} (hf:lC l p=some i):j9 (cz (λy=>e_ y ⟨p,i,w⟩) ⟨p,i,w⟩ l) p i= .ok l:=by
 have U:=(uK hf).2
 have h2: ∀z∈l,(z.aa==p&&z.bL==(i:Int))=false:=λz hz=>by simpa using U z hz
 unfold j9 eE
 rw[Ts h2 (by simp)]
 simp only[Option.map_some]
 rw[Tm (λz hz=>by rw[h2 z hz];rfl) (by simp)]
theorem R7 {s:aM} {p a b:Int} {n:aM} {v k:Int} (h4:k=4\/k=6) (hk:Step s p a b k n v) (d:Int):ji n 5 p v d= .ok (s,0):=by
 cases hk with
 |ah x i h0 hx U h2=>unfold ji;simp[R8 U]
 |dup w i h0 U h2=>unfold ji;simp[R8 U]
 |_=>omega
theorem adu {s:aM} (h:eQ s) {p a b:Int} {n:aM} {v:Int} (hk:Step s p a b 13 n v) (hn: ∀x∈s.aq.ax,x.aa≠a) (c d:Int):eH n.ar.ab a/\ji n 14 a c d= .ok (s,b):=by
 cases hk with
 |send U h2=>
  refine⟨U,?_⟩
  unfold ji pW
  simp[GL,ao0 hn,ao6 h.i hn]
end Go.Proofs.YtdhaaaeffhaadaaGreatDoor
end
section
namespace Go.Proofs.YtdhaaaeffhaadaaGreatDoor
open Go.RowKit Go.Dc Go.Vx
section
variable {α σ X β:Type}
theorem Gp {step:Int->α->Unit->Option (Unit ⊕ X)} {fin:Int->Unit->Option X} {p:α->Bool} {e:Nat->X} {l:List α} (h: ∀(i:Nat) z,l[i]? =some z->step i z ()=bif p z then some (.inr (e i)) else some (.inl ())):
  cS step fin 0 l ()=match l.findIdx? p with|some i=>some (e i)|none=>fin (l.length:Int) ():=by
 suffices H: ∀(r pre:List α),l=pre++r->cS step fin pre.length r ()=match r.findIdx? p with|some i=>some (e (pre.length+i))|none=>fin (l.length:Int) () by
  have:=H l [] rfl
  simpa using this
 intro r
 induction r with
 |nil=>intro pre e;rw[e,List.append_nil];rfl
 |cons z r ih=>
  intro pre e'
  rw[mI,h pre.length z (by rw[e'];simp),List.findIdx?_cons]
  cases hp:p z with
  |true=>simp
  |false=>
   simp only[cond_false,Option.bind_some]
   have:=ih (pre++[z]) (by rw[e'];simp)
   rw[show(pre++[z]).length=pre.length+1 by simp] at this
   rw[this]
   cases hf:r.findIdx? p with
   |none=>rfl
   |some i=>simp only[Option.map_some,Bool.false_eq_true,if_false];rw[show pre.length+1+i=pre.length+(i+1) by omega]
theorem OG {step:Int->α->σ->Option (σ ⊕ X)} {fin:Int->σ->Option X} {g:σ->α->σ} {Q:Nat->σ->Prop} {l:List α} (h: ∀(i:Nat) z a,l[i]? =some z->Q i a->step i z a=some (.inl (g a z))/\Q (i+1) (g a z)):
  ∀(r pre:List α) (a:σ),l=pre++r->Q pre.length a->cS step fin pre.length r a=fin (l.length:Int) (r.foldl g a)
 |[],pre,a,e,_=>by rw[e,List.append_nil];rfl
 |z::r,pre,a,e,hq=>by
  obtain⟨U,h2⟩:=h pre.length z a (by rw[e];simp) hq
  rw[mI,U]
  have:=OG (fin:=fin) h r (pre++[z]) (g a z) (by rw[e];simp) (by rw[List.length_append,List.length_singleton];exact h2)
  rw[List.length_append,List.length_singleton] at this
  exact this
theorem Ku {p:α->Bool} {f:α->β}: ∀(l:List α) (a:List β),l.foldl (λa z=>if p z then a++[f z] else a) a=a++(l.filter p).map f
 |[],a=>by simp
 |z::r,a=>by
  rw[List.foldl_cons,Ku r]
  cases hp:p z<;>simp[hp]
theorem VB {p:Bool} {a:List β} {y:β} {i:Nat} (h:a.length<=i):(if p then a++[y] else a).length<=i+1:=by
 split
 ·simp;omega
 ·omega
theorem Ao {step:Int->α->List β->Option (List β ⊕ X)} {fin:Int->List β->Option X} {p:α->Bool} {f:α->β} {l:List α} (h: ∀(i:Nat) z a,l[i]? =some z->a.length<=i->step i z a=some (.inl (if p z then a++[f z] else a))):
  cS step fin 0 l []=fin (l.length:Int) ((l.filter p).map f):=by
 have:=OG (fin:=fin) (Q:=λi a=>a.length<=i) (g:=λa z=>if p z then a++[f z] else a) (λi z a hz hq=>⟨h i z a hz hq,VB hq⟩) l [] [] rfl (Nat.le_refl 0)
 rw[Ku] at this
 exact this
theorem aab {step:Int×σ->Option ((Int×σ) ⊕ X)} {g:σ->α->σ} {Q:Nat->σ->Prop} {x:σ->X} {l:List α} (h: ∀(i:Nat) z a,l[i]? =some z->Q i a->step ((i:Int),a)=some (.inl (((i+1:Nat):Int),g a z))/\Q (i+1) (g a z)) (hN: ∀a,Q l.length a->step ((l.length:Int),a)=some (.inr (x a))):
  ∀(r pre:List α) (a:σ) (n:Nat),l=pre++r->Q pre.length a->r.length<n->dH step n ((pre.length:Int),a)=some (x (r.foldl g a))
 |[],pre,a,n+1,e,hq,_=>by
  have e':l=pre:=by rw[e,List.append_nil]
  rw[fv,<-e',hN a (e'▸hq)]
  rfl
 |z::r,pre,a,n+1,e,hq,hn=>by
  obtain⟨U,h2⟩:=h pre.length z a (by rw[e];simp) hq
  rw[fv,U]
  have:=aab h hN r (pre++[z]) (g a z) n (by rw[e];simp) (by rw[List.length_append,List.length_singleton];exact h2) (by simpa using hn)
  rw[List.length_append,List.length_singleton] at this
  exact this
theorem Px {step:Int×List β->Option ((Int×List β) ⊕ X)} {p:α->Bool} {f:α->β} {x:List β->X} {l:List α} {n:Nat} (h: ∀(i:Nat) z a,l[i]? =some z->a.length<=i->step ((i:Int),a)=some (.inl (((i+1:Nat):Int),if p z then a++[f z] else a))) (hN: ∀a,step ((l.length:Int),a)=some (.inr (x a))) (hn:l.length<n):
  dH step n (0,[])=some (x ((l.filter p).map f)):=by
 have:=aab (Q:=λi a=>a.length<=i) (g:=λa z=>if p z then a++[f z] else a) (λi z a hz hq=>⟨h i z a hz hq,VB hq⟩) (λa _=>hN a) l [] [] n rfl (Nat.le_refl 0) hn
 rw[Ku] at this
 exact this
theorem wc {g:α->α} {l:List α} {i:Nat} (h:i<l.length):((l.take i).map g++l.drop i).set i (g l[i])=(l.take (i+1)).map g++l.drop (i+1):=by
 have e:((l.take i).map g).length=i:=by simp;omega
 rw[List.set_append_right (h:=by omega),e,Nat.sub_self,List.drop_eq_getElem_cons h,List.set_cons_zero,List.take_succ_eq_append_getElem h,List.map_append,List.append_assoc]
 rfl
theorem get_map {g:α->α} {l:List α} {i:Nat} (h:i<l.length):((l.take i).map g++l.drop i)[i]? =some l[i]:=by
 have e:((l.take i).map g).length=i:=by simp;omega
 rw[List.getElem?_append_right (by omega),e,Nat.sub_self,List.drop_eq_getElem_cons h]
 rfl
theorem ao5 {step:Int×List α->Option ((Int×List α) ⊕ X)} {g:α->α} {x:List α->X} {l:List α} {n:Nat} (h: ∀(i:Nat) (hi:i<l.length) (a:List α),a[i]? =some l[i]->a.length=l.length->step ((i:Int),a)=some (.inl (((i+1:Nat):Int),a.set i (g l[i])))) (hN: ∀a,step ((l.length:Int),a)=some (.inr (x a))) (hn:l.length<n):
  dH step n (0,l)=some (x (l.map g)):=by
 suffices H: ∀(k i n:Nat),i+k=l.length->k<n->dH step n ((i:Int),(l.take i).map g++l.drop i)=some (x (l.map g)) by
  have:=H l.length 0 n (by omega) hn
  simpa using this
 intro k
 induction k with
 |zero=>
  intro i n e hn
  obtain⟨m,rfl⟩: ∃m,n=m+1:=⟨n-1,by omega⟩
  obtain rfl:i=l.length:=by omega
  rw[fv,hN]
  simp
 |succ k ih=>
  intro i n e hn
  obtain⟨m,rfl⟩: ∃m,n=m+1:=⟨n-1,by omega⟩
  have hi:i<l.length:=by omega
  rw[fv,h i hi _ (get_map hi) (by simp;omega),wc hi]
  exact ih (i+1) m (by omega) (by omega)
theorem Tp {p:α->Bool}: ∀ {l:List α},l.find? p=(l.findIdx? p).bind λi=>l[i]?
 |[]=>rfl
 |z::r=>by
  rw[List.find?_cons,List.findIdx?_cons]
  cases hp:p z with
  |true=>rfl
  |false=>
   rw[Tp]
   cases r.findIdx? p<;>rfl
theorem findIdx_take {p:α->Bool}: ∀ {l:List α},l.take ((l.findIdx? p).getD l.length)=l.takeWhile (λz=>!p z)/\l.drop ((l.findIdx? p).getD l.length)=l.dropWhile (λz=>!p z)
 |[]=>⟨rfl,rfl⟩
 |z::r=>by
  rw[List.findIdx?_cons,List.takeWhile_cons,List.dropWhile_cons]
  cases hp:p z with
  |true=>exact⟨rfl,rfl⟩
  |false=>
   have:=findIdx_take (p:=p) (l:=r)
   cases e:r.findIdx? p with
   |none=>
    rw[e] at this
    simpa using this
   |some i=>
    rw[e] at this
    simpa using this
end
theorem JC {X:Type} {step:Int×Int->Option ((Int×Int) ⊕ X)} {q:Nat->Bool} {N c:Nat} {x:X} (hc:c<=N) (U: ∀i,i<c->q i=true) (h2: ∀i,c<=i->i<N->q i=false)
  (h: ∀lo hi:Nat,lo<hi->hi<=N->step ((lo:Int),(hi:Int))=some (.inl (if q ((lo+hi)/2) then((((lo+hi)/2+1:Nat):Int),(hi:Int)) else((lo:Int),(((lo+hi)/2:Nat):Int)))))
  (hN:step ((c:Int),(c:Int))=some (.inr x)): ∀(d lo hi n:Nat),hi-lo<=d->d<n->lo<=c->c<=hi->hi<=N->dH step n ((lo:Int),(hi:Int))=some x
 |d,lo,hi,0,_,hn,_,_,_=>by omega
 |d,lo,hi,n+1,hd,hn,hl,hh,hm=>by
  rw[fv]
  by_cases e:lo=hi
  ·obtain rfl:lo=c:=by omega
   obtain rfl:lo=hi:=e
   rw[hN]
   rfl
  ·rw[h lo hi (by omega) hm,Option.bind_some]
   cases hq:q ((lo+hi)/2) with
   |true=>
    have:(lo+hi)/2<c:=Nat.lt_of_not_le λhle=>by rw[h2 _ hle (by omega)] at hq;cases hq
    exact JC hc U h2 h hN (d-1) _ hi n (by omega) (by omega) (by omega) hh hm
   |false=>
    have:c<=(lo+hi)/2:=Nat.le_of_not_lt λaH=>by rw[U _ aH] at hq;cases hq
    exact JC hc U h2 h hN (d-1) lo _ n (by omega) (by omega) hl this (by omega)
theorem half {lo hi:Nat} (h:lo+hi<4611686018427387904):IntKind.i64.wrap ((IntKind.u64.wrap (IntKind.i64.wrap ((lo:Int)+(hi:Int)))).fdiv 2)=(((lo+hi)/2:Nat):Int):=by
 rw[ez (x:=(lo:Int)+hi) (by omega) (by omega),rQ (x:=(lo:Int)+hi) (by omega) (by omega),Int.fdiv_eq_ediv_of_nonneg _ (by omega),ez (by omega) (by omega)]
 omega
theorem Jw {α:Type} {lt:α->Bool}: ∀ {l:List α},l.Pairwise (λa b=>lt b=true->lt a=true)-> ∀(i:Nat) z,l[i]? =some z->(lt z=true↔i<(l.takeWhile lt).length)
 |[],_,i,z,h=>by simp at h
 |y::r,ho,i,z,h=>by
  rw[List.pairwise_cons] at ho
  rw[List.takeWhile_cons]
  cases hy:lt y with
  |true=>
   cases i with
   |zero=>simp at h;subst h;simp[hy]
   |succ i=>simpa using Jw ho.2 i z (by simpa using h)
  |false=>
   simp only[Bool.false_eq_true,if_false,List.length_nil,Nat.not_lt_zero,iff_false]
   intro hz
   cases i with
   |zero=>simp at h;subst h;rw[hy] at hz;cases hz
   |succ i=>
    have:=ho.1 z (List.mem_of_getElem? (by simpa using h:r[i]? =some z)) hz
    rw[hy] at this
    cases this
end Go.Proofs.YtdhaaaeffhaadaaGreatDoor
end
section
namespace Go.Proofs.YtdhaaaeffhaadaaGreatDoor
open Go.RowKit Go.Dc Go.Vx
set_option maxRecDepth 100000
theorem ll {α:Type} {b:Nat} {l:List α} (h:l.length*b<=140737488355328):app b [] l=some l:=by
 rw[Dq (by simpa using h)]
 rfl
theorem l9 {α:Type} {b i n:Nat} {a:List α} {z:α} (U:a.length<=i) (h2:i<n) (h3:(n+1)*b<=140737488355328):app b a [z]=some (a++[z]):=
 Dq (Nat.le_trans (Nat.mul_le_mul_right b (by simp;omega)) h3)
theorem TU {p:br} (h:fi p):Hy p:=⟨h.u,by have:=h.len;unfold maxLen;omega⟩
theorem f46 {p:br} (h:fi p):qF aj p=some 0:=by rw[v46 (TU h),Yh h];rfl
theorem ako (l:List ae) (pid:Int):jm l pid=(l.findIdx? λz=>z.aa==pid).bind λi=>l[i]? :=Tp
theorem N5 {S:Int->ae->Unit->T (Unit ⊕ Nat ⊕ (Bool×Int))} {F:Int->Unit->T (Nat ⊕ (Bool×Int))} {l:List ae} {pid:Int}
  (hF:(F (l.length:Int) ()).val=some (.inr (false,(l.length:Int))))
  (hS: ∀(i:Int) z,(S i z ()).val=(l[i.toNat]?).bind λz1=>bif z1.aa==pid then some (.inr (.inl i.toNat)) else some (.inl ())):
  cS (λi z a=>(S i z a).val) (λi a=>(F i a).val) 0 l ()=match l.findIdx? (λz=>z.aa==pid) with|some i=>some (.inl i)|none=>some (.inr (false,(l.length:Int))):=by
 rw[Gp (p:=λz=>z.aa==pid) (e:=λi=> .inl i) λi z hz=>by rw[hS,Int.toNat_natCast,hz];rfl,hF]
 first|done|(cases l.findIdx? (λz=>z.aa==pid)<;>rfl)
theorem abN (g:List Int) (l:List ae) (pid:Int):Im aj g l pid=match l.findIdx? (λz=>z.aa==pid) with|some i=>some (.inl i)|none=>some (.inr (false,(l.length:Int))):=
 N5 (by unfold G_;simp) λi z=>rfl
theorem abO (g:List Int) (l:List ae) (pid:Int):Io aj g l pid=match l.findIdx? (λz=>z.aa==pid) with|some i=>some (.inl i)|none=>some (.inr (false,(l.length:Int))):=
 N5 (by unfold G';simp) λi z=>rfl
theorem abP (g:List Int) (l:List ae) (pid:Int):BU aj g l pid=match l.findIdx? (λz=>z.aa==pid) with|some i=>some (.inl i)|none=>some (.inr (false,(l.length:Int))):=
 N5 (by unfold Ha;simp) λi z=>rfl
theorem v72 {p:br} (h:fi p) (pid:Int):Kp aj p pid=some (match jm p.ab pid with|some z=>(z,true)|none=>(⟨0,0,false,0⟩,false)):=by
 show(De aj p pid).val=_
 unfold De
 have hL:Iq aj p.aJ p.ab pid=match p.ab.find? (λz=>z.aa==pid) with|some z=>some (.inl z)|none=>some (.inr (false,(p.ab.length:Int))):=by
  show cS (λi z a=>(Ca aj p.aJ p.ab pid i z a).val) (λi a=>(Ba aj p.aJ p.ab pid i a).val) 0 p.ab ()=_
  rw[Am (p:=λz=>z.aa==pid) (e:=λz=> .inl z)]
  ·cases p.ab.find? (λz=>z.aa==pid) with
   |none=>unfold Ba;simp
   |some z=>rfl
  ·intro i z _
   unfold Ca
   cases h:z.aa==pid<;>simp
 simp only[T.bB,T.bn,T.cM,T.eP,T.bo,f46 h,Option.bind_some,hL,jm]
 cases p.ab.find? (λz=>z.aa==pid)<;>rfl
theorem v28 {p:br} (h:fi p) (pid:Int):nP aj p pid=some (cG p.ab pid):=by
 show(CZ aj p pid).val=_
 unfold CZ cG
 simp only[T.bB,v72 h,Option.bind_some]
 cases jm p.ab pid<;>rfl
def GU:br:=⟨[0,0,0,0,0,0,0,0,0,0,0,0,0,0,0,0],[]⟩
theorem Gs (l:List ae) (pid:Int):(l.findIdx? (λz=>z.aa==pid)=none/\cG l pid=false/\jm l pid=none)\/ ∃i x,l.findIdx? (λz=>z.aa==pid)=some i/\l[i]? =some x/\cG l pid=(!x.bC)/\jm l pid=some x/\x.aa=pid:=by
 have h:=ako l pid
 cases e:l.findIdx? (λz=>z.aa==pid) with
 |none=>
  rw[e] at h
  exact .inl ⟨rfl,by unfold cG;rw[h];rfl,h⟩
 |some i=>
  rw[e] at h
  obtain⟨hi,hp,_⟩:=List.findIdx?_eq_some_iff_getElem.1 e
  have hx:l[i]? =some l[i]:=List.getElem?_eq_getElem hi
  rw[Option.bind_some,hx] at h
  exact .inr ⟨i,l[i],rfl,hx,by unfold cG;rw[h],h,by simpa using hp⟩
theorem abR (l:List ae) {a:Nat} (ha:a<16):IF aj l (a:Int)=match l.findIdx? (λz=>ix z.aa==(a:Int)+1) with|some i=>some (.inl (i:Int))|none=>some (.inr (false,(l.length:Int))):=by
 show cS (λi z b=>(Ce aj l a i z b).val) (λi b=>(Bd aj l a i b).val) 0 l ()=_
 rw[Gp (p:=λz=>ix z.aa==(a:Int)+1) (e:=λi=> .inl (i:Int))]
 ·unfold Bd
  cases l.findIdx? (λz=>ix z.aa==(a:Int)+1)<;>simp
 ·intro i z hz
  unfold Ce
  simp only[T.bB,T.bn,T.bo,Int.toNat_natCast,hz,v93,Option.bind_some]
  rw[ez (by omega) (by omega)]
theorem adm {α:Type} {p:α->Bool} {l:List α}:l.any p=(l.findIdx? p).isSome:=by rw[Bool.eq_iff_iff,List.any_eq_true,List.findIdx?_isSome,List.any_eq_true]
theorem ab1 {p:br} (h:fi p) {a:Nat} (ha:a<16):(tX aj p.aJ p.ab (a:Int)).val=bif !(!(p.ab.any λx=>ix x.aa==(a:Int)+1)&&decide (au p.aJ a<=65535)) then some (.inl ((a+1:Nat):Int)) else some (.inr (.inr (true,au p.aJ a,a,(a:Int),true,false,true))):=by
 unfold tX
 have hd:decide ((a:Int)<16)=true:=decide_eq_true (by omega)
 have hw:IntKind.i64.wrap ((a:Int)+1)=((a+1:Nat):Int):=ez (by omega) (by omega)
 have hn:cF (a:Int) 16=some a:=by rw[rf (by omega) (by omega),Int.toNat_natCast]
 simp only[T.bB,T.bn,T.bo,T.cM,T.eP,hd,hw,hn,abR p.ab ha,adm,Bool.not_true,cond_false,Option.bind_some]
 cases e:p.ab.findIdx? (λz=>ix z.aa==(a:Int)+1) with
 |some i=>
  have:decide ((i:Int)>=0)=true:=decide_eq_true (by omega)
  simp[this]
 |none=>
  cases e2:decide (au p.aJ a<=65535)<;>simp[e2]
theorem abQ {p:br} (h:fi p):Iy aj p.aJ p.ab 0=match nh p with|some i=>some (.inr (true,au p.aJ i,i,(i:Int),true,false,true))|none=>some (.inl (false,16)):=by
 show dH (λa=>(tX aj p.aJ p.ab a).val) 1000000 ((0:Nat):Int)=_
 rw[GN (q:=λa:Nat=>!(!(p.ab.any λx=>ix x.aa==(a:Int)+1)&&decide (au p.aJ a<=65535))) (x:=λa=> .inr (true,au p.aJ a,a,(a:Int),true,false,true)) (y:= .inl (false,16)) (N:=16) (λa ha=>ab1 h ha) (by unfold tX;rfl) (k:=16) (by omega) (by omega)]
 unfold nh
 rw[List.range_eq_range']
 simp only[Bool.not_not]
 cases (List.range' 0 16).find? (λi:Nat=>!(p.ab.any λx=>ix x.aa==(i:Int)+1)&&decide (au p.aJ i<=65535))<;>rfl
theorem abS (l:List ae) (a b:Int):IG aj l a b=match l.findIdx? (λz=>decide (ix z.aa>ix a)) with|some i=>some (.inl (i:Int))|none=>some (.inr (false,(l.length:Int))):=by
 show cS (λi z c=>(Cf aj l a b i z c).val) (λi c=>(Be aj l a b i c).val) 0 l ()=_
 rw[Gp (p:=λz=>decide (ix z.aa>ix a)) (e:=λi=> .inl (i:Int))]
 ·unfold Be
  cases l.findIdx? (λz=>decide (ix z.aa>ix a))<;>simp
 ·intro i z hz
  unfold Cf
  simp only[T.bB,T.bn,T.bo,Int.toNat_natCast,hz,v93,Option.bind_some]
theorem ajC {α:Type} {b:Nat} {l:List α} {p lt:α->Bool} {x:α} (hl:(l.length+1)*b<=1099511627776) (hp: ∀z,lt z=!p z):
  Go.Dc.mv b l (((l.findIdx? p).getD l.length:Nat):Int) [x]=some (cz lt x l):=by
 obtain rfl:lt=λz=>!p z:=funext hp
 obtain⟨U,h2⟩:=findIdx_take (p:=p) (l:=l)
 have hlen:(l.findIdx? p).getD l.length<=l.length:=by
  cases e:l.findIdx? p with
  |none=>exact Nat.le_refl _
  |some i=>exact Nat.le_of_lt (List.findIdx?_eq_some_iff_getElem.1 e).1
 unfold Go.Dc.mv cz
 rw[if_pos ⟨by omega,by omega,by simpa using hl⟩,Int.toNat_natCast,U,h2]
 simp
theorem aoM {p:br} (h:fi p) (parent:Int):DR aj p parent=some (match oB p parent with| .ok (q,v)=>(q,v,0)| .error e=>(GU,0,e)):=by
 show(CG aj p parent).val=_
 unfold CG
 have hlen:=h.len
 simp only[T.bB,T.bn,T.bo,T.cM,T.eP,T.tJ,f46 h,ll (b:=32) (l:=p.ab) (by omega),abN,Option.bind_some,show(!((0:Int)==0))=false from rfl,cond_false]
 unfold oB
 rcases Gs p.ab parent with⟨e1,e2,_⟩|⟨j,x,e1,e2,e3,_⟩
 ·simp only[e1,e2,Option.bind_some,cond_false]
  rfl
 ·simp only[e1,e2,e3,Option.bind_some,Bool.not_not]
  cases hd:x.bC with
  |true=>rfl
  |false=>
   simp only[abQ h,cond_false,cond_true,Bool.not_false,T.bB,T.bn,T.bo,T.cM,T.eP,T.tJ]
   cases hl:nh p with
   |none=>rfl
   |some i=>
    obtain⟨U,h2,h3⟩:=vB hl
    obtain⟨n0,n1,n2,n3⟩:=Nj h hl
    have hg:=h.qH i U
    have hn:cF (i:Int) 16=some i:=by rw[rf (by omega) (by omega),Int.toNat_natCast]
    have hw:IntKind.u64.wrap (IntKind.i64.wrap (IntKind.i64.wrap (IntKind.i64.wrap (au p.aJ i*64)+i)+1))=e9 p i:=by
     unfold e9
     rw[ez (x:=au p.aJ i*64) (by omega) (by omega),ez (x:=au p.aJ i*64+i) (by omega) (by omega),ez (by omega) (by omega),rQ (by omega) (by omega)]
    have lQ:IntKind.i64.wrap (au p.aJ i+1)=au p.aJ i+1:=ez (by omega) (by omega)
    have qT:=ajC (b:=32) (l:=p.ab) (p:=λz=>decide (ix z.aa>ix (e9 p i))) (lt:=λy=>decide (ix y.aa<=i+1)) (x:=ae.mk (e9 p i) parent false 0) (by omega) (λz=>by rw[n2,Bool.eq_iff_iff];simp)
    simp only[Option.bind_some,hn,hw,lQ,abS,h.gl,Bool.true_and,show Nat.beq 16 16=true from rfl,cond_true,sY]
    cases e:p.ab.findIdx? (λz=>decide (ix z.aa>ix (e9 p i))) with
    |none=>
     rw[e,Option.getD_none] at qT
     simp only[Option.bind_some,qT]
    |some k=>
     rw[e,Option.getD_some] at qT
     have hk:decide ((k:Int)<0)=false:=decide_eq_false (by omega)
     simp only[Option.bind_some,qT,hk,cond_false]
theorem aoO {p:br} (h:fi p) (pid child:Int):DT aj p pid child=some (match oD p pid child with| .ok (q,v)=>(q,v,0)| .error e=>(GU,0,e)):=by
 show(CI aj p pid child).val=_
 unfold CI
 have hlen:=h.len
 have hL:IA aj p.ab child []=some (false,(p.ab.length:Int),p.ab.filter λy=>!(y.aa==child)):=by
  show cS (λi z a=>(Cc aj p.ab child i z a).val) (λi a=>(Bb aj p.ab child i a).val) 0 p.ab []=_
  rw[Ao (p:=λy=>!(y.aa==child)) (f:=id)]
  ·unfold Bb
   simp
  ·intro i z a hz ha
   unfold Cc
   have hi:=(List.getElem?_eq_some_iff.1 hz).1
   simp only[T.bB,T.bn,T.bo,Int.toNat_natCast,hz,Option.bind_some,l9 (b:=32) (z:=z) ha hi (by omega)]
   cases e:z.aa==child<;>simp[bne,e]
 simp only[T.bB,T.bn,T.bo,T.cM,T.eP,T.tJ,f46 h,ll (b:=32) (l:=p.ab) (by omega),abP,Option.bind_some,show(!((0:Int)==0))=false from rfl,cond_false,hL]
 unfold oD
 rcases Gs p.ab pid with⟨e1,e2,_⟩|⟨j,x,e1,e2,e3,_⟩
 ·simp only[e1,e2,Option.bind_some,cond_false]
  rfl
 ·simp only[e1,e2,e3,Option.bind_some,Bool.not_not]
  cases hd:x.bC with
  |true=>rfl
  |false=>
   simp only[cond_false,cond_true,Bool.not_false]
   rcases Gs p.ab child with⟨c1,_,c2⟩|⟨k,y,c1,c2,_,c3,_⟩
   ·simp only[c1,c2,Option.bind_some]
    rfl
   ·simp only[c1,c2,c3,Option.bind_some]
    cases y.ba==pid<;>cases y.bC<;>rfl
def FK (pid code:Int) (z:ae):ae:=bif z.aa==pid then⟨z.aa,z.ba,true,code⟩ else z
def zH (pid:Int) (o:Bool) (z:ae):Bool:=(!(z.aa==pid)||!o)&&(!(z.ba==pid)||!z.bC)
def ym (pid:Int) (z:ae):ae:=bif z.ba==pid then⟨z.aa,0,z.bC,z.cJ⟩ else z
theorem Tn {α β:Type} {m:α->β} {k:β->Bool} {g:β->β}: ∀l:List α,((l.map m).filter k).map g=l.filterMap λz=>if k (m z) then some (g (m z)) else none
 |[]=>rfl
 |z::r=>by
  rw[List.map_cons,List.filter_cons,List.filterMap_cons,<-Tn r]
  cases k (m z)<;>rfl
theorem Tw {α β:Type} {f g:α->Option β}: ∀ {l:List α},(∀z∈l,f z=g z)->l.filterMap f=l.filterMap g
 |[],_=>rfl
 |z::r,h=>by rw[List.filterMap_cons,List.filterMap_cons,h z List.mem_cons_self,Tw λy hy=>h y (List.mem_cons_of_mem _ hy)]
theorem iM {α:Type} {l:List α} {i:Nat} {z:α} (h:l[i]? =some z):idx l (i:Int)=some z:=by
 unfold idx
 rw[if_pos (by omega),Int.toNat_natCast,h]
theorem ahv {p:br} (h:fi p) {pid code:Int} {i:Nat} {x:ae} (hx:p.ab[i]? =some x) (hp:x.aa=pid):
  ((p.ab.set i ⟨x.aa,x.ba,true,code⟩).filter (zH pid (x.ba==0))).map (ym pid)=p.ab.filterMap (jW pid code):=by
 have hm:p.ab.set i ⟨x.aa,x.ba,true,code⟩=p.ab.map (FK pid code):=by
  refine List.ext_getElem? λj=>?_
  rw[List.getElem?_set,List.getElem?_map]
  by_cases e:i=j
  ·subst e
   rw[if_pos rfl,if_pos (List.getElem?_eq_some_iff.1 hx).1,hx]
   simp[FK,hp]
  ·rw[if_neg e]
   cases hj:p.ab[j]? with
   |none=>rfl
   |some z=>
    have:z.aa≠pid:=λe2=>by
     obtain⟨U,h2⟩:=List.getElem?_eq_some_iff.1 hx
     obtain⟨h3,h4⟩:=List.getElem?_eq_some_iff.1 hj
     have:=List.pairwise_iff_getElem.1 h.ord
     rcases Nat.lt_or_gt_of_ne e with k|k
     ·have:=this i j U h3 k
      rw[h2,h4,hp,e2] at this
      omega
     ·have:=this j i h3 U k
      rw[h2,h4,hp,e2] at this
      omega
    have e':(z.aa==pid)=false:=by simpa using this
    simp[FK,e']
 rw[hm,Tn]
 refine Tw λz hz=>?_
 have im:=List.mem_of_getElem? hx
 unfold FK jW zH ym
 cases e1:z.aa==pid with
 |true=>
  have:z=x:=F5 h.ord hz im ((eq_of_beq e1).trans hp.symm)
  subst this
  have:(z.ba==pid)=false:=by have:=(h.one z hz).self;rw[<-hp];simpa using this
  cases e2:z.ba==0<;>simp[e1,this]
 |false=>
  cases e2:z.ba==pid<;>cases e3:z.bC<;>simp[e1,e2,e3]
theorem aoN {p:br} (h:fi p) (pid code:Int):DS aj p pid code=some (match nN p pid code with| .ok q=>(q,0)| .error e=>(GU,e)):=by
 show(CH aj p pid code).val=_
 unfold CH
 have hlen:=h.len
 have hK: ∀(l:List ae) (o:Bool),l.length<=16->Iz aj l pid o (l.length:Int) 0 []=some (false,(l.length:Int),l.filter (zH pid o)):=by
  intro l o hl
  show dH (λa=>(xp aj l pid o (l.length:Int) a).val) 1000000 (0,[])=_
  rw[Px (p:=zH pid o) (f:=id) (x:=λa=>(false,(l.length:Int),a)) (l:=l) (λi z a hz ha=>?_) (λa=>?_) (by omega),List.map_id]
  ·have hi:=(List.getElem?_eq_some_iff.1 hz).1
   have aH:decide ((i:Int)<(l.length:Int))=true:=decide_eq_true (by omega)
   have hw:IntKind.i64.wrap ((i:Int)+1)=((i+1:Nat):Int):=ez (by omega) (by omega)
   unfold xp zH
   simp only[T.bB,T.bn,T.bo,aH,cond_true,iM hz,Int.toNat_natCast,hz,Option.bind_some,hw,bne,l9 (b:=32) (z:=z) ha hi (by omega)]
   cases z.aa==pid<;>cases z.ba==pid<;>cases z.bC<;>cases o<;>rfl
  ·unfold xp
   simp
 have hT: ∀(a:List Int) (b:List ae) (c d:Int) (l:List ae),l.length<=16->Ip aj a b pid d l 0 l=some (false,(l.length:Int),l.map (ym pid)):=by
  intro a b c d l hl
  show dH (λx=>(xj aj a b pid d l x).val) 1000000 (0,l)=_
  rw[ao5 (g:=ym pid) (x:=λa=>(false,(l.length:Int),a)) (l:=l) (λi hi y hy Fk=>?_) (λa=>?_) (by omega)]
  ·have aH:decide ((i:Int)<(l.length:Int))=true:=decide_eq_true (by omega)
   have hw:IntKind.i64.wrap ((i:Int)+1)=((i+1:Nat):Int):=ez (by omega) (by omega)
   unfold xj ym
   simp only[T.bB,T.bn,T.bo,aH,cond_true,iM hy,Int.toNat_natCast,hy,Option.bind_some,hw]
   cases e:l[i].ba==pid with
   |true=>rfl
   |false=>
    have:y.set i l[i]=y:=List.ext_getElem? λj=>by
     rw[List.getElem?_set]
     by_cases e:i=j
     ·subst e
      rw[if_pos rfl,if_pos (by omega),hy]
     ·rw[if_neg e]
    simp[this]
  ·unfold xj
   simp
 simp only[T.bB,T.bn,T.bo,T.cM,T.eP,T.tJ,f46 h,ll (b:=32) (l:=p.ab) (by omega),abO,Option.bind_some,show(!((0:Int)==0))=false from rfl,cond_false]
 unfold nN
 rcases Gs p.ab pid with⟨e1,e2,_⟩|⟨i,x,e1,e2,e3,_,e4⟩
 ·simp only[e1,e2,Option.bind_some,cond_false]
  rfl
 ·simp only[e1,e2,e3,Option.bind_some,Bool.not_not]
  have hi:=(List.getElem?_eq_some_iff.1 e2).1
  cases hd:x.bC with
  |true=>rfl
  |false=>
   cases q7:pid==1 with
   |true=>
    simp only[bne,q7,cond_false,cond_true,Bool.not_false,Bool.not_true]
    rfl
   |false=>
    simp only[bne,q7,cond_false,cond_true,Bool.not_false,Bool.not_true,List.set_set,List.getElem?_set_self hi,Option.bind_some]
    rw[hK _ _ (by simpa using hlen)]
    simp only[Option.bind_some]
    rw[hT _ _ pid _ _ (Nat.le_trans (List.length_filter_le _ _) (by simpa using hlen))]
    simp only[Option.bind_some]
    rw[ahv h e2 e4]
theorem f47 {l:List ai} (h:jR l):nQ aj l=some 0:=by
 rw[ZX (by have:=h.len;unfold maxLen;omega),Ye.2 h]
 rfl
theorem ZW {l:List ai} (h:jR l) (pid:Int):ya aj l pid=some (uo l pid,(l.length:Int)-(uo l pid).length):=by
 show(C0 aj l pid).val=_
 unfold C0 uo
 have hlen:=h.len
 have hL:I2 aj l pid []=some (false,(l.length:Int),l.filter λd=>!(d.aa==pid)):=by
  show cS (λi z a=>(Cp aj l pid i z a).val) (λi a=>(Br aj l pid i a).val) 0 l []=_
  rw[Ao (p:=λd=>!(d.aa==pid)) (f:=id)]
  ·unfold Br
   simp
  ·intro i z a hz ha
   have hi:=(List.getElem?_eq_some_iff.1 hz).1
   unfold Cp
   simp only[T.bB,T.bn,T.bo,bne,l9 (b:=24) (z:=z) ha hi (by omega),Option.bind_some]
   cases z.aa==pid<;>rfl
 have:=List.length_filter_le (λd:ai=>!(d.aa==pid)) l
 simp only[T.bB,T.bn,T.cM,T.bo,f47 h,hL,Option.bind_some,show((0:Int) !=0)=false from rfl,cond_false]
 rw[ez (by omega) (by omega)]
theorem v232 {l:List ai} (h:jR l) (pid fd:Int):qE aj l pid fd=some (match eE l pid fd with|some w=>(w,true)|none=>(0,false)):=by
 show(CX aj l pid fd).val=_
 unfold CX eE
 have hL:II aj l fd pid=match l.find? (λd=>d.aa==pid&&d.bL==fd) with|some z=>some (.inl z.cK)|none=>some (.inr (false,(l.length:Int))):=by
  show cS (λi z a=>(Ch aj l fd pid i z a).val) (λi a=>(Bf aj l fd pid i a).val) 0 l ()=_
  rw[Am (p:=λd=>d.aa==pid&&d.bL==fd) (e:=λz=> .inl z.cK)]
  ·unfold Bf
   cases l.find? (λd=>d.aa==pid&&d.bL==fd)<;>simp
  ·intro i z _
   unfold Ch
   simp only[T.bn,T.bo]
   cases z.aa==pid<;>cases z.bL==fd<;>rfl
 simp only[T.bB,T.bn,T.cM,T.eP,T.bo,f47 h,hL,Option.bind_some,show((0:Int) !=0)=false from rfl,cond_false]
 cases l.find? (λd=>d.aa==pid&&d.bL==fd)<;>rfl
theorem aoT {l:List ai} (h:jR l) (bH:Int):DY aj l bH=some (oR l bH:Int):=by
 show(CP aj l bH).val=_
 unfold CP oR
 have hlen:=h.len
 have hL:I1 aj l bH []=some (false,(l.length:Int),l.filter λd=>d.cK==bH):=by
  show cS (λi z a=>(Co aj l bH i z a).val) (λi a=>(Bq aj l bH i a).val) 0 l []=_
  rw[Ao (p:=λd=>d.cK==bH) (f:=id)]
  ·unfold Bq
   simp
  ·intro i z a hz ha
   have hi:=(List.getElem?_eq_some_iff.1 hz).1
   unfold Co
   simp only[T.bB,T.bn,T.bo,l9 (b:=24) (z:=z) ha hi (by omega),Option.bind_some]
   cases z.cK==bH<;>rfl
 simp only[T.bB,T.bn,T.cM,T.bo,f47 h,hL,Option.bind_some,show((0:Int) !=0)=false from rfl,cond_false]
theorem ZD {α:Type} (p:α->Bool) (l:List α):l.take (l.takeWhile p).length=l.takeWhile p/\l.drop (l.takeWhile p).length=l.dropWhile p:=by
 have h:=take_drop p l
 constructor
 ·conv=>lhs;arg 2;rw[<-h]
  exact List.take_left
 ·conv=>lhs;arg 2;rw[<-h]
  exact List.drop_left
theorem MI {α:Type} {b:Nat} {l:List α} {lt:α->Bool} {x:α} (hl:(l.length+1)*b<=1099511627776):Go.Dc.mv b l ((l.takeWhile lt).length:Int) [x]=some (cz lt x l):=by
 obtain⟨U,h2⟩:=ZD lt l
 have:=(List.takeWhile_sublist (l:=l) lt).length_le
 unfold Go.Dc.mv cz
 rw[if_pos ⟨by omega,by omega,by simpa using hl⟩,Int.toNat_natCast,U,h2]
 simp
theorem WR {α:Type} {b:Nat} {l:List α} {c:Int} {z:α} (hc:(l.length:Int)<=c) (hb:(b:Int)*c<=281474976710656) (h:c<=281474976710656):vF b (l.length:Int) c z=some (List.replicate l.length z)/\cW (List.replicate l.length z) l=l:=by
 constructor
 ·unfold vF
  rw[if_pos ⟨by omega,hc,hb,h⟩,Int.toNat_natCast]
 ·unfold cW
  simp
theorem xL {α X:Type} {step:Int×Int->Option ((Int×Int) ⊕ X)} {l:List α} {lt:α->Bool} {x:Nat->X} (ho:l.Pairwise λa b=>lt b=true->lt a=true) (hl:l.length<=100)
  (h: ∀lo hi m:Nat,lo<hi->hi<=l.length->m=(lo+hi)/2-> ∀(hm:m<l.length),IntKind.i64.wrap ((IntKind.u64.wrap (IntKind.i64.wrap ((lo:Int)+(hi:Int)))).fdiv 2)=(m:Int)->IntKind.i64.wrap ((m:Int)+1)=((m+1:Nat):Int)->step ((lo:Int),(hi:Int))=bif lt l[m] then some (.inl (((m+1:Nat):Int),(hi:Int))) else some (.inl ((lo:Int),(m:Int))))
  (hN: ∀c:Nat,step ((c:Int),(c:Int))=some (.inr (x c))):dH step 1000000 (0,(l.length:Int))=some (x (l.takeWhile lt).length):=by
 have hc:(l.takeWhile lt).length<=l.length:=(List.takeWhile_sublist (l:=l) lt).length_le
 refine JC (q:=λi=>match l[i]? with|some z=>lt z|none=>false) hc (λi hi=>?_) (λi hi aH=>?_) (λlo hi aH hle=>?_) (hN _) l.length 0 l.length 1000000 (by omega) (by omega) (by omega) hc (Nat.le_refl _)
 ·have hz:l[i]? =some l[i]:=List.getElem?_eq_getElem (by omega)
  simp only[hz]
  exact(Jw ho i _ hz).2 hi
 ·have hz:l[i]? =some l[i]:=List.getElem?_eq_getElem aH
  simp only[hz]
  cases e:lt l[i] with
  |false=>rfl
  |true=>have:=(Jw ho i _ hz).1 e;omega
 ·have hm:(lo+hi)/2<l.length:=by omega
  rw[h lo hi _ aH hle rfl hm (half (by omega)) (ez (by omega) (by omega)),List.getElem?_eq_getElem hm]
  cases hq:lt l[(lo+hi)/2]<;>simp[hq]
theorem adj {l:List ai} (h:l.Pairwise λa b=>e_ a b=true) (n:ai):l.Pairwise λa b=>e_ b n=true->e_ a n=true:=h.imp λ{a b} U h2=>Jx a b n U h2
theorem aov {l:List ai} (pid:Int): ∀ {a:List Bool} {j:Nat},a.length=8->(∀d∈l,0<=d.bL/\d.bL<=7)->j<8->
  kF (l.foldl (λa z=>bif z.aa==pid then a.set z.bL.toNat true else a) a) j=(kF a j||(eE l pid j).isSome):=by
 unfold eE
 induction l with
 |nil=>intro a j _ _ _;simp
 |cons z r ih=>
  intro a j ha hf hj
  have hz:=hf z List.mem_cons_self
  rw[List.foldl_cons,ih (by cases z.aa==pid<;>simp[ha]) (λd hd=>hf d (List.mem_cons_of_mem _ hd)) hj,List.find?_cons]
  cases e:z.aa==pid with
  |false=>rfl
  |true=>
   have:kF (a.set z.bL.toNat true) j=(kF a j||(z.bL==(j:Int))):=by
    unfold kF
    rw[List.getElem?_set]
    by_cases k:z.bL.toNat=j
    ·rw[if_pos k,if_pos (by omega),show(z.bL==(j:Int))=true by simp;omega]
     simp
    ·rw[if_neg k,show(z.bL==(j:Int))=false by simp;omega]
     simp
   rw[cond_true,this]
   cases e2:z.bL==(j:Int)<;>simp
theorem ZS {l:List ai} (h:jR l) {pid:Int} (hp:pid<4294967296) (bH:Int):xZ aj l pid bH=some (match mD l pid bH with| .ok (q,v)=>(q,v,0)| .error e=>([],0,e)):=by
 show(CK aj l pid bH).val=_
 unfold CK mD
 have hlen:=h.len
 have UH: ∀d∈l,0<=d.bL/\d.bL<=7:=λd hd=>by have:=h.is d hd;simp[mw] at this;omega
 have KF:IH aj l pid bH [false,false,false,false,false,false,false,false]=some (false,(l.length:Int),l.foldl (λa z=>bif z.aa==pid then a.set z.bL.toNat true else a) [false,false,false,false,false,false,false,false]):=by
  show cS (λi z a=>(Cg aj l pid bH i z a).val) (λi a=>(wu aj l pid bH i a).val) 0 l _=_
  refine(OG (fin:=λi a=>(wu aj l pid bH i a).val) (Q:=λ_ a=>a.length=8) (g:=λa z=>bif z.aa==pid then a.set z.bL.toNat true else a) (λi z a hz hq=>?_) l [] _ rfl rfl).trans (by unfold wu;simp)
  have sU:=UH z (List.mem_of_getElem? hz)
  refine⟨?_,by cases z.aa==pid<;>simp[hq]⟩
  unfold Cg
  simp only[T.bB,T.bn,T.bo,T.tJ,rf (n:=8) sU.1 (by omega),Option.bind_some,hq,show Nat.beq 8 8=true from rfl,cond_true]
  cases z.aa==pid<;>rfl
 have hL2:IC aj (l.foldl (λa z=>bif z.aa==pid then a.set z.bL.toNat true else a) [false,false,false,false,false,false,false,false]) 0=match lC l pid with|some i=>some (.inl (i:Int))|none=>some (.inr (false,8)):=by
  show dH (λa=>(xq aj _ a).val) 1000000 ((0:Nat):Int)=_
  rw[GN (q:=λi:Nat=>(eE l pid i).isSome) (x:=λi=> .inl (i:Int)) (y:= .inr (false,8)) (N:=8) (λa ha=>?_) (by unfold xq;rfl) (k:=8) (by omega) (by omega)]
  ·unfold lC
   rw[List.range_eq_range']
   simp only[Option.not_isSome]
   cases (List.range' 0 8).find? (λi:Nat=>(eE l pid i).isNone)<;>rfl
  ·unfold xq
   have hd:decide ((a:Int)<8)=true:=decide_eq_true (by omega)
   have h0:kF [false,false,false,false,false,false,false,false] a=false:=by
    have: ∀b:Nat,b<8->kF [false,false,false,false,false,false,false,false] b=false:=by decide
    exact this a ha
   simp only[T.bB,T.bn,T.bo,hd,cond_true,rf (j:=(a:Int)) (n:=8) (by omega) (by omega),Int.toNat_natCast,Option.bind_some,aov pid (a:=[false,false,false,false,false,false,false,false]) rfl UH ha,h0,Bool.false_or,show IntKind.i64.wrap ((a:Int)+1)=((a+1:Nat):Int) from ez (by omega) (by omega)]
   cases (eE l pid a).isSome<;>rfl
 have dx:decide (pid>=4294967296)=false:=decide_eq_false (by omega)
 obtain⟨zh,sI⟩:=WR (b:=24) (l:=l) (c:=(l.length:Int)) (z:=ai.mk 0 0 0) (by omega) (by omega) (by omega)
 simp only[T.bB,T.bn,T.cM,T.eP,T.bo,f47 h,KF,hL2,dx,Option.bind_some,show((0:Int) !=0)=false from rfl,cond_false]
 cases hf:lC l pid with
 |none=>rfl
 |some i=>
  have hi:decide ((i:Int)<0)=false:=decide_eq_false (by omega)
  simp only[Option.bind_some,hi,cond_false]
  cases Ej:l.length==64 with
  |true=>
   have:((l.length:Int)==64)=true:=by simp at Ej ⊢;omega
   simp only[this,cond_true]
  |false=>
   have:((l.length:Int)==64)=false:=by simp at Ej ⊢;omega
   simp only[this,cond_false,zh,sI,Option.bind_some]
   have hb:ID aj l pid i bH (l.length:Int) (l.length:Int) 0=some (false,((l.takeWhile λy=>e_ y ⟨pid,i,bH⟩).length:Int),((l.takeWhile λy=>e_ y ⟨pid,i,bH⟩).length:Int)):=by
    show dH (λa=>(xr aj l pid i bH (l.length:Int) a).val) 1000000 (0,(l.length:Int))=_
    refine xL (lt:=λy=>e_ y ⟨pid,i,bH⟩) (x:=λc=>(false,(c:Int),(c:Int))) (adj h.ord _) (by omega) (λlo hi m aH hle hm pJ hw jZ=>?_) λc=>?_
    ·unfold xr
     have hd:decide ((lo:Int)<(hi:Int))=true:=decide_eq_true (by omega)
     have hx:l[m]? =some l[m]:=List.getElem?_eq_getElem pJ
     have hc:decide (xP l[m] ⟨pid,i,bH⟩<0)=e_ l[m] ⟨pid,i,bH⟩:=by
      have:=Sp l[m] ⟨pid,i,bH⟩
      rw[Bool.eq_iff_iff] at this ⊢
      simp at this ⊢
      rw[<-Bool.not_eq_false,<-this]
      omega
     simp only[T.bB,T.bn,T.bo,hd,cond_true,hw,jZ,iM hx,Int.toNat_natCast,hx,Option.bind_some,Pp,hc]
    ·unfold xr
     simp
   rw[hb]
   simp only[Option.bind_some,vp,MI (b:=24) (l:=l) (lt:=λy=>e_ y ⟨pid,i,bH⟩) (x:=ai.mk pid i bH) (by omega)]
   by_cases hc:(l.takeWhile λy=>e_ y ⟨pid,i,bH⟩).length<l.length
   ·have hd:decide (((l.takeWhile λy=>e_ y ⟨pid,i,bH⟩).length:Int)<(l.length:Int))=true:=decide_eq_true (by omega)
    have hx:=List.getElem?_eq_getElem hc
    simp only[hd,cond_true,iM hx,Int.toNat_natCast,hx,Option.bind_some,Pp]
   ·have hd:decide (((l.takeWhile λy=>e_ y ⟨pid,i,bH⟩).length:Int)<(l.length:Int))=false:=decide_eq_false (by omega)
    simp only[hd,cond_false]
theorem aoQ {l:List ai} (h:jR l) {pid:Int} (hp:pid<4294967296) (fd:Int):DV aj l pid fd=some (match mb l pid fd with| .ok (q,v)=>(q,v,0)| .error e=>([],0,e)):=by
 show(CM aj l pid fd).val=_
 unfold CM mb
 have dx:decide (pid>=4294967296)=false:=decide_eq_false (by omega)
 simp only[T.bB,T.bn,T.bo,f47 h,v232 h,dx,Option.bind_some,show((0:Int) !=0)=false from rfl,cond_false]
 cases eE l pid fd with
 |none=>rfl
 |some w=>
  simp only[ZS h hp,Option.bind_some,Bool.not_true,cond_false]
theorem aoP {l:List ai} (h:jR l) (pid fd:Int):DU aj l pid [fd]=some (match j9 l pid fd with| .ok q=>(q,0)| .error e=>([],e)):=by
 show(CL aj l pid [fd]).val=_
 unfold CL j9
 have hlen:=h.len
 have hK: ∀w,eE l pid fd=some w->I0 aj l pid fd w []=some (false,(l.length:Int),l.filter λd=>!(d.aa==pid&&d.bL==fd)):=by
  intro w hw
  show cS (λi z a=>(Cn aj l pid fd w i z a).val) (λi a=>(Bp aj l pid fd w i a).val) 0 l []=_
  rw[Ao (p:=λd=>!(d.aa==pid&&d.bL==fd)) (f:=id)]
  ·unfold Bp
   simp
  ·intro i z a hz ha
   have hi:=(List.getElem?_eq_some_iff.1 hz).1
   have he:me z ⟨pid,fd,w⟩=(z.aa==pid&&z.bL==fd):=by
    unfold me
    cases e:z.aa==pid&&z.bL==fd with
    |false=>simp[e]
    |true=>
     obtain⟨d,hd,e1,e2,e3⟩:=Li hw
     have e':=e
     rw[Bool.and_eq_true] at e'
     have:=ae' h (List.mem_of_getElem? hz) hd ((eq_of_beq e'.1).trans e1.symm) ((eq_of_beq e'.2).trans e2.symm)
     subst this
     simp[e3]
   unfold Cn
   simp only[T.bB,T.bn,T.bo,Int.toNat_natCast,hz,he,l9 (b:=24) (z:=z) ha hi (by omega),Option.bind_some]
   cases z.aa==pid&&z.bL==fd<;>rfl
 have hL:Iw aj pid [fd] l true=match eE l pid fd with
   |some w=>some (.inr (false,true,1,l.filter λd=>!(d.aa==pid&&d.bL==fd)))
   |none=>some (.inl (true,false,0,fd,true,true,0,l)):=by
  show cS (λi z a=>(Cb aj pid [fd] i z a).val) (λi a=>(Hd aj pid [fd] i a).val) 0 [fd] (true,l)=_
  unfold cS Cb
  simp only[T.bB,T.bn,T.cM,T.bo,v232 h,Option.bind_some]
  cases hh:eE l pid fd with
  |none=>rfl
  |some w=>
   simp only[hK w hh,Option.bind_some,Bool.not_true,cond_false]
   rfl
 simp only[T.bB,T.bn,T.cM,T.eP,T.bo,f47 h,hL,ll (b:=24) (l:=l) (by omega),Option.bind_some,show((0:Int) !=0)=false from rfl,cond_false]
 cases eE l pid fd<;>rfl
theorem TQ {m:bG} (h:j6 m):Hx dr m:=⟨λz hz=>N1 (h.path z hz).1,by have:=h.len;unfold maxLen;omega⟩
theorem GH {m:bG} (h:j6 m) {w:Int} (hw:dv w):uH aj m w=some (bif dr w then 0 else 310):=by
 show(CV aj m w).val=_
 unfold CV
 simp only[T.bB,T.bn,T.bo,Po (TQ h),(Yg λx hx=>(h.path x hx).1).2 h,(N1 hw).2,Option.bind_some]
 rfl
theorem Pn {w:Int} (hw:dv w):sj aj w=some (bif dr w then⟨(ej w).map bs,w⟩ else⟨[],0⟩,dr w):=by
 obtain⟨n,rfl⟩:=Int.eq_ofNat_of_zero_le hw.1
 exact v131 (by have:=hw.2;omega)
theorem F1 {w:Int} (hw:dr w=true):(ej w).all eZ=true/\(∀p∈ej w,(∀x∈p,x<256)/\p.length<=100)/\(ej w).length<=4/\(jt (ej w)).length<=8:=by
 unfold dr at hw
 rw[Bool.and_eq_true] at hw
 have hd:=DG w.toNat
 have hl:=um 8 w.toNat
 unfold ej N6
 generalize dg 8 w.toNat=d at*
 have ht:=hw.2
 unfold ri at ht
 by_cases e:d=[47]
 ·rw[if_pos e]
  exact⟨rfl,by simp,by simp,by simp[jt]⟩
 ·rw[if_neg e]
  rw[decide_eq_false e,Bool.false_or] at ht
  cases d with
  |nil=>cases ht
  |cons x t=>
   split at ht
   ·rename_i t' e'
    rw[Bool.and_eq_true,decide_eq_true_eq] at ht
    refine⟨ht.1,λp hp=>WM hd hl ⟨_,e'⟩ hp,ht.2,?_⟩
    rw[Fy _ (x::t) (Nat.le_refl _) (.inr ⟨_,e'⟩)]
    exact hl
   ·cases ht
theorem aoF {w:Int} (hw:dr w=true) (k:Nat):oX aj (((ej w).map bs).take k)=some (AR ((ej w).take k),(nJ (bs (tx ((ej w).take k)))).2==0&&decide (((ej w).take k).length<=4)):=by
 obtain⟨U,h2,h3,h4⟩:=F1 hw
 rw[<-List.map_take]
 have hj:(jt ((ej w).take k)).length<=8:=by
  have:jt (ej w)=jt ((ej w).take k)++jt ((ej w).drop k):=by rw[<-Vz,List.take_append_drop]
  have:=congrArg List.length this
  rw[List.length_append] at this
  omega
 refine GG (List.all_eq_true.2 λp hp=>List.all_eq_true.1 U p (List.mem_of_mem_take hp)) (λp hp=>h2 p (List.mem_of_mem_take hp)) ?_ (by simp;omega)
 generalize (ej w).take k=ps at*
 cases ps with
 |nil=>simp[tx]
 |cons a b=>show(jt (a::b)).length<=500;omega
theorem v226 {w:Int} (hw:dv w) (hp:dr w=true):Kj aj w=some (tI w,0):=by
 show(CW aj w).val=_
 unfold CW
 obtain⟨U,h2,h3,h4⟩:=F1 hp
 have nW: ∀(k n:Nat) (acc:List Int),k<n->acc.length+k<=20->k<=(ej w).length+1->dH (λa=>(tY aj ((ej w).map bs) w a).val) n ((k:Int)-1,acc)=some (false,-1,acc++(List.range k).reverse.map λj=>AR ((ej w).take j)):=by
  intro k
  induction k with
  |zero=>
   intro n acc hn _ _
   obtain⟨n,rfl⟩: ∃m,n=m+1:=⟨n-1,by omega⟩
   rw[fv]
   unfold tY
   simp
  |succ k ih=>
   intro n acc hn ha hk
   obtain⟨n,rfl⟩: ∃m,n=m+1:=⟨n-1,by omega⟩
   rw[fv]
   have hd:decide (((k+1:Nat):Int)-1>=0)=true:=decide_eq_true (by omega)
   have hc:gF ((ej w).map bs) none (some (((k+1:Nat):Int)-1)) (some (((k+1:Nat):Int)-1))=some (((ej w).map bs).take k):=by
    rw[show((k+1:Nat):Int)-1=(k:Int) by omega]
    unfold gF
    simp only[Option.getD_none,Option.getD_some]
    rw[if_pos ⟨by omega,by omega,by simp;omega,by omega,by simp;omega,by simp⟩,Int.toNat_natCast]
    rfl
   have hs:(tY aj ((ej w).map bs) w (((k+1:Nat):Int)-1,acc)).val=some (.inl ((k:Int)-1,acc++[AR ((ej w).take k)])):=by
    unfold tY
    simp only[T.bB,T.bn,T.bo,hd,cond_true,hc,aoF hp k,Option.bind_some,l9 (b:=8) (i:=20) (n:=21) (a:=acc) (z:=AR ((ej w).take k)) (by omega) (by omega) (by omega)]
    rw[show((k+1:Nat):Int)-1-1=(k:Int)-1 by omega,ez (x:=(k:Int)-1) (by omega) (by omega)]
   simp only[hs,Option.bind_some]
   rw[ih n _ (by omega) (by rw[List.length_append,List.length_singleton];omega) (by omega),List.range_succ,List.reverse_append,List.reverse_singleton,List.singleton_append,List.map_cons,List.append_assoc]
   rfl
 have hL:IB aj ((ej w).map bs) w (((ej w).map bs).length:Int) []=some (false,-1,tI w):=by
  have:=nW ((ej w).length+1) 1000000 [] (by omega) (by simp;omega) (by omega)
  rw[show(((ej w).length+1:Nat):Int)-1=(((ej w).map bs).length:Int) by simp] at this
  exact this
 simp only[T.bB,T.bn,T.cM,T.bo,Pn hw,hp,cond_true,Option.bind_some,Bool.not_true,cond_false,hL]
theorem adB {p q:List Nat} (hp: ∀x∈p,x<256) (hq: ∀x∈q,x<256):((bs p).toList==(bs q).toList)=decide (p=q):=by
 rw[ByteArray.toList_eq,ByteArray.toList_eq,Bool.eq_iff_iff,beq_iff_eq,decide_eq_true_eq]
 constructor
 ·intro e
  have e:p.map UInt8.ofNat=q.map UInt8.ofNat:=by simpa[bs] using e
  have e2:=congrArg (List.map UInt8.toNat) e
  have sD: ∀l:List Nat,(∀x∈l,x<256)->(l.map UInt8.ofNat).map UInt8.toNat=l:=by
   intro l hl
   rw[List.map_map]
   conv=>rhs;rw[<-List.map_id l]
   refine List.map_congr_left λx hx=>?_
   have:=hl x hx
   simp
   omega
  rw[sD p hp,sD q hq] at e2
  exact e2
 ·rintro rfl
  rfl
theorem aoX {a b:Int} (ha:dv a) (hb:dv b):Kk aj a b=some (ug a b):=by
 show(CY aj a b).val=_
 unfold CY ug
 simp only[T.bB,T.bn,T.cM,T.bo,T.eP,Pn ha,Pn hb,Option.bind_some]
 cases ea:dr a with
 |false=>rfl
 |true=>
  cases eb:dr b with
  |false=>rfl
  |true=>
   simp only[cond_true,Bool.true_and,List.length_map]
   obtain⟨_,a2,a3,_⟩:=F1 ea
   obtain⟨_,b2,b3,_⟩:=F1 eb
   generalize ej a=p at*
   generalize ej b=q at*
   by_cases hl:p.length<=q.length
   ·have hd:decide ((p.length:Int)<=(q.length:Int))=true:=decide_eq_true (by omega)
    have hc:gF (q.map bs) none (some (p.length:Int)) none=some ((q.take p.length).map bs):=by rw[aeZ (by simpa using hl),List.map_take]
    have hn:((p.length:Int) !=(((q.take p.length).map bs).length:Int))=false:=by simp;omega
    have hL:IP aj (p.map bs) ((q.take p.length).map bs)=bif decide (q.take p.length=p) then some (.inr (false,(p.length:Int))) else some (.inl ()):=by
     show cS (λi z c=>(Ck aj (p.map bs) ((q.take p.length).map bs) i z c).val) (λi c=>(Bi aj (p.map bs) ((q.take p.length).map bs) i c).val) 0 (p.map bs) ()=_
     rw[tv (q:=λi z=>match((q.take p.length).map bs)[i]? with|some y=>z.toList==y.toList|none=>false) (x:= .inl ()) λi z hz=>?_]
     ·have:allI (λi z=>match((q.take p.length).map bs)[i]? with|some y=>z.toList==y.toList|none=>false) 0 (p.map bs)=decide (q.take p.length=p):=by
       rw[Bool.eq_iff_iff,qw,decide_eq_true_eq]
       constructor
       ·intro h
        refine List.ext_getElem (by simp;omega) λi U h2=>?_
        have:=h i (bs p[i]) (by rw[List.getElem?_map,List.getElem?_eq_getElem h2];rfl)
        rw[Nat.zero_add,List.getElem?_map,List.getElem?_eq_getElem U,Option.map_some] at this
        have:=(adB (a2 _ (List.getElem_mem h2)).1 (b2 _ (List.mem_of_mem_take (List.getElem_mem U))).1).symm.trans this
        exact(of_decide_eq_true this).symm
       ·intro h k z hz
        rw[Nat.zero_add,h,hz]
        exact beq_self_eq_true _
      rw[this]
      unfold Bi
      simp
     ·unfold Ck
      have hi:=(List.getElem?_eq_some_iff.1 hz).1
      have gV:i<((q.take p.length).map bs).length:=by simp at hi ⊢;omega
      have hy:((q.take p.length).map bs)[i]? =some ((q.take p.length).map bs)[i]:=List.getElem?_eq_getElem gV
      simp only[T.bB,T.bn,T.bo,iM hy,hy,Option.bind_some]
      cases z.toList==((q.take p.length).map bs)[i].toList<;>rfl
    have pM:p.isPrefixOf q=decide (q.take p.length=p):=by
     rw[Bool.eq_iff_iff,List.isPrefixOf_iff_prefix,List.prefix_iff_eq_take,decide_eq_true_eq]
     exact eq_comm
    rw[hd,hc,pM]
    simp only[cond_true,Option.bind_some,hn,cond_false,hL]
    cases decide (q.take p.length=p)<;>rfl
   ·have hd:decide ((p.length:Int)<=(q.length:Int))=false:=decide_eq_false (by omega)
    have pM:p.isPrefixOf q=false:=by
     rw[<-Bool.not_eq_true,List.isPrefixOf_iff_prefix]
     intro h
     exact hl h.length_le
    rw[hd,pM]
    rfl
theorem WB (j:Int): ∀(l:List az) (m:List (Int×Int)),l.Pairwise (λa b=>a.bp≠b.bp)->b5 (mapM m l) j=match l.find? (λx=>x.bp==j) with|some x=>some x.aZ|none=>b5 m j
 |[],m,_=>rfl
 |z::r,m,h=>by
  rw[List.pairwise_cons] at h
  show b5 (mapM (cR m z.bp z.aZ) r) j=_
  rw[WB j r _ h.2,List.find?_cons,zN]
  cases e:z.bp==j with
  |true=>
   have e:=eq_of_beq e
   rw[mX.2 λy hy=>by have:=h.1 y hy;rw[e] at this;simpa using λk=>this k.symm]
   simp[e]
  |false=>
   have: ¬j=z.bp:=λk=>by rw[k] at e;simp at e
   simp only[if_neg this]
theorem Fp {m:bG} (h:j6 m) (w:Int):b5 (m.ab.foldl (λa z=>cR a z.bp z.aZ) []) w=eG m w:=by
 rw[fold_map,WB w _ _ h.new]
 unfold eG
 cases m.ab.find? (λx=>x.bp==w)<;>rfl
theorem FJ {X:Type} {S:Int->az->List (Int×Int)->T (List (Int×Int) ⊕ X)} {F:Int->List (Int×Int)->T X} {l:List az} (hS: ∀i z a,(S i z a).val=some (.inl (cR a z.bp z.aZ))):
  cS (λi z a=>(S i z a).val) (λi a=>(F i a).val) 0 l []=(F (l.length:Int) (l.foldl (λa z=>cR a z.bp z.aZ) [])).val:=by
 rw[p_ (g:=λa z=>cR a z.bp z.aZ) λi z a _=>hS i z a]
 simp
def PQ:bG:=⟨[],0⟩
theorem aoR {m:bG} (h:j6 m) {w:Int} (hw:dv w):DW aj m w=some (match nH m w with| .ok (q,v)=>(q,v,0)| .error e=>(PQ,0,e)):=by
 show(CN aj m w).val=_
 unfold CN nH
 have hlen:=h.len
 have ve:=h.n1
 have sJ:=h.n2
 have hL:I5 aj m.ab []=some (false,(m.ab.length:Int),m.ab.foldl (λa z=>cR a z.bp z.aZ) []):=by
  refine(FJ λi z a=>rfl).trans ?_
  unfold Hm
  simp
 obtain⟨zh,sI⟩:=WR (b:=16) (l:=m.ab) (c:=IntKind.i64.wrap ((m.ab.length:Int)+1)) (z:=az.mk 0 0) (by rw[ez (by omega) (by omega)];omega) (by rw[ez (by omega) (by omega)];omega) (by rw[ez (by omega) (by omega)];omega)
 simp only[T.bB,T.bn,T.cM,T.bo,GH h hw,Option.bind_some,hL,Fp h,zh,sI]
 cases hp:dr w with
 |false=>rfl
 |true=>
  simp only[cond_true,cond_false,show((0:Int) !=0)=false from rfl]
  cases hi:eG m w with
  |some i=>rfl
  |none=>
   have e1:((m.ab.length:Int)==16)=(m.ab.length==16):=by rw[Bool.eq_iff_iff];simp;omega
   simp only[Option.isSome_none,cond_false,e1]
   cases h16:m.ab.length==16 with
   |true=>rfl
   |false=>
    cases hn:decide (m.aN>1073741824) with
    |true=>rfl
    |false=>
     have:app 16 m.ab [az.mk w m.aN]=some (m.ab++[az.mk w m.aN]):=l9 (i:=16) (n:=17) hlen (by omega) (by omega)
     have lQ:IntKind.u64.wrap (m.aN+1)=m.aN+1:=rQ (by omega) (by omega)
     simp only[cond_false,this,Option.bind_some,lQ,Bool.or_self]
theorem aoS {m:bG} (h:j6 m) {w:Int} (hw:dv w):DX aj m w=some (match nj m w with| .ok v=>(v,0)| .error e=>(0,e)):=by
 show(CO aj m w).val=_
 unfold CO nj
 have hL:I6 aj m.ab []=some (false,(m.ab.length:Int),m.ab.foldl (λa z=>cR a z.bp z.aZ) []):=by
  refine(FJ λi z a=>rfl).trans ?_
  unfold Hn
  simp
 simp only[T.bB,T.bn,T.cM,T.bo,GH h hw,Option.bind_some,hL,Fp h]
 cases dr w with
 |false=>rfl
 |true=>cases eG m w<;>rfl
theorem v193 {m:bG} (h:j6 m) {w:Int} (hw:dv w):DZ aj m w=some (match nt m w with| .ok v=>(v,0)| .error e=>(PQ,e)):=by
 show(CQ aj m w).val=_
 unfold CQ nt
 have hlen:=h.len
 have hL:I7 aj m.ab []=some (false,(m.ab.length:Int),m.ab.foldl (λa z=>cR a z.bp z.aZ) []):=by
  refine(FJ λi z a=>rfl).trans ?_
  unfold Ho
  simp
 have hB:IJ aj m.ab m.aN w=bif oO m w then some (.inl ()) else some (.inr (false,(m.ab.length:Int))):=by
  show cS (λi z a=>(Ci aj m.ab m.aN w i z a).val) (λi a=>(Bg aj m.ab m.aN w i a).val) 0 m.ab ()=_
  unfold oO
  rw[Am (p:=λx=>!(x.bp==w)&&ug w x.bp) (e:=λ_=> .inl ()),<-ahA]
  ·unfold Bg
   cases m.ab.find? (λx=>!(x.bp==w)&&ug w x.bp)<;>simp
  ·intro i z hz
   unfold Ci
   simp only[T.bB,T.bn,T.bo,aoX hw (h.path z hz).1,Option.bind_some,bne]
   cases z.bp==w<;>cases ug w z.bp<;>rfl
 have hK:IE aj m.ab w []=some (false,(m.ab.length:Int),m.ab.filter λx=>!(x.bp==w)):=by
  show cS (λi z a=>(Cd aj m.ab w i z a).val) (λi a=>(Bc aj m.ab w i a).val) 0 m.ab []=_
  rw[Ao (p:=λx=>!(x.bp==w)) (f:=id)]
  ·unfold Bc
   simp
  ·intro i z a hz ha
   have hi:=(List.getElem?_eq_some_iff.1 hz).1
   unfold Cd
   simp only[T.bB,T.bn,T.bo,bne,l9 (b:=16) (z:=z) ha hi (by omega),Option.bind_some]
   cases z.bp==w<;>rfl
 simp only[T.bB,T.bn,T.cM,T.eP,T.bo,GH h hw,Option.bind_some,hL,Fp h,hB,hK]
 cases dr w with
 |false=>rfl
 |true=>
  cases eG m w with
  |none=>rfl
  |some i=>cases oO m w<;>rfl
def NS:(Bool×Int×Int×Bool×Int×Int) ⊕ (Bool×Int×Int)->Int
 | .inl y=>y.2.1
 | .inr y=>y.2.1
theorem v183 {m:bG} (h:j6 m) {w:Int} (hw:dv w):uF aj m w=some (match j3 m w with| .ok v=>(v,0)| .error e=>(0,e)):=by
 show(CJ aj m w).val=_
 unfold CJ j3 GF
 have hL:I4 aj m.ab []=some (false,(m.ab.length:Int),m.ab.foldl (λa z=>cR a z.bp z.aZ) []):=by
  refine(FJ λi z a=>rfl).trans ?_
  unfold Hl
  simp
 have sD: ∀ {u i},eG m u=some i->0<i:=λe=>by
  obtain⟨x,hx,_,rfl⟩:=MA e
  have:=h.id x hx
  omega
 have nW: ∀(l:List Int) (p0:List Int) (j:Nat),∃y,cS (λi z a=>(xn aj p0 (m.ab.foldl (λa z=>cR a z.bp z.aZ) []) i z a).val) (λi a=>(Hc aj p0 (m.ab.foldl (λa z=>cR a z.bp z.aZ) []) i a).val) j l 0=some y/\NS y=(l.findSome? (eG m)).getD 0:=by
  intro l p0
  induction l with
  |nil=>intro j;exact⟨_,rfl,rfl⟩
  |cons u r ih=>
   intro j
   have hs:(xn aj p0 (m.ab.foldl (λa z=>cR a z.bp z.aZ) []) j u 0).val=bif decide ((eG m u).getD 0>0) then some (.inr (.inl (decide ((eG m u).getD 0>0),(eG m u).getD 0,u,decide ((j:Int)<(p0.length:Int)),0,(j:Int)))) else some (.inl ((eG m u).getD 0)):=by
    unfold xn
    simp only[T.bn,T.bo,Fp h]
   rw[mI,List.findSome?_cons,hs]
   cases e:eG m u with
   |some i=>
    have:decide ((some i).getD 0>0)=true:=decide_eq_true (sD e)
    rw[this]
    exact⟨_,rfl,rfl⟩
   |none=>
    have:decide ((none:Option Int).getD 0>0)=false:=rfl
    rw[this]
    exact ih (j+1)
 simp only[T.bB,T.bn,T.cM,T.eP,T.bo,GH h hw,Option.bind_some,hL]
 cases hp:dr w with
 |false=>rfl
 |true=>
  obtain⟨y,hy,ho⟩:=nW (tI w) (tI w) 0
  have hy:Iv aj (tI w) (m.ab.foldl (λa z=>cR a z.bp z.aZ) []) 0=some y:=hy
  simp only[cond_true,cond_false,show((0:Int) !=0)=false from rfl,v226 hw hp,Option.bind_some,hy]
  have hz: ∀(x:Int),(bif x==0 then some ((0:Int),(4:Int)) else some (x,0))=some (if x=0 then(0,4) else(x,0)):=λx=>by
   by_cases e:x=0
   ·simp[e]
   ·rw[show(x==0)=false by simpa using e,if_neg e]
    rfl
  refine Eq.trans (b:=some (if NS y=0 then((0:Int),(4:Int)) else(NS y,0))) (by cases y<;>exact hz _) ?_
  rw[ho]
  cases e2:(tI w).findSome? (eG m) with
  |none=>rfl
  |some i=>
   obtain⟨u,_,hu⟩:=List.exists_of_findSome?_eq_some e2
   have:=sD hu
   have: ¬i=0:=by omega
   simp[this]
theorem f49 {s:aL} (h:gD s) (hb:s.ax.length<=16):oY aj s=some 0:=by
 rw[v49 ⟨λz hz=>(h.name z hz).1,by have:=h.len;unfold maxLen;omega,by unfold maxLen;omega⟩,(Yf λz hz=>(h.name z hz).1).2 h]
 rfl
section
variable {α:Type} {key:α->Int} {l:List α} {n:Int}
theorem aoA (ho:l.Pairwise λa b=>key a<key b):l.takeWhile (λz=>decide (key z<n))=l.filter (λz=>decide (key z<n))/\l.dropWhile (λz=>decide (key z<n))=l.filter (λz=>!decide (key z<n)):=by
 induction l with
 |nil=>exact⟨rfl,rfl⟩
 |cons z r ih=>
  rw[List.pairwise_cons] at ho
  obtain⟨U,h2⟩:=ih ho.2
  rw[List.takeWhile_cons,List.dropWhile_cons,List.filter_cons,List.filter_cons]
  cases e:decide (key z<n) with
  |true=>simp only[if_true,U,h2,Bool.not_true,Bool.false_eq_true,if_false];exact⟨trivial,trivial⟩
  |false=>
   have e:=of_decide_eq_false e
   have h3:r.filter (λz=>decide (key z<n))=[]:=List.filter_eq_nil_iff.2 λy hy=>by have:=ho.1 y hy;simp;omega
   have h4:r.filter (λz=>!decide (key z<n))=r:=filter_all λy hy=>by have:=ho.1 y hy;simp;omega
   simp[h3,h4]
theorem Aq (ho:l.Pairwise λa b=>key a<key b):
  (l.find? (λz=>key z==n)=none/\(∀z,l[(l.takeWhile λz=>decide (key z<n)).length]? =some z->key z≠n)/\l.dropWhile (λz=>decide (key z<n))=l.filter λz=>decide (n<key z))\/
  ∃z,l.find? (λz=>key z==n)=some z/\key z=n/\l[(l.takeWhile λz=>decide (key z<n)).length]? =some z/\l.dropWhile (λz=>decide (key z<n))=z::l.filter λz=>decide (n<key z):=by
 induction l with
 |nil=>exact .inl ⟨rfl,by simp,rfl⟩
 |cons z r ih=>
  rw[List.pairwise_cons] at ho
  rw[List.find?_cons,List.takeWhile_cons,List.dropWhile_cons,List.filter_cons]
  by_cases U:key z<n
  ·have e1:(key z==n)=false:=by simp;omega
   have e2:decide (n<key z)=false:=by simp;omega
   simp only[e1,e2,decide_eq_true U,if_true,List.length_cons,List.getElem?_cons_succ,Bool.false_eq_true,if_false]
   exact ih ho.2
  ·have e3:decide (key z<n)=false:=decide_eq_false U
   have hr:r.filter (λz=>decide (n<key z))=r:=filter_all λy hy=>by have:=ho.1 y hy;simp;omega
   simp only[e3,Bool.false_eq_true,if_false,List.length_nil,List.getElem?_cons_zero,hr]
   by_cases h2:key z=n
   ·right
    exact⟨z,by simp[h2],h2,rfl,by simp[h2]⟩
   ·left
    have e1:(key z==n)=false:=by simpa using h2
    have e2:decide (n<key z)=true:=by simp;omega
    simp only[e1,e2,if_true]
    refine⟨mX.2 λy hy=>by have:=ho.1 y hy;simp;omega,λy hy=>?_,trivial⟩
    cases hy
    exact h2
end
theorem DB (x y:Int):decide (lr x y<0)=decide (x<y):=by
 unfold lr
 rw[Bool.eq_iff_iff,decide_eq_true_eq,decide_eq_true_eq]
 split
 ·simp[*]
 ·split
  ·simp;omega
  ·simp;omega
theorem cmp_eq (x y:Int):(lr x y==0)=decide (x=y):=by
 unfold lr
 rw[Bool.eq_iff_iff,decide_eq_true_eq,beq_iff_eq]
 split
 ·constructor
  ·intro h;omega
  ·intro h;omega
 ·split
  ·constructor
   ·intro h;omega
   ·intro h;omega
  ·constructor
   ·intro _;omega
   ·intro _;rfl
theorem FB {α:Type} {key:α->Int} {l:List α} {n:Int} (ho:l.Pairwise λa b=>key a<key b):l.Pairwise λa b=>decide (key b<n)=true->decide (key a<n)=true:=ho.imp λ{a b} U h2=>decide_eq_true (by have:=of_decide_eq_true h2;omega)
theorem v31 {s:aL} (h:gD s) (hb:s.ax.length<=16) (pid:Int):yc aj s pid=some (pz s pid):=by
 show(C1 aj s pid).val=_
 unfold C1 pz
 have hlen:=h.len
 have hL:Ik aj s.aB s.ax pid (s.aB.length:Int) 0 []=some (false,(s.aB.length:Int),(s.aB.filter λy=>y.aa==pid).map aA.bl):=by
  show dH (λa=>(xh aj s.aB s.ax pid (s.aB.length:Int) a).val) 1000000 (0,[])=_
  rw[Px (p:=λy=>y.aa==pid) (f:=aA.bl) (x:=λa=>(false,(s.aB.length:Int),a)) (l:=s.aB) (λi z a hz ha=>?_) (λa=>?_) (by omega)]
  ·have hi:=(List.getElem?_eq_some_iff.1 hz).1
   have aH:decide ((i:Int)<(s.aB.length:Int))=true:=decide_eq_true (by omega)
   have hw:IntKind.i64.wrap ((i:Int)+1)=((i+1:Nat):Int):=ez (by omega) (by omega)
   unfold xh
   simp only[T.bB,T.bn,T.bo,aH,cond_true,iM hz,Option.bind_some,hw,l9 (b:=8) (z:=z.bl) ha hi (by omega)]
   cases z.aa==pid<;>rfl
  ·unfold xh
   simp
 simp only[T.bB,T.bn,T.cM,T.bo,f49 h hb,Option.bind_some,hL,show((0:Int) !=0)=false from rfl,cond_false]
theorem v196 {s:aL} (h:gD s) (hb:s.ax.length<=16) {n:Int} (hn:dv n):uG aj s n=some (match kB s n with| .ok p=>(p,0)| .error e=>(0,e)):=by
 show(CT aj s n).val=_
 unfold CT kB gM
 have hlen:=h.len
 have hL:IM aj s.aB n 0 (s.aB.length:Int)=some (false,((s.aB.takeWhile λz=>decide (z.bl<n)).length:Int),((s.aB.takeWhile λz=>decide (z.bl<n)).length:Int)):=by
  show dH (λa=>(xv aj s.aB n a).val) 1000000 (0,(s.aB.length:Int))=_
  refine xL (l:=s.aB) (lt:=λz=>decide (z.bl<n)) (x:=λc=>(false,(c:Int),(c:Int))) (FB (key:=aA.bl) h.pT) (by omega) (λlo hi m aH hle hm pJ hw jZ=>?_) λc=>?_
  ·unfold xv
   have hd:decide ((lo:Int)<(hi:Int))=true:=decide_eq_true (by omega)
   have hx:s.aB[m]? =some s.aB[m]:=List.getElem?_eq_getElem pJ
   simp only[T.bB,T.bn,T.bo,hd,cond_true,hw,jZ,iM hx,Int.toNat_natCast,hx,Option.bind_some,mL,DB]
  ·unfold xv
   simp
 simp only[T.bB,T.bn,T.cM,T.bo,f49 h hb,GI hn,Option.bind_some,hL,show((0:Int) !=0)=false from rfl,cond_false]
 cases gL n with
 |false=>rfl
 |true=>
  simp only[Bool.not_true,cond_true,cond_false]
  rcases Aq (key:=aA.bl) (n:=n) h.pT with⟨e1,e2,_⟩|⟨z,e1,e2,e3,_⟩
  ·rw[e1]
   by_cases hc:(s.aB.takeWhile λz=>decide (z.bl<n)).length<s.aB.length
   ·have hx:=List.getElem?_eq_getElem hc
    have aU:=e2 _ hx
    have hd:decide (((s.aB.takeWhile λz=>decide (z.bl<n)).length:Int)<(s.aB.length:Int))=true:=decide_eq_true (by omega)
    simp only[hd,cond_true,iM hx,Option.bind_some,mL,cmp_eq,decide_eq_false aU]
    rfl
   ·have hd:decide (((s.aB.takeWhile λz=>decide (z.bl<n)).length:Int)<(s.aB.length:Int))=false:=decide_eq_false (by omega)
    simp only[hd,cond_false]
    rfl
  ·rw[e1]
   have hc:=(List.getElem?_eq_some_iff.1 e3).1
   have hd:decide (((s.aB.takeWhile λz=>decide (z.bl<n)).length:Int)<(s.aB.length:Int))=true:=decide_eq_true (by omega)
   simp only[hd,cond_true,iM e3,Option.bind_some,mL,cmp_eq,decide_eq_true e2]
   rfl
theorem JQ {S:Int×List ao->T ((Int×List ao) ⊕ (Bool×Int×List ao))} {s:aL} (h:gD s) (hb:s.ax.length<=16)
  (hS: ∀a,(S a).val=bif decide (a.1<(s.ax.length:Int)) then(idx s.ax a.1).bind λz0=>(app 8 [] z0.bg).bind λz1=>(app 32 a.2 [ao.mk z0.aa z1]).bind λz2=>some (.inl (IntKind.i64.wrap (a.1+1),z2)) else some (.inr (decide (a.1<(s.ax.length:Int)),a.1,a.2))):
  dH (λa=>(S a).val) 1000000 (0,[])=some (false,(s.ax.length:Int),s.ax):=by
 rw[Px (p:=λ_=>true) (f:=id) (x:=λa=>(false,(s.ax.length:Int),a)) (l:=s.ax) (λi z a hz ha=>?_) (λa=>?_) (by omega)]
 ·rw[filter_all λ_ _=>rfl,List.map_id]
 ·have hi:=(List.getElem?_eq_some_iff.1 hz).1
  have aH:decide ((i:Int)<(s.ax.length:Int))=true:=decide_eq_true (by omega)
  have hw:IntKind.i64.wrap ((i:Int)+1)=((i+1:Nat):Int):=ez (by omega) (by omega)
  have hz4:=(h.box z (List.mem_of_getElem? hz)).2.2
  rw[hS]
  simp only[aH,cond_true,iM hz,Option.bind_some,ll (b:=8) (l:=z.bg) (by omega),hw,l9 (b:=32) (z:=z) ha hi (by omega)]
  rfl
 ·rw[hS]
  simp
theorem v194 {s:aL} (h:gD s) (hb:s.ax.length<=16) {n:Int} (hn:dv n) (pid:Int):D3 aj s n pid=some (match ov s n pid with| .ok q=>(q,0)| .error e=>(⟨[],[]⟩,e)):=by
 show(CR aj s n pid).val=_
 unfold CR ov gM
 have hlen:=h.len
 have hC:Ii aj s.ax s.aB (s.ax.length:Int) 0 []=some (false,(s.ax.length:Int),s.ax):=JQ h hb λa=>rfl
 have hL:IK aj n s.aB 0 (s.aB.length:Int)=some (false,((s.aB.takeWhile λz=>decide (z.bl<n)).length:Int),((s.aB.takeWhile λz=>decide (z.bl<n)).length:Int)):=by
  show dH (λa=>(xt aj n s.aB a).val) 1000000 (0,(s.aB.length:Int))=_
  refine xL (l:=s.aB) (lt:=λz=>decide (z.bl<n)) (x:=λc=>(false,(c:Int),(c:Int))) (FB (key:=aA.bl) h.pT) (by omega) (λlo hi m aH hle hm pJ hw jZ=>?_) λc=>?_
  ·unfold xt
   have hd:decide ((lo:Int)<(hi:Int))=true:=decide_eq_true (by omega)
   have hx:s.aB[m]? =some s.aB[m]:=List.getElem?_eq_getElem pJ
   simp only[T.bB,T.bn,T.bo,hd,cond_true,hw,jZ,iM hx,Int.toNat_natCast,hx,Option.bind_some,mL,DB]
  ·unfold xt
   simp
 have qT:=MI (b:=16) (l:=s.aB) (lt:=λy=>decide (y.bl<n)) (x:=aA.mk n pid) (by omega)
 have e16:((s.aB.length:Int)==16)=(s.aB.length==16):=by rw[Bool.eq_iff_iff];simp;omega
 simp only[T.bB,T.bn,T.cM,T.bo,T.tJ,f49 h hb,ll (b:=16) (l:=s.aB) (by omega),GI hn,Pr,Option.bind_some,hC,hL,e16,vq,qT,show((0:Int) !=0)=false from rfl,cond_false]
 cases gL n with
 |false=>rfl
 |true=>
  cases fS pid with
  |false=>rfl
  |true=>
   simp only[Bool.not_true,cond_true,cond_false]
   rcases Aq (key:=aA.bl) (n:=n) h.pT with⟨e1,e2,_⟩|⟨z,e1,e2,e3,_⟩
   ·rw[e1]
    by_cases hc:(s.aB.takeWhile λz=>decide (z.bl<n)).length<s.aB.length
    ·have hx:=List.getElem?_eq_getElem hc
     have aU:=e2 _ hx
     have hd:decide (((s.aB.takeWhile λz=>decide (z.bl<n)).length:Int)<(s.aB.length:Int))=true:=decide_eq_true (by omega)
     simp only[hd,cond_true,iM hx,Int.toNat_natCast,hx,Option.bind_some,mL,cmp_eq,decide_eq_false aU,cond_false]
     cases s.aB.length==16<;>rfl
    ·have hd:decide (((s.aB.takeWhile λz=>decide (z.bl<n)).length:Int)<(s.aB.length:Int))=false:=decide_eq_false (by omega)
     simp only[hd,cond_false]
     cases s.aB.length==16<;>rfl
   ·rw[e1]
    have hc:=(List.getElem?_eq_some_iff.1 e3).1
    have hd:decide (((s.aB.takeWhile λz=>decide (z.bl<n)).length:Int)<(s.aB.length:Int))=true:=decide_eq_true (by omega)
    simp only[hd,cond_true,iM e3,Int.toNat_natCast,e3,Option.bind_some,mL,cmp_eq,decide_eq_true e2]
    rfl
theorem aoU {s:aL} (h:gD s) (hb:s.ax.length<=16) {n p:Int} (hn:dv n) (U:gL n=true) (h2:gM s.aB n=some p):D4 aj s n=some (wg s n,0):=by
 show(CS aj s n).val=_
 unfold CS wg
 unfold gM at h2
 have hlen:=h.len
 have hC:Ij aj s.ax s.aB (s.ax.length:Int) 0 []=some (false,(s.ax.length:Int),s.ax):=JQ h hb λa=>rfl
 have hL:IL aj n s.aB 0 (s.aB.length:Int)=some (false,((s.aB.takeWhile λz=>decide (z.bl<n)).length:Int),((s.aB.takeWhile λz=>decide (z.bl<n)).length:Int)):=by
  show dH (λa=>(xu aj n s.aB a).val) 1000000 (0,(s.aB.length:Int))=_
  refine xL (l:=s.aB) (lt:=λz=>decide (z.bl<n)) (x:=λc=>(false,(c:Int),(c:Int))) (FB (key:=aA.bl) h.pT) (by omega) (λlo hi m aH hle hm pJ hw jZ=>?_) λc=>?_
  ·unfold xu
   have hd:decide ((lo:Int)<(hi:Int))=true:=decide_eq_true (by omega)
   have hx:s.aB[m]? =some s.aB[m]:=List.getElem?_eq_getElem pJ
   simp only[T.bB,T.bn,T.bo,hd,cond_true,hw,jZ,iM hx,Int.toNat_natCast,hx,Option.bind_some,mL,DB]
  ·unfold xu
   simp
 rcases Aq (key:=aA.bl) (n:=n) h.pT with⟨e1,_,_⟩|⟨z,e1,e2,e3,e4⟩
 ·rw[e1] at h2;cases h2
 have hc:=(List.getElem?_eq_some_iff.1 e3).1
 have hd:decide (((s.aB.takeWhile λz=>decide (z.bl<n)).length:Int)<(s.aB.length:Int))=true:=decide_eq_true (by omega)
 have hw:IntKind.i64.wrap (((s.aB.takeWhile λz=>decide (z.bl<n)).length:Int)+1)=(((s.aB.takeWhile λz=>decide (z.bl<n)).length+1:Nat):Int):=ez (by omega) (by omega)
 have aiD:s.aB.take (s.aB.takeWhile λz=>decide (z.bl<n)).length++s.aB.drop ((s.aB.takeWhile λz=>decide (z.bl<n)).length+1)=s.aB.filter λy=>!(y.bl==n):=by
  obtain⟨t1,t2⟩:=ZD (λz:aA=>decide (z.bl<n)) s.aB
  rw[t1,<-List.drop_drop,t2,e4]
  have hl:=take_drop (λz:aA=>decide (z.bl<n)) s.aB
  rw[e4] at hl
  have hf:s.aB.filter (λy=>!(y.bl==n))=(s.aB.takeWhile (λz=>decide (z.bl<n))++z::s.aB.filter λy=>decide (n<y.bl)).filter λy=>!(y.bl==n):=by rw[hl]
  have hA:(s.aB.takeWhile λz=>decide (z.bl<n)).filter (λy=>!(y.bl==n))=s.aB.takeWhile λz=>decide (z.bl<n):=filter_all λy hy=>by
   have:y.bl<n:=by simpa using WN hy
   simp;omega
  have hB:(s.aB.filter λy=>decide (n<y.bl)).filter (λy=>!(y.bl==n))=s.aB.filter λy=>decide (n<y.bl):=filter_all λy hy=>by
   have:=of_decide_eq_true (List.mem_filter.1 hy).2
   simp;omega
  rw[hf,List.filter_append,List.filter_cons_of_neg (by simp[e2]),hA,hB]
  rfl
 simp only[T.bB,T.bn,T.cM,T.bo,f49 h hb,ll (b:=16) (l:=s.aB) (by omega),GI hn,U,Option.bind_some,hC,hL,hd,hw,cond_true,Bool.not_true,iM e3,Int.toNat_natCast,e3,mL,cmp_eq,decide_eq_true e2,show((0:Int) !=0)=false from rfl,cond_false,xR,Gt]
 rw[if_pos ⟨by omega,by omega,by omega⟩]
 simp only[Option.bind_some,Int.toNat_natCast,aiD]
theorem v168 (b:ao):DQ aj b=some b.aa:=rfl
theorem v167 {s:aL} (h:gD s) (hb:s.ax.length<=16) (pid:Int):Ki aj s.ax pid=some (((s.ax.takeWhile λz=>decide (z.aa<pid)).length:Int),(s.ax.find? λz=>z.aa==pid).isSome):=by
 show(CD aj s.ax pid).val=_
 unfold CD
 have hL:Ix aj s.ax pid 0 (s.ax.length:Int)=some (false,((s.ax.takeWhile λz=>decide (z.aa<pid)).length:Int),((s.ax.takeWhile λz=>decide (z.aa<pid)).length:Int)):=by
  show dH (λa=>(xo aj s.ax pid a).val) 1000000 (0,(s.ax.length:Int))=_
  refine xL (l:=s.ax) (lt:=λz=>decide (z.aa<pid)) (x:=λc=>(false,(c:Int),(c:Int))) (FB (key:=ao.aa) h.oq) (by omega) (λlo hi m aH hle hm pJ hw jZ=>?_) λc=>?_
  ·unfold xo
   have hd:decide ((lo:Int)<(hi:Int))=true:=decide_eq_true (by omega)
   have hx:s.ax[m]? =some s.ax[m]:=List.getElem?_eq_getElem pJ
   simp only[T.bB,T.bn,T.bo,hd,cond_true,hw,jZ,iM hx,Int.toNat_natCast,hx,Option.bind_some,mL,v168,DB]
  ·unfold xo
   simp
 simp only[T.bB,T.bn,T.cM,T.bo,Option.bind_some,hL,v168,mL,cmp_eq]
 rcases Aq (key:=ao.aa) (n:=pid) h.oq with⟨e1,e2,_⟩|⟨z,e1,e2,e3,_⟩
 ·rw[e1]
  by_cases hc:(s.ax.takeWhile λz=>decide (z.aa<pid)).length<s.ax.length
  ·have hx:=List.getElem?_eq_getElem hc
   have aU:=e2 _ hx
   have hd:decide (((s.ax.takeWhile λz=>decide (z.aa<pid)).length:Int)<(s.ax.length:Int))=true:=decide_eq_true (by omega)
   simp only[hd,cond_true,iM hx,Option.bind_some,decide_eq_false aU]
   rfl
  ·have hd:decide (((s.ax.takeWhile λz=>decide (z.aa<pid)).length:Int)<(s.ax.length:Int))=false:=decide_eq_false (by omega)
   simp only[hd,cond_false]
   rfl
 ·rw[e1]
  have hc:=(List.getElem?_eq_some_iff.1 e3).1
  have hd:decide (((s.ax.takeWhile λz=>decide (z.aa<pid)).length:Int)<(s.ax.length:Int))=true:=decide_eq_true (by omega)
  simp only[hd,cond_true,iM e3,Option.bind_some,decide_eq_true e2]
  rfl
theorem Xs: ∀(l a:List ao),(∀b∈l,b.bg.length<=4)->a.length+l.length<=100->vl l a=some (a++l)
 |[],a,_,_=>by rw[List.append_nil];rfl
 |z::r,a,h,hl=>by
  have hz:=h z List.mem_cons_self
  rw[List.length_cons] at hl
  unfold vl OR
  rw[ll (by omega),Option.bind_some,l9 (i:=100) (n:=101) (by omega) (by omega) (by omega),Option.bind_some,Xs r _ (λb hb=>h b (List.mem_cons_of_mem _ hb)) (by rw[List.length_append,List.length_singleton];omega),List.append_assoc]
  rfl
theorem JB {s:aL} (h:gD s) (hb:s.ax.length<=16) {pid:Int} (hp:fS pid=true):
  sW aj s pid=some (⟨s.aB,(s.ax.filter λb=>decide (b.aa<pid))++⟨pid,dV s pid⟩::s.ax.filter λb=>decide (pid<b.aa)⟩,((s.ax.filter λb=>decide (b.aa<pid)).length:Int),0):=by
 have hlen:=h.len
 have jC:zD aj s=some (s,0):=by
  unfold zD Mv OS
  rw[f49 h hb,ll (by omega),Xs _ [] (λb hb=>(h.box b hb).2.2) (by simp;omega)]
  rfl
 have ai7:re pid=true:=by
  unfold re
  unfold fS at hp
  rw[Bool.and_eq_true] at hp
  rw[hp.1,hp.2]
  rfl
 unfold sW Fo Mx
 rw[jC,Option.bind_some]
 simp only[show(!((0:Int)==0))=false from rfl,cond_false,ai7,Bool.not_true,v167 h hb,Option.bind_some]
 obtain⟨t1,t2⟩:=aoA (n:=pid) h.oq
 have hl:=take_drop (λz:ao=>decide (z.aa<pid)) s.ax
 rcases Aq (key:=ao.aa) (n:=pid) h.oq with⟨e1,_,e3⟩|⟨z,e1,e2,e3,e4⟩
 ·rw[e1]
  have hw:dV s pid=[]:=by unfold dV;rw[e1]
  simp only[Option.isSome_none,Bool.not_false,cond_true]
  rw[MI (b:=32) (lt:=λz:ao=>decide (z.aa<pid)) (by omega),hw]
  unfold cz
  rw[e3,t1]
  rfl
 ·rw[e1]
  have hw:dV s pid=z.bg:=by unfold dV;rw[e1]
  simp only[Option.isSome_some,Bool.not_true,cond_false,Option.bind_some]
  rw[e4,t1] at hl
  rw[hw,t1]
  conv=>lhs;arg 1;arg 1;rw[show s=⟨s.aB,s.ax⟩ from rfl,<-hl]
  rw[<-e2]
theorem N9 {s:aL} (h:gD s) {pid:Int} {gi ws:List Int}:
  tG (aL.mk s.aB (((s.ax.filter λb=>decide (b.aa<pid))++⟨pid,gi⟩::s.ax.filter λb=>decide (pid<b.aa)).set (s.ax.filter λb=>decide (b.aa<pid)).length ⟨pid,ws⟩))=gC s pid ws:=by
 have hk: ∀(p:ao->Bool),(s.ax.filter p).filter (λz=>!(z.bg.length==0))=s.ax.filter p:=λp=>filter_all λz hz=>by
  have:=(h.box z (List.mem_filter.1 hz).1).2.1
  simp
  intro e
  rw[e] at this
  simp at this
 unfold tG gC
 rw[List.set_append_right (h:=Nat.le_refl _),Nat.sub_self,List.set_cons_zero]
 simp only
 rw[List.filter_append,hk,List.filter_cons,hk]
 congr 2
 by_cases e:ws=[]
 ·simp[e]
 ·have:(ws.length==0)=false:=by simpa using e
  simp[e,this]
theorem get_at {α:Type} {a b:List α} {z:α}:idx (a++z::b) (a.length:Int)=some z:=iM (by rw[List.getElem?_append_right (Nat.le_refl _),Nat.sub_self];rfl)
theorem v30 {s:aL} (h:gD s) (hb:s.ax.length<=16) {pid:Int} (hp:fS pid=true):yb aj s pid=some (gC s pid [],((dV s pid).length:Int),0):=by
 show zA aj s pid=_
 unfold zA
 rw[JB h hb hp,Option.bind_some]
 simp only[show(!((0:Int)==0))=false from rfl,cond_false,get_at,Option.bind_some,Int.toNat_natCast,N9 h]
theorem v198 {s:aL} (h:gD s) (hb:s.ax.length<=16) {pid:Int} (hp:fS pid=true):D6 aj s pid=some (match dV s pid with|w::r=>(gC s pid r,w,0)|[]=>(⟨[],[]⟩,0,4)):=by
 show zB aj s pid=_
 unfold zB
 rw[JB h hb hp,Option.bind_some]
 simp only[show(!((0:Int)==0))=false from rfl,cond_false,get_at,Option.bind_some,Int.toNat_natCast,N9 h]
 cases dV s pid with
 |nil=>rfl
 |cons w r=>
  have:(((w::r).length:Int)==0)=false:=by simp;omega
  simp only[this,cond_false]
  rfl
theorem aoV {s:aL} (h:gD s) (hb:s.ax.length<=16) {pid:Int} (hp:fS pid=true) (w:Int):D5 aj s pid [w]=some (if(dV s pid).length=4 then(⟨[],[]⟩,6) else(gC s pid (dV s pid++[w]),0)):=by
 show zC aj s pid [w]=_
 unfold zC
 have hw:=Pt h pid
 rw[JB h hb hp,Option.bind_some]
 simp only[show(!((0:Int)==0))=false from rfl,cond_false,get_at,Option.bind_some,Int.toNat_natCast,N9 h,List.length_singleton]
 have ew:IntKind.i64.wrap (((dV s pid).length:Int)+((1:Nat):Int))=((dV s pid).length:Int)+1:=ez (by omega) (by omega)
 simp only[ew]
 by_cases e:(dV s pid).length=4
 ·rw[if_pos e,e]
  rfl
 ·rw[if_neg e,decide_eq_false (by omega),cond_false,l9 (i:=4) (n:=5) hw (by omega) (by omega),Option.bind_some]
theorem WX {α:Type} [DecidableEq α]: ∀ {l m:List α},l.Pairwise (λa b=>a≠b)->(∀x∈l,x∈m)->l.length<=m.length
 |[],_,_,_=>Nat.zero_le _
 |x::r,m,hn,h=>by
  rw[List.pairwise_cons] at hn
  have hx:=h x List.mem_cons_self
  have:=WX (m:=m.erase x) hn.2 λy hy=>(List.mem_erase_of_ne λe=>hn.1 y hy e.symm).2 (h y (List.mem_cons_of_mem _ hy))
  rw[List.length_erase_of_mem hx] at this
  have:=List.length_pos_of_mem hx
  rw[List.length_cons]
  omega
theorem eQ.lb {s:aM} (h:eQ s):s.aq.ax.length<=16:=by
 have U:=WX (l:=s.aq.ax.map ao.aa) (m:=s.ar.ab.map ae.aa) (List.pairwise_map.2 (h.i.oq.imp λ{a b} k=>by omega)) λx hx=>by
  obtain⟨b,hb,rfl⟩:=List.mem_map.1 hx
  obtain⟨y,hy,e,_⟩:=h.boxes b hb
  exact List.mem_map.2 ⟨y,hy,e⟩
 rw[List.length_map,List.length_map] at U
 exact Nat.le_trans U h.p.len
structure l6 (c:aW):Prop where
 p:dv (au c.fArgs 0)
 a:dv (au c.fArgs 1)
theorem ZV (c:aW):x_ aj c=some (mG c):=by
 show(CU aj c).val=_
 unfold CU mG
 simp only[T.bn,T.bo]
 cases c.bJ==9<;>rfl
theorem WZ {l:List ai} (h:jR l) {p a:Int} (h8:8<=a):eE l p a=none:=by
 unfold eE
 rw[mX.2 λd hd=>?_]
 ·rfl
 ·have:=h.is d hd
  simp[mw] at this
  simp
  omega
theorem v67 {s:aM} (h:eQ s) {c:aW} (hc:l6 c):D8 aj s c=some (dY s c):=by
 show(Da aj s c).val=_
 unfold Da dY ma
 by_cases U:1<=c.bJ
 ·by_cases uR:c.bJ<=14
  ·rw[T.bn,decide_eq_true U,cond_true,T.bn,decide_eq_true uR,Bool.not_true,cond_false,T.bB,ZV,Option.bind_some,if_pos ⟨U,uR⟩]
   have hp:=hc.p
   have ha:=hc.a
   have qZ:=h.lb
   generalize au c.fArgs 0=p at*
   generalize au c.fArgs 1=a at*
   generalize au c.fArgs 2=b at*
   have hk:c.bJ=1\/c.bJ=2\/c.bJ=3\/c.bJ=4\/c.bJ=5\/c.bJ=6\/c.bJ=7\/c.bJ=8\/c.bJ=9\/c.bJ=10\/c.bJ=11\/c.bJ=12\/c.bJ=13\/c.bJ=14:=by omega
   have zq:mG c=(c.bJ==9||c.bJ==12):=rfl
   unfold ji
   rw[zq]
   rcases hk with e|e|e|e|e|e|e|e|e|e|e|e|e|e<;>
    simp only[e,T.bn,T.bo,T.bB,T.tJ,Int.reduceBEq,Int.reduceEq,Bool.or_false,Bool.false_or,Bool.or_self,Bool.or_true,Bool.true_or,cond_true,cond_false,if_true,if_false,v28 h.p,Option.bind_some]
   ·cases hr:cG s.ar.ab p with
    |false=>rfl
    |true=>
     simp only[Bool.not_true,cond_true,cond_false,aoM h.p,Option.bind_some]
     cases e2:oB s.ar p with
     |error x=>simp only[lB (Zs e2),Bool.not_false,cond_true]
     |ok x=>rfl
   ·cases hr:cG s.ar.ab p with
    |false=>rfl
    |true=>
     have a_:=(iR h.p.ord).1 hr
     simp only[Bool.not_true,cond_true,cond_false,aoN h.p,Option.bind_some]
     cases e2:nN s.ar p a with
     |error x=>simp only[lB (SY e2),Bool.not_false,cond_true]
     |ok x=>
      simp only[v31 h.i qZ,ZW h.d,v30 h.i qZ (oz h.p a_).1,Option.bind_some,beq_self_eq_true,Bool.not_true,cond_false]
      by_cases hh:pz s.aq p=[]
      ·rw[if_pos hh,hh]
       rfl
      ·have:(((pz s.aq p).length:Int)==0)=false:=by
        have:=List.length_pos_iff.2 hh
        simp;omega
       rw[if_neg hh,this]
       rfl
   ·cases hr:cG s.ar.ab p with
    |false=>rfl
    |true=>
     simp only[Bool.not_true,cond_true,cond_false,aoO h.p,Option.bind_some]
     cases e2:oD s.ar p a with
     |error x=>simp only[lB (Z6 e2),Bool.not_false,cond_true]
     |ok x=>rfl
   ·cases hr:cG s.ar.ab p with
    |false=>rfl
    |true=>
     have a_:=(iR h.p.ord).1 hr
     simp only[Bool.not_true,cond_true,cond_false,v183 h.m ha,Option.bind_some]
     cases e2:j3 s.ay a with
     |error x=>simp only[lB (Gm e2),Bool.not_false,cond_true]
     |ok x=>
      simp only[ZS h.d (oz h.p a_).2.1,Option.bind_some,beq_self_eq_true,Bool.not_true,cond_false]
      cases e3:mD s.aI p x with
      |error y=>simp only[lB (NN e3),Bool.not_false,cond_true]
      |ok y=>
       obtain⟨l,v⟩:=y
       obtain⟨i,h2,_,rfl,_⟩:=FR e3
       have:=(uK h2).1
       simp only[beq_self_eq_true,Bool.not_true,cond_false,rQ (x:=(i:Int)) (by omega) (by omega)]
   ·cases hr:cG s.ar.ab p with
    |false=>rfl
    |true=>
     simp only[Bool.not_true,cond_true,cond_false]
     by_cases h8:a<8
     ·simp only[decide_eq_true h8,Bool.not_true,cond_false,ez (x:=a) (by omega) (by omega),v232 h.d,aoP h.d,Option.bind_some]
      cases e2:j9 s.aI p a with
      |error x=>
       cases e3:eE s.aI p a with
       |some w=>unfold j9 at e2;rw[e3] at e2;cases e2
       |none=>unfold j9 at e2;rw[e3] at e2;cases e2;rfl
      |ok x=>
       obtain⟨w,e3,_⟩:=Sn e2
       rw[e3]
       rfl
     ·have:eE s.aI p a=none:=WZ h.d (by omega)
      unfold j9
      simp only[decide_eq_false h8,Bool.not_false,cond_true,this]
   ·cases hr:cG s.ar.ab p with
    |false=>rfl
    |true=>
     have a_:=(iR h.p.ord).1 hr
     simp only[Bool.not_true,cond_true,cond_false]
     by_cases h8:a<8
     ·simp only[decide_eq_true h8,Bool.not_true,cond_false,ez (x:=a) (by omega) (by omega),v232 h.d,aoQ h.d (oz h.p a_).2.1,Option.bind_some]
      cases e2:mb s.aI p a with
      |error x=>
       cases e3:eE s.aI p a with
       |some w=>simp only[lB (SD e2),Bool.not_false,Bool.not_true,cond_false,cond_true]
       |none=>unfold mb at e2;rw[e3] at e2;cases e2;rfl
      |ok x=>
       obtain⟨l,v⟩:=x
       obtain⟨w,e3,e4⟩:=SE e2
       obtain⟨i,h2,_,rfl,_⟩:=FR e4
       have:=(uK h2).1
       simp only[e3,beq_self_eq_true,Bool.not_true,cond_false,rQ (x:=(i:Int)) (by omega) (by omega)]
     ·have:eE s.aI p a=none:=WZ h.d (by omega)
      unfold mb
      simp only[decide_eq_false h8,Bool.not_false,cond_true,this]
   ·cases hr:cG s.ar.ab p with
    |false=>rfl
    |true=>
     simp only[Bool.not_true,cond_true,cond_false,aoR h.m ha,Option.bind_some]
     cases e2:nH s.ay a with
     |error x=>simp only[lB (RT e2),Bool.not_false,cond_true]
     |ok x=>rfl
   ·cases hr:cG s.ar.ab p with
    |false=>rfl
    |true=>
     simp only[Bool.not_true,cond_true,cond_false,aoS h.m ha,Option.bind_some]
     cases e2:nj s.ay a with
     |error x=>simp only[lB (W9 e2),Bool.not_false,cond_true]
     |ok x=>
      simp only[aoT h.d,v193 h.m ha,Option.bind_some,beq_self_eq_true,Bool.not_true,cond_false]
      by_cases hh:oR s.aI x=0
      ·rw[if_pos hh,hh]
       simp only[show(((0:Nat):Int)==0)=true from rfl,Bool.not_true,cond_false]
       cases e3:nt s.ay a with
       |error y=>simp only[lB (ZH e3),Bool.not_false,cond_true]
       |ok y=>rfl
      ·have:((oR s.aI x:Int)==0)=false:=by simp;omega
       rw[if_neg hh,this]
       rfl
   ·simp only[v183 h.m ha,Option.bind_some]
    cases e2:j3 s.ay a with
    |error x=>simp only[lB (Gm e2),Bool.not_false,cond_true]
    |ok x=>rfl
   ·cases hr:cG s.ar.ab p with
    |false=>rfl
    |true=>
     simp only[Bool.not_true,cond_true,cond_false,v194 h.i qZ ha,Option.bind_some]
     cases e2:ov s.aq a p with
     |error x=>simp only[lB (X1 e2),Bool.not_false,cond_true]
     |ok x=>rfl
   ·cases hr:cG s.ar.ab p with
    |false=>rfl
    |true=>
     simp only[Bool.not_true,cond_true,cond_false,v196 h.i qZ ha,Option.bind_some]
     cases e2:kB s.aq a with
     |error x=>simp only[lB (FI e2),Bool.not_false,cond_true]
     |ok x=>
      obtain⟨h2,h3⟩:=zO e2
      simp only[aoU h.i qZ ha h2 h3,Option.bind_some,beq_self_eq_true,Bool.not_true,cond_false]
      by_cases hh:x=p
      ·rw[if_pos hh,hh]
       simp
      ·have:(x==p)=false:=by simpa using hh
       rw[if_neg hh,this]
       rfl
   ·simp only[v196 h.i qZ ha,Option.bind_some]
    cases e2:kB s.aq a with
    |error x=>simp only[lB (FI e2),Bool.not_false,cond_true]
    |ok x=>rfl
   ·cases hr:cG s.ar.ab p with
    |false=>rfl
    |true=>
     simp only[Bool.not_true,cond_true,cond_false]
     cases q_:cG s.ar.ab a with
     |false=>rfl
     |true=>
      have a_:=(iR h.p.ord).1 q_
      unfold rI
      simp only[aoV h.i qZ (oz h.p a_).1,Option.bind_some,Bool.not_true,cond_true,cond_false]
      by_cases hh:(dV s.aq a).length=4
      ·rw[if_pos hh,hh]
       rfl
      ·have:((dV s.aq a).length==4)=false:=by simpa using hh
       rw[if_neg hh,this]
       rfl
   ·cases hr:cG s.ar.ab p with
    |false=>rfl
    |true=>
     have a_:=(iR h.p.ord).1 hr
     unfold pW
     simp only[v198 h.i qZ (oz h.p a_).1,Option.bind_some,Bool.not_true,cond_true,cond_false]
     cases dV s.aq p<;>rfl
  ·rw[T.bn,decide_eq_true U,cond_true,T.bn,decide_eq_false uR,if_neg λk=>uR k.2]
   rfl
 ·rw[T.bn,decide_eq_false U,if_neg λk=>U k.1]
  rfl
end Go.Proofs.YtdhaaaeffhaadaaGreatDoor
end
section
namespace Go.Proofs.YtdhaaaeffhaadaaGreatDoor
open Go.RowKit Go.Dc Go.Vx
set_option maxRecDepth 100000
set_option maxHeartbeats 4000000

end Go.Proofs.YtdhaaaeffhaadaaGreatDoor
end
section
namespace Go.Proofs.YtdhaaaeffhaadaaGreatDoor
open Go.RowKit Go.Dc Go.Vx
set_option maxRecDepth 1000000
theorem v8:yf aj=some true:=by kernel_rfl
structure Dm (x:aM):Prop where
 pid: ∀z∈x.ar.ab,dv z.aa
 path: ∀z∈x.ay.ab,dv z.bp
 name: ∀z∈x.aq.aB,dv z.bl
theorem short {α:Type} (l:List α) (n:Nat) (h:n<=100):(l.take n).length<=maxLen:=by
 have:=tF l n
 unfold maxLen
 omega
theorem ah7 {x:aM} (h:Dm x):Hz (jq x) where
 p:=⟨λz hz=>h.pid z (List.mem_of_mem_take hz),short _ 18 (by omega)⟩
 d:=short _ 66 (by omega)
 i:=⟨λz hz=>h.name z (List.mem_of_mem_take hz),short _ 18 (by omega),by
  show(List.map FZ (List.take 18 x.aq.ax)).length<=maxLen
  rw[List.length_map]
  exact short _ 18 (by omega)⟩
theorem ah4 {x:aM} (h:Dm x):Hx dr (jq x).ay:=
 ⟨λz hz=>N1 (h.path z (List.mem_of_mem_take hz)),short _ 18 (by omega)⟩
end Go.Proofs.YtdhaaaeffhaadaaGreatDoor
end
section
namespace Go.Proofs.YtdhaaaeffhaadaaGreatDoor
open Go.RowKit Go.Dc Go.Vx
set_option maxRecDepth 100000
theorem v68 {s:aM} (h:eQ s):D9 aj s=some s:=by
 show(Db aj s).val=_
 unfold Db
 have U:=h.p.len
 have h2:=h.d.len
 have h3:=h.m.len
 have h4:=h.i.len
 have h5:=h.lb
 have hL:IW aj s.aq.ax s.ar.aJ s.ay.aN s.ar.ab s.aI s.ay.ab s.aq.aB (s.aq.ax.length:Int) 0 []=some (false,(s.aq.ax.length:Int),s.aq.ax):=JQ h.i h5 λa=>rfl
 simp only[T.bB,T.cM,T.bo,ll (b:=32) (l:=s.ar.ab) (by omega),ll (b:=24) (l:=s.aI) (by omega),ll (b:=16) (l:=s.ay.ab) (by omega),ll (b:=16) (l:=s.aq.aB) (by omega),Option.bind_some,hL]
theorem ah9 {s:aM} (h:eQ s):Hz s where
 p:=TU h.p
 d:=by have:=h.d.len;unfold maxLen;omega
 i:=⟨λz hz=>(h.i.name z hz).1,by have:=h.i.len;unfold maxLen;omega,by have:=h.lb;unfold maxLen;omega⟩
theorem f11 {s:aM} (h:eQ s):kO aj s=some 0:=by
 rw[v11 (ah9 h) (Po (TQ h.m))]
 have:=(Si (ajE h)).2 h
 unfold xO at this
 rw[this]
 rfl
theorem aaa {x:aM} (h:nF x):Dm x:=⟨h.pid,h.path,h.name⟩
theorem apf {x:aM} (h:nF x):nF (jq x):=⟨h.gl,λz hz=>h.pid z (List.mem_of_mem_take hz),λz hz=>h.path z (List.mem_of_mem_take hz),λz hz=>h.name z (List.mem_of_mem_take hz)⟩
theorem NT {x:aM} (h:nF x):eQ (jq x)\/kO aj (jq x)=some 360:=by
 have U:=v11 (ah7 (aaa h)) (Po (ah4 (aaa h)))
 cases e:xO (jq x) with
 |true=>exact .inl ((Si (apf h)).1 e)
 |false=>
  unfold xO at e
  rw[e] at U
  exact .inr U
theorem qf {s:aM} (h:eQ s) {c:aW} (hc:l6 c):kb aj s c=some ((dY s c).1,(dY s c).2,0):=by
 show(ub aj s c).val=_
 unfold ub
 simp only[T.bB,T.bn,T.bo,f11 h,v68 h,v67 h hc,Option.bind_some]
 rfl
theorem v21 {s:aM} (h:eQ s) {c:aW} (hc:l6 c):nO aj s c=some (!decide ((dY s c).1=s)):=by
 show(uc aj s c).val=_
 unfold uc
 simp only[T.bB,T.bn,T.bo,qf h hc,v12,Option.bind_some]
 rfl
def apn:aM:=⟨GU,[],PQ,⟨[],[]⟩⟩
theorem ZT {s:aM} (h:kO aj s=some 360) (c:aW):kb aj s c=some (apn,⟨0,0⟩,360):=by
 show(ub aj s c).val=_
 unfold ub
 simp only[T.bB,T.bn,T.bo,h,Option.bind_some]
 rfl
theorem aoW {s:aM} (h:kO aj s=some 360) (c:aW):nO aj s c=some false:=by
 show(uc aj s c).val=_
 unfold uc
 simp only[T.bB,T.bn,T.bo,ZT h,Option.bind_some]
 rfl
theorem afc {s:aM} {c:aW} (h:(dY s c).2.cD≠0):(dY s c).2.dd=0:=by
 unfold dY at h ⊢
 cases e:ma s c with
 |error x=>rfl
 |ok r=>rw[e] at h;exact(h rfl).elim
theorem Sy {s:aM} (h:eQ s) (c:aW):((dY s c).2.cD≠0/\(dY s c).1=s)\/((dY s c).2.cD=0/\Step s (au c.fArgs 0) (au c.fArgs 1) (au c.fArgs 2) c.bJ (dY s c).1 (dY s c).2.dd/\(c.bJ≠9->c.bJ≠12->eH s.ar.ab (au c.fArgs 0))):=by
 unfold dY
 cases e:ma s c with
 |error x=>exact .inl ⟨JI e,rfl⟩
 |ok r=>exact .inr ⟨rfl,Dx h e⟩
end Go.Proofs.YtdhaaaeffhaadaaGreatDoor
end
section
namespace Go.Dc
open Go.RowKit
structure eB {α:Type} (P:Program) (t:TypeId) (T:Ty α) (D: {H:Type}->DataW H->α->Prop):Prop where
 cells:P.cellsOf t=T.n
 shape: ∀ {w:World} {b:Nat} {v:Value},Value.okWide P w .any b t v->v=T.mk' v.cells.toList
 ah: ∀ {H:Type} {enc:TypeId×Value->H} {w:World} {held:Bool} {fuel:Nat} {cs:List Value} {d:DataW H} {p:List MemPlace},DataW.trod enc P w 0 (λ_=>true) held fuel t cs=some (d,p)->w.noneFrozen p-> ∃x,T.rep [] w cs x/\D d x
section
variable {P:Program} {t:TypeId}
def bK (k:IntKind) {H:Type} (d:DataW H) (x:Int):Prop:=d= .lit (.int k x)/\(Lit.int k x).wf=true
def nz {H:Type} (d:DataW H) (x:Bool):Prop:=d= .lit (.bool x)
theorem Xo {k:IntKind} (hu:P.underlying t=some (.int k)) (hc:P.cellsOf t=1):eB P t (Ty.int k) (bK k) where
 cells:=hc
 shape {w b v} h:=by
  simp only[Value.okWide,hu,Cell.okWide] at h
  unfold Cell.ok at h
  rw[hu] at h
  cases v<;>simp_all [Ty.mk',Ty.int,Value.cells]
 ah {H enc w held fuel cs d p} h _:=by
  obtain⟨n,rfl,hx,hw⟩:=DataW.trod_int hu h
  cases hx
  exact⟨n,rfl,rfl,hw⟩
theorem akZ (hu:P.underlying t=some .bool) (hc:P.cellsOf t=1):eB P t Ty.bool nz where
 cells:=hc
 shape {w b v} h:=by
  simp only[Value.okWide,hu,Cell.okWide] at h
  unfold Cell.ok at h
  rw[hu] at h
  cases v<;>simp_all [Ty.mk',Ty.bool,Value.cells]
 ah {H enc w held fuel cs d p} h _:=by
  obtain⟨b,rfl,hx⟩:=DataW.trod_bool hu h
  cases hx
  exact⟨b,rfl,rfl⟩
def mP {α:Type} (D: {H:Type}->DataW H->α->Prop) {H:Type}:List (DataW H)->List α->Prop
 |[],xs=>xs=[]
 |d::ds,xs=> ∃y ys,xs=y::ys/\D d y/\mP D ds ys
def dX {α:Type} (D: {H:Type}->DataW H->α->Prop) {H:Type} (d:DataW H) (xs:List α):Prop:=
 match d with
 | .nil=>xs=[]
 | .slice es _=>mP D es xs
 |_=>False
theorem mP.len {α:Type} {D: {H:Type}->DataW H->α->Prop} {H:Type}: ∀ {ds:List (DataW H)} {xs:List α},mP D ds xs->ds.length=xs.length
 |[],_,h=>by rw[show _=[] from h];rfl
 |_::_,_,⟨y,ys,h,_,h2⟩=>by subst h;simp[mP.len h2]
theorem mP.mem {α:Type} {D: {H:Type}->DataW H->α->Prop} {H:Type}: ∀ {ds:List (DataW H)} {xs:List α},mP D ds xs-> ∀x∈xs,∃d∈ds,D d x
 |[],_,h,x,hx=>by rw[show _=[] from h] at hx;cases hx
 |d::_,_,⟨y,ys,h,U,h2⟩,x,hx=>by
  subst h
  rcases List.mem_cons.1 hx with rfl|hx
  ·exact⟨d,List.mem_cons_self,U⟩
  ·obtain⟨e,he,h⟩:=mP.mem h2 x hx
   exact⟨e,List.mem_cons_of_mem _ he,h⟩
theorem dX.mem {α:Type} {D: {H:Type}->DataW H->α->Prop} {H:Type} {d:DataW H} {xs:List α} (h:dX D d xs): ∀x∈xs,∃e:DataW H,D e x:=by
 intro x hx
 unfold dX at h
 split at h
 ·subst h;cases hx
 ·obtain⟨e,_,he⟩:=mP.mem h x hx;exact⟨e,he⟩
 ·exact h.elim
theorem JX {α:Type} {D: {H:Type}->DataW H->α->Prop} {H:Type} {R:Nat->α->Prop}: ∀(ds:List (DataW H)) (o:Nat),(∀k d,ds[k]? =some d-> ∃x,R (o+k) x/\D d x)-> ∃xs,mP D ds xs/\ ∀(k:Nat) x,xs[k]? =some x->R (o+k) x
 |[],_,_=>⟨[],rfl,λk x h=>by simp at h⟩
 |d::ds,o,h=>by
  obtain⟨x,hx,hd⟩:=h 0 d rfl
  obtain⟨xs,U,h2⟩:=JX (R:=R) ds (o+1) (λk e he=>by
   have:=h (k+1) e (by simpa using he)
   rwa [show o+(k+1)=o+1+k by omega] at this)
  refine⟨x::xs,⟨x,xs,rfl,hd,U⟩,λk y hy=>?_⟩
  cases k with
  |zero=>simp at hy;subst hy;simpa using hx
  |succ k=>
   have:=h2 k y (by simpa using hy)
   rwa [show o+(k+1)=o+1+k by omega]
theorem Sb {w:World} {a:Addr} {u:Value} (h:w.cell? a=some u):a.block<w.heap.size:=by
 unfold World.cell? at h
 split at h
 ·rename_i hh;exact(Array.getElem?_eq_some_iff.1 hh).1
 ·cases h
theorem adg (a:Addr) (n:Nat):(a.add n).off=a.off+n:=by unfold Addr.add;split<;>simp_all
theorem s_ {α:Type} {e:TypeId} {T:Ty α} {D: {H:Type}->DataW H->α->Prop} (hu:P.underlying t=some (.slice e)) (hc:P.cellsOf t=1) (he:eB P e T D) (hn:0<T.n):eB P t T.slice (dX D) where
 cells:=hc
 shape {w b v} h:=by
  obtain⟨a,len,cap,rfl⟩:=WideShapes.okWide_slice hu h
  rfl
 ah {H enc w held fuel cs d p} h gv:=by
  rcases DataW.trod_slice hu h with⟨rfl,hx⟩|⟨a,len,cap,elems,rest,n,rfl,rfl,hx,_,LZ,mg,hlen,hel,_,_⟩
  ·cases hx
   exact⟨[],⟨none,0,rfl,⟨Nat.le_refl _,by unfold maxLen;omega⟩,λk x h=>by simp at h⟩,rfl⟩
  ·cases hx
   have key: ∀(k:Nat) (x:DataW H),(elems.map (·.1))[k]? =some x-> ∃y,(a.block<w.heap.size/\ ∃es,T.rep [] w es y/\rR w (a.add ((0+k)*T.n)) es)/\D x y:=by
    intro k x hk
    have jB:k<len:=by
     have:=(List.getElem?_eq_some_iff.1 hk).1
     simpa[hlen] using this
    have cX:elems[k]? =some elems[k]:=List.getElem?_eq_getElem (by omega)
    have cO:=hel k jB
    rw[cX] at cO
    simp only[Option.bind_eq_some_iff] at cO
    obtain⟨cs,eW,fq⟩:=cO
    have hx:x=elems[k].1:=by
     rw[List.getElem?_map,cX] at hk
     simpa using hk.symm
    obtain⟨y,pR,zy⟩:=he.ah (d:=elems[k].1) (p:=elems[k].2) fq (λb off hm=>gv b off (List.mem_append_right _ (List.mem_flatMap.2 ⟨elems[k],List.mem_append_left _ (List.getElem_mem _),hm⟩)))
    obtain⟨_,hl,yV⟩:=World.cells?_some eW
    rw[he.cells] at hl yV
    have mq:0<cs.length:=by omega
    refine⟨y,⟨?_,cs,pR,λj u hj=>?_,λj hj=>?_⟩,by rw[hx];exact zy⟩
    ·have h0:=yV 0 (by omega)
     rw[List.getElem?_eq_getElem mq] at h0
     have:=Sb h0
     simpa[l7] using this
    ·have jb:j<T.n:=by have:=(List.getElem?_eq_some_iff.1 hj).1;omega
     rw[Nat.zero_add,yV j jb]
     exact hj
    ·have aH:(0+k)*T.n+j<(elems.length+rest.length)*P.cellsOf e:=by
      rw[he.cells,Nat.zero_add]
      have:(k+1)*T.n<=(elems.length+rest.length)*T.n:=Nat.mul_le_mul_right _ (by omega)
      rw[Nat.succ_mul] at this
      omega
     have:=gv a.block (a.off+((0+k)*T.n+j)) (List.mem_append_left _ (MemPlace.mem_row.2 ⟨_,aH,rfl⟩))
     rw[add_add]
     simp only[World.frozen?,l7,adg] at this ⊢
     exact this
   obtain⟨xs,U,h2⟩:=JX (R:=λk y=>a.block<w.heap.size/\ ∃es,T.rep [] w es y/\rR w (a.add (k*T.n)) es) (elems.map (·.1)) 0 (λk x hk=>key k x hk)
   have n9:xs.length=len:=by rw[<-U.len];simpa using hlen
   refine⟨xs,⟨some a,cap,by rw[n9],⟨by omega,mg⟩,λk x hk=>?_⟩,U⟩
   obtain⟨Ll,es,hr,yU⟩:=h2 k x hk
   exact⟨a,es,rfl,Ll,by simp,hr,by simpa using yU⟩
structure B4 {α:Type} (P:Program) (o:Nat) (fs:List Field) (T:Ty α) (D: {H:Type}->List (DataW H)->α->Prop):Prop where
 ah: ∀ {H:Type} {enc:TypeId×Value->H} {w:World} {held:Bool} {fuel:Nat} {cs:List Value} {xs:List (DataW H×List MemPlace)},xs.length=fs.length->
  (∀(i:Nat) (f:Field),fs[i]? =some f->DataW.trod enc P w 0 (λ_=>true) held fuel f.type ((cs.drop f.offset).take (P.cellsOf f.type))=xs[i]?)->w.noneFrozen (xs.flatMap (·.2))->
  ∃x,T.rep [] w ((cs.drop o).take T.n) x/\D (xs.map (·.1)) x
def cU {α:Type} (D: {H:Type}->DataW H->α->Prop) {H:Type} (ds:List (DataW H)) (x:α):Prop:= ∃d,ds=[d]/\D d x
def bZ {α β:Type} (D: {H:Type}->DataW H->α->Prop) (E: {H:Type}->List (DataW H)->β->Prop) {H:Type} (ds:List (DataW H)) (x:α×β):Prop:= ∃d r,ds=d::r/\D d x.1/\E r x.2
theorem om {α:Type} {o:Nat} {f:Field} {T:Ty α} {D: {H:Type}->DataW H->α->Prop} (ho:f.offset=o) (h:eB P f.type T D):B4 P o [f] T (cU D) where
 ah {H enc w held fuel cs xs} hl hm gv:=by
  obtain⟨y,rfl⟩: ∃y,xs=[y]:=List.length_eq_one_iff.1 hl
  have hy:=hm 0 f rfl
  obtain⟨x,U,h2⟩:=h.ah (d:=y.1) (p:=y.2) hy (λb off hm=>gv b off (by simpa using hm))
  rw[ho,h.cells] at U
  exact⟨x,U,y.1,rfl,h2⟩
theorem kH {α β:Type} {o o':Nat} {f:Field} {fs:List Field} {T:Ty α} {S:Ty β} {D: {H:Type}->DataW H->α->Prop} {E: {H:Type}->List (DataW H)->β->Prop} (ho:f.offset=o) (h:eB P f.type T D) (eh:o'=o+T.n) (hs:B4 P o' fs S E):
  B4 P o (f::fs) (Ty.pair T S) (bZ D E) where
 ah {H enc w held fuel cs xs} hl hm gv:=by
  cases xs with
  |nil=>simp at hl
  |cons y r=>
   have hy:=hm 0 f rfl
   obtain⟨x,U,h2⟩:=h.ah (d:=y.1) (p:=y.2) hy (λb off hm=>gv b off (by simp[hm]))
   obtain⟨z,h3,h4⟩:=hs.ah (xs:=r) (by simpa using hl) (λi g hg=>by simpa using hm (i+1) g (by simpa using hg)) (λb off hm=>gv b off (by rw[List.flatMap_cons];exact List.mem_append_right _ hm))
   rw[ho,h.cells] at U
   refine⟨(x,z),⟨_,_,?_,U,h3⟩,y.1,r.map (·.1),rfl,h2,h4⟩
   show(cs.drop o).take (T.n+S.n)=_
   rw[List.take_add,List.drop_drop,eh]
def cV {α β:Type} (E: {H:Type}->List (DataW H)->α->Prop) (f:β->α) {H:Type} (d:DataW H) (x:β):Prop:= ∃ds,d= .agg ds/\E ds (f x)
theorem oo {α β:Type} {fs:Array Field} {T:Ty α} {E: {H:Type}->List (DataW H)->α->Prop} (f:β->α) (g:α->β) (UI: ∀x,f (g x)=x) (hu:P.underlying t=some (.struct fs)) (hc:P.cellsOf t=T.n) (ha:T.agg=true) (h:B4 P 0 fs.toList T E):eB P t (T.j2 f) (cV E f) where
 cells:=hc
 shape {w b v} h:=by
  simp only[Value.okWide,hu] at h
  obtain⟨cs,rfl,_⟩:=h
  simp[Ty.mk',Ty.j2,ha,Value.cells]
 ah {H enc w held fuel cs d p} hd gv:=by
  obtain⟨xs,n,rfl,hx,hl,n9,hi⟩:=DataW.trod_struct hu hd
  cases hx
  obtain⟨x,U,h2⟩:=h.ah (xs:=xs) (cs:=cs) (by simpa using n9) (λi g hg=>hi i g (by simpa using hg)) gv
  rw[List.drop_zero,List.take_of_length_le (by omega)] at U
  exact⟨g x,by show T.rep [] w cs (f (g x));rw[UI];exact U,_,rfl,by rw[UI];exact h2⟩
theorem eB.arg {α:Type} {T:Ty α} {D: {H:Type}->DataW H->α->Prop} (h:eB P t T D) {H:Type} {enc:TypeId×Value->H} {w:World} {held:Bool} {v:Value} {d:DataW H} {p:List MemPlace} {b:Nat} (hs:Value.okWide P w .any b t v)
  (hd:DataW.Trod enc P w 0 (λ_=>true) held t v d p) (gv:w.noneFrozen p): ∃x,T.is [] w v x/\D d x:=by
 obtain⟨fuel,hf⟩:=hd
 obtain⟨x,U,h2⟩:=h.ah hf gv
 exact⟨x,⟨_,U,h.shape hs⟩,h2⟩
end
theorem Ds {H:Type} {enc:TypeId×Value->H} {P:Program} {W W':World} (hl:laidOutB P=true): ∀ {ts:List TypeId} {vs:List Value} {ds:List (DataW H)} {ps:List MemPlace},(∀t∈ts,P.readableRec t=true/\t<P.types.size)->DataW.TrodAll enc P W 0 (λ_=>true) true ts vs ds ps->Below W.heap.size W W'->(∀x∈ps,x.block<W.heap.size)->
  ∀sp:Nat->Bool,(∀p∈ps,sp p.block=true)->DataW.TrodAll enc P W' 0 sp true ts vs ds ps
 |[],[],[],_,_,h,_,_,_,_=>h
 |_::_,_::_,_::_,_,ht,⟨p,q,U,h2,e⟩,hb,aH,sp,hs=>by
  subst e
  refine⟨p,q,?_,Ds hl (λt h=>ht t (List.mem_cons_of_mem _ h)) h2 hb (λx hx=>aH x (List.mem_append_right _ hx)) sp (λx hx=>hs x (List.mem_append_right _ hx)),rfl⟩
  exact WideElems.Trod_stays hl (ht _ List.mem_cons_self).1 (ht _ List.mem_cons_self).2 U (λx hx=>hb.same (aH x (List.mem_append_left _ hx))) (λx hx=>hs x (List.mem_append_left _ hx))
end Go.Dc
end
section
namespace Go.Vx
open Go.RowKit Go.Dc
variable {P:Program} {t:TypeId}
def mQ (k:IntKind) (n:Nat) {H:Type} (d:DataW H) (x:List Int):Prop:= ∃ds,d= .agg ds/\mP (bK k) ds x/\x.length=n
theorem Xn {k:IntKind} {n:Nat} {e:TypeId} (hu:P.underlying t=some (.array n e)) (hc:P.cellsOf t=n) (he:eB P e (Ty.int k) (bK k)):eB P t (l_ k n) (mQ k n) where
 cells:=hc
 shape {w b v} hs:=by
  simp only[Value.okWide,hu] at hs
  obtain⟨cs,rfl,_⟩:=hs
  simp[Ty.mk',l_,Value.cells]
 ah {H enc w held fuel cs d p} hd gv:=by
  obtain⟨xs,m,rfl,hx,hl,n9,hi⟩:=DataW.trod_array hu hd
  cases hx
  have U:P.cellsOf e=1:=he.cells
  have key: ∀(j:Nat) (x:DataW H),(xs.map (·.1))[j]? =some x-> ∃y,(cs[0+j]? =some (.int k y))/\bK k x y:=by
   intro j x hj
   have jb:j<xs.length:=by
    have:=(List.getElem?_eq_some_iff.1 hj).1
    simpa using this
   have cX:xs[j]? =some xs[j]:=List.getElem?_eq_getElem jb
   have hx:x=xs[j].1:=by
    rw[List.getElem?_map,cX] at hj
    simpa using hj.symm
   have dC:=hi j (by omega)
   rw[cX] at dC
   obtain⟨y,pR,zy⟩:=he.ah (d:=xs[j].1) (p:=xs[j].2) dC (λb off hm=>gv b off (List.mem_flatMap.2 ⟨xs[j],List.getElem_mem _,hm⟩))
   refine⟨y,?_,by rw[hx];exact zy⟩
   rw[U,Nat.mul_one] at pR
   have pR:(cs.drop j).take 1=[.int k y]:=pR
   rw[Nat.zero_add]
   cases hd:cs.drop j with
   |nil=>rw[hd] at pR;simp at pR
   |cons u r=>
    rw[hd] at pR
    have:u= .int k y:=by simpa using pR
    subst this
    have:=List.getElem?_drop (xs:=cs) (i:=j) (j:=0)
    rw[hd] at this
    simpa using this.symm
  obtain⟨ys,h2,h3⟩:=JX (R:=λj y=>cs[j]? =some (.int k y)) (xs.map (·.1)) 0 (λj x hj=>key j x hj)
  have Fk:ys.length=n:=by rw[<-h2.len];simpa using n9
  refine⟨ys,⟨Fk,?_⟩,_,rfl,h2,Fk⟩
  refine List.ext_getElem? λj=>?_
  rw[List.getElem?_map]
  cases hj:ys[j]? with
  |none=>
   rw[List.getElem?_eq_none_iff] at hj
   rw[List.getElem?_eq_none (by rw[hl,hc];omega)]
   rfl
  |some y=>
   have:=h3 j y hj
   rw[Nat.zero_add] at this
   exact this
end Go.Vx
end
section
namespace Go.Proofs.YtdhaaaeffhaadaaGreatDoor
open Go.RowKit Go.Dc Go.Vx
set_option maxRecDepth 100000
theorem NO:eB Tryz.prog 3 (Ty.int .i64) (bK .i64):=Xo Tryz.underlying3 (by kernel_rfl)
theorem akJ:eB Tryz.prog 22 (l_ .i64 16) (mQ .i64 16):=Xn Tryz.underlying22 (by kernel_rfl) NO
theorem kX:eB Tryz.prog 28 (Ty.int .u64) (bK .u64):=Xo Tryz.underlying28 (by kernel_rfl)
theorem akS:eB Tryz.prog 4 Ty.bool nz:=akZ Tryz.underlying4 (by kernel_rfl)
theorem FT:eB Tryz.prog 69 jM (cV (bZ (bK .u64) (bZ (bK .u64) (bZ nz (cU (bK .u64))))) (λd:ae=>(d.aa,d.ba,d.bC,d.cJ))):=oo (λd:ae=>(d.aa,d.ba,d.bC,d.cJ)) (λp=>⟨p.1,p.2.1,p.2.2.1,p.2.2.2⟩) (λ_=>rfl) Tryz.underlying69 (by kernel_rfl) rfl (kH rfl kX rfl (kH rfl kX rfl (kH rfl akS rfl (om rfl kX))))
theorem akK:eB Tryz.prog 23 (Ty.slice jM) (dX (cV (bZ (bK .u64) (bZ (bK .u64) (bZ nz (cU (bK .u64))))) (λd:ae=>(d.aa,d.ba,d.bC,d.cJ)))):=s_ Tryz.underlying23 (by kernel_rfl) FT (by decide)
theorem akL:eB Tryz.prog 25 AE (cV (bZ (mQ .i64 16) (cU (dX (cV (bZ (bK .u64) (bZ (bK .u64) (bZ nz (cU (bK .u64))))) (λd:ae=>(d.aa,d.ba,d.bC,d.cJ)))))) (λd:br=>(d.aJ,d.ab))):=oo (λd:br=>(d.aJ,d.ab)) (λp=>⟨p.1,p.2⟩) (λ_=>rfl) Tryz.underlying25 (by kernel_rfl) rfl (kH rfl akJ rfl (om rfl akK))
theorem akX:eB Tryz.prog 89 lZ (cV (bZ (bK .u64) (bZ (bK .i64) (cU (bK .u64)))) (λd:ai=>(d.aa,d.bL,d.cK))):=oo (λd:ai=>(d.aa,d.bL,d.cK)) (λp=>⟨p.1,p.2.1,p.2.2⟩) (λ_=>rfl) Tryz.underlying89 (by kernel_rfl) rfl (kH rfl kX rfl (kH rfl NO rfl (om rfl kX)))
theorem akM:eB Tryz.prog 26 (Ty.slice lZ) (dX (cV (bZ (bK .u64) (bZ (bK .i64) (cU (bK .u64)))) (λd:ai=>(d.aa,d.bL,d.cK)))):=s_ Tryz.underlying26 (by kernel_rfl) akX (by decide)
theorem akU:eB Tryz.prog 71 oC (cV (bZ (bK .u64) (cU (bK .u64))) (λd:az=>(d.bp,d.aZ))):=oo (λd:az=>(d.bp,d.aZ)) (λp=>⟨p.1,p.2⟩) (λ_=>rfl) Tryz.underlying71 (by kernel_rfl) rfl (kH rfl kX rfl (om rfl kX))
theorem akN:eB Tryz.prog 27 (Ty.slice oC) (dX (cV (bZ (bK .u64) (cU (bK .u64))) (λd:az=>(d.bp,d.aZ)))):=s_ Tryz.underlying27 (by kernel_rfl) akU (by decide)
theorem akO:eB Tryz.prog 30 AD (cV (bZ (dX (cV (bZ (bK .u64) (cU (bK .u64))) (λd:az=>(d.bp,d.aZ)))) (cU (bK .u64))) (λd:bG=>(d.ab,d.aN))):=oo (λd:bG=>(d.ab,d.aN)) (λp=>⟨p.1,p.2⟩) (λ_=>rfl) Tryz.underlying30 (by kernel_rfl) rfl (kH rfl akN rfl (om rfl kX))
theorem akY:eB Tryz.prog 93 fu (cV (bZ (bK .u64) (cU (bK .u64))) (λd:aA=>(d.bl,d.aa))):=oo (λd:aA=>(d.bl,d.aa)) (λp=>⟨p.1,p.2⟩) (λ_=>rfl) Tryz.underlying93 (by kernel_rfl) rfl (kH rfl kX rfl (om rfl kX))
theorem akP:eB Tryz.prog 31 (Ty.slice fu) (dX (cV (bZ (bK .u64) (cU (bK .u64))) (λd:aA=>(d.bl,d.aa)))):=s_ Tryz.underlying31 (by kernel_rfl) akY (by decide)
theorem akV:eB Tryz.prog 76 (Ty.slice (Ty.int .u64)) (dX (bK .u64)):=s_ Tryz.underlying76 (by kernel_rfl) kX (by decide)
theorem akW:eB Tryz.prog 82 mJ (cV (bZ (bK .u64) (cU (dX (bK .u64)))) (λd:ao=>(d.aa,d.bg))):=oo (λd:ao=>(d.aa,d.bg)) (λp=>⟨p.1,p.2⟩) (λ_=>rfl) Tryz.underlying82 (by kernel_rfl) rfl (kH rfl kX rfl (om rfl akV))
theorem akQ:eB Tryz.prog 32 (Ty.slice mJ) (dX (cV (bZ (bK .u64) (cU (dX (bK .u64)))) (λd:ao=>(d.aa,d.bg)))):=s_ Tryz.underlying32 (by kernel_rfl) akW (by decide)
theorem akR:eB Tryz.prog 34 jL (cV (bZ (dX (cV (bZ (bK .u64) (cU (bK .u64))) (λd:aA=>(d.bl,d.aa)))) (cU (dX (cV (bZ (bK .u64) (cU (dX (bK .u64)))) (λd:ao=>(d.aa,d.bg)))))) (λd:aL=>(d.aB,d.ax))):=oo (λd:aL=>(d.aB,d.ax)) (λp=>⟨p.1,p.2⟩) (λ_=>rfl) Tryz.underlying34 (by kernel_rfl) rfl (kH rfl akP rfl (om rfl akQ))
theorem NQ:eB Tryz.prog 36 tE (cV (bZ (cV (bZ (mQ .i64 16) (cU (dX (cV (bZ (bK .u64) (bZ (bK .u64) (bZ nz (cU (bK .u64))))) (λd:ae=>(d.aa,d.ba,d.bC,d.cJ)))))) (λd:br=>(d.aJ,d.ab))) (bZ (dX (cV (bZ (bK .u64) (bZ (bK .i64) (cU (bK .u64)))) (λd:ai=>(d.aa,d.bL,d.cK)))) (bZ (cV (bZ (dX (cV (bZ (bK .u64) (cU (bK .u64))) (λd:az=>(d.bp,d.aZ)))) (cU (bK .u64))) (λd:bG=>(d.ab,d.aN))) (cU (cV (bZ (dX (cV (bZ (bK .u64) (cU (bK .u64))) (λd:aA=>(d.bl,d.aa)))) (cU (dX (cV (bZ (bK .u64) (cU (dX (bK .u64)))) (λd:ao=>(d.aa,d.bg)))))) (λd:aL=>(d.aB,d.ax))))))) (λd:aM=>(d.ar,d.aI,d.ay,d.aq))):=oo (λd:aM=>(d.ar,d.aI,d.ay,d.aq)) (λp=>⟨p.1,p.2.1,p.2.2.1,p.2.2.2⟩) (λ_=>rfl) Tryz.underlying36 (by kernel_rfl) rfl (kH rfl akL rfl (kH rfl akM rfl (kH rfl akO rfl (om rfl akR))))
theorem Xl:eB Tryz.prog 48 (l_ .u64 4) (mQ .u64 4):=Xn Tryz.underlying48 (by kernel_rfl) kX
theorem akT:eB Tryz.prog 50 rL (cV (bZ (bK .u64) (cU (mQ .u64 4))) (λd:aW=>(d.bJ,d.fArgs))):=oo (λd:aW=>(d.bJ,d.fArgs)) (λp=>⟨p.1,p.2⟩) (λ_=>rfl) Tryz.underlying50 (by kernel_rfl) rfl (kH rfl kX rfl (om rfl Xl))
theorem Xk:eB Tryz.prog 46 (Ty.slice rL) (dX (cV (bZ (bK .u64) (cU (mQ .u64 4))) (λd:aW=>(d.bJ,d.fArgs)))):=s_ Tryz.underlying46 (by kernel_rfl) akT (by decide)
def I8 (P:Program) (w:World) (n:String) (d:DataW Unit):Prop:=
 ∃g t cs fuel p,P.globalNamed n=some g/\(P.globals[g]?).map (·.type)=some t/\w.var? P n=some cs/\DataW.trod (λ_=>()) P w 0 (λ_=>true) false fuel t cs.toList=some (d,p)/\w.noneFrozen p/\w.noneFrozen (MemPlace.row ⟨g,0,none⟩ cs.size)
theorem VJ {P:Program} {w:World}: ∀ {l:List (String×DataW Unit)} {ps:List MemPlace},DataW.LaidVars P w l ps->w.noneFrozen ps-> ∀n d,(n,d)∈l->I8 P w n d
 |[],_,_,_,_,_,hm=>by cases hm
 |(n',d')::r,ps,h,hf,n,d,hm=>by
  obtain⟨g,t,cs,fuel,p,q,U,h2,h3,h4,h5,rfl⟩:=h
  rcases List.mem_cons.1 hm with e|e
  ·cases e
   exact⟨g,t,cs,fuel,p,U,h2,h3,h4,λb off hb=>hf b off (by simp[hb]),λb off hb=>hf b off (by simp[hb])⟩
  ·exact VJ h5 (λb off hb=>hf b off (by simp[hb])) n d e
theorem MS {P:Program} {w:World} {l:List (String×DataW Unit)} (h:laidMet P l w) {n:String} {d:DataW Unit} (hm:(n,d)∈l):I8 P w n d:=by
 obtain⟨ps,hv,_,hc⟩:=h
 refine VJ hv (λb off hb=>?_) n d hm
 obtain⟨⟨c,t,e⟩,_⟩:=hc b off hb
 unfold World.frozen?
 simp[e]
theorem MT {α:Type} {P:Program} {w:World} {n:String} {d:DataW Unit} {g t:Nat} {T:Ty α} {D: {H:Type}->DataW H->α->Prop} (hg:P.globalNamed n=some g) (hty:(P.globals[g]?).map (·.type)=some t) (h:eB P t T D) (mq:0<T.n) (hl:I8 P w n d):
  ∃x,T.ptr.is [] w (.pointer (some ⟨g,0,none⟩)) x/\D d x:=by
 obtain⟨g',t',cs,fuel,p,U,h2,h3,h4,hp,hf⟩:=hl
 cases hg.symm.trans U
 cases hty.symm.trans h2
 obtain⟨x,h5,h6⟩:=h.ah h4 hp
 have hc: ∀j,w.cell? ⟨g,j,none⟩=cs.toList[j]? :=λj=>by
  have:=World.var?_cell hg h3 j
  simpa using this
 have hl:=T.len h5
 have e: ∀j,(⟨g,0,none⟩:Addr).add j=⟨g,j,none⟩:=λj=>by unfold Addr.add;split<;>simp_all
 refine⟨x,⟨_,⟨⟨g,0,none⟩,_,rfl,?_,by simp,h5,λj u hu=>?_,λj hj=>?_⟩,rfl⟩,h6⟩
 ·obtain⟨u,hu⟩: ∃u,cs.toList[0]? =some u:=⟨_,List.getElem?_eq_getElem (by omega)⟩
  rw[<-hc] at hu
  exact Sb hu
 ·rw[e,hc]
  exact hu
 ·rw[e]
  refine hf g j ?_
  unfold MemPlace.row
  simp_all
theorem Eg {H:Type} {d:DataW H} {x:Int} (h:bK .u64 d x):0<=x/\x<18446744073709551616:=by
 have:=h.2
 simp[Lit.wf,IntKind.min,IntKind.max,IntKind.signed,IntKind.bits] at this
 omega
theorem Kv {x:ae} (h:cV (bZ (bK .u64) (bZ (bK .u64) (bZ nz (cU (bK .u64))))) (λd:ae=>(d.aa,d.ba,d.bC,d.cJ)) (Rows.laid_afterglow_proc_first (H:=Unit)) x):x=uL:=by
 obtain⟨a,b,c,d⟩:=x
 simp[Rows.laid_afterglow_proc_first,cV,bZ,cU,bK,nz] at h
 obtain⟨d1,r1,⟨rfl,rfl⟩,⟨U,_⟩,d2,r2,e2,⟨h2,_⟩,d3,r3,e3,h3,d4,e4,h4,_⟩:=h
 simp at e2
 obtain⟨rfl,rfl⟩:=e2
 simp at e3
 obtain⟨rfl,rfl⟩:=e3
 simp at e4
 subst e4
 simp at U h2 h3 h4
 subst U;subst h2;subst h3;subst h4
 rfl
theorem Ky {O:List Nat} {w:World} (h:jM.ptr.is O w (.pointer (some ⟨0,0,none⟩)) uL):dI KK O w:=by
 intro g t x hg
 show(SS.ty t).ptr.is O w (.pointer (some ⟨g,0,none⟩)) x
 have hg:Kx g=some ⟨t,x⟩:=hg
 unfold Kx at hg
 split at hg
 ·cases hg;exact h
 ·cases hg
theorem JE {f:Nat} {args:List (aG SS)} {r:Bool} (hc:fY KK Tryz.prog f args (.ret (.s (KK.ah 4 r)))) {A:Pl} {O:List Nat} {w:World} {vs:List Value} (hv:dE A O w args vs) (hO:OB O w) (hG:dI KK O w):Calls Tryz.prog f vs.toArray w (jP (rH Ty.bool) O w r):=by
 refine(hc.2 A O w vs hv hO hG).mono ?_
 rintro e w' ⟨⟨v,rfl,U,_⟩,hF⟩
 cases U
 exact⟨_,rfl,mU.2 rfl,hF⟩
theorem ao3 {H:Type} {d:DataW H} {x:aM} (h:(cV (bZ (cV (bZ (mQ .i64 16) (cU (dX (cV (bZ (bK .u64) (bZ (bK .u64) (bZ nz (cU (bK .u64))))) (λd:ae=>(d.aa,d.ba,d.bC,d.cJ)))))) (λd:br=>(d.aJ,d.ab))) (bZ (dX (cV (bZ (bK .u64) (bZ (bK .i64) (cU (bK .u64)))) (λd:ai=>(d.aa,d.bL,d.cK)))) (bZ (cV (bZ (dX (cV (bZ (bK .u64) (cU (bK .u64))) (λd:az=>(d.bp,d.aZ)))) (cU (bK .u64))) (λd:bG=>(d.ab,d.aN))) (cU (cV (bZ (dX (cV (bZ (bK .u64) (cU (bK .u64))) (λd:aA=>(d.bl,d.aa)))) (cU (dX (cV (bZ (bK .u64) (cU (dX (bK .u64)))) (λd:ao=>(d.aa,d.bg)))))) (λd:aL=>(d.aB,d.ax))))))) (λd:aM=>(d.ar,d.aI,d.ay,d.aq))) d x):Dm x:=by
 obtain⟨_,_,_,_,_,hP,_,_,_,_,_,_,_,hM,_,_,hI⟩:=h
 obtain⟨_,_,_,_,_,_,_,_,hP⟩:=hP
 obtain⟨_,_,_,_,_,hM,_⟩:=hM
 obtain⟨_,_,_,_,_,hI,_⟩:=hI
 refine⟨λz hz=>?_,λz hz=>?_,λz hz=>?_⟩
 ·obtain⟨e,_,_,_,_,_,h,_⟩:=hP.mem z hz
  exact Eg h
 ·obtain⟨e,_,_,_,_,_,h,_⟩:=hM.mem z hz
  exact Eg h
 ·obtain⟨e,_,_,_,_,_,h,_⟩:=hI.mem z hz
  exact Eg h
theorem PF {H:Type} {d:DataW H} {x:aM} (h:(cV (bZ (cV (bZ (mQ .i64 16) (cU (dX (cV (bZ (bK .u64) (bZ (bK .u64) (bZ nz (cU (bK .u64))))) (λd:ae=>(d.aa,d.ba,d.bC,d.cJ)))))) (λd:br=>(d.aJ,d.ab))) (bZ (dX (cV (bZ (bK .u64) (bZ (bK .i64) (cU (bK .u64)))) (λd:ai=>(d.aa,d.bL,d.cK)))) (bZ (cV (bZ (dX (cV (bZ (bK .u64) (cU (bK .u64))) (λd:az=>(d.bp,d.aZ)))) (cU (bK .u64))) (λd:bG=>(d.ab,d.aN))) (cU (cV (bZ (dX (cV (bZ (bK .u64) (cU (bK .u64))) (λd:aA=>(d.bl,d.aa)))) (cU (dX (cV (bZ (bK .u64) (cU (dX (bK .u64)))) (λd:ao=>(d.aa,d.bg)))))) (λd:aL=>(d.aB,d.ax))))))) (λd:aM=>(d.ar,d.aI,d.ay,d.aq))) d x):nF x:=by
 have hw:=ao3 h
 obtain⟨_,_,_,_,_,hP,_⟩:=h
 obtain⟨_,_,_,_,_,⟨_,_,_,hl⟩,_⟩:=hP
 exact⟨hl,hw.pid,hw.path,hw.name⟩
theorem ZG {l:List Int} (h: ∀x∈l,dv x) (i:Nat):dv (au l i):=by
 unfold au
 cases e:l[i]? with
 |none=>exact⟨by simp,by simp⟩
 |some x=>exact h x (List.mem_of_getElem? e)
theorem aai {H:Type} {d:DataW H} {l:List Int} (h:mQ .u64 4 d l):(∀x∈l,dv x)/\l.length=4:=by
 obtain⟨ds,_,ha,hl⟩:=h
 refine⟨λx hx=>?_,hl⟩
 obtain⟨e,_,he⟩:=ha.mem x hx
 exact Eg he
theorem aaj {H:Type} {d:DataW H} {l:List aW} (h:(dX (cV (bZ (bK .u64) (cU (mQ .u64 4))) (λd:aW=>(d.bJ,d.fArgs)))) d l): ∀c∈l,l6 c:=by
 intro c hc
 obtain⟨e,_,_,_,_,_,_,_,_,ha⟩:=h.mem c hc
 have:=(aai ha).1
 exact⟨ZG this 0,ZG this 1⟩
end Go.Proofs.YtdhaaaeffhaadaaGreatDoor
end
