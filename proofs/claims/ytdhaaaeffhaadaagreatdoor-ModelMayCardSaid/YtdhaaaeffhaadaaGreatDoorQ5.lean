/- A part of the proof that ModelMay returns true for every input: the machine of values, its soundness, the program and the document as plain functions, the laws. Conditions: those of the given row. -/
import Derived.Test.YtdhaaaeffhaadaaGreatDoorQ4
import Derived.Laws.Bits64b
import Derived.Laws.Strings
import Derived.ProofKit
import Derived.OpenShut
import Derived.Lib.LaidTab
import Derived.Test.YtdhaaaeffhaadaaGreatDoorCards
import Derived.Test.YtdhaaaeffhaadaaGreatDoorTie
import Derived.Deep.DeepHandedRow
import Derived.Deep.DeepWitnessRowRef
import Derived.JoinedCond
set_option linter.unusedVariables false
set_option linter.unusedSimpArgs false
noncomputable section
section
namespace Go.Proofs.YtdhaaaeffhaadaaGreatDoor
open Go.RowKit Go.Dc Go.Vx
set_option maxRecDepth 100000
set_option maxHeartbeats 4000000
noncomputable def Rc (sh:Sh) (s:bF) (c:dh):T (bF×cF×Int):=
 .bd (qh sh s) λz0=>
  .bf (z0 !=0) (
   .ok (⟨⟨[0,0,0,0,0,0,0,0,0,0,0,0,0,0,0,0],[]⟩,[],⟨[],0⟩,⟨[],[]⟩⟩,⟨0,0⟩,z0))<|
  .bd (Il sh s) λz1=>
   .bd (Ik sh z1 c) λy2=>
    .ok (y2.1,y2.2,0)
noncomputable def SI (sh:Sh) (s:bF) (c:dh):Option (bF×cF×Int):=sh.s _ (Rc sh s c).val
theorem aoF {R:Type} (s:bF) (c:dh) (k:Rs SS->Option R):bu (zB shut) 100 19 [KK.aa 36 s,KK.aa 50 c] [] (bD KK [36,53,40] k)=(Rc shut s c).run (λr=>k (.ret (.aY [KK.aa 36 r.1,KK.aa 53 r.2.1,KK.aa 40 r.2.2]))):=by kernel_rfl
noncomputable def aep (sh:Sh):bq SS:=bw KK 19 [36,50] (λ{R} xs k=>match xs with| .cons s (.cons c .nil)=>(SI sh s c).bind (λr=>k (.ret (.aY [KK.aa 36 r.1,KK.aa 53 r.2.1,KK.aa 40 r.2.2]))))
noncomputable def zj (sh:Sh):az SS:= { (zB sh) with C:=aep sh::(zB sh).C }
theorem Pj:ab (zj shut) Tryz.prog:=ab.bB Py λxs k z _ hz=>bG (ab.all Py rfl) (λ{R} xs k z h=>by
 match xs,h with
 | .cons s (.cons c .nil),h=>exact⟨100,(aoF s c k).trans (bH h)⟩) hz
noncomputable def Rj (sh:Sh) (s:bF) (c:dh):T (Bool):=
 .bd (SI sh s c) λy0=>
  .bf (y0.2.2==0) (
   .bd (qi sh y0.1 s) λz1=>
    .ok (!z1))<|
  .ok false
noncomputable def H4 (sh:Sh) (s:bF) (c:dh):Option (Bool):=sh.s _ (Rj sh s c).val
theorem aoM {R:Type} (s:bF) (c:dh) (k:Rs SS->Option R):bu (zj shut) 100 21 [KK.aa 36 s,KK.aa 50 c] [] (bD KK [4] k)=(Rj shut s c).run (λr=>k (.ret (.s (KK.aa 4 r)))):=by kernel_rfl
noncomputable def aez (sh:Sh):bq SS:=bw KK 21 [36,50] (λ{R} xs k=>match xs with| .cons s (.cons c .nil)=>(H4 sh s c).bind (λr=>k (.ret (.s (KK.aa 4 r)))))
noncomputable def uk (sh:Sh):az SS:= { (zj sh) with C:=aez sh::(zj sh).C }
theorem FA:ab (uk shut) Tryz.prog:=ab.bB Pj λxs k z _ hz=>bG (ab.all Pj rfl) (λ{R} xs k z h=>by
 match xs,h with
 | .cons s (.cons c .nil),h=>exact⟨100,(aoM s c k).trans (bH h)⟩) hz
noncomputable def IK (U:List dh) (p1:List Int) (p2:List ah) (p3:List aj) (p4:List ar) (p5:Int) (p6:List aw) (p7:List an) (p8:Int) (p9:List cF):AS SS:=⟨[(0,(vs .dF)),(2,(va 2 0)),(8,(vd 46 U)),(9,(vi (↑U.length:Int))),(10,(vi p8))],[(some (.bM 117 [] [(.one (.br 1 0)),(.one (.br 2 0))])),(bX 46 [(.aP 46 U)]),(bX 120 [(.br 3 0)]),(bX 36 [(.bR .i64 16 p1),(.aP 23 p2),(.aP 26 p3),(.aP 27 p4),(lu p5),(.aP 31 p6),(.aP 32 p7)]),(bX 51 [(.own 5)]),(rX 53 p9)],5,(some ⟨⟨Tryz.f116,ax 116⟩,[7],(gk (aU Tryz.f116) 4),(gl (aU Tryz.f116) 4),[(2,(va 4 0)),(6,(vc 0))],none⟩),false,[],[3,4]⟩
noncomputable def Yo (U:List dh) (p1:List Int) (p2:List ah) (p3:List aj) (p4:List ar) (p5:Int) (p6:List aw) (p7:List an) (p9:List cF):AS SS:=IK U p1 p2 p3 p4 p5 p6 p7 0 p9
noncomputable def afX (U:List dh) (a0:Bool) (a1:Int) (a2:List Int) (a3:List ah) (a4:List aj) (a5:List ar) (a6:Int) (a7:List aw) (a8:List an) (a9:List cF):AS SS:= { IK U a2 a3 a4 a5 a6 a7 a8 a1 a9 with env:=[(11,(vb a0)),(0,(vs .dF)),(2,(va 2 0)),(8,(vd 46 U)),(9,(vi (↑U.length:Int))),(10,(vi a1))] }
noncomputable def Qo (sh:Sh) (U:List dh) (p8:Int) (z0:dh) (a:List Int×List ah×List aj×List ar×Int×List aw×List an×List cF):T ((List Int×List ah×List aj×List ar×Int×List aw×List an×List cF) ⊕ (Bool×Int×List Int×List ah×List aj×List ar×Int×List aw×List an×List cF)):=
 .bd (Ik sh (bF.mk (b_.mk a.1 a.2.1) a.2.2.1 (cz.mk a.2.2.2.1 a.2.2.2.2.1) (bh.mk a.2.2.2.2.2.1 a.2.2.2.2.2.2.1)) z0) λy1=>
  .bd (app 16 a.2.2.2.2.2.2.2 [y1.2]) λz2=>
   .ok (.inl (y1.1.aG.aR,y1.1.aG.ao,y1.1.bj,y1.1.aI.ao,y1.1.aI.bz,y1.1.aA.aK,y1.1.aA.ay,z2))
noncomputable def OA (sh:Sh) (U:List dh) (p8:Int) (a:List Int×List ah×List aj×List ar×Int×List aw×List an×List cF):T ((Bool×Int×List Int×List ah×List aj×List ar×Int×List aw×List an×List cF)):=
 .ok ((decide (p8<(↑U.length:Int))),p8,a.1,a.2.1,a.2.2.1,a.2.2.2.1,a.2.2.2.2.1,a.2.2.2.2.2.1,a.2.2.2.2.2.2.1,a.2.2.2.2.2.2.2)
noncomputable def PJ (sh:Sh) (U:List dh) (p1:List Int) (p2:List ah) (p3:List aj) (p4:List ar) (p5:Int) (p6:List aw) (p7:List an) (p9:List cF):Option ((Bool×Int×List Int×List ah×List aj×List ar×Int×List aw×List an×List cF)):=cg sh (Qo sh U) (OA sh U) U (p1,p2,p3,p4,p5,p6,p7,p9)
noncomputable def ab2 {R:Type} (k:AX->AS SS->Option R) (U:List dh) (x:(Bool×Int×List Int×List ah×List aj×List ar×Int×List aw×List an×List cF)):Option R:=(λv=>k (.exit 0) (afX U v.1 v.2.1 v.2.2.1 v.2.2.2.1 v.2.2.2.2.1 v.2.2.2.2.2.1 v.2.2.2.2.2.2.1 v.2.2.2.2.2.2.2.1 v.2.2.2.2.2.2.2.2.1 v.2.2.2.2.2.2.2.2.2)) x
noncomputable def Vv:bo SS:=nT (λst=>gc (ax 117 2) (jq [3,4] (iE 4 0 53 (st))))<|bJ 2 (λst=>((dU st 0 117).bind λ_=>jB st 13 4).bind λ_=>(bb 46 (aS st 8 0)).bind λU=>(fN (aZ st 3 0)).bind λp1=>(bb 23 (aZ st 3 1)).bind λp2=>(bb 26 (aZ st 3 2)).bind λp3=>(bb 27 (aZ st 3 3)).bind λp4=>(bE (aZ st 3 4)).bind λp5=>(bb 31 (aZ st 3 5)).bind λp6=>(bb 32 (aZ st 3 6)).bind λp7=>(db st 5 53).bind λp9=>some (U,p1,p2,p3,p4,p5,p6,p7,p9)) (λp=>Yo p.1 p.2.1 p.2.2.1 p.2.2.2.1 p.2.2.2.2.1 p.2.2.2.2.2.1 p.2.2.2.2.2.2.1 p.2.2.2.2.2.2.2.1 p.2.2.2.2.2.2.2.2) (λp=>PJ shut p.1 p.2.1 p.2.2.1 p.2.2.2.1 p.2.2.2.2.1 p.2.2.2.2.2.1 p.2.2.2.2.2.2.1 p.2.2.2.2.2.2.2.1 p.2.2.2.2.2.2.2.2) (λk p=>ab2 k p.1)
theorem al5:aC KK Tryz.prog ⟨Tryz.f117,ax 117⟩ (bI (aU Tryz.f117) 2) Vv:=aC.pre (c7.comp (c7.gc (ax 117 2)) (c7.comp (c7.jq [3,4]) (c7.iE 4 0 53)))<|
 aC.ck (π:=List dh×List Int×List ah×List aj×List ar×Int×List aw×List an×List cF) (σ:=List Int×List ah×List aj×List ar×Int×List aw×List an×List cF) (ab.all FA rfl) (au.nil) rfl 60 (λp i a=>IK p.1 a.1 a.2.1 a.2.2.1 a.2.2.2.1 a.2.2.2.2.1 a.2.2.2.2.2.1 a.2.2.2.2.2.2.1 i a.2.2.2.2.2.2.2) (λp=>p.1) (λp=>(p.2.1,p.2.2.1,p.2.2.2.1,p.2.2.2.2.1,p.2.2.2.2.2.1,p.2.2.2.2.2.2.1,p.2.2.2.2.2.2.2.1,p.2.2.2.2.2.2.2.2)) (St:=λp=>Qo shut p.1) (F:=λp=>OA shut p.1) (λp=>rfl)
  (λm p i a k=>by kernel_rfl) (λp x=>⟨_,_,λ_=>rfl⟩) (λp N C A O w a hr=>cH hr (t:=46) (sl:=8) rfl λv h=>h)
noncomputable def N4:az SS:= { (uk shut) with T:=bl ((uk shut).T) 117 ⟨⟨Tryz.f117,ax 117⟩,[Vv]⟩ }
theorem aa1:aF N4 Tryz.prog:=(aF.bK (ab.all FA rfl) Tryz.func117 rfl bg λc hc=>by cases hc;exact au.cons (au.nil) (by kernel_rfl) al5)
noncomputable def Ro (sh:Sh) (s:bF) (l:List dh):T (bF×List cF×Int):=
 .bd (qh sh s) λz0=>
  .bf (z0 !=0) (
   .ok (⟨⟨[0,0,0,0,0,0,0,0,0,0,0,0,0,0,0,0],[]⟩,[],⟨[],0⟩,⟨[],[]⟩⟩,[],z0))<|
  .bd (Il sh s) λz1=>
   .gd (Yo l z1.aG.aR z1.aG.ao z1.bj z1.aI.ao z1.aI.bz z1.aA.aK z1.aA.ay [])<|
    .bd (PJ sh l z1.aG.aR z1.aG.ao z1.bj z1.aI.ao z1.aI.bz z1.aA.aK z1.aA.ay []) λy2=>
     .ok (⟨⟨y2.2.2.1,y2.2.2.2.1⟩,y2.2.2.2.2.1,⟨y2.2.2.2.2.2.1,y2.2.2.2.2.2.2.1⟩,⟨y2.2.2.2.2.2.2.2.1,y2.2.2.2.2.2.2.2.2.1⟩⟩,y2.2.2.2.2.2.2.2.2.2,0)
noncomputable def SL (sh:Sh) (s:bF) (l:List dh):Option (bF×List cF×Int):=sh.s _ (Ro sh s l).val
theorem aoR {R:Type} (s:bF) (l:List dh) (k:Rs SS->Option R):bu N4 100 25 [KK.aa 36 s,KK.aa 46 l] [] (bD KK [36,51,40] k)=(Ro shut s l).run (λr=>k (.ret (.aY [KK.aa 36 r.1,KK.aa 51 r.2.1,KK.aa 40 r.2.2]))):=by kernel_rfl
noncomputable def aeE (sh:Sh):bq SS:=bw KK 25 [36,46] (λ{R} xs k=>match xs with| .cons s (.cons l .nil)=>(SL sh s l).bind (λr=>k (.ret (.aY [KK.aa 36 r.1,KK.aa 51 r.2.1,KK.aa 40 r.2.2]))))
noncomputable def ur (sh:Sh):az SS:= { (uk sh) with C:=aeE sh::(uk sh).C }
theorem FF:ab (ur shut) Tryz.prog:=ab.bB FA λxs k z _ hz=>bG aa1 (λ{R} xs k z h=>by
 match xs,h with
 | .cons s (.cons l .nil),h=>exact⟨100,(aoR s l k).trans (bH h)⟩) hz
noncomputable def CN (U p1:List cF) (p2:Int):AS SS:=⟨[(0,(vd 51 U)),(1,(vd 51 p1)),(12,(vi (↑U.length:Int))),(13,(vi p2))],[],0,none,false,[],[]⟩
noncomputable def YH (U p1:List cF):AS SS:=CN U p1 0
noncomputable def ag1 (U p1:List cF):AS SS:= { CN U p1 0 with env:=[(4,(vb false))] }
noncomputable def ag2 (U p1:List cF) (a0:Bool) (a1:Int):AS SS:= { CN U p1 a1 with env:=[(14,(vb a0)),(0,(vd 51 U)),(1,(vd 51 p1)),(12,(vi (↑U.length:Int))),(13,(vi a1))] }
noncomputable def QP (sh:Sh) (U p1:List cF) (p2:Int) (z0:cF) (a:Unit):T (Unit ⊕ Unit ⊕ (Bool×Int)):=
 .bd (idx p1 p2) λz1=>
  .bf (!si z0 z1) (
   .ok (.inr (.inl ())))<|
  .ok (.inl ())
noncomputable def OP (sh:Sh) (U p1:List cF) (p2:Int) (a:Unit):T (Unit ⊕ (Bool×Int)):=
 .ok (.inr ((decide (p2<(↑U.length:Int))),p2))
noncomputable def P_ (sh:Sh) (U p1:List cF):Option (Unit ⊕ (Bool×Int)):=cg sh (QP sh U p1) (OP sh U p1) U ()
noncomputable def acK {R:Type} (k:AX->AS SS->Option R) (U p1:List cF) (x:Unit ⊕ (Bool×Int)):Option R:=(λx=>Sum.rec (λv=>k .ret (ag1 U p1)) (λv=>k (.exit 0) (ag2 U p1 v.1 v.2)) x) x
noncomputable def VY:bo SS:=bJ 5 (λst=>(bb 51 (aS st 0 0)).bind λU=>(bb 51 (aS st 1 0)).bind λp1=>some (U,p1)) (λp=>YH p.1 p.2) (λp=>P_ shut p.1 p.2) (λk p=>acK k p.1 p.2)
theorem amD:aC KK Tryz.prog ⟨Tryz.f26,ax 26⟩ (bI (aU Tryz.f26) 5) VY:=
 aC.ck (π:=List cF×List cF) (σ:=Unit) (ab.all FF rfl) (au.nil) rfl 60 (λp i a=>CN p.1 p.2 i) (λp=>p.1) (λp=>()) (St:=λp=>QP shut p.1 p.2) (F:=λp=>OP shut p.1 p.2) (λp=>rfl)
  (λm p i a k=>by kernel_rfl) (by rintro p (x|x)<;>exact⟨_,_,λ_=>rfl⟩) (λp N C A O w a hr=>cH hr (t:=51) (sl:=0) rfl λv h=>h)
noncomputable def N6:az SS:= { (ur shut) with T:=bl ((ur shut).T) 26 ⟨⟨Tryz.f26,ax 26⟩,[VY]⟩ }
theorem aa3:aF N6 Tryz.prog:=(aF.bK (ab.all FF rfl) Tryz.func26 rfl bg λc hc=>by cases hc;exact au.cons (au.nil) (by kernel_rfl) amD)
noncomputable def Rp (sh:Sh) (a b:List cF):T (Bool):=
 .bf ((↑a.length:Int) !=(↑b.length:Int)) (
  .ok false)<|
 .gd (YH a b)<|
  .bd (P_ sh a b) λx3=> .cs x3 (λ_=>
   .ok false) λy0=>
   .ok true
noncomputable def SM (sh:Sh) (a b:List cF):Option (Bool):=sh.s _ (Rp sh a b).val
theorem aoS {R:Type} (a b:List cF) (k:Rs SS->Option R):bu N6 100 26 [KK.aa 51 a,KK.aa 51 b] [] (bD KK [4] k)=(Rp shut a b).run (λr=>k (.ret (.s (KK.aa 4 r)))):=by kernel_rfl
noncomputable def aeF (sh:Sh):bq SS:=bw KK 26 [51,51] (λ{R} xs k=>match xs with| .cons a (.cons b .nil)=>(SM sh a b).bind (λr=>k (.ret (.s (KK.aa 4 r)))))
noncomputable def zn (sh:Sh):az SS:= { (ur sh) with C:=aeF sh::(ur sh).C }
theorem Pm:ab (zn shut) Tryz.prog:=ab.bB FF λxs k z _ hz=>bG aa3 (λ{R} xs k z h=>by
 match xs,h with
 | .cons a (.cons b .nil),h=>exact⟨100,(aoS a b k).trans (bH h)⟩) hz
noncomputable def RD (sh:Sh):T (Bool):=
 .bd (B4 sh (ByteArray.mk #[47,97])) λz0=>
  .bd (B4 sh (ByteArray.mk #[120])) λz1=>
   .bd (qk sh) λz2=>
    .bd (B4 sh (ByteArray.mk #[47,97,47,98])) λz3=>
     .bd (SL sh z2 [dh.mk 7 (cU [0,0,0,0] [1,z0]),dh.mk 4 (cU [0,0,0,0] [1,z3]),dh.mk 8 (cU [0,0,0,0] [1,z0]),dh.mk 9 (cU [0,0,0,0] [7,z0]),dh.mk 1 (cU [0,0,0,0] [1]),dh.mk 10 (cU [0,0,0,0] [2,z1]),dh.mk 2 (cU [0,0,0,0] [2]),dh.mk 12 (cU [0,0,0,0] [9,z1]),dh.mk 11 (cU [0,0,0,0] [1,z1]),dh.mk 14 (cU [0,0,0,0] [1]),dh.mk 15 (cU [0,0,0,0] [])]) λy4=>
      .bf (decide (z0>0)) (
       .bf (decide (z1>0)) (
        .bf (y4.2.2==0) (
         .bd (SM sh y4.2.1 [cF.mk 0 1,cF.mk 0 0,cF.mk 341 0,cF.mk 0 1,cF.mk 0 2,cF.mk 0 0,cF.mk 341 0,cF.mk 0 2,cF.mk 362 0,cF.mk 322 0,cF.mk 361 0]) λy5=>
          .bf (y5) (
           .bd (qj sh y4.1) λz6=>
            .bf (z6==[1,1,2,1,0]) (
             .bd (H4 sh y4.1 (dh.mk 1 (cU [0,0,0,0] [1]))) λy7=>
              .bf (y7) (
               .bd (H4 sh y4.1 (dh.mk 12 (cU [0,0,0,0] [1,z1]))) λy8=>
                .ok (!y8))<|
              .ok false)<|
            .ok false)<|
          .ok false)<|
        .ok false)<|
       .ok false)<|
      .ok false
noncomputable def Im (sh:Sh):Option (Bool):=sh.s _ (RD sh).val
theorem t_8 {R:Type} (k:Rs SS->Option R):bu (zn shut) 100 8 [] [] (bD KK [4] k)=(RD shut).run (λr=>k (.ret (.s (KK.aa 4 r)))):=by kernel_rfl
noncomputable def ae' (sh:Sh):bq SS:=bw KK 8 [] (λ{R} xs k=>match xs with| .nil=>(Im sh).bind (λr=>k (.ret (.s (KK.aa 4 r)))))
noncomputable def zE (sh:Sh):az SS:= { (zn sh) with C:=ae' sh::(zn sh).C }
theorem PB:ab (zE shut) Tryz.prog:=ab.bB Pm λxs k z _ hz=>bG (ab.all Pm rfl) (λ{R} xs k z h=>by
 match xs,h with
 | .nil,h=>exact⟨100,(t_8 k).trans (bH h)⟩) hz
noncomputable def RE (sh:Sh) (pid:Int):T (Int):=
 .ok (IntKind.i64.wrap (pid.tmod 64))
noncomputable def vG (sh:Sh) (pid:Int):Option (Int):=sh.s _ (RE sh pid).val
theorem apl {R:Type} (pid:Int) (k:Rs SS->Option R):bu (zE shut) 100 81 [KK.aa 28 pid] [] (bD KK [3] k)=(RE shut pid).run (λr=>k (.ret (.s (KK.aa 3 r)))):=by kernel_rfl
noncomputable def afb (sh:Sh):bq SS:=bw KK 81 [28] (λ{R} xs k=>match xs with| .cons pid .nil=>(vG sh pid).bind (λr=>k (.ret (.s (KK.aa 3 r)))))
noncomputable def uM (sh:Sh):az SS:= { (zE sh) with C:=afb sh::(zE sh).C }
theorem FV:ab (uM shut) Tryz.prog:=ab.bB PB λxs k z _ hz=>bG (ab.all PB rfl) (λ{R} xs k z h=>by
 match xs,h with
 | .cons pid .nil,h=>exact⟨100,(apl pid k).trans (bH h)⟩) hz
noncomputable def IN (U:Int) (p1:List ah) (p2:Int):AS SS:=⟨[(1,(vu U)),(4,(va 0 0)),(8,(vd 23 p1)),(9,(vi (↑p1.length:Int))),(10,(vi p2))],[(bX 69 [(lu 0),(lu 0),(.v (.bool false)),(lu 0)])],0,none,false,[],[]⟩
noncomputable def Ys (U:Int) (p1:List ah):AS SS:=IN U p1 0
noncomputable def af7 (U:Int) (p1:List ah) (a0 a1:Int) (a2:Bool) (a3:Int):AS SS:=⟨[(4,(va 0 0)),(5,(vb true))],[(bX 69 [(lu a0),(lu a1),(.v (.bool a2)),(lu a3)])],0,none,false,[],[]⟩
noncomputable def af8 (U:Int) (p1:List ah) (a0:Bool) (a1:Int):AS SS:= { IN U p1 U with env:=[(11,(vb a0)),(1,(vu U)),(4,(va 0 0)),(8,(vd 23 p1)),(9,(vi (↑p1.length:Int))),(10,(vi a1))] }
noncomputable def Ae (sh:Sh) (U:Int) (p1:List ah) (p2:Int) (z0:ah) (a:Unit):T (Unit ⊕ (Int×Int×Bool×Int) ⊕ (Bool×Int)):=
 .bf (z0.ae==U) (
  .ok (.inr (.inl (z0.ae,z0.bn,z0.bW,z0.cP))))<|
 .ok (.inl ())
noncomputable def EK (sh:Sh) (U:Int) (p1:List ah) (p2:Int) (a:Unit):T ((Int×Int×Bool×Int) ⊕ (Bool×Int)):=
 .ok (.inr ((decide (p2<(↑p1.length:Int))),p2))
noncomputable def F_ (sh:Sh) (U:Int) (p1:List ah):Option ((Int×Int×Bool×Int) ⊕ (Bool×Int)):=cg sh (Ae sh U p1) (EK sh U p1) p1 ()
noncomputable def ab_ {R:Type} (k:AX->AS SS->Option R) (U:Int) (p1:List ah) (x:(Int×Int×Bool×Int) ⊕ (Bool×Int)):Option R:=(λx=>Sum.rec (λv=>k .ret (af7 U p1 v.1 v.2.1 v.2.2.1 v.2.2.2)) (λv=>k (.exit 0) (af8 U p1 v.1 v.2)) x) x
noncomputable def VA:bo SS:=bJ 3 (λst=>(bE (aS st 1 0)).bind λU=>(bb 23 (aS st 8 0)).bind λp1=>some (U,p1)) (λp=>Ys p.1 p.2) (λp=>F_ shut p.1 p.2) (λk p=>ab_ k p.1 p.2)
theorem amb:aC KK Tryz.prog ⟨Tryz.f125,ax 125⟩ (bI (aU Tryz.f125) 3) VA:=
 aC.ck (π:=Int×List ah) (σ:=Unit) (ab.all FV rfl) (au.nil) rfl 60 (λp i a=>IN p.1 p.2 i) (λp=>p.2) (λp=>()) (St:=λp=>Ae shut p.1 p.2) (F:=λp=>EK shut p.1 p.2) (λp=>rfl)
  (λm p i a k=>by kernel_rfl) (by rintro p (x|x)<;>exact⟨_,_,λ_=>rfl⟩) (λp N C A O w a hr=>cH hr (t:=23) (sl:=8) rfl λv h=>h)
noncomputable def Nt:az SS:= { (uM shut) with T:=bl ((uM shut).T) 125 ⟨⟨Tryz.f125,ax 125⟩,[VA]⟩ }
theorem aak:aF Nt Tryz.prog:=(aF.bK (ab.all FV rfl) Tryz.func125 rfl bg λc hc=>by cases hc;exact au.cons (au.nil) (by kernel_rfl) amb)
noncomputable def AL (sh:Sh) (l:List ah) (pid:Int):T (ah×Bool):=
 .gd (Ys pid l)<|
  .bd (F_ sh pid l) λx3=> .cs x3 (λy0=>
   .ok (⟨y0.1,y0.2.1,y0.2.2.1,y0.2.2.2⟩,true)) λy0=>
   .ok (⟨0,0,false,0⟩,false)
noncomputable def HL (sh:Sh) (l:List ah) (pid:Int):Option (ah×Bool):=sh.s _ (AL sh l pid).val
theorem aoh {R:Type} (l:List ah) (pid:Int) (k:Rs SS->Option R):bu Nt 100 125 [KK.aa 23 l,KK.aa 28 pid] [] (bD KK [69,4] k)=(AL shut l pid).run (λr=>k (.ret (.aY [KK.aa 69 r.1,KK.aa 4 r.2]))):=by kernel_rfl
noncomputable def ad3 (sh:Sh):bq SS:=bw KK 125 [23,28] (λ{R} xs k=>match xs with| .cons l (.cons pid .nil)=>(HL sh l pid).bind (λr=>k (.ret (.aY [KK.aa 69 r.1,KK.aa 4 r.2]))))
noncomputable def zc (sh:Sh):az SS:= { (uM sh) with C:=ad3 sh::(uM sh).C }
theorem O9:ab (zc shut) Tryz.prog:=ab.bB FV λxs k z _ hz=>bG aak (λ{R} xs k z h=>by
 match xs,h with
 | .cons l (.cons pid .nil),h=>exact⟨100,(aoh l pid k).trans (bH h)⟩) hz
noncomputable def Bu (sh:Sh) (l:List ah) (pid:Int):T (Bool):=
 .bd (HL sh l pid) λy0=>
  .bf (y0.2) (
   .ok (!y0.1.bW))<|
  .ok false
noncomputable def B_ (sh:Sh) (l:List ah) (pid:Int):Option (Bool):=sh.s _ (Bu sh l pid).val
theorem aps {R:Type} (l:List ah) (pid:Int) (k:Rs SS->Option R):bu (zc shut) 100 87 [KK.aa 23 l,KK.aa 28 pid] [] (bD KK [4] k)=(Bu shut l pid).run (λr=>k (.ret (.s (KK.aa 4 r)))):=by kernel_rfl
noncomputable def afh (sh:Sh):bq SS:=bw KK 87 [23,28] (λ{R} xs k=>match xs with| .cons l (.cons pid .nil)=>(B_ sh l pid).bind (λr=>k (.ret (.s (KK.aa 4 r)))))
noncomputable def uR (sh:Sh):az SS:= { (zc sh) with C:=afh sh::(zc sh).C }
theorem FZ:ab (uR shut) Tryz.prog:=ab.bB O9 λxs k z _ hz=>bG (ab.all O9 rfl) (λ{R} xs k z h=>by
 match xs,h with
 | .cons l (.cons pid .nil),h=>exact⟨100,(aps l pid k).trans (bH h)⟩) hz
noncomputable def CS (U:Int) (p1:List ar) (p2:Int):AS SS:=⟨[(1,(vu U)),(9,(vd 27 p1)),(10,(vi (↑p1.length:Int))),(11,(vi p2))],[],0,none,false,[],[]⟩
noncomputable def YP (U:Int) (p1:List ar):AS SS:=CS U p1 0
noncomputable def ahj (U:Int) (p1:List ar):AS SS:= { CS U p1 U with env:=[(4,(vb true))] }
noncomputable def ahk (U:Int) (p1:List ar) (a0:Bool) (a1:Int):AS SS:= { CS U p1 U with env:=[(12,(vb a0)),(1,(vu U)),(9,(vd 27 p1)),(10,(vi (↑p1.length:Int))),(11,(vi a1))] }
noncomputable def Ao (sh:Sh) (U:Int) (p1:List ar) (p2:Int) (z0:ar) (a:Unit):T (Unit ⊕ Unit ⊕ (Bool×Int)):=
 .bf (z0.bc==U) (
  .ok (.inr (.inl ())))<|
 .ok (.inl ())
noncomputable def EN (sh:Sh) (U:Int) (p1:List ar) (p2:Int) (a:Unit):T (Unit ⊕ (Bool×Int)):=
 .ok (.inr ((decide (p2<(↑p1.length:Int))),p2))
noncomputable def Gr (sh:Sh) (U:Int) (p1:List ar):Option (Unit ⊕ (Bool×Int)):=cg sh (Ao sh U p1) (EN sh U p1) p1 ()
noncomputable def acU {R:Type} (k:AX->AS SS->Option R) (U:Int) (p1:List ar) (x:Unit ⊕ (Bool×Int)):Option R:=(λx=>Sum.rec (λv=>k .ret (ahj U p1)) (λv=>k (.exit 0) (ahk U p1 v.1 v.2)) x) x
noncomputable def V7:bo SS:=bJ 3 (λst=>(bE (aS st 1 0)).bind λU=>(bb 27 (aS st 9 0)).bind λp1=>some (U,p1)) (λp=>YP p.1 p.2) (λp=>Gr shut p.1 p.2) (λk p=>acU k p.1 p.2)
theorem amM:aC KK Tryz.prog ⟨Tryz.f45,ax 45⟩ (bI (aU Tryz.f45) 3) V7:=
 aC.ck (π:=Int×List ar) (σ:=Unit) (ab.all FZ rfl) (au.nil) rfl 60 (λp i a=>CS p.1 p.2 i) (λp=>p.2) (λp=>()) (St:=λp=>Ao shut p.1 p.2) (F:=λp=>EN shut p.1 p.2) (λp=>rfl)
  (λm p i a k=>by kernel_rfl) (by rintro p (x|x)<;>exact⟨_,_,λ_=>rfl⟩) (λp N C A O w a hr=>cH hr (t:=27) (sl:=9) rfl λv h=>h)
noncomputable def Od:az SS:= { (uR shut) with T:=bl ((uR shut).T) 45 ⟨⟨Tryz.f45,ax 45⟩,[V7]⟩ }
theorem aa_:aF Od Tryz.prog:=(aF.bK (ab.all FZ rfl) Tryz.func45 rfl bg λc hc=>by cases hc;exact au.cons (au.nil) (by kernel_rfl) amM)
noncomputable def A_ (sh:Sh) (s:bF) (id:Int):T (Bool):=
 .gd (YP id s.aI.ao)<|
  .bd (Gr sh id s.aI.ao) λx3=> .cs x3 (λ_=>
   .ok true) λy0=>
   .ok false
noncomputable def H' (sh:Sh) (s:bF) (id:Int):Option (Bool):=sh.s _ (A_ sh s id).val
theorem ao3 {R:Type} (s:bF) (id:Int) (k:Rs SS->Option R):bu Od 100 45 [KK.aa 36 s,KK.aa 28 id] [] (bD KK [4] k)=(A_ shut s id).run (λr=>k (.ret (.s (KK.aa 4 r)))):=by kernel_rfl
noncomputable def aeR (sh:Sh):bq SS:=bw KK 45 [36,28] (λ{R} xs k=>match xs with| .cons s (.cons id .nil)=>(H' sh s id).bind (λr=>k (.ret (.s (KK.aa 4 r)))))
noncomputable def zt (sh:Sh):az SS:= { (uR sh) with C:=aeR sh::(uR sh).C }
theorem Pq:ab (zt shut) Tryz.prog:=ab.bB FZ λxs k z _ hz=>bG aa_ (λ{R} xs k z h=>by
 match xs,h with
 | .cons s (.cons id .nil),h=>exact⟨100,(ao3 s id k).trans (bH h)⟩) hz
noncomputable def A9 (sh:Sh) (s:bF) (pid:Int):T (Bool):=
 .bd (B_ sh s.aG.ao pid) λy0=>
  .ok y0
noncomputable def vD (sh:Sh) (s:bF) (pid:Int):Option (Bool):=sh.s _ (A9 sh s pid).val
theorem ao2 {R:Type} (s:bF) (pid:Int) (k:Rs SS->Option R):bu (zt shut) 100 44 [KK.aa 36 s,KK.aa 28 pid] [] (bD KK [4] k)=(A9 shut s pid).run (λr=>k (.ret (.s (KK.aa 4 r)))):=by kernel_rfl
noncomputable def aeQ (sh:Sh):bq SS:=bw KK 44 [36,28] (λ{R} xs k=>match xs with| .cons s (.cons pid .nil)=>(vD sh s pid).bind (λr=>k (.ret (.s (KK.aa 4 r)))))
noncomputable def zr (sh:Sh):az SS:= { (zt sh) with C:=aeQ sh::(zt sh).C }
theorem Pp:ab (zr shut) Tryz.prog:=ab.bB Pq λxs k z _ hz=>bG (ab.all Pq rfl) (λ{R} xs k z h=>by
 match xs,h with
 | .cons s (.cons pid .nil),h=>exact⟨100,(ao2 s pid k).trans (bH h)⟩) hz
noncomputable def Bo (sh:Sh) (p:b_) (x:ah):T (Bool):=
 .bd (vG sh x.ae) λy0=>
  .bf (decide (y0<1)) (
   .ok false)<|
  .bf (decide (y0>16)) (
   .ok false)<|
  .bd (fk (IntKind.i64.wrap (y0-1)) 16) λz1=>
   .bf (IntKind.u64.wrap (x.ae.tdiv 64) !=IntKind.u64.wrap (IntKind.i64.wrap (aN p.aR z1-1))) (
    .ok false)<|
   .bf (x.bn==x.ae) (
    .ok false)<|
   .bf (x.bn !=0) (
    .bd (B_ sh p.ao x.bn) λy2=>
     .bf (!y2) (
      .ok false)<|
     .bf (x.bW) (
      .ok (x.bn !=0))<|
     .ok (x.cP==0))<|
   .bf (x.bW) (
    .ok (x.bn !=0))<|
   .ok (x.cP==0)
noncomputable def B6 (sh:Sh) (p:b_) (x:ah):Option (Bool):=sh.s _ (Bo sh p x).val
theorem apk {R:Type} (p:b_) (x:ah) (k:Rs SS->Option R):bu (zr shut) 100 80 [KK.aa 25 p,KK.aa 69 x] [] (bD KK [4] k)=(Bo shut p x).run (λr=>k (.ret (.s (KK.aa 4 r)))):=by kernel_rfl
noncomputable def afa (sh:Sh):bq SS:=bw KK 80 [25,69] (λ{R} xs k=>match xs with| .cons p (.cons x .nil)=>(B6 sh p x).bind (λr=>k (.ret (.s (KK.aa 4 r)))))
noncomputable def uL (sh:Sh):az SS:= { (zr sh) with C:=afa sh::(zr sh).C }
theorem zF:ab (uL shut) Tryz.prog:=ab.bB Pp λxs k z _ hz=>bG (ab.all Pp rfl) (λ{R} xs k z h=>by
 match xs,h with
 | .cons p (.cons x .nil),h=>exact⟨100,(apk p x k).trans (bH h)⟩) hz
noncomputable def CQ (U:List Int) (p1:List ah) (p2:Int):AS SS:=⟨[(1,(va 0 0)),(8,(.s (.agg [(.bR .i64 16 U)]))),(9,(vi p2))],[(bX 25 [(.bR .i64 16 U),(.aP 23 p1)])],0,none,false,[],[]⟩
noncomputable def ag7 (U:List Int) (p1:List ah):AS SS:=⟨[(2,(vb false))],[],0,none,false,[],[]⟩
noncomputable def ag8 (U:List Int) (p1:List ah) (a0:Bool) (a1:Int):AS SS:= { CQ U p1 a1 with env:=[(10,(vb a0)),(1,(va 0 0)),(8,(.s (.agg [(.bR .i64 16 U)]))),(9,(vi a1))] }
noncomputable def QR (sh:Sh) (U:List Int) (p1:List ah) (a:Int):T (Int ⊕ Unit ⊕ (Bool×Int)):=
 .bf (decide (a<16)) (
  .bd (fk a 16) λz0=>
   .bf (decide (aN U z0<0)) (
    .ok (.inr (.inl ())))<|
   .bf (decide (aN U z0>65536)) (
    .ok (.inr (.inl ())))<|
   .ok (.inl (IntKind.i64.wrap (a+1))))<|
 .ok (.inr (.inr ((decide (a<16)),a)))
noncomputable def Gk (sh:Sh) (U:List Int) (p1:List ah) (p2:Int):Option (Unit ⊕ (Bool×Int)):=cA sh (QR sh U p1) 1000000 p2
noncomputable def acN {R:Type} (k:AX->AS SS->Option R) (U:List Int) (p1:List ah) (x:Unit ⊕ (Bool×Int)):Option R:=(λx=>Sum.rec (λv=>k .ret (ag7 U p1)) (λv=>k (.exit 0) (ag8 U p1 v.1 v.2)) x) x
noncomputable def V1:bo SS:=bJ 3 (λst=>(fN (aS st 8 0)).bind λU=>(bb 23 (aZ st 0 1)).bind λp1=>(bE (aS st 9 0)).bind λp2=>some (U,p1,p2)) (λp=>CQ p.1 p.2.1 p.2.2) (λp=>Gk shut p.1 p.2.1 p.2.2) (λk p=>acN k p.1 p.2.1)
theorem amG:aC KK Tryz.prog ⟨Tryz.f40,ax 40⟩ (bI (aU Tryz.f40) 3) V1:=
 aC.cA (π:=List Int×List ah×Int) (σ:=Int) (ab.all zF rfl) (au.nil) rfl 60 (λp a=>CQ p.1 p.2.1 a) (λp=>p.2.2) (St:=λp=>QR shut p.1 p.2.1) (λp=>1000000) (λp=>rfl)
  (λm p a k=>by kernel_rfl)
noncomputable def I3 (U:List ah) (p1:List Int) (p2:Int):AS SS:=⟨[(1,(va 0 0)),(20,(vd 23 U)),(21,(vi (↑U.length:Int))),(22,(vi p2))],[(bX 25 [(.bR .i64 16 p1),(.aP 23 U)])],0,none,false,[],[]⟩
noncomputable def YK (U:List ah) (p1:List Int):AS SS:=I3 U p1 0
noncomputable def ag9 (U:List ah) (p1:List Int):AS SS:=⟨[(2,(vb false))],[],0,none,false,[],[]⟩
noncomputable def ag_ (U:List ah) (p1:List Int) (a0:Bool) (a1:Int):AS SS:= { I3 U p1 a1 with env:=[(23,(vb a0)),(1,(va 0 0)),(20,(vd 23 U)),(21,(vi (↑U.length:Int))),(22,(vi a1))] }
noncomputable def Ai (sh:Sh) (U:List ah) (p1:List Int) (p2:Int) (z0:ah) (a:Unit):T (Unit ⊕ Unit ⊕ (Bool×Int)):=
 .bd (B6 sh (b_.mk p1 U) z0) λy1=>
  .bf (!y1) (
   .ok (.inr (.inl ())))<|
  .bf (decide (p2>0)) (
   .bd (idx U (IntKind.i64.wrap (p2-1))) λz2=>
    .bd (vG sh z2.ae) λy3=>
     .bd (vG sh z0.ae) λy4=>
      .bf (decide (y3>=y4)) (
       .ok (.inr (.inl ())))<|
      .ok (.inl ()))<|
  .ok (.inl ())
noncomputable def yH (sh:Sh) (U:List ah) (p1:List Int) (p2:Int) (a:Unit):T (Unit ⊕ (Bool×Int)):=
 .ok (.inr ((decide (p2<(↑U.length:Int))),p2))
noncomputable def Gl (sh:Sh) (U:List ah) (p1:List Int):Option (Unit ⊕ (Bool×Int)):=cg sh (Ai sh U p1) (yH sh U p1) U ()
noncomputable def acO {R:Type} (k:AX->AS SS->Option R) (U:List ah) (p1:List Int) (x:Unit ⊕ (Bool×Int)):Option R:=(λx=>Sum.rec (λv=>k .ret (ag9 U p1)) (λv=>k (.exit 2) (ag_ U p1 v.1 v.2)) x) x
noncomputable def V2:bo SS:=bJ 9 (λst=>(bb 23 (aS st 20 0)).bind λU=>(fN (aZ st 0 0)).bind λp1=>some (U,p1)) (λp=>YK p.1 p.2) (λp=>Gl shut p.1 p.2) (λk p=>acO k p.1 p.2)
theorem amH:aC KK Tryz.prog ⟨Tryz.f40,ax 40⟩ (bI (aU Tryz.f40) 9) V2:=
 aC.ck (π:=List ah×List Int) (σ:=Unit) (ab.all zF rfl) (au.nil) rfl 60 (λp i a=>I3 p.1 p.2 i) (λp=>p.1) (λp=>()) (St:=λp=>Ai shut p.1 p.2) (F:=λp=>yH shut p.1 p.2) (λp=>rfl)
  (λm p i a k=>by kernel_rfl) (by rintro p (x|x)<;>exact⟨_,_,λ_=>rfl⟩) (λp N C A O w a hr=>cH hr (t:=23) (sl:=20) rfl λv h=>h)
noncomputable def N9:az SS:= { (uL shut) with T:=bl ((uL shut).T) 40 ⟨⟨Tryz.f40,ax 40⟩,[V1,V2]⟩ }
theorem aa6:aF N9 Tryz.prog:=(aF.bK (ab.all zF rfl) Tryz.func40 rfl bg λc hc=>by cases hc;exact au.cons (au.cons (au.nil) (by kernel_rfl) amH) (by kernel_rfl) amG)
noncomputable def A4 (sh:Sh) (p:b_):T (Bool):=
 .gd (CQ p.aR p.ao 0)<|
  .bd (Gk sh p.aR p.ao 0) λx3=> .cs x3 (λ_=>
   .ok false) λy0=>
   .gd (YK p.ao p.aR)<|
    .bd (Gl sh p.ao p.aR) λx5=> .cs x5 (λ_=>
     .ok false) λy1=>
     .bf (decide ((↑p.ao.length:Int)>0)) (
      .bd (idx p.ao 0) λz2=>
       .ok (iN z2 (ah.mk 1 0 false 0)))<|
     .ok false
noncomputable def H8 (sh:Sh) (p:b_):Option (Bool):=sh.s _ (A4 sh p).val
theorem aoY {R:Type} (p:b_) (k:Rs SS->Option R):bu N9 100 40 [KK.aa 25 p] [] (bD KK [4] k)=(A4 shut p).run (λr=>k (.ret (.s (KK.aa 4 r)))):=by kernel_rfl
noncomputable def aeM (sh:Sh):bq SS:=bw KK 40 [25] (λ{R} xs k=>match xs with| .cons p .nil=>(H8 sh p).bind (λr=>k (.ret (.s (KK.aa 4 r)))))
noncomputable def zo (sh:Sh):az SS:= { (uL sh) with C:=aeM sh::(uL sh).C }
theorem Pn:ab (zo shut) Tryz.prog:=ab.bB zF λxs k z _ hz=>bG aa6 (λ{R} xs k z h=>by
 match xs,h with
 | .cons p .nil,h=>exact⟨100,(aoY p k).trans (bH h)⟩) hz
noncomputable def Bp (sh:Sh) (d:aj):T (Bool):=
 .bf (decide (d.ae<4294967296)) (
  .bf (decide (d.cJ>=0)) (
   .ok (decide (d.cJ<=7)))<|
  .ok false)<|
 .ok false
noncomputable def Io (sh:Sh) (d:aj):Option (Bool):=sh.s _ (Bp sh d).val
theorem apm {R:Type} (d:aj) (k:Rs SS->Option R):bu (zo shut) 100 82 [KK.aa 89 d] [] (bD KK [4] k)=(Bp shut d).run (λr=>k (.ret (.s (KK.aa 4 r)))):=by kernel_rfl
noncomputable def afc (sh:Sh):bq SS:=bw KK 82 [89] (λ{R} xs k=>match xs with| .cons d .nil=>(Io sh d).bind (λr=>k (.ret (.s (KK.aa 4 r)))))
noncomputable def zG (sh:Sh):az SS:= { (zo sh) with C:=afc sh::(zo sh).C }
theorem PA:ab (zG shut) Tryz.prog:=ab.bB Pn λxs k z _ hz=>bG (ab.all Pn rfl) (λ{R} xs k z h=>by
 match xs,h with
 | .cons d .nil,h=>exact⟨100,(apm d k).trans (bH h)⟩) hz
noncomputable def Bq (sh:Sh) (a b:aj):T (Bool):=
 .bf (decide (a.ae<b.ae)) (
  .ok true)<|
 .bf (a.ae==b.ae) (
  .ok (decide (a.cJ<b.cJ)))<|
 .ok false
noncomputable def Ip (sh:Sh) (a b:aj):Option (Bool):=sh.s _ (Bq sh a b).val
theorem apn {R:Type} (a b:aj) (k:Rs SS->Option R):bu (zG shut) 100 83 [KK.aa 89 a,KK.aa 89 b] [] (bD KK [4] k)=(Bq shut a b).run (λr=>k (.ret (.s (KK.aa 4 r)))):=by kernel_rfl
noncomputable def afd (sh:Sh):bq SS:=bw KK 83 [89,89] (λ{R} xs k=>match xs with| .cons a (.cons b .nil)=>(Ip sh a b).bind (λr=>k (.ret (.s (KK.aa 4 r)))))
noncomputable def uN (sh:Sh):az SS:= { (zG sh) with C:=afd sh::(zG sh).C }
theorem FW:ab (uN shut) Tryz.prog:=ab.bB PA λxs k z _ hz=>bG (ab.all PA rfl) (λ{R} xs k z h=>by
 match xs,h with
 | .cons a (.cons b .nil),h=>exact⟨100,(apn a b k).trans (bH h)⟩) hz
noncomputable def CR (U:List aj) (p1:Int):AS SS:=⟨[(0,(vd 26 U)),(5,(vd 26 U)),(6,(vi (↑U.length:Int))),(7,(vi p1))],[],0,none,false,[],[]⟩
noncomputable def YL (U:List aj):AS SS:=CR U 0
noncomputable def ag' (U:List aj):AS SS:= { CR U 0 with env:=[(2,(vb false))] }
noncomputable def aha (U:List aj) (a0:Bool) (a1:Int):AS SS:= { CR U a1 with env:=[(8,(vb a0)),(0,(vd 26 U)),(5,(vd 26 U)),(6,(vi (↑U.length:Int))),(7,(vi a1))] }
noncomputable def u6 (sh:Sh) (U:List aj) (p1:Int) (z0:aj) (a:Unit):T (Unit ⊕ Unit ⊕ (Bool×Int)):=
 .bd (Io sh z0) λy1=>
  .bf (!y1) (
   .ok (.inr (.inl ())))<|
  .bf (decide (p1>0)) (
   .bd (idx U (IntKind.i64.wrap (p1-1))) λz2=>
    .bd (Ip sh z2 z0) λy3=>
     .bf (!y3) (
      .ok (.inr (.inl ())))<|
     .ok (.inl ()))<|
  .ok (.inl ())
noncomputable def yI (sh:Sh) (U:List aj) (p1:Int) (a:Unit):T (Unit ⊕ (Bool×Int)):=
 .ok (.inr ((decide (p1<(↑U.length:Int))),p1))
noncomputable def Gm (sh:Sh) (U:List aj):Option (Unit ⊕ (Bool×Int)):=cg sh (u6 sh U) (yI sh U) U ()
noncomputable def acP {R:Type} (k:AX->AS SS->Option R) (U:List aj) (x:Unit ⊕ (Bool×Int)):Option R:=(λx=>Sum.rec (λv=>k .ret (ag' U)) (λv=>k (.exit 0) (aha U v.1 v.2)) x) x
noncomputable def V3:bo SS:=bJ 3 (λst=>(bb 26 (aS st 0 0)).bind λU=>some U) (λp=>YL p) (λp=>Gm shut p) (λk p=>acP k p)
theorem amI:aC KK Tryz.prog ⟨Tryz.f41,ax 41⟩ (bI (aU Tryz.f41) 3) V3:=
 aC.ck (π:=List aj) (σ:=Unit) (ab.all FW rfl) (au.nil) rfl 60 (λp i a=>CR p i) (λp=>p) (λp=>()) (St:=λp=>u6 shut p) (F:=λp=>yI shut p) (λp=>rfl)
  (λm p i a k=>by kernel_rfl) (by rintro p (x|x)<;>exact⟨_,_,λ_=>rfl⟩) (λp N C A O w a hr=>cH hr (t:=26) (sl:=0) rfl λv h=>h)
noncomputable def N_:az SS:= { (uN shut) with T:=bl ((uN shut).T) 41 ⟨⟨Tryz.f41,ax 41⟩,[V3]⟩ }
theorem aa7:aF N_ Tryz.prog:=(aF.bK (ab.all FW rfl) Tryz.func41 rfl bg λc hc=>by cases hc;exact au.cons (au.nil) (by kernel_rfl) amI)
noncomputable def A6 (sh:Sh) (l:List aj):T (Bool):=
 .gd (YL l)<|
  .bd (Gm sh l) λx3=> .cs x3 (λ_=>
   .ok false) λy0=>
   .ok (decide ((↑l.length:Int)<=64))
noncomputable def H9 (sh:Sh) (l:List aj):Option (Bool):=sh.s _ (A6 sh l).val
theorem aoZ {R:Type} (l:List aj) (k:Rs SS->Option R):bu N_ 100 41 [KK.aa 26 l] [] (bD KK [4] k)=(A6 shut l).run (λr=>k (.ret (.s (KK.aa 4 r)))):=by kernel_rfl
noncomputable def aeN (sh:Sh):bq SS:=bw KK 41 [26] (λ{R} xs k=>match xs with| .cons l .nil=>(H9 sh l).bind (λr=>k (.ret (.s (KK.aa 4 r)))))
noncomputable def zp (sh:Sh):az SS:= { (uN sh) with C:=aeN sh::(uN sh).C }
theorem Po:ab (zp shut) Tryz.prog:=ab.bB FW λxs k z _ hz=>bG aa7 (λ{R} xs k z h=>by
 match xs,h with
 | .cons l .nil,h=>exact⟨100,(aoZ l k).trans (bH h)⟩) hz
noncomputable def Bt (sh:Sh) (w:Int):T (Bool):=
 .bf (decide (w>0)) (
  .ok (decide (w<4294967296)))<|
 .ok false
noncomputable def B9 (sh:Sh) (w:Int):Option (Bool):=sh.s _ (Bt sh w).val
theorem apr {R:Type} (w:Int) (k:Rs SS->Option R):bu (zp shut) 100 86 [KK.aa 28 w] [] (bD KK [4] k)=(Bt shut w).run (λr=>k (.ret (.s (KK.aa 4 r)))):=by kernel_rfl
noncomputable def afg (sh:Sh):bq SS:=bw KK 86 [28] (λ{R} xs k=>match xs with| .cons w .nil=>(B9 sh w).bind (λr=>k (.ret (.s (KK.aa 4 r)))))
noncomputable def uQ (sh:Sh):az SS:= { (zp sh) with C:=afg sh::(zp sh).C }
theorem FY:ab (uQ shut) Tryz.prog:=ab.bB Po λxs k z _ hz=>bG (ab.all Po rfl) (λ{R} xs k z h=>by
 match xs,h with
 | .cons w .nil,h=>exact⟨100,(apr w k).trans (bH h)⟩) hz
noncomputable def Jc (U:List ah) (p1:List Int) (p2:List ah) (p3:Int):AS SS:=⟨[(3,(va 0 0)),(22,(vd 23 U)),(23,(vi (↑U.length:Int))),(24,(vi p3))],[(bX 25 [(.bR .i64 16 p1),(.aP 23 p2)])],0,none,false,[],[]⟩
noncomputable def YW (U:List ah) (p1:List Int) (p2:List ah):AS SS:=Jc U p1 p2 0
noncomputable def ahB (U:List ah) (p1:List Int) (p2:List ah):AS SS:=⟨[(4,(vb false))],[],0,none,false,[],[]⟩
noncomputable def ahC (U:List ah) (p1:List Int) (p2:List ah) (a0:Bool) (a1:Int):AS SS:= { Jc U p1 p2 a1 with env:=[(25,(vb a0)),(3,(va 0 0)),(22,(vd 23 U)),(23,(vi (↑U.length:Int))),(24,(vi a1))] }
noncomputable def GN (sh:Sh) (U:List ah) (p1:List Int) (p2:List ah) (p3:Int) (z0:ah) (a:Unit):T (Unit ⊕ Unit ⊕ (Bool×Int)):=
 .bd (idx p2 p3) λz1=>
  .bf (!iN z0 z1) (
   .ok (.inr (.inl ())))<|
  .ok (.inl ())
noncomputable def yS (sh:Sh) (U:List ah) (p1:List Int) (p2:List ah) (p3:Int) (a:Unit):T (Unit ⊕ (Bool×Int)):=
 .ok (.inr ((decide (p3<(↑U.length:Int))),p3))
noncomputable def Qb (sh:Sh) (U:List ah) (p1:List Int) (p2:List ah):Option (Unit ⊕ (Bool×Int)):=cg sh (GN sh U p1 p2) (yS sh U p1 p2) U ()
noncomputable def ac3 {R:Type} (k:AX->AS SS->Option R) (U:List ah) (p1:List Int) (p2:List ah) (x:Unit ⊕ (Bool×Int)):Option R:=(λx=>Sum.rec (λv=>k .ret (ahB U p1 p2)) (λv=>k (.exit 0) (ahC U p1 p2 v.1 v.2)) x) x
noncomputable def Wb:bo SS:=bJ 5 (λst=>(bb 23 (aS st 22 0)).bind λU=>(fN (aZ st 0 0)).bind λp1=>(bb 23 (aZ st 0 1)).bind λp2=>some (U,p1,p2)) (λp=>YW p.1 p.2.1 p.2.2) (λp=>Qb shut p.1 p.2.1 p.2.2) (λk p=>ac3 k p.1 p.2.1 p.2.2)
theorem amV:aC KK Tryz.prog ⟨Tryz.f60,ax 60⟩ (bI (aU Tryz.f60) 5) Wb:=
 aC.ck (π:=List ah×List Int×List ah) (σ:=Unit) (ab.all FY rfl) (au.nil) rfl 60 (λp i a=>Jc p.1 p.2.1 p.2.2 i) (λp=>p.1) (λp=>()) (St:=λp=>GN shut p.1 p.2.1 p.2.2) (F:=λp=>yS shut p.1 p.2.1 p.2.2) (λp=>rfl)
  (λm p i a k=>by kernel_rfl) (by rintro p (x|x)<;>exact⟨_,_,λ_=>rfl⟩) (λp N C A O w a hr=>cH hr (t:=23) (sl:=22) rfl λv h=>h)
noncomputable def Om:az SS:= { (uQ shut) with T:=bl ((uQ shut).T) 60 ⟨⟨Tryz.f60,ax 60⟩,[Wb]⟩ }
theorem abi:aF Om Tryz.prog:=(aF.bK (ab.all FY rfl) Tryz.func60 rfl bg λc hc=>by cases hc;exact au.cons (au.nil) (by kernel_rfl) amV)
noncomputable def Bi (sh:Sh) (a b:b_):T (Bool):=
 .bf (!a.aR==b.aR) (
  .ok false)<|
 .bf ((↑a.ao.length:Int) !=(↑b.ao.length:Int)) (
  .ok false)<|
 .gd (YW a.ao b.aR b.ao)<|
  .bd (Qb sh a.ao b.aR b.ao) λx3=> .cs x3 (λ_=>
   .ok false) λy0=>
   .ok true
noncomputable def Ig (sh:Sh) (a b:b_):Option (Bool):=sh.s _ (Bi sh a b).val
theorem ao' {R:Type} (a b:b_) (k:Rs SS->Option R):bu Om 100 60 [KK.aa 25 a,KK.aa 25 b] [] (bD KK [4] k)=(Bi shut a b).run (λr=>k (.ret (.s (KK.aa 4 r)))):=by kernel_rfl
noncomputable def ae0 (sh:Sh):bq SS:=bw KK 60 [25,25] (λ{R} xs k=>match xs with| .cons a (.cons b .nil)=>(Ig sh a b).bind (λr=>k (.ret (.s (KK.aa 4 r)))))
noncomputable def uH (sh:Sh):az SS:= { (uQ sh) with C:=ae0 sh::(uQ sh).C }
theorem FQ:ab (uH shut) Tryz.prog:=ab.bB FY λxs k z _ hz=>bG abi (λ{R} xs k z h=>by
 match xs,h with
 | .cons a (.cons b .nil),h=>exact⟨100,(ao' a b k).trans (bH h)⟩) hz
noncomputable def CV (U p1:List aj) (p2:Int):AS SS:=⟨[(1,(vd 26 U)),(12,(vd 26 p1)),(13,(vi (↑p1.length:Int))),(14,(vi p2))],[],0,none,false,[],[]⟩
noncomputable def YX (U p1:List aj):AS SS:=CV U p1 0
noncomputable def ahD (U p1:List aj):AS SS:= { CV U p1 0 with env:=[(4,(vb false))] }
noncomputable def ahE (U p1:List aj) (a0:Bool) (a1:Int):AS SS:= { CV U p1 a1 with env:=[(15,(vb a0)),(1,(vd 26 U)),(12,(vd 26 p1)),(13,(vi (↑p1.length:Int))),(14,(vi a1))] }
noncomputable def GO (sh:Sh) (U p1:List aj) (p2:Int) (z0:aj) (a:Unit):T (Unit ⊕ Unit ⊕ (Bool×Int)):=
 .bd (idx U p2) λz1=>
  .bf (!kQ z0 z1) (
   .ok (.inr (.inl ())))<|
  .ok (.inl ())
noncomputable def yT (sh:Sh) (U p1:List aj) (p2:Int) (a:Unit):T (Unit ⊕ (Bool×Int)):=
 .ok (.inr ((decide (p2<(↑p1.length:Int))),p2))
noncomputable def Qc (sh:Sh) (U p1:List aj):Option (Unit ⊕ (Bool×Int)):=cg sh (GO sh U p1) (yT sh U p1) p1 ()
noncomputable def ac4 {R:Type} (k:AX->AS SS->Option R) (U p1:List aj) (x:Unit ⊕ (Bool×Int)):Option R:=(λx=>Sum.rec (λv=>k .ret (ahD U p1)) (λv=>k (.exit 0) (ahE U p1 v.1 v.2)) x) x
noncomputable def Wc:bo SS:=bJ 5 (λst=>(bb 26 (aS st 1 0)).bind λU=>(bb 26 (aS st 12 0)).bind λp1=>some (U,p1)) (λp=>YX p.1 p.2) (λp=>Qc shut p.1 p.2) (λk p=>ac4 k p.1 p.2)
theorem amW:aC KK Tryz.prog ⟨Tryz.f61,ax 61⟩ (bI (aU Tryz.f61) 5) Wc:=
 aC.ck (π:=List aj×List aj) (σ:=Unit) (ab.all FQ rfl) (au.nil) rfl 60 (λp i a=>CV p.1 p.2 i) (λp=>p.2) (λp=>()) (St:=λp=>GO shut p.1 p.2) (F:=λp=>yT shut p.1 p.2) (λp=>rfl)
  (λm p i a k=>by kernel_rfl) (by rintro p (x|x)<;>exact⟨_,_,λ_=>rfl⟩) (λp N C A O w a hr=>cH hr (t:=26) (sl:=12) rfl λv h=>h)
noncomputable def On:az SS:= { (uH shut) with T:=bl ((uH shut).T) 61 ⟨⟨Tryz.f61,ax 61⟩,[Wc]⟩ }
theorem abj:aF On Tryz.prog:=(aF.bK (ab.all FQ rfl) Tryz.func61 rfl bg λc hc=>by cases hc;exact au.cons (au.nil) (by kernel_rfl) amW)
noncomputable def Bj (sh:Sh) (a b:List aj):T (Bool):=
 .bf ((↑a.length:Int) !=(↑b.length:Int)) (
  .ok false)<|
 .gd (YX b a)<|
  .bd (Qc sh b a) λx3=> .cs x3 (λ_=>
   .ok false) λy0=>
   .ok true
noncomputable def Ih (sh:Sh) (a b:List aj):Option (Bool):=sh.s _ (Bj sh a b).val
theorem apa {R:Type} (a b:List aj) (k:Rs SS->Option R):bu On 100 61 [KK.aa 26 a,KK.aa 26 b] [] (bD KK [4] k)=(Bj shut a b).run (λr=>k (.ret (.s (KK.aa 4 r)))):=by kernel_rfl
noncomputable def ae1 (sh:Sh):bq SS:=bw KK 61 [26,26] (λ{R} xs k=>match xs with| .cons a (.cons b .nil)=>(Ih sh a b).bind (λr=>k (.ret (.s (KK.aa 4 r)))))
noncomputable def uI (sh:Sh):az SS:= { (uH sh) with C:=ae1 sh::(uH sh).C }
theorem FR:ab (uI shut) Tryz.prog:=ab.bB FQ λxs k z _ hz=>bG abj (λ{R} xs k z h=>by
 match xs,h with
 | .cons a (.cons b .nil),h=>exact⟨100,(apa a b k).trans (bH h)⟩) hz
noncomputable def Jd (U p1:List ar) (p2 p3:Int):AS SS:=⟨[(3,(va 0 0)),(22,(vd 27 U)),(23,(vi (↑U.length:Int))),(24,(vi p3))],[(bX 30 [(.aP 27 p1),(lu p2)])],0,none,false,[],[]⟩
noncomputable def YY (U p1:List ar) (p2:Int):AS SS:=Jd U p1 p2 0
noncomputable def ahF (U p1:List ar) (p2:Int):AS SS:=⟨[(4,(vb false))],[],0,none,false,[],[]⟩
noncomputable def ahG (U p1:List ar) (p2:Int) (a0:Bool) (a1:Int):AS SS:= { Jd U p1 p2 p2 with env:=[(25,(vb a0)),(3,(va 0 0)),(22,(vd 27 U)),(23,(vi (↑U.length:Int))),(24,(vi a1))] }
noncomputable def GP (sh:Sh) (U p1:List ar) (p2 p3:Int) (z0:ar) (a:Unit):T (Unit ⊕ Unit ⊕ (Bool×Int)):=
 .bd (idx p1 p3) λz1=>
  .bf (!lJ z0 z1) (
   .ok (.inr (.inl ())))<|
  .ok (.inl ())
noncomputable def yU (sh:Sh) (U p1:List ar) (p2 p3:Int) (a:Unit):T (Unit ⊕ (Bool×Int)):=
 .ok (.inr ((decide (p3<(↑U.length:Int))),p3))
noncomputable def Qd (sh:Sh) (U p1:List ar) (p2:Int):Option (Unit ⊕ (Bool×Int)):=cg sh (GP sh U p1 p2) (yU sh U p1 p2) U ()
noncomputable def ac5 {R:Type} (k:AX->AS SS->Option R) (U p1:List ar) (p2:Int) (x:Unit ⊕ (Bool×Int)):Option R:=(λx=>Sum.rec (λv=>k .ret (ahF U p1 p2)) (λv=>k (.exit 0) (ahG U p1 p2 v.1 v.2)) x) x
noncomputable def Wd:bo SS:=bJ 5 (λst=>(bb 27 (aS st 22 0)).bind λU=>(bb 27 (aZ st 0 0)).bind λp1=>(bE (aZ st 0 1)).bind λp2=>some (U,p1,p2)) (λp=>YY p.1 p.2.1 p.2.2) (λp=>Qd shut p.1 p.2.1 p.2.2) (λk p=>ac5 k p.1 p.2.1 p.2.2)
theorem amX:aC KK Tryz.prog ⟨Tryz.f62,ax 62⟩ (bI (aU Tryz.f62) 5) Wd:=
 aC.ck (π:=List ar×List ar×Int) (σ:=Unit) (ab.all FR rfl) (au.nil) rfl 60 (λp i a=>Jd p.1 p.2.1 p.2.2 i) (λp=>p.1) (λp=>()) (St:=λp=>GP shut p.1 p.2.1 p.2.2) (F:=λp=>yU shut p.1 p.2.1 p.2.2) (λp=>rfl)
  (λm p i a k=>by kernel_rfl) (by rintro p (x|x)<;>exact⟨_,_,λ_=>rfl⟩) (λp N C A O w a hr=>cH hr (t:=27) (sl:=22) rfl λv h=>h)
noncomputable def Oo:az SS:= { (uI shut) with T:=bl ((uI shut).T) 62 ⟨⟨Tryz.f62,ax 62⟩,[Wd]⟩ }
theorem abk:aF Oo Tryz.prog:=(aF.bK (ab.all FR rfl) Tryz.func62 rfl bg λc hc=>by cases hc;exact au.cons (au.nil) (by kernel_rfl) amX)
noncomputable def Bl (sh:Sh) (a b:cz):T (Bool):=
 .bf (a.bz !=b.bz) (
  .ok false)<|
 .bf ((↑a.ao.length:Int) !=(↑b.ao.length:Int)) (
  .ok false)<|
 .gd (YY a.ao b.ao b.bz)<|
  .bd (Qd sh a.ao b.ao b.bz) λx3=> .cs x3 (λ_=>
   .ok false) λy0=>
   .ok true
noncomputable def Ii (sh:Sh) (a b:cz):Option (Bool):=sh.s _ (Bl sh a b).val
theorem apb {R:Type} (a b:cz) (k:Rs SS->Option R):bu Oo 100 62 [KK.aa 30 a,KK.aa 30 b] [] (bD KK [4] k)=(Bl shut a b).run (λr=>k (.ret (.s (KK.aa 4 r)))):=by kernel_rfl
noncomputable def ae2 (sh:Sh):bq SS:=bw KK 62 [30,30] (λ{R} xs k=>match xs with| .cons a (.cons b .nil)=>(Ii sh a b).bind (λr=>k (.ret (.s (KK.aa 4 r)))))
noncomputable def uJ (sh:Sh):az SS:= { (uI sh) with C:=ae2 sh::(uI sh).C }
theorem FT:ab (uJ shut) Tryz.prog:=ab.bB FR λxs k z _ hz=>bG abk (λ{R} xs k z h=>by
 match xs,h with
 | .cons a (.cons b .nil),h=>exact⟨100,(apb a b k).trans (bH h)⟩) hz
noncomputable def Cq (U p1:List Int) (p2:Int):AS SS:=⟨[(1,(vd 76 U)),(12,(vd 76 p1)),(13,(vi (↑p1.length:Int))),(14,(vi p2))],[],0,none,false,[],[]⟩
noncomputable def Yk (U p1:List Int):AS SS:=Cq U p1 0
noncomputable def afP (U p1:List Int):AS SS:= { Cq U p1 0 with env:=[(4,(vb false))] }
noncomputable def afQ (U p1:List Int) (a0:Bool) (a1:Int):AS SS:= { Cq U p1 a1 with env:=[(15,(vb a0)),(1,(vd 76 U)),(12,(vd 76 p1)),(13,(vi (↑p1.length:Int))),(14,(vi a1))] }
noncomputable def GH (sh:Sh) (U p1:List Int) (p2 z0:Int) (a:Unit):T (Unit ⊕ Unit ⊕ (Bool×Int)):=
 .bd (idx U p2) λz1=>
  .bf (z0 !=z1) (
   .ok (.inr (.inl ())))<|
  .ok (.inl ())
noncomputable def yx (sh:Sh) (U p1:List Int) (p2:Int) (a:Unit):T (Unit ⊕ (Bool×Int)):=
 .ok (.inr ((decide (p2<(↑p1.length:Int))),p2))
noncomputable def PI (sh:Sh) (U p1:List Int):Option (Unit ⊕ (Bool×Int)):=cg sh (GH sh U p1) (yx sh U p1) p1 ()
noncomputable def abY {R:Type} (k:AX->AS SS->Option R) (U p1:List Int) (x:Unit ⊕ (Bool×Int)):Option R:=(λx=>Sum.rec (λv=>k .ret (afP U p1)) (λv=>k (.exit 0) (afQ U p1 v.1 v.2)) x) x
noncomputable def Vr:bo SS:=bJ 5 (λst=>(bb 76 (aS st 1 0)).bind λU=>(bb 76 (aS st 12 0)).bind λp1=>some (U,p1)) (λp=>Yk p.1 p.2) (λp=>PI shut p.1 p.2) (λk p=>abY k p.1 p.2)
theorem al1:aC KK Tryz.prog ⟨Tryz.f106,ax 106⟩ (bI (aU Tryz.f106) 5) Vr:=
 aC.ck (π:=List Int×List Int) (σ:=Unit) (ab.all FT rfl) (au.nil) rfl 60 (λp i a=>Cq p.1 p.2 i) (λp=>p.2) (λp=>()) (St:=λp=>GH shut p.1 p.2) (F:=λp=>yx shut p.1 p.2) (λp=>rfl)
  (λm p i a k=>by kernel_rfl) (by rintro p (x|x)<;>exact⟨_,_,λ_=>rfl⟩) (λp N C A O w a hr=>cH hr (t:=76) (sl:=12) rfl λv h=>h)
noncomputable def Nk:az SS:= { (uJ shut) with T:=bl ((uJ shut).T) 106 ⟨⟨Tryz.f106,ax 106⟩,[Vr]⟩ }
theorem aac:aF Nk Tryz.prog:=(aF.bK (ab.all FT rfl) Tryz.func106 rfl bg λc hc=>by cases hc;exact au.cons (au.nil) (by kernel_rfl) al1)
noncomputable def AF (sh:Sh) (a b:List Int):T (Bool):=
 .bf ((↑a.length:Int) !=(↑b.length:Int)) (
  .ok false)<|
 .gd (Yk b a)<|
  .bd (PI sh b a) λx3=> .cs x3 (λ_=>
   .ok false) λy0=>
   .ok true
noncomputable def HJ (sh:Sh) (a b:List Int):Option (Bool):=sh.s _ (AF sh a b).val
theorem aoc {R:Type} (a b:List Int) (k:Rs SS->Option R):bu Nk 100 106 [KK.aa 76 a,KK.aa 76 b] [] (bD KK [4] k)=(AF shut a b).run (λr=>k (.ret (.s (KK.aa 4 r)))):=by kernel_rfl
noncomputable def adY (sh:Sh):bq SS:=bw KK 106 [76,76] (λ{R} xs k=>match xs with| .cons a (.cons b .nil)=>(HJ sh a b).bind (λr=>k (.ret (.s (KK.aa 4 r)))))
noncomputable def tT (sh:Sh):az SS:= { (uJ sh) with C:=adY sh::(uJ sh).C }
theorem y_:ab (tT shut) Tryz.prog:=ab.bB FT λxs k z _ hz=>bG aac (λ{R} xs k z h=>by
 match xs,h with
 | .cons a (.cons b .nil),h=>exact⟨100,(aoc a b k).trans (bH h)⟩) hz
noncomputable def Jf (U:List aw) (p1:List an) (p2:List aw) (p3:List an) (p4:Int):AS SS:=⟨[(2,(va 0 0)),(3,(va 1 0)),(26,(vd 31 U)),(27,(vi (↑U.length:Int))),(28,(vi p4))],[(bX 34 [(.aP 31 U),(.aP 32 p1)]),(bX 34 [(.aP 31 p2),(.aP 32 p3)])],0,none,false,[],[]⟩
noncomputable def Y1 (U:List aw) (p1:List an) (p2:List aw) (p3:List an):AS SS:=Jf U p1 p2 p3 0
noncomputable def ahJ (U:List aw) (p1:List an) (p2:List aw) (p3:List an):AS SS:=⟨[(4,(vb false))],[],0,none,false,[],[]⟩
noncomputable def ahK (U:List aw) (p1:List an) (p2:List aw) (p3:List an) (a0:Bool) (a1:Int):AS SS:= { Jf U p1 p2 p3 a1 with env:=[(29,(vb a0)),(2,(va 0 0)),(3,(va 1 0)),(26,(vd 31 U)),(27,(vi (↑U.length:Int))),(28,(vi a1))] }
noncomputable def GQ (sh:Sh) (U:List aw) (p1:List an) (p2:List aw) (p3:List an) (p4:Int) (z0:aw) (a:Unit):T (Unit ⊕ Unit ⊕ (Bool×Int)):=
 .bd (idx p2 p4) λz1=>
  .bf (!lK z0 z1) (
   .ok (.inr (.inl ())))<|
  .ok (.inl ())
noncomputable def yW (sh:Sh) (U:List aw) (p1:List an) (p2:List aw) (p3:List an) (p4:Int) (a:Unit):T (Unit ⊕ (Bool×Int)):=
 .ok (.inr ((decide (p4<(↑U.length:Int))),p4))
noncomputable def Gx (sh:Sh) (U:List aw) (p1:List an) (p2:List aw) (p3:List an):Option (Unit ⊕ (Bool×Int)):=cg sh (GQ sh U p1 p2 p3) (yW sh U p1 p2 p3) U ()
noncomputable def ac7 {R:Type} (k:AX->AS SS->Option R) (U:List aw) (p1:List an) (p2:List aw) (p3:List an) (x:Unit ⊕ (Bool×Int)):Option R:=(λx=>Sum.rec (λv=>k .ret (ahJ U p1 p2 p3)) (λv=>k (.exit 0) (ahK U p1 p2 p3 v.1 v.2)) x) x
noncomputable def Wf:bo SS:=bJ 5 (λst=>(bb 31 (aS st 26 0)).bind λU=>(bb 32 (aZ st 0 1)).bind λp1=>(bb 31 (aZ st 1 0)).bind λp2=>(bb 32 (aZ st 1 1)).bind λp3=>some (U,p1,p2,p3)) (λp=>Y1 p.1 p.2.1 p.2.2.1 p.2.2.2) (λp=>Gx shut p.1 p.2.1 p.2.2.1 p.2.2.2) (λk p=>ac7 k p.1 p.2.1 p.2.2.1 p.2.2.2)
theorem amZ:aC KK Tryz.prog ⟨Tryz.f63,ax 63⟩ (bI (aU Tryz.f63) 5) Wf:=
 aC.ck (π:=List aw×List an×List aw×List an) (σ:=Unit) (ab.all y_ rfl) (au.nil) rfl 60 (λp i a=>Jf p.1 p.2.1 p.2.2.1 p.2.2.2 i) (λp=>p.1) (λp=>()) (St:=λp=>GQ shut p.1 p.2.1 p.2.2.1 p.2.2.2) (F:=λp=>yW shut p.1 p.2.1 p.2.2.1 p.2.2.2) (λp=>rfl)
  (λm p i a k=>by kernel_rfl) (by rintro p (x|x)<;>exact⟨_,_,λ_=>rfl⟩) (λp N C A O w a hr=>cH hr (t:=31) (sl:=26) rfl λv h=>h)
noncomputable def Je (U:List an) (p1:List aw) (p2:List an) (p3:Int):AS SS:=⟨[(3,(va 0 0)),(42,(vd 32 U)),(43,(vi (↑U.length:Int))),(44,(vi p3))],[(bX 34 [(.aP 31 p1),(.aP 32 p2)])],0,none,false,[],[]⟩
noncomputable def YZ (U:List an) (p1:List aw) (p2:List an):AS SS:=Je U p1 p2 0
noncomputable def ahH (U:List an) (p1:List aw) (p2:List an):AS SS:=⟨[(4,(vb false))],[],0,none,false,[],[]⟩
noncomputable def ahI (U:List an) (p1:List aw) (p2:List an) (a0:Bool) (a1:Int):AS SS:= { Je U p1 p2 a1 with env:=[(45,(vb a0)),(3,(va 0 0)),(42,(vd 32 U)),(43,(vi (↑U.length:Int))),(44,(vi a1))] }
noncomputable def As (sh:Sh) (U:List an) (p1:List aw) (p2:List an) (p3:Int) (z0:an) (a:Unit):T (Unit ⊕ Unit ⊕ (Bool×Int)):=
 .bd (idx p2 p3) λz1=>
  .bf (z0.ae !=z1.ae) (
   .ok (.inr (.inl ())))<|
  .bd (idx p2 p3) λz2=>
   .bd (HJ sh z0.a_ z2.a_) λy3=>
    .bf (!y3) (
     .ok (.inr (.inl ())))<|
    .ok (.inl ())
noncomputable def yV (sh:Sh) (U:List an) (p1:List aw) (p2:List an) (p3:Int) (a:Unit):T (Unit ⊕ (Bool×Int)):=
 .ok (.inr ((decide (p3<(↑U.length:Int))),p3))
noncomputable def Gw (sh:Sh) (U:List an) (p1:List aw) (p2:List an):Option (Unit ⊕ (Bool×Int)):=cg sh (As sh U p1 p2) (yV sh U p1 p2) U ()
noncomputable def ac6 {R:Type} (k:AX->AS SS->Option R) (U:List an) (p1:List aw) (p2:List an) (x:Unit ⊕ (Bool×Int)):Option R:=(λx=>Sum.rec (λv=>k .ret (ahH U p1 p2)) (λv=>k (.exit 2) (ahI U p1 p2 v.1 v.2)) x) x
noncomputable def We:bo SS:=bJ 11 (λst=>(bb 32 (aS st 42 0)).bind λU=>(bb 31 (aZ st 0 0)).bind λp1=>(bb 32 (aZ st 0 1)).bind λp2=>some (U,p1,p2)) (λp=>YZ p.1 p.2.1 p.2.2) (λp=>Gw shut p.1 p.2.1 p.2.2) (λk p=>ac6 k p.1 p.2.1 p.2.2)
theorem amY:aC KK Tryz.prog ⟨Tryz.f63,ax 63⟩ (bI (aU Tryz.f63) 11) We:=
 aC.ck (π:=List an×List aw×List an) (σ:=Unit) (ab.all y_ rfl) (au.nil) rfl 60 (λp i a=>Je p.1 p.2.1 p.2.2 i) (λp=>p.1) (λp=>()) (St:=λp=>As shut p.1 p.2.1 p.2.2) (F:=λp=>yV shut p.1 p.2.1 p.2.2) (λp=>rfl)
  (λm p i a k=>by kernel_rfl) (by rintro p (x|x)<;>exact⟨_,_,λ_=>rfl⟩) (λp N C A O w a hr=>cH hr (t:=32) (sl:=42) rfl λv h=>h)
noncomputable def Oq:az SS:= { (tT shut) with T:=bl ((tT shut).T) 63 ⟨⟨Tryz.f63,ax 63⟩,[Wf,We]⟩ }
theorem abl:aF Oq Tryz.prog:=(aF.bK (ab.all y_ rfl) Tryz.func63 rfl bg λc hc=>by cases hc;exact au.cons (au.cons (au.nil) (by kernel_rfl) amY) (by kernel_rfl) amZ)
noncomputable def Bm (sh:Sh) (a b:bh):T (Bool):=
 .bf ((↑a.aK.length:Int) !=(↑b.aK.length:Int)) (
  .ok false)<|
 .bf ((↑a.ay.length:Int) !=(↑b.ay.length:Int)) (
  .ok false)<|
 .gd (Y1 a.aK a.ay b.aK b.ay)<|
  .bd (Gx sh a.aK a.ay b.aK b.ay) λx3=> .cs x3 (λ_=>
   .ok false) λy0=>
   .gd (YZ a.ay b.aK b.ay)<|
    .bd (Gw sh a.ay b.aK b.ay) λx5=> .cs x5 (λ_=>
     .ok false) λy1=>
     .ok true
noncomputable def Ij (sh:Sh) (a b:bh):Option (Bool):=sh.s _ (Bm sh a b).val
theorem apc {R:Type} (a b:bh) (k:Rs SS->Option R):bu Oq 100 63 [KK.aa 34 a,KK.aa 34 b] [] (bD KK [4] k)=(Bm shut a b).run (λr=>k (.ret (.s (KK.aa 4 r)))):=by kernel_rfl
noncomputable def ae3 (sh:Sh):bq SS:=bw KK 63 [34,34] (λ{R} xs k=>match xs with| .cons a (.cons b .nil)=>(Ij sh a b).bind (λr=>k (.ret (.s (KK.aa 4 r)))))
noncomputable def zx (sh:Sh):az SS:= { (tT sh) with C:=ae3 sh::(tT sh).C }
theorem Pu:ab (zx shut) Tryz.prog:=ab.bB y_ λxs k z _ hz=>bG abl (λ{R} xs k z h=>by
 match xs,h with
 | .cons a (.cons b .nil),h=>exact⟨100,(apc a b k).trans (bH h)⟩) hz
noncomputable def AN (sh:Sh) (a b:bF):T (Bool):=
 .bd (Ig sh a.aG b.aG) λy0=>
  .bf (y0) (
   .bd (Ih sh a.bj b.bj) λy1=>
    .bf (y1) (
     .bd (Ii sh a.aI b.aI) λy2=>
      .bf (y2) (
       .bd (Ij sh a.aA b.aA) λy3=>
        .ok y3)<|
      .ok false)<|
    .ok false)<|
  .ok false
noncomputable def kS (sh:Sh) (a b:bF):Option (Bool):=sh.s _ (AN sh a b).val
theorem aoj {R:Type} (a b:bF) (k:Rs SS->Option R):bu (zx shut) 100 13 [KK.aa 36 a,KK.aa 36 b] [] (bD KK [4] k)=(AN shut a b).run (λr=>k (.ret (.s (KK.aa 4 r)))):=by kernel_rfl
noncomputable def ad5 (sh:Sh):bq SS:=bw KK 13 [36,36] (λ{R} xs k=>match xs with| .cons a (.cons b .nil)=>(kS sh a b).bind (λr=>k (.ret (.s (KK.aa 4 r)))))
noncomputable def tW (sh:Sh):az SS:= { (zx sh) with C:=ad5 sh::(zx sh).C }
theorem Ff:ab (tW shut) Tryz.prog:=ab.bB Pu λxs k z _ hz=>bG (ab.all Pu rfl) (λ{R} xs k z h=>by
 match xs,h with
 | .cons a (.cons b .nil),h=>exact⟨100,(aoj a b k).trans (bH h)⟩) hz
noncomputable def IW (U:List an) (p1:List Int) (p2:List ah) (p3:List aj) (p4:List ar) (p5:Int) (p6:List aw) (p7 p8:Int):AS SS:=⟨[(1,(va 0 0)),(2,(va 1 0)),(3,(vi p7)),(8,(vd 32 U)),(9,(vi (↑U.length:Int))),(10,(vi p8))],[(bX 36 [(.bR .i64 16 p1),(.aP 23 p2),(.aP 26 p3),(.aP 27 p4),(lu p5),(.aP 31 p6),(.aP 32 U)]),(bX 43 [(li 0),(li 0),(li 0),(li 0),(li 0)])],0,none,false,[],[]⟩
noncomputable def Yw (U:List an) (p1:List Int) (p2:List ah) (p3:List aj) (p4:List ar) (p5:Int) (p6:List aw) (p7:Int):AS SS:=IW U p1 p2 p3 p4 p5 p6 p7 0
noncomputable def agq (U:List an) (p1:List Int) (p2:List ah) (p3:List aj) (p4:List ar) (p5:Int) (p6:List aw) (a0:Bool) (a1 a2:Int):AS SS:= { IW U p1 p2 p3 p4 p5 p6 p5 p5 with env:=[(11,(vb a0)),(1,(va 0 0)),(2,(va 1 0)),(3,(vi a1)),(8,(vd 32 U)),(9,(vi (↑U.length:Int))),(10,(vi a2))] }
noncomputable def GK (sh:Sh) (U:List an) (p1:List Int) (p2:List ah) (p3:List aj) (p4:List ar) (p5:Int) (p6:List aw) (p8:Int) (z0:an) (a:Int):T (Int ⊕ (Bool×Int×Int)):=
 .ok (.inl (IntKind.i64.wrap (a+(↑z0.a_.length:Int))))
noncomputable def EL (sh:Sh) (U:List an) (p1:List Int) (p2:List ah) (p3:List aj) (p4:List ar) (p5:Int) (p6:List aw) (p8 a:Int):T ((Bool×Int×Int)):=
 .ok ((decide (p8<(↑U.length:Int))),a,p8)
noncomputable def Gd (sh:Sh) (U:List an) (p1:List Int) (p2:List ah) (p3:List aj) (p4:List ar) (p5:Int) (p6:List aw) (p7:Int):Option ((Bool×Int×Int)):=cg sh (GK sh U p1 p2 p3 p4 p5 p6) (EL sh U p1 p2 p3 p4 p5 p6) U p7
noncomputable def ack {R:Type} (k:AX->AS SS->Option R) (U:List an) (p1:List Int) (p2:List ah) (p3:List aj) (p4:List ar) (p5:Int) (p6:List aw) (x:(Bool×Int×Int)):Option R:=(λv=>k (.exit 0) (agq U p1 p2 p3 p4 p5 p6 v.1 v.2.1 v.2.2)) x
noncomputable def VG:bo SS:=bJ 4 (λst=>(bb 32 (aS st 8 0)).bind λU=>(fN (aZ st 0 0)).bind λp1=>(bb 23 (aZ st 0 1)).bind λp2=>(bb 26 (aZ st 0 2)).bind λp3=>(bb 27 (aZ st 0 3)).bind λp4=>(bE (aZ st 0 4)).bind λp5=>(bb 31 (aZ st 0 5)).bind λp6=>(bE (aS st 3 0)).bind λp7=>some (U,p1,p2,p3,p4,p5,p6,p7)) (λp=>Yw p.1 p.2.1 p.2.2.1 p.2.2.2.1 p.2.2.2.2.1 p.2.2.2.2.2.1 p.2.2.2.2.2.2.1 p.2.2.2.2.2.2.2) (λp=>Gd shut p.1 p.2.1 p.2.2.1 p.2.2.2.1 p.2.2.2.2.1 p.2.2.2.2.2.1 p.2.2.2.2.2.2.1 p.2.2.2.2.2.2.2) (λk p=>ack k p.1 p.2.1 p.2.2.1 p.2.2.2.1 p.2.2.2.2.1 p.2.2.2.2.2.1 p.2.2.2.2.2.2.1)
theorem ami:aC KK Tryz.prog ⟨Tryz.f14,ax 14⟩ (bI (aU Tryz.f14) 4) VG:=
 aC.ck (π:=List an×List Int×List ah×List aj×List ar×Int×List aw×Int) (σ:=Int) (ab.all Ff rfl) (au.nil) rfl 60 (λp i a=>IW p.1 p.2.1 p.2.2.1 p.2.2.2.1 p.2.2.2.2.1 p.2.2.2.2.2.1 p.2.2.2.2.2.2.1 a i) (λp=>p.1) (λp=>p.2.2.2.2.2.2.2) (St:=λp=>GK shut p.1 p.2.1 p.2.2.1 p.2.2.2.1 p.2.2.2.2.1 p.2.2.2.2.2.1 p.2.2.2.2.2.2.1) (F:=λp=>EL shut p.1 p.2.1 p.2.2.1 p.2.2.2.1 p.2.2.2.2.1 p.2.2.2.2.2.1 p.2.2.2.2.2.2.1) (λp=>rfl)
  (λm p i a k=>by kernel_rfl) (λp x=>⟨_,_,λ_=>rfl⟩) (λp N C A O w a hr=>cH hr (t:=32) (sl:=8) rfl λv h=>h)
noncomputable def Nw:az SS:= { (tW shut) with T:=bl ((tW shut).T) 14 ⟨⟨Tryz.f14,ax 14⟩,[VG]⟩ }
theorem aan:aF Nw Tryz.prog:=(aF.bK (ab.all Ff rfl) Tryz.func14 rfl bg λc hc=>by cases hc;exact au.cons (au.nil) (by kernel_rfl) ami)
noncomputable def AQ (sh:Sh) (s:bF):T (List Int):=
 .gd (Yw s.aA.ay s.aG.aR s.aG.ao s.bj s.aI.ao s.aI.bz s.aA.aK 0)<|
  .bd (Gd sh s.aA.ay s.aG.aR s.aG.ao s.bj s.aI.ao s.aI.bz s.aA.aK 0) λy0=>
   .ok ([(↑s.aA.aK.length:Int),(↑s.aI.ao.length:Int),(↑s.aG.ao.length:Int),(↑s.bj.length:Int),y0.2.1])
noncomputable def B1 (sh:Sh) (s:bF):Option (List Int):=sh.s _ (AQ sh s).val
theorem aon {R:Type} (s:bF) (k:Rs SS->Option R):bu Nw 100 14 [KK.aa 36 s] [] (bD KK [43] k)=(AQ shut s).run (λr=>k (.ret (.s (KK.aa 43 r)))):=by kernel_rfl
noncomputable def ad9 (sh:Sh):bq SS:=bw KK 14 [36] (λ{R} xs k=>match xs with| .cons s .nil=>(B1 sh s).bind (λr=>k (.ret (.s (KK.aa 43 r)))))
noncomputable def zf (sh:Sh):az SS:= { (tW sh) with C:=ad9 sh::(tW sh).C }
theorem Pc:ab (zf shut) Tryz.prog:=ab.bB Ff λxs k z _ hz=>bG aan (λ{R} xs k z h=>by
 match xs,h with
 | .cons s .nil,h=>exact⟨100,(aon s k).trans (bH h)⟩) hz
noncomputable def Rz (sh:Sh):T (b_):=
 .ok (⟨[1,0,0,0,0,0,0,0,0,0,0,0,0,0,0,0],[ah.mk 1 0 false 0]⟩)
noncomputable def SU (sh:Sh):Option (b_):=sh.s _ (Rz sh).val
theorem apf {R:Type} (k:Rs SS->Option R):bu (zf shut) 100 66 [] [] (bD KK [25] k)=(Rz shut).run (λr=>k (.ret (.s (KK.aa 25 r)))):=by kernel_rfl
noncomputable def ae6 (sh:Sh):bq SS:=bw KK 66 [] (λ{R} xs k=>match xs with| .nil=>(SU sh).bind (λr=>k (.ret (.s (KK.aa 25 r)))))
noncomputable def zA (sh:Sh):az SS:= { (zf sh) with C:=ae6 sh::(zf sh).C }
theorem Px:ab (zA shut) Tryz.prog:=ab.bB Pc λxs k z _ hz=>bG (ab.all Pc rfl) (λ{R} xs k z h=>by
 match xs,h with
 | .nil,h=>exact⟨100,(apf k).trans (bH h)⟩) hz
noncomputable def Q4 (sh:Sh):T (bF):=
 .bd (SU sh) λy0=>
  .ok (⟨y0,[],⟨[],1⟩,⟨[],[]⟩⟩)
noncomputable def sr (sh:Sh):Option (bF):=sh.s _ (Q4 sh).val
theorem aos {R:Type} (k:Rs SS->Option R):bu (zA shut) 100 17 [] [] (bD KK [36] k)=(Q4 shut).run (λr=>k (.ret (.s (KK.aa 36 r)))):=by kernel_rfl
noncomputable def aec (sh:Sh):bq SS:=bw KK 17 [] (λ{R} xs k=>match xs with| .nil=>(sr sh).bind (λr=>k (.ret (.s (KK.aa 36 r)))))
noncomputable def ua (sh:Sh):az SS:= { (zA sh) with C:=aec sh::(zA sh).C }
theorem Fo:ab (ua shut) Tryz.prog:=ab.bB Px λxs k z _ hz=>bG (ab.all Px rfl) (λ{R} xs k z h=>by
 match xs,h with
 | .nil,h=>exact⟨100,(aos k).trans (bH h)⟩) hz
noncomputable def Cu (U:Int) (p1:ByteArray):AS SS:=⟨[(0,(vu U)),(4,(vs (.v (.string p1))))],[],0,none,false,[],[]⟩
noncomputable def af3:AS SS:=⟨[(2,(vs (.v (.string (ByteArray.mk #[]))))),(3,(vb false))],[],0,none,false,[],[]⟩
noncomputable def af4 (a0:Bool) (a1:Int) (a2:ByteArray):AS SS:= { Cu a1 a2 with env:=[(6,(vb a0)),(5,(vu a1)),(0,(vu a1)),(4,(vs (.v (.string a2))))] }
noncomputable def u4 (sh:Sh) (a:Int×ByteArray):T ((Int×ByteArray) ⊕ Unit ⊕ (Bool×Int×ByteArray)):=
 .bf (decide (a.1>0)) (
  .bf (a.1.tmod 256==0) (
   .ok (.inr (.inl ())))<|
  .bd (oc a.2 (strOf [IntKind.u8.wrap (a.1.tmod 256)])) λz0=>
   .ok (.inl ((IntKind.u64.wrap (a.1.tdiv 256)),z0)))<|
 .ok (.inr (.inr ((decide (a.1>0)),a.1,a.2)))
noncomputable def F8 (sh:Sh) (U:Int) (p1:ByteArray):Option (Unit ⊕ (Bool×Int×ByteArray)):=cA sh (u4 sh) 1000000 (U,p1)
noncomputable def ab8 {R:Type} (k:AX->AS SS->Option R) (x:Unit ⊕ (Bool×Int×ByteArray)):Option R:=(λx=>Sum.rec (λv=>k .ret (af3)) (λv=>k (.exit 0) (af4 v.1 v.2.1 v.2.2)) x) x
noncomputable def Vy:bo SS:=bJ 3 (λst=>(bE (aS st 0 0)).bind λU=>(nf (aS st 4 0)).bind λp1=>some (U,p1)) (λp=>Cu p.1 p.2) (λp=>F8 shut p.1 p.2) (λk p=>ab8 k)
theorem al':aC KK Tryz.prog ⟨Tryz.f123,ax 123⟩ (bI (aU Tryz.f123) 3) Vy:=
 aC.cA (π:=Int×ByteArray) (σ:=Int×ByteArray) (ab.all Fo rfl) (au.nil) rfl 60 (λp a=>Cu a.1 a.2) (λp=>(p.1,p.2)) (St:=λp=>u4 shut) (λp=>1000000) (λp=>rfl)
  (λm p a k=>by kernel_rfl)
noncomputable def Nr:az SS:= { (ua shut) with T:=bl ((ua shut).T) 123 ⟨⟨Tryz.f123,ax 123⟩,[Vy]⟩ }
theorem aai:aF Nr Tryz.prog:=(aF.bK (ab.all Fo rfl) Tryz.func123 rfl bg λc hc=>by cases hc;exact au.cons (au.nil) (by kernel_rfl) al')
noncomputable def AJ (sh:Sh) (w:Int):T (ByteArray×Bool):=
 .gd (Cu w (ByteArray.mk #[]))<|
  .bd (F8 sh w (ByteArray.mk #[])) λx3=> .cs x3 (λ_=>
   .ok ((ByteArray.mk #[]),false)) λy0=>
   .ok (y0.2.2,true)
noncomputable def BZ (sh:Sh) (w:Int):Option (ByteArray×Bool):=sh.s _ (AJ sh w).val
theorem aof {R:Type} (w:Int) (k:Rs SS->Option R):bu Nr 100 123 [KK.aa 28 w] [] (bD KK [9,4] k)=(AJ shut w).run (λr=>k (.ret (.aY [KK.aa 9 r.1,KK.aa 4 r.2]))):=by kernel_rfl
noncomputable def ad1 (sh:Sh):bq SS:=bw KK 123 [28] (λ{R} xs k=>match xs with| .cons w .nil=>(BZ sh w).bind (λr=>k (.ret (.aY [KK.aa 9 r.1,KK.aa 4 r.2]))))
noncomputable def tV (sh:Sh):az SS:= { (ua sh) with C:=ad1 sh::(ua sh).C }
theorem Fb:ab (tV shut) Tryz.prog:=ab.bB Fo λxs k z _ hz=>bG aai (λ{R} xs k z h=>by
 match xs,h with
 | .cons w .nil,h=>exact⟨100,(aof w k).trans (bH h)⟩) hz
noncomputable def wm (U:ByteArray) (p1 p2:Int):AS SS:=⟨[(0,(vs (.v (.string U)))),(5,(vi p1)),(6,(vi p2))],[],0,none,false,[],[]⟩
noncomputable def agu (U:ByteArray) (p1:Int):AS SS:= { wm U p1 p1 with env:=[(2,(vb false))] }
noncomputable def agv (U:ByteArray) (p1:Int) (a0:Bool) (a1:Int):AS SS:= { wm U p1 p1 with env:=[(7,(vb a0)),(0,(vs (.v (.string U)))),(5,(vi p1)),(6,(vi a1))] }
noncomputable def rQ (sh:Sh) (U:ByteArray) (p1 a:Int):T (Int ⊕ Unit ⊕ (Bool×Int)):=
 .bf (decide (a<p1)) (
  .bd (ib U a) λz0=>
   .bf (decide (z0>=97)) (
    .bd (ib U a) λz1=>
     .bf (decide (z1<=122)) (
      .ok (.inl (IntKind.i64.wrap (a+1))))<|
     .bd (ib U a) λz2=>
      .bf (decide (z2>=48)) (
       .bd (ib U a) λz3=>
        .bf (!decide (z3<=57)) (
         .ok (.inr (.inl ())))<|
        .ok (.inl (IntKind.i64.wrap (a+1))))<|
      .ok (.inr (.inl ())))<|
   .bd (ib U a) λz1=>
    .bf (decide (z1>=48)) (
     .bd (ib U a) λz2=>
      .bf (!decide (z2<=57)) (
       .ok (.inr (.inl ())))<|
      .ok (.inl (IntKind.i64.wrap (a+1))))<|
    .ok (.inr (.inl ())))<|
 .ok (.inr (.inr ((decide (a<p1)),a)))
noncomputable def Gg (sh:Sh) (U:ByteArray) (p1 p2:Int):Option (Unit ⊕ (Bool×Int)):=cA sh (rQ sh U p1) 1000000 p2
noncomputable def aco {R:Type} (k:AX->AS SS->Option R) (U:ByteArray) (p1:Int) (x:Unit ⊕ (Bool×Int)):Option R:=(λx=>Sum.rec (λv=>k .ret (agu U p1)) (λv=>k (.exit 0) (agv U p1 v.1 v.2)) x) x
noncomputable def VJ:bo SS:=bJ 3 (λst=>(nf (aS st 0 0)).bind λU=>(bE (aS st 5 0)).bind λp1=>(bE (aS st 6 0)).bind λp2=>some (U,p1,p2)) (λp=>wm p.1 p.2.1 p.2.2) (λp=>Gg shut p.1 p.2.1 p.2.2) (λk p=>aco k p.1 p.2.1)
theorem aml:aC KK Tryz.prog ⟨Tryz.f171,ax 171⟩ (bI (aU Tryz.f171) 3) VJ:=
 aC.cA (π:=ByteArray×Int×Int) (σ:=Int) (ab.all Fb rfl) (au.nil) rfl 60 (λp a=>wm p.1 p.2.1 a) (λp=>p.2.2) (St:=λp=>rQ shut p.1 p.2.1) (λp=>1000000) (λp=>rfl)
  (λm p a k=>by kernel_rfl)
noncomputable def Nz:az SS:= { (tV shut) with T:=bl ((tV shut).T) 171 ⟨⟨Tryz.f171,ax 171⟩,[VJ]⟩ }
theorem aar:aF Nz Tryz.prog:=(aF.bK (ab.all Fb rfl) Tryz.func171 rfl bg λc hc=>by cases hc;exact au.cons (au.nil) (by kernel_rfl) aml)
noncomputable def AU (sh:Sh) (s:ByteArray):T (Bool):=
 .gd (wm s ((↑s.size:Int)) 0)<|
  .bd (Gg sh s ((↑s.size:Int)) 0) λx3=> .cs x3 (λ_=>
   .ok false) λy0=>
   .ok (decide ((↑s.size:Int)>0))
noncomputable def HP (sh:Sh) (s:ByteArray):Option (Bool):=sh.s _ (AU sh s).val
theorem aou {R:Type} (s:ByteArray) (k:Rs SS->Option R):bu Nz 100 171 [KK.aa 9 s] [] (bD KK [4] k)=(AU shut s).run (λr=>k (.ret (.s (KK.aa 4 r)))):=by kernel_rfl
noncomputable def aee (sh:Sh):bq SS:=bw KK 171 [9] (λ{R} xs k=>match xs with| .cons s .nil=>(HP sh s).bind (λr=>k (.ret (.s (KK.aa 4 r)))))
noncomputable def uc (sh:Sh):az SS:= { (tV sh) with C:=aee sh::(tV sh).C }
theorem Fj:ab (uc shut) Tryz.prog:=ab.bB Fb λxs k z _ hz=>bG aar (λ{R} xs k z h=>by
 match xs,h with
 | .cons s .nil,h=>exact⟨100,(aou s k).trans (bH h)⟩) hz
noncomputable def Cy (U:ByteArray) (p1 p2:Int) (p3:List ByteArray):AS SS:=⟨[(0,(vs (.v (.string U)))),(3,(vo 0)),(6,(vi p1)),(7,(vi p2))],[(rX 9 p3)],0,none,false,[],[]⟩
noncomputable def agt (U:ByteArray) (p1:Int) (a0:Bool) (a1:Int) (a2:List ByteArray):AS SS:= { Cy U p1 p1 a2 with env:=[(8,(vb a0)),(0,(vs (.v (.string U)))),(3,(vo 0)),(6,(vi p1)),(7,(vi a1))] }
noncomputable def rP (sh:Sh) (U:ByteArray) (p1:Int) (a:Int×List ByteArray):T ((Int×List ByteArray) ⊕ (Bool×Int×List ByteArray)):=
 .bf (decide (a.1<p1)) (
  .bd (ib U a.1) λz0=>
   .bf (z0==47) (
    .bd (app 16 a.2 [ByteArray.mk #[]]) λz1=>
     .ok (.inl ((IntKind.i64.wrap (a.1+1)),z1)))<|
   .bf (decide ((↑a.2.length:Int)>0)) (
    .bd (idx a.2 (IntKind.i64.wrap ((↑a.2.length:Int)-1))) λz1=>
     .bd (a.2[(IntKind.i64.wrap ((↑a.2.length:Int)-1)).toNat]?) λz2=>
      .bd (fM U (some a.1) (some (IntKind.i64.wrap (a.1+1)))) λz3=>
       .bd (oc z2 z3) λz4=>
        .bd (idx a.2 (IntKind.i64.wrap ((↑a.2.length:Int)-1))) λz5=>
         .bd (a.2[(IntKind.i64.wrap ((↑a.2.length:Int)-1)).toNat]?) λz6=>
          .ok (.inl ((IntKind.i64.wrap (a.1+1)),(a.2.set (IntKind.i64.wrap ((↑a.2.length:Int)-1)).toNat z4))))<|
   .ok (.inl ((IntKind.i64.wrap (a.1+1)),a.2)))<|
 .ok (.inr ((decide (a.1<p1)),a.1,a.2))
noncomputable def Gf (sh:Sh) (U:ByteArray) (p1 p2:Int) (p3:List ByteArray):Option ((Bool×Int×List ByteArray)):=cA sh (rP sh U p1) 1000000 (p2,p3)
noncomputable def acn {R:Type} (k:AX->AS SS->Option R) (U:ByteArray) (p1:Int) (x:(Bool×Int×List ByteArray)):Option R:=(λv=>k (.exit 0) (agt U p1 v.1 v.2.1 v.2.2)) x
noncomputable def VI:bo SS:=bJ 4 (λst=>(nf (aS st 0 0)).bind λU=>(bE (aS st 6 0)).bind λp1=>(bE (aS st 7 0)).bind λp2=>(db st 0 9).bind λp3=>some (U,p1,p2,p3)) (λp=>Cy p.1 p.2.1 p.2.2.1 p.2.2.2) (λp=>Gf shut p.1 p.2.1 p.2.2.1 p.2.2.2) (λk p=>acn k p.1 p.2.1)
theorem amk:aC KK Tryz.prog ⟨Tryz.f170,ax 170⟩ (bI (aU Tryz.f170) 4) VI:=
 aC.cA (π:=ByteArray×Int×Int×List ByteArray) (σ:=Int×List ByteArray) (ab.all Fj rfl) (au.nil) rfl 60 (λp a=>Cy p.1 p.2.1 a.1 a.2) (λp=>(p.2.2.1,p.2.2.2)) (St:=λp=>rP shut p.1 p.2.1) (λp=>1000000) (λp=>rfl)
  (λm p a k=>by kernel_rfl)
noncomputable def Ny:az SS:= { (uc shut) with T:=bl ((uc shut).T) 170 ⟨⟨Tryz.f170,ax 170⟩,[VI]⟩ }
theorem aaq:aF Ny Tryz.prog:=(aF.bK (ab.all Fj rfl) Tryz.func170 rfl bg λc hc=>by cases hc;exact au.cons (au.nil) (by kernel_rfl) amk)
noncomputable def AT (sh:Sh) (s:ByteArray):T (List ByteArray):=
 .gd (Cy s ((↑s.size:Int)) 0 [])<|
  .bd (Gf sh s ((↑s.size:Int)) 0 []) λy0=>
   .ok y0.2.2
noncomputable def HO (sh:Sh) (s:ByteArray):Option (List ByteArray):=sh.s _ (AT sh s).val
theorem aot {R:Type} (s:ByteArray) (k:Rs SS->Option R):bu Ny 100 170 [KK.aa 9 s] [] (bD KK [185] k)=(AT shut s).run (λr=>k (.ret (.s (KK.aa 185 r)))):=by kernel_rfl
noncomputable def aed (sh:Sh):bq SS:=bw KK 170 [9] (λ{R} xs k=>match xs with| .cons s .nil=>(HO sh s).bind (λr=>k (.ret (.s (KK.aa 185 r)))))
noncomputable def ub (sh:Sh):az SS:= { (uc sh) with C:=aed sh::(uc sh).C }
theorem Fi:ab (ub shut) Tryz.prog:=ab.bB Fj λxs k z _ hz=>bG aaq (λ{R} xs k z h=>by
 match xs,h with
 | .cons s .nil,h=>exact⟨100,(aot s k).trans (bH h)⟩) hz
noncomputable def Cv (U:ByteArray) (p1:List ByteArray) (p2:Int):AS SS:=⟨[(0,(vs (.v (.string U)))),(3,(vd 185 p1)),(10,(vd 185 p1)),(11,(vi (↑p1.length:Int))),(12,(vi p2))],[],0,none,false,[],[]⟩
noncomputable def Yr (U:ByteArray) (p1:List ByteArray):AS SS:=Cv U p1 0
noncomputable def af5 (U:ByteArray) (p1:List ByteArray):AS SS:= { Cv U p1 0 with env:=[(2,(vb false))] }
noncomputable def af6 (U:ByteArray) (p1:List ByteArray) (a0:Bool) (a1:Int):AS SS:= { Cv U p1 a1 with env:=[(13,(vb a0)),(0,(vs (.v (.string U)))),(3,(vd 185 p1)),(10,(vd 185 p1)),(11,(vi (↑p1.length:Int))),(12,(vi a1))] }
noncomputable def Ad (sh:Sh) (U:ByteArray) (p1:List ByteArray) (p2:Int) (z0:ByteArray) (a:Unit):T (Unit ⊕ Unit ⊕ (Bool×Int)):=
 .bd (HP sh z0) λy1=>
  .bf (!y1) (
   .ok (.inr (.inl ())))<|
  .ok (.inl ())
noncomputable def yD (sh:Sh) (U:ByteArray) (p1:List ByteArray) (p2:Int) (a:Unit):T (Unit ⊕ (Bool×Int)):=
 .ok (.inr ((decide (p2<(↑p1.length:Int))),p2))
noncomputable def F9 (sh:Sh) (U:ByteArray) (p1:List ByteArray):Option (Unit ⊕ (Bool×Int)):=cg sh (Ad sh U p1) (yD sh U p1) p1 ()
noncomputable def ab9 {R:Type} (k:AX->AS SS->Option R) (U:ByteArray) (p1:List ByteArray) (x:Unit ⊕ (Bool×Int)):Option R:=(λx=>Sum.rec (λv=>k .ret (af5 U p1)) (λv=>k (.exit 0) (af6 U p1 v.1 v.2)) x) x
noncomputable def Vz:bo SS:=bJ 6 (λst=>(nf (aS st 0 0)).bind λU=>(bb 185 (aS st 3 0)).bind λp1=>some (U,p1)) (λp=>Yr p.1 p.2) (λp=>F9 shut p.1 p.2) (λk p=>ab9 k p.1 p.2)
theorem ama:aC KK Tryz.prog ⟨Tryz.f124,ax 124⟩ (bI (aU Tryz.f124) 6) Vz:=
 aC.ck (π:=ByteArray×List ByteArray) (σ:=Unit) (ab.all Fi rfl) (au.nil) rfl 60 (λp i a=>Cv p.1 p.2 i) (λp=>p.2) (λp=>()) (St:=λp=>Ad shut p.1 p.2) (F:=λp=>yD shut p.1 p.2) (λp=>rfl)
  (λm p i a k=>by kernel_rfl) (by rintro p (x|x)<;>exact⟨_,_,λ_=>rfl⟩) (λp N C A O w a hr=>cH hr (t:=185) (sl:=3) rfl λv h=>h)
noncomputable def Ns:az SS:= { (ub shut) with T:=bl ((ub shut).T) 124 ⟨⟨Tryz.f124,ax 124⟩,[Vz]⟩ }
theorem aaj:aF Ns Tryz.prog:=(aF.bK (ab.all Fi rfl) Tryz.func124 rfl bg λc hc=>by cases hc;exact au.cons (au.nil) (by kernel_rfl) ama)
noncomputable def AK (sh:Sh) (s:ByteArray):T (Bool):=
 .bf (s.toList==(ByteArray.mk #[47]).toList) (
  .ok true)<|
 .bd (HO sh s) λy0=>
  .gd (Yr s y0)<|
   .bd (F9 sh s y0) λx4=> .cs x4 (λ_=>
    .ok false) λy1=>
    .bf (decide ((↑s.size:Int)>0)) (
     .bf (decide ((↑s.size:Int)<=8)) (
      .bd (ib s 0) λz2=>
       .bf (z2==47) (
        .bf (decide ((↑y0.length:Int)>=1)) (
         .ok (decide ((↑y0.length:Int)<=4)))<|
        .ok false)<|
       .ok false)<|
     .ok false)<|
    .ok false
noncomputable def HK (sh:Sh) (s:ByteArray):Option (Bool):=sh.s _ (AK sh s).val
theorem aog {R:Type} (s:ByteArray) (k:Rs SS->Option R):bu Ns 100 124 [KK.aa 9 s] [] (bD KK [4] k)=(AK shut s).run (λr=>k (.ret (.s (KK.aa 4 r)))):=by kernel_rfl
noncomputable def ad2 (sh:Sh):bq SS:=bw KK 124 [9] (λ{R} xs k=>match xs with| .cons s .nil=>(HK sh s).bind (λr=>k (.ret (.s (KK.aa 4 r)))))
noncomputable def zb (sh:Sh):az SS:= { (ub sh) with C:=ad2 sh::(ub sh).C }
theorem O8:ab (zb shut) Tryz.prog:=ab.bB Fi λxs k z _ hz=>bG aaj (λ{R} xs k z h=>by
 match xs,h with
 | .cons s .nil,h=>exact⟨100,(aog s k).trans (bH h)⟩) hz
noncomputable def Br (sh:Sh) (w:Int):T (Bool):=
 .bd (BZ sh w) λy0=>
  .bf (y0.2) (
   .bd (HK sh y0.1) λy1=>
    .ok y1)<|
  .ok false
noncomputable def B7 (sh:Sh) (w:Int):Option (Bool):=sh.s _ (Br sh w).val
theorem apo {R:Type} (w:Int) (k:Rs SS->Option R):bu (zb shut) 100 84 [KK.aa 28 w] [] (bD KK [4] k)=(Br shut w).run (λr=>k (.ret (.s (KK.aa 4 r)))):=by kernel_rfl
noncomputable def afe (sh:Sh):bq SS:=bw KK 84 [28] (λ{R} xs k=>match xs with| .cons w .nil=>(B7 sh w).bind (λr=>k (.ret (.s (KK.aa 4 r)))))
noncomputable def uO (sh:Sh):az SS:= { (zb sh) with C:=afe sh::(zb sh).C }
theorem FX:ab (uO shut) Tryz.prog:=ab.bB O8 λxs k z _ hz=>bG (ab.all O8 rfl) (λ{R} xs k z h=>by
 match xs,h with
 | .cons w .nil,h=>exact⟨100,(apo w k).trans (bH h)⟩) hz
noncomputable def CX (U:ByteArray) (p1:Bool) (p2 p3:Int):AS SS:=⟨[(3,(vs (.v (.string U)))),(4,(vb p1)),(12,(vi p2)),(13,(vi p3))],[],0,none,false,[],[]⟩
noncomputable def ahR (U:ByteArray) (p2:Int) (a0 a1:Bool) (a2:Int):AS SS:= { CX U a0 p2 p2 with env:=[(14,(vb a0)),(3,(vs (.v (.string U)))),(4,(vb a1)),(12,(vi p2)),(13,(vi a2))] }
noncomputable def rV (sh:Sh) (U:ByteArray) (p2:Int) (a:Bool×Int):T ((Bool×Int) ⊕ (Bool×Bool×Int)):=
 .bf (decide (a.2<p2)) (
  .bf (a.1) (
   .bd (ib U a.2) λz0=>
    .bf (decide (z0>=97)) (
     .bd (ib U a.2) λz1=>
      .bf (decide (z1<=122)) (
       .ok (.inl (true,(IntKind.i64.wrap (a.2+1)))))<|
      .bd (ib U a.2) λz2=>
       .bf (decide (z2>=48)) (
        .bd (ib U a.2) λz3=>
         .ok (.inl ((decide (z3<=57)),(IntKind.i64.wrap (a.2+1)))))<|
       .ok (.inl (false,(IntKind.i64.wrap (a.2+1)))))<|
    .bd (ib U a.2) λz1=>
     .bf (decide (z1>=48)) (
      .bd (ib U a.2) λz2=>
       .ok (.inl ((decide (z2<=57)),(IntKind.i64.wrap (a.2+1)))))<|
     .ok (.inl (false,(IntKind.i64.wrap (a.2+1)))))<|
  .ok (.inl (false,(IntKind.i64.wrap (a.2+1)))))<|
 .ok (.inr ((decide (a.2<p2)),a.1,a.2))
noncomputable def uW (sh:Sh) (U:ByteArray) (p1:Bool) (p2 p3:Int):Option ((Bool×Bool×Int)):=cA sh (rV sh U p2) 1000000 (p1,p3)
noncomputable def adb {R:Type} (k:AX->AS SS->Option R) (U:ByteArray) (p2:Int) (x:(Bool×Bool×Int)):Option R:=(λv=>k (.exit 0) (ahR U p2 v.1 v.2.1 v.2.2)) x
noncomputable def Wk:bo SS:=bJ 4 (λst=>(nf (aS st 3 0)).bind λU=>(oJ (aS st 4 0)).bind λp1=>(bE (aS st 12 0)).bind λp2=>(bE (aS st 13 0)).bind λp3=>some (U,p1,p2,p3)) (λp=>CX p.1 p.2.1 p.2.2.1 p.2.2.2) (λp=>uW shut p.1 p.2.1 p.2.2.1 p.2.2.2) (λk p=>adb k p.1 p.2.2.1)
theorem am5:aC KK Tryz.prog ⟨Tryz.f85,ax 85⟩ (bI (aU Tryz.f85) 4) Wk:=
 aC.cA (π:=ByteArray×Bool×Int×Int) (σ:=Bool×Int) (ab.all FX rfl) (au.nil) rfl 60 (λp a=>CX p.1 a.1 p.2.2.1 a.2) (λp=>(p.2.1,p.2.2.2)) (St:=λp=>rV shut p.1 p.2.2.1) (λp=>1000000) (λp=>rfl)
  (λm p a k=>by kernel_rfl)
noncomputable def Ow:az SS:= { (uO shut) with T:=bl ((uO shut).T) 85 ⟨⟨Tryz.f85,ax 85⟩,[Wk]⟩ }
theorem abp:aF Ow Tryz.prog:=(aF.bK (ab.all FX rfl) Tryz.func85 rfl bg λc hc=>by cases hc;exact au.cons (au.nil) (by kernel_rfl) am5)
noncomputable def Bs (sh:Sh) (name:Int):T (Bool):=
 .bd (BZ sh name) λy0=>
  .gd (CX y0.1 y0.2 ((↑y0.1.size:Int)) 0)<|
   .bd (uW sh y0.1 y0.2 ((↑y0.1.size:Int)) 0) λy1=>
    .bf (y1.2.1) (
     .ok (decide ((↑y0.1.size:Int)>0)))<|
    .ok false
noncomputable def B8 (sh:Sh) (name:Int):Option (Bool):=sh.s _ (Bs sh name).val
theorem apq {R:Type} (name:Int) (k:Rs SS->Option R):bu Ow 100 85 [KK.aa 28 name] [] (bD KK [4] k)=(Bs shut name).run (λr=>k (.ret (.s (KK.aa 4 r)))):=by kernel_rfl
noncomputable def aff (sh:Sh):bq SS:=bw KK 85 [28] (λ{R} xs k=>match xs with| .cons name .nil=>(B8 sh name).bind (λr=>k (.ret (.s (KK.aa 4 r)))))
noncomputable def uP (sh:Sh):az SS:= { (uO sh) with C:=aff sh::(uO sh).C }
theorem zH:ab (uP shut) Tryz.prog:=ab.bB FX λxs k z _ hz=>bG abp (λ{R} xs k z h=>by
 match xs,h with
 | .cons name .nil,h=>exact⟨100,(apq name k).trans (bH h)⟩) hz
noncomputable def I5 (U:List ar) (p1:Int) (p2:List ar) (p3 p4 p5 p6:Int):AS SS:=⟨[(1,(va 0 0)),(4,(va 1 0)),(8,(vd 27 U)),(9,(vi (↑U.length:Int))),(10,(vi p1)),(50,(vd 27 p2)),(51,(vi (↑p2.length:Int))),(52,(vi p6))],[(bX 30 [(.aP 27 U),(lu p3)]),(bX 71 [(lu p4),(lu p5)])],0,none,false,[],[]⟩
noncomputable def Mq (U:List ar) (p1:Int) (p2:List ar) (p3 p4 p5:Int):AS SS:=I5 U p1 p2 p3 p4 p5 0
noncomputable def ahd (U:List ar) (p1:Int) (p2:List ar) (p3 p4 p5:Int):AS SS:=⟨[(2,(vb false))],[],0,none,false,[],[]⟩
noncomputable def ahe (U:List ar) (p1:Int) (p2:List ar) (p3 p4 p5:Int) (a0:Bool) (a1:Int):AS SS:= { I5 U p1 p2 p3 p4 p5 p1 with env:=[(53,(vb a0)),(1,(va 0 0)),(4,(va 1 0)),(8,(vd 27 U)),(9,(vi (↑U.length:Int))),(10,(vi p1)),(50,(vd 27 p2)),(51,(vi (↑p2.length:Int))),(52,(vi a1))] }
noncomputable def Ak (sh:Sh) (U:List ar) (p1:Int) (p2:List ar) (p3 p4 p5 p6:Int) (z0:ar) (a:Unit):T (Unit ⊕ Unit ⊕ (Bool×Int)):=
 .bf (z0.bY==p4) (
  .ok (.inr (.inl ())))<|
 .ok (.inl ())
noncomputable def yK (sh:Sh) (U:List ar) (p1:Int) (p2:List ar) (p3 p4 p5 p6:Int) (a:Unit):T (Unit ⊕ (Bool×Int)):=
 .ok (.inr ((decide (p6<(↑p2.length:Int))),p6))
noncomputable def zO (sh:Sh) (U:List ar) (p1:Int) (p2:List ar) (p3 p4 p5:Int):Option (Unit ⊕ (Bool×Int)):=cg sh (Ak sh U p1 p2 p3 p4 p5) (yK sh U p1 p2 p3 p4 p5) p2 ()
noncomputable def acR {R:Type} (k:AX->AS SS->Option R) (U:List ar) (p1:Int) (p2:List ar) (p3 p4 p5:Int) (x:Unit ⊕ (Bool×Int)):Option R:=(λx=>Sum.rec (λv=>k .ret (ahd U p1 p2 p3 p4 p5)) (λv=>k (.exit 2) (ahe U p1 p2 p3 p4 p5 v.1 v.2)) x) x
noncomputable def K7:bo SS:=bJ 8 (λst=>(bb 27 (aS st 8 0)).bind λU=>(bE (aS st 10 0)).bind λp1=>(bb 27 (aS st 50 0)).bind λp2=>(bE (aZ st 0 1)).bind λp3=>(bE (aZ st 1 0)).bind λp4=>(bE (aZ st 1 1)).bind λp5=>some (U,p1,p2,p3,p4,p5)) (λp=>Mq p.1 p.2.1 p.2.2.1 p.2.2.2.1 p.2.2.2.2.1 p.2.2.2.2.2) (λp=>zO shut p.1 p.2.1 p.2.2.1 p.2.2.2.1 p.2.2.2.2.1 p.2.2.2.2.2) (λk p=>acR k p.1 p.2.1 p.2.2.1 p.2.2.2.1 p.2.2.2.2.1 p.2.2.2.2.2)
theorem Xw:aC KK Tryz.prog ⟨Tryz.f42,ax 42⟩ (bI (aU Tryz.f42) 8) K7:=
 aC.ck (π:=List ar×Int×List ar×Int×Int×Int) (σ:=Unit) (ab.all zH rfl) (au.nil) rfl 60 (λp i a=>I5 p.1 p.2.1 p.2.2.1 p.2.2.2.1 p.2.2.2.2.1 p.2.2.2.2.2 i) (λp=>p.2.2.1) (λp=>()) (St:=λp=>Ak shut p.1 p.2.1 p.2.2.1 p.2.2.2.1 p.2.2.2.2.1 p.2.2.2.2.2) (F:=λp=>yK shut p.1 p.2.1 p.2.2.1 p.2.2.2.1 p.2.2.2.2.1 p.2.2.2.2.2) (λp=>rfl)
  (λm p i a k=>by kernel_rfl) (by rintro p (x|x)<;>exact⟨_,_,λ_=>rfl⟩) (λp N C A O w a hr=>cH hr (t:=27) (sl:=50) rfl λv h=>h)
noncomputable def I4 (U:List ar) (p1 p2:Int):AS SS:=⟨[(1,(va 0 0)),(8,(vd 27 U)),(9,(vi (↑U.length:Int))),(10,(vi p2))],[(bX 30 [(.aP 27 U),(lu p1)])],0,none,false,[],[]⟩
noncomputable def YM (U:List ar) (p1:Int):AS SS:=I4 U p1 0
noncomputable def ahb (U:List ar) (p1:Int):AS SS:=⟨[(2,(vb false))],[],0,none,false,[],[]⟩
noncomputable def ahc (U:List ar) (p1:Int) (a0:Bool) (a1:Int):AS SS:= { I4 U p1 p1 with env:=[(11,(vb a0)),(1,(va 0 0)),(8,(vd 27 U)),(9,(vi (↑U.length:Int))),(10,(vi a1))] }
noncomputable def Aj (sh:Sh) (U:List ar) (p1 p2:Int) (z0:ar) (a:Unit):T (Unit ⊕ Unit ⊕ (Bool×Int)):=
 .bd (B7 sh z0.bY) λy1=>
  .bf (!y1) (
   .ok (.inr (.inl ())))<|
  .bf (decide (z0.bc<1)) (
   .ok (.inr (.inl ())))<|
  .bf (decide (z0.bc>=p1)) (
   .ok (.inr (.inl ())))<|
  .bf (decide (p2>0)) (
   .bd (idx U (IntKind.i64.wrap (p2-1))) λz2=>
    .bf (decide (z2.bc>=z0.bc)) (
     .ok (.inr (.inl ())))<|
    .bd (gq U none (some p2) none) λz3=>
     .gd (Mq U p2 z3 p1 z0.bY z0.bc)<|
      .bd (zO sh U p2 z3 p1 z0.bY z0.bc) λx7=> .cs x7 (λ_=>
       .ok (.inr (.inl ()))) λy4=>
       .ok (.inl ()))<|
  .bd (gq U none (some p2) none) λz2=>
   .gd (Mq U p2 z2 p1 z0.bY z0.bc)<|
    .bd (zO sh U p2 z2 p1 z0.bY z0.bc) λx5=> .cs x5 (λ_=>
     .ok (.inr (.inl ()))) λy3=>
     .ok (.inl ())
noncomputable def yJ (sh:Sh) (U:List ar) (p1 p2:Int) (a:Unit):T (Unit ⊕ (Bool×Int)):=
 .ok (.inr ((decide (p2<(↑U.length:Int))),p2))
noncomputable def Gn (sh:Sh) (U:List ar) (p1:Int):Option (Unit ⊕ (Bool×Int)):=cg sh (Aj sh U p1) (yJ sh U p1) U ()
noncomputable def acQ {R:Type} (k:AX->AS SS->Option R) (U:List ar) (p1:Int) (x:Unit ⊕ (Bool×Int)):Option R:=(λx=>Sum.rec (λv=>k .ret (ahb U p1)) (λv=>k (.exit 0) (ahc U p1 v.1 v.2)) x) x
noncomputable def V4:bo SS:=bJ 3 (λst=>(bb 27 (aS st 8 0)).bind λU=>(bE (aZ st 0 1)).bind λp1=>some (U,p1)) (λp=>YM p.1 p.2) (λp=>Gn shut p.1 p.2) (λk p=>acQ k p.1 p.2)
theorem amJ:aC KK Tryz.prog ⟨Tryz.f42,ax 42⟩ (bI (aU Tryz.f42) 3) V4:=
 aC.ck (I:=⟨⟨Tryz.f42,ax 42⟩,[K7]⟩) (π:=List ar×Int) (σ:=Unit) (ab.all zH rfl) (au.cons (au.nil) (by kernel_rfl) Xw) rfl 60 (λp i a=>I4 p.1 p.2 i) (λp=>p.1) (λp=>()) (St:=λp=>Aj shut p.1 p.2) (F:=λp=>yJ shut p.1 p.2) (λp=>rfl)
  (λm p i a k=>by kernel_rfl) (by rintro p (x|x)<;>exact⟨_,_,λ_=>rfl⟩) (λp N C A O w a hr=>cH hr (t:=27) (sl:=8) rfl λv h=>h)
noncomputable def Oa:az SS:= { (uP shut) with T:=bl ((uP shut).T) 42 ⟨⟨Tryz.f42,ax 42⟩,[K7,V4]⟩ }
theorem aa8:aF Oa Tryz.prog:=(aF.bK (ab.all zH rfl) Tryz.func42 rfl bg λc hc=>by cases hc;exact au.cons (au.cons (au.nil) (by kernel_rfl) amJ) (by kernel_rfl) Xw)
noncomputable def A7 (sh:Sh) (m:cz):T (Bool):=
 .gd (YM m.ao m.bz)<|
  .bd (Gn sh m.ao m.bz) λx3=> .cs x3 (λ_=>
   .ok false) λy0=>
   .bf (decide ((↑m.ao.length:Int)<=16)) (
    .bf (decide (m.bz>=1)) (
     .ok (decide (m.bz<=1073741825)))<|
    .ok false)<|
   .ok false
noncomputable def B5 (sh:Sh) (m:cz):Option (Bool):=sh.s _ (A7 sh m).val
theorem ao0 {R:Type} (m:cz) (k:Rs SS->Option R):bu Oa 100 42 [KK.aa 30 m] [] (bD KK [4] k)=(A7 shut m).run (λr=>k (.ret (.s (KK.aa 4 r)))):=by kernel_rfl
noncomputable def aeO (sh:Sh):bq SS:=bw KK 42 [30] (λ{R} xs k=>match xs with| .cons m .nil=>(B5 sh m).bind (λr=>k (.ret (.s (KK.aa 4 r)))))
noncomputable def uz (sh:Sh):az SS:= { (uP sh) with C:=aeO sh::(uP sh).C }
theorem zq:ab (uz shut) Tryz.prog:=ab.bB zH λxs k z _ hz=>bG aa8 (λ{R} xs k z h=>by
 match xs,h with
 | .cons m .nil,h=>exact⟨100,(ao0 m k).trans (bH h)⟩) hz
noncomputable def I6 (U:List aw) (p1:List an) (p2:Int):AS SS:=⟨[(1,(va 0 0)),(8,(vd 31 U)),(9,(vi (↑U.length:Int))),(10,(vi p2))],[(bX 34 [(.aP 31 U),(.aP 32 p1)])],0,none,false,[],[]⟩
noncomputable def YN (U:List aw) (p1:List an):AS SS:=I6 U p1 0
noncomputable def ahf (U:List aw) (p1:List an):AS SS:=⟨[(2,(vb false))],[],0,none,false,[],[]⟩
noncomputable def ahg (U:List aw) (p1:List an) (a0:Bool) (a1:Int):AS SS:= { I6 U p1 a1 with env:=[(11,(vb a0)),(1,(va 0 0)),(8,(vd 31 U)),(9,(vi (↑U.length:Int))),(10,(vi a1))] }
noncomputable def Al (sh:Sh) (U:List aw) (p1:List an) (p2:Int) (z0:aw) (a:Unit):T (Unit ⊕ Unit ⊕ (Bool×Int)):=
 .bd (B8 sh z0.cB) λy1=>
  .bf (!y1) (
   .ok (.inr (.inl ())))<|
  .bd (B9 sh z0.ae) λy2=>
   .bf (!y2) (
    .ok (.inr (.inl ())))<|
   .bf (decide (p2>0)) (
    .bd (idx U (IntKind.i64.wrap (p2-1))) λz3=>
     .bf (decide (z3.cB>=z0.cB)) (
      .ok (.inr (.inl ())))<|
     .ok (.inl ()))<|
   .ok (.inl ())
noncomputable def yL (sh:Sh) (U:List aw) (p1:List an) (p2:Int) (a:Unit):T (Unit ⊕ (Bool×Int)):=
 .ok (.inr ((decide (p2<(↑U.length:Int))),p2))
noncomputable def Gp (sh:Sh) (U:List aw) (p1:List an):Option (Unit ⊕ (Bool×Int)):=cg sh (Al sh U p1) (yL sh U p1) U ()
noncomputable def acS {R:Type} (k:AX->AS SS->Option R) (U:List aw) (p1:List an) (x:Unit ⊕ (Bool×Int)):Option R:=(λx=>Sum.rec (λv=>k .ret (ahf U p1)) (λv=>k (.exit 0) (ahg U p1 v.1 v.2)) x) x
noncomputable def V5:bo SS:=bJ 3 (λst=>(bb 31 (aS st 8 0)).bind λU=>(bb 32 (aZ st 0 1)).bind λp1=>some (U,p1)) (λp=>YN p.1 p.2) (λp=>Gp shut p.1 p.2) (λk p=>acS k p.1 p.2)
theorem amK:aC KK Tryz.prog ⟨Tryz.f43,ax 43⟩ (bI (aU Tryz.f43) 3) V5:=
 aC.ck (π:=List aw×List an) (σ:=Unit) (ab.all zq rfl) (au.nil) rfl 60 (λp i a=>I6 p.1 p.2 i) (λp=>p.1) (λp=>()) (St:=λp=>Al shut p.1 p.2) (F:=λp=>yL shut p.1 p.2) (λp=>rfl)
  (λm p i a k=>by kernel_rfl) (by rintro p (x|x)<;>exact⟨_,_,λ_=>rfl⟩) (λp N C A O w a hr=>cH hr (t:=31) (sl:=8) rfl λv h=>h)
noncomputable def I7 (U:List an) (p1:List aw) (p2:Int):AS SS:=⟨[(1,(va 0 0)),(43,(vd 32 U)),(44,(vi (↑U.length:Int))),(45,(vi p2))],[(bX 34 [(.aP 31 p1),(.aP 32 U)])],0,none,false,[],[]⟩
noncomputable def YO (U:List an) (p1:List aw):AS SS:=I7 U p1 0
noncomputable def ahh (U:List an) (p1:List aw):AS SS:=⟨[(2,(vb false))],[],0,none,false,[],[]⟩
noncomputable def ahi (U:List an) (p1:List aw) (a0:Bool) (a1:Int):AS SS:= { I7 U p1 a1 with env:=[(46,(vb a0)),(1,(va 0 0)),(43,(vd 32 U)),(44,(vi (↑U.length:Int))),(45,(vi a1))] }
noncomputable def Am (sh:Sh) (U:List an) (p1:List aw) (p2:Int) (z0:an) (a:Unit):T (Unit ⊕ Unit ⊕ (Bool×Int)):=
 .bd (B9 sh z0.ae) λy1=>
  .bf (!y1) (
   .ok (.inr (.inl ())))<|
  .bf ((↑z0.a_.length:Int)==0) (
   .ok (.inr (.inl ())))<|
  .bf (decide ((↑z0.a_.length:Int)>4)) (
   .ok (.inr (.inl ())))<|
  .bf (decide (p2>0)) (
   .bd (idx U (IntKind.i64.wrap (p2-1))) λz2=>
    .bf (decide (z2.ae>=z0.ae)) (
     .ok (.inr (.inl ())))<|
    .ok (.inl ()))<|
  .ok (.inl ())
noncomputable def yM (sh:Sh) (U:List an) (p1:List aw) (p2:Int) (a:Unit):T (Unit ⊕ (Bool×Int)):=
 .ok (.inr ((decide (p2<(↑U.length:Int))),p2))
noncomputable def Gq (sh:Sh) (U:List an) (p1:List aw):Option (Unit ⊕ (Bool×Int)):=cg sh (Am sh U p1) (yM sh U p1) U ()
noncomputable def acT {R:Type} (k:AX->AS SS->Option R) (U:List an) (p1:List aw) (x:Unit ⊕ (Bool×Int)):Option R:=(λx=>Sum.rec (λv=>k .ret (ahh U p1)) (λv=>k (.exit 2) (ahi U p1 v.1 v.2)) x) x
noncomputable def V6:bo SS:=bJ 9 (λst=>(bb 32 (aS st 43 0)).bind λU=>(bb 31 (aZ st 0 0)).bind λp1=>some (U,p1)) (λp=>YO p.1 p.2) (λp=>Gq shut p.1 p.2) (λk p=>acT k p.1 p.2)
theorem amL:aC KK Tryz.prog ⟨Tryz.f43,ax 43⟩ (bI (aU Tryz.f43) 9) V6:=
 aC.ck (π:=List an×List aw) (σ:=Unit) (ab.all zq rfl) (au.nil) rfl 60 (λp i a=>I7 p.1 p.2 i) (λp=>p.1) (λp=>()) (St:=λp=>Am shut p.1 p.2) (F:=λp=>yM shut p.1 p.2) (λp=>rfl)
  (λm p i a k=>by kernel_rfl) (by rintro p (x|x)<;>exact⟨_,_,λ_=>rfl⟩) (λp N C A O w a hr=>cH hr (t:=32) (sl:=43) rfl λv h=>h)
noncomputable def Oc:az SS:= { (uz shut) with T:=bl ((uz shut).T) 43 ⟨⟨Tryz.f43,ax 43⟩,[V5,V6]⟩ }
theorem aa9:aF Oc Tryz.prog:=(aF.bK (ab.all zq rfl) Tryz.func43 rfl bg λc hc=>by cases hc;exact au.cons (au.cons (au.nil) (by kernel_rfl) amL) (by kernel_rfl) amK)
noncomputable def A8 (sh:Sh) (s:bh):T (Bool):=
 .gd (YN s.aK s.ay)<|
  .bd (Gp sh s.aK s.ay) λx3=> .cs x3 (λ_=>
   .ok false) λy0=>
   .gd (YO s.ay s.aK)<|
    .bd (Gq sh s.ay s.aK) λx5=> .cs x5 (λ_=>
     .ok false) λy1=>
     .ok (decide ((↑s.aK.length:Int)<=16))
noncomputable def H_ (sh:Sh) (s:bh):Option (Bool):=sh.s _ (A8 sh s).val
theorem ao1 {R:Type} (s:bh) (k:Rs SS->Option R):bu Oc 100 43 [KK.aa 34 s] [] (bD KK [4] k)=(A8 shut s).run (λr=>k (.ret (.s (KK.aa 4 r)))):=by kernel_rfl
noncomputable def aeP (sh:Sh):bq SS:=bw KK 43 [34] (λ{R} xs k=>match xs with| .cons s .nil=>(H_ sh s).bind (λr=>k (.ret (.s (KK.aa 4 r)))))
noncomputable def uA (sh:Sh):az SS:= { (uz sh) with C:=aeP sh::(uz sh).C }
theorem uB:ab (uA shut) Tryz.prog:=ab.bB zq λxs k z _ hz=>bG aa9 (λ{R} xs k z h=>by
 match xs,h with
 | .cons s .nil,h=>exact⟨100,(ao1 s k).trans (bH h)⟩) hz
noncomputable def IJ (U:List aj) (p1:List Int) (p2:List ah) (p3:List ar) (p4:Int) (p5:List aw) (p6:List an) (p7:Int):AS SS:=⟨[(1,(va 0 0)),(32,(vd 26 U)),(33,(vi (↑U.length:Int))),(34,(vi p7))],[(bX 36 [(.bR .i64 16 p1),(.aP 23 p2),(.aP 26 U),(.aP 27 p3),(lu p4),(.aP 31 p5),(.aP 32 p6)])],0,none,false,[],[]⟩
noncomputable def Yn (U:List aj) (p1:List Int) (p2:List ah) (p3:List ar) (p4:Int) (p5:List aw) (p6:List an):AS SS:=IJ U p1 p2 p3 p4 p5 p6 0
noncomputable def afV (U:List aj) (p1:List Int) (p2:List ah) (p3:List ar) (p4:Int) (p5:List aw) (p6:List an):AS SS:=⟨[(2,(vb false))],[],0,none,false,[],[]⟩
noncomputable def afW (U:List aj) (p1:List Int) (p2:List ah) (p3:List ar) (p4:Int) (p5:List aw) (p6:List an) (a0:Bool) (a1:Int):AS SS:= { IJ U p1 p2 p3 p4 p5 p6 p4 with env:=[(35,(vb a0)),(1,(va 0 0)),(32,(vd 26 U)),(33,(vi (↑U.length:Int))),(34,(vi a1))] }
noncomputable def Ab (sh:Sh) (U:List aj) (p1:List Int) (p2:List ah) (p3:List ar) (p4:Int) (p5:List aw) (p6:List an) (p7:Int) (z0:aj) (a:Unit):T (Unit ⊕ Unit ⊕ (Bool×Int)):=
 .bd (vD sh (bF.mk (b_.mk p1 p2) U (cz.mk p3 p4) (bh.mk p5 p6)) z0.ae) λy1=>
  .bf (!y1) (
   .ok (.inr (.inl ())))<|
  .bd (H' sh (bF.mk (b_.mk p1 p2) U (cz.mk p3 p4) (bh.mk p5 p6)) z0.c8) λy2=>
   .bf (!y2) (
    .ok (.inr (.inl ())))<|
   .ok (.inl ())
noncomputable def yA (sh:Sh) (U:List aj) (p1:List Int) (p2:List ah) (p3:List ar) (p4:Int) (p5:List aw) (p6:List an) (p7:Int) (a:Unit):T (Unit ⊕ (Bool×Int)):=
 .ok (.inr ((decide (p7<(↑U.length:Int))),p7))
noncomputable def F7 (sh:Sh) (U:List aj) (p1:List Int) (p2:List ah) (p3:List ar) (p4:Int) (p5:List aw) (p6:List an):Option (Unit ⊕ (Bool×Int)):=cg sh (Ab sh U p1 p2 p3 p4 p5 p6) (yA sh U p1 p2 p3 p4 p5 p6) U ()
noncomputable def ab1 {R:Type} (k:AX->AS SS->Option R) (U:List aj) (p1:List Int) (p2:List ah) (p3:List ar) (p4:Int) (p5:List aw) (p6:List an) (x:Unit ⊕ (Bool×Int)):Option R:=(λx=>Sum.rec (λv=>k .ret (afV U p1 p2 p3 p4 p5 p6)) (λv=>k (.exit 0) (afW U p1 p2 p3 p4 p5 p6 v.1 v.2)) x) x
noncomputable def Vu:bo SS:=bJ 5 (λst=>(bb 26 (aS st 32 0)).bind λU=>(fN (aZ st 0 0)).bind λp1=>(bb 23 (aZ st 0 1)).bind λp2=>(bb 27 (aZ st 0 3)).bind λp3=>(bE (aZ st 0 4)).bind λp4=>(bb 31 (aZ st 0 5)).bind λp5=>(bb 32 (aZ st 0 6)).bind λp6=>some (U,p1,p2,p3,p4,p5,p6)) (λp=>Yn p.1 p.2.1 p.2.2.1 p.2.2.2.1 p.2.2.2.2.1 p.2.2.2.2.2.1 p.2.2.2.2.2.2) (λp=>F7 shut p.1 p.2.1 p.2.2.1 p.2.2.2.1 p.2.2.2.2.1 p.2.2.2.2.2.1 p.2.2.2.2.2.2) (λk p=>ab1 k p.1 p.2.1 p.2.2.1 p.2.2.2.1 p.2.2.2.2.1 p.2.2.2.2.2.1 p.2.2.2.2.2.2)
theorem al4:aC KK Tryz.prog ⟨Tryz.f10,ax 10⟩ (bI (aU Tryz.f10) 5) Vu:=
 aC.ck (π:=List aj×List Int×List ah×List ar×Int×List aw×List an) (σ:=Unit) (ab.all uB rfl) (au.nil) rfl 60 (λp i a=>IJ p.1 p.2.1 p.2.2.1 p.2.2.2.1 p.2.2.2.2.1 p.2.2.2.2.2.1 p.2.2.2.2.2.2 i) (λp=>p.1) (λp=>()) (St:=λp=>Ab shut p.1 p.2.1 p.2.2.1 p.2.2.2.1 p.2.2.2.2.1 p.2.2.2.2.2.1 p.2.2.2.2.2.2) (F:=λp=>yA shut p.1 p.2.1 p.2.2.1 p.2.2.2.1 p.2.2.2.2.1 p.2.2.2.2.2.1 p.2.2.2.2.2.2) (λp=>rfl)
  (λm p i a k=>by kernel_rfl) (by rintro p (x|x)<;>exact⟨_,_,λ_=>rfl⟩) (λp N C A O w a hr=>cH hr (t:=26) (sl:=32) rfl λv h=>h)
noncomputable def IH (U:List aw) (p1:List Int) (p2:List ah) (p3:List aj) (p4:List ar) (p5:Int) (p6:List an) (p7:Int):AS SS:=⟨[(1,(va 0 0)),(53,(vd 31 U)),(54,(vi (↑U.length:Int))),(55,(vi p7))],[(bX 36 [(.bR .i64 16 p1),(.aP 23 p2),(.aP 26 p3),(.aP 27 p4),(lu p5),(.aP 31 U),(.aP 32 p6)])],0,none,false,[],[]⟩
noncomputable def Yl (U:List aw) (p1:List Int) (p2:List ah) (p3:List aj) (p4:List ar) (p5:Int) (p6:List an):AS SS:=IH U p1 p2 p3 p4 p5 p6 0
noncomputable def afR (U:List aw) (p1:List Int) (p2:List ah) (p3:List aj) (p4:List ar) (p5:Int) (p6:List an):AS SS:=⟨[(2,(vb false))],[],0,none,false,[],[]⟩
noncomputable def afS (U:List aw) (p1:List Int) (p2:List ah) (p3:List aj) (p4:List ar) (p5:Int) (p6:List an) (a0:Bool) (a1:Int):AS SS:= { IH U p1 p2 p3 p4 p5 p6 p5 with env:=[(56,(vb a0)),(1,(va 0 0)),(53,(vd 31 U)),(54,(vi (↑U.length:Int))),(55,(vi a1))] }
noncomputable def z_ (sh:Sh) (U:List aw) (p1:List Int) (p2:List ah) (p3:List aj) (p4:List ar) (p5:Int) (p6:List an) (p7:Int) (z0:aw) (a:Unit):T (Unit ⊕ Unit ⊕ (Bool×Int)):=
 .bd (vD sh (bF.mk (b_.mk p1 p2) p3 (cz.mk p4 p5) (bh.mk U p6)) z0.ae) λy1=>
  .bf (!y1) (
   .ok (.inr (.inl ())))<|
  .ok (.inl ())
noncomputable def yy (sh:Sh) (U:List aw) (p1:List Int) (p2:List ah) (p3:List aj) (p4:List ar) (p5:Int) (p6:List an) (p7:Int) (a:Unit):T (Unit ⊕ (Bool×Int)):=
 .ok (.inr ((decide (p7<(↑U.length:Int))),p7))
noncomputable def F5 (sh:Sh) (U:List aw) (p1:List Int) (p2:List ah) (p3:List aj) (p4:List ar) (p5:Int) (p6:List an):Option (Unit ⊕ (Bool×Int)):=cg sh (z_ sh U p1 p2 p3 p4 p5 p6) (yy sh U p1 p2 p3 p4 p5 p6) U ()
noncomputable def abZ {R:Type} (k:AX->AS SS->Option R) (U:List aw) (p1:List Int) (p2:List ah) (p3:List aj) (p4:List ar) (p5:Int) (p6:List an) (x:Unit ⊕ (Bool×Int)):Option R:=(λx=>Sum.rec (λv=>k .ret (afR U p1 p2 p3 p4 p5 p6)) (λv=>k (.exit 2) (afS U p1 p2 p3 p4 p5 p6 v.1 v.2)) x) x
noncomputable def Vs:bo SS:=bJ 11 (λst=>(bb 31 (aS st 53 0)).bind λU=>(fN (aZ st 0 0)).bind λp1=>(bb 23 (aZ st 0 1)).bind λp2=>(bb 26 (aZ st 0 2)).bind λp3=>(bb 27 (aZ st 0 3)).bind λp4=>(bE (aZ st 0 4)).bind λp5=>(bb 32 (aZ st 0 6)).bind λp6=>some (U,p1,p2,p3,p4,p5,p6)) (λp=>Yl p.1 p.2.1 p.2.2.1 p.2.2.2.1 p.2.2.2.2.1 p.2.2.2.2.2.1 p.2.2.2.2.2.2) (λp=>F5 shut p.1 p.2.1 p.2.2.1 p.2.2.2.1 p.2.2.2.2.1 p.2.2.2.2.2.1 p.2.2.2.2.2.2) (λk p=>abZ k p.1 p.2.1 p.2.2.1 p.2.2.2.1 p.2.2.2.2.1 p.2.2.2.2.2.1 p.2.2.2.2.2.2)
theorem al2:aC KK Tryz.prog ⟨Tryz.f10,ax 10⟩ (bI (aU Tryz.f10) 11) Vs:=
 aC.ck (π:=List aw×List Int×List ah×List aj×List ar×Int×List an) (σ:=Unit) (ab.all uB rfl) (au.nil) rfl 60 (λp i a=>IH p.1 p.2.1 p.2.2.1 p.2.2.2.1 p.2.2.2.2.1 p.2.2.2.2.2.1 p.2.2.2.2.2.2 i) (λp=>p.1) (λp=>()) (St:=λp=>z_ shut p.1 p.2.1 p.2.2.1 p.2.2.2.1 p.2.2.2.2.1 p.2.2.2.2.2.1 p.2.2.2.2.2.2) (F:=λp=>yy shut p.1 p.2.1 p.2.2.1 p.2.2.2.1 p.2.2.2.2.1 p.2.2.2.2.2.1 p.2.2.2.2.2.2) (λp=>rfl)
  (λm p i a k=>by kernel_rfl) (by rintro p (x|x)<;>exact⟨_,_,λ_=>rfl⟩) (λp N C A O w a hr=>cH hr (t:=31) (sl:=53) rfl λv h=>h)
noncomputable def II (U:List an) (p1:List Int) (p2:List ah) (p3:List aj) (p4:List ar) (p5:Int) (p6:List aw) (p7:Int):AS SS:=⟨[(1,(va 0 0)),(67,(vd 32 U)),(68,(vi (↑U.length:Int))),(69,(vi p7))],[(bX 36 [(.bR .i64 16 p1),(.aP 23 p2),(.aP 26 p3),(.aP 27 p4),(lu p5),(.aP 31 p6),(.aP 32 U)])],0,none,false,[],[]⟩
noncomputable def Ym (U:List an) (p1:List Int) (p2:List ah) (p3:List aj) (p4:List ar) (p5:Int) (p6:List aw):AS SS:=II U p1 p2 p3 p4 p5 p6 0
noncomputable def afT (U:List an) (p1:List Int) (p2:List ah) (p3:List aj) (p4:List ar) (p5:Int) (p6:List aw):AS SS:=⟨[(2,(vb false))],[],0,none,false,[],[]⟩
noncomputable def afU (U:List an) (p1:List Int) (p2:List ah) (p3:List aj) (p4:List ar) (p5:Int) (p6:List aw) (a0:Bool) (a1:Int):AS SS:= { II U p1 p2 p3 p4 p5 p6 p5 with env:=[(70,(vb a0)),(1,(va 0 0)),(67,(vd 32 U)),(68,(vi (↑U.length:Int))),(69,(vi a1))] }
noncomputable def Aa (sh:Sh) (U:List an) (p1:List Int) (p2:List ah) (p3:List aj) (p4:List ar) (p5:Int) (p6:List aw) (p7:Int) (z0:an) (a:Unit):T (Unit ⊕ Unit ⊕ (Bool×Int)):=
 .bd (vD sh (bF.mk (b_.mk p1 p2) p3 (cz.mk p4 p5) (bh.mk p6 U)) z0.ae) λy1=>
  .bf (!y1) (
   .ok (.inr (.inl ())))<|
  .ok (.inl ())
noncomputable def yz (sh:Sh) (U:List an) (p1:List Int) (p2:List ah) (p3:List aj) (p4:List ar) (p5:Int) (p6:List aw) (p7:Int) (a:Unit):T (Unit ⊕ (Bool×Int)):=
 .ok (.inr ((decide (p7<(↑U.length:Int))),p7))
noncomputable def F6 (sh:Sh) (U:List an) (p1:List Int) (p2:List ah) (p3:List aj) (p4:List ar) (p5:Int) (p6:List aw):Option (Unit ⊕ (Bool×Int)):=cg sh (Aa sh U p1 p2 p3 p4 p5 p6) (yz sh U p1 p2 p3 p4 p5 p6) U ()
noncomputable def ab0 {R:Type} (k:AX->AS SS->Option R) (U:List an) (p1:List Int) (p2:List ah) (p3:List aj) (p4:List ar) (p5:Int) (p6:List aw) (x:Unit ⊕ (Bool×Int)):Option R:=(λx=>Sum.rec (λv=>k .ret (afT U p1 p2 p3 p4 p5 p6)) (λv=>k (.exit 4) (afU U p1 p2 p3 p4 p5 p6 v.1 v.2)) x) x
noncomputable def Vt:bo SS:=bJ 17 (λst=>(bb 32 (aS st 67 0)).bind λU=>(fN (aZ st 0 0)).bind λp1=>(bb 23 (aZ st 0 1)).bind λp2=>(bb 26 (aZ st 0 2)).bind λp3=>(bb 27 (aZ st 0 3)).bind λp4=>(bE (aZ st 0 4)).bind λp5=>(bb 31 (aZ st 0 5)).bind λp6=>some (U,p1,p2,p3,p4,p5,p6)) (λp=>Ym p.1 p.2.1 p.2.2.1 p.2.2.2.1 p.2.2.2.2.1 p.2.2.2.2.2.1 p.2.2.2.2.2.2) (λp=>F6 shut p.1 p.2.1 p.2.2.1 p.2.2.2.1 p.2.2.2.2.1 p.2.2.2.2.2.1 p.2.2.2.2.2.2) (λk p=>ab0 k p.1 p.2.1 p.2.2.1 p.2.2.2.1 p.2.2.2.2.1 p.2.2.2.2.2.1 p.2.2.2.2.2.2)
theorem al3:aC KK Tryz.prog ⟨Tryz.f10,ax 10⟩ (bI (aU Tryz.f10) 17) Vt:=
 aC.ck (π:=List an×List Int×List ah×List aj×List ar×Int×List aw) (σ:=Unit) (ab.all uB rfl) (au.nil) rfl 60 (λp i a=>II p.1 p.2.1 p.2.2.1 p.2.2.2.1 p.2.2.2.2.1 p.2.2.2.2.2.1 p.2.2.2.2.2.2 i) (λp=>p.1) (λp=>()) (St:=λp=>Aa shut p.1 p.2.1 p.2.2.1 p.2.2.2.1 p.2.2.2.2.1 p.2.2.2.2.2.1 p.2.2.2.2.2.2) (F:=λp=>yz shut p.1 p.2.1 p.2.2.1 p.2.2.2.1 p.2.2.2.2.1 p.2.2.2.2.2.1 p.2.2.2.2.2.2) (λp=>rfl)
  (λm p i a k=>by kernel_rfl) (by rintro p (x|x)<;>exact⟨_,_,λ_=>rfl⟩) (λp N C A O w a hr=>cH hr (t:=32) (sl:=67) rfl λv h=>h)
noncomputable def Nl:az SS:= { (uA shut) with T:=bl ((uA shut).T) 10 ⟨⟨Tryz.f10,ax 10⟩,[Vu,Vs,Vt]⟩ }
theorem aad:aF Nl Tryz.prog:=(aF.bK (ab.all uB rfl) Tryz.func10 rfl bg λc hc=>by cases hc;exact au.cons (au.cons (au.cons (au.nil) (by kernel_rfl) al3) (by kernel_rfl) al2) (by kernel_rfl) al4)
noncomputable def Az (sh:Sh) (s:bF):T (Bool):=
 .bd (H8 sh s.aG) λy0=>
  .bf (!y0) (
   .ok false)<|
  .bd (H9 sh s.bj) λy1=>
   .bf (!y1) (
    .ok false)<|
   .bd (B5 sh s.aI) λy2=>
    .bf (!y2) (
     .ok false)<|
    .bd (H_ sh s.aA) λy3=>
     .bf (!y3) (
      .ok false)<|
     .gd (Yn s.bj s.aG.aR s.aG.ao s.aI.ao s.aI.bz s.aA.aK s.aA.ay)<|
      .bd (F7 sh s.bj s.aG.aR s.aG.ao s.aI.ao s.aI.bz s.aA.aK s.aA.ay) λx7=> .cs x7 (λ_=>
       .ok false) λy4=>
       .gd (Yl s.aA.aK s.aG.aR s.aG.ao s.bj s.aI.ao s.aI.bz s.aA.ay)<|
        .bd (F5 sh s.aA.aK s.aG.aR s.aG.ao s.bj s.aI.ao s.aI.bz s.aA.ay) λx9=> .cs x9 (λ_=>
         .ok false) λy5=>
         .gd (Ym s.aA.ay s.aG.aR s.aG.ao s.bj s.aI.ao s.aI.bz s.aA.aK)<|
          .bd (F6 sh s.aA.ay s.aG.aR s.aG.ao s.bj s.aI.ao s.aI.bz s.aA.aK) λog=> .cs og (λ_=>
           .ok false) λy6=>
           .ok true
noncomputable def HE (sh:Sh) (s:bF):Option (Bool):=sh.s _ (Az sh s).val
theorem an9 {R:Type} (s:bF) (k:Rs SS->Option R):bu Nl 100 10 [KK.aa 36 s] [] (bD KK [4] k)=(Az shut s).run (λr=>k (.ret (.s (KK.aa 4 r)))):=by kernel_rfl
noncomputable def adT (sh:Sh):bq SS:=bw KK 10 [36] (λ{R} xs k=>match xs with| .cons s .nil=>(HE sh s).bind (λr=>k (.ret (.s (KK.aa 4 r)))))
noncomputable def E7 (sh:Sh):az SS:= { (uA sh) with C:=adT sh::(uA sh).C }
theorem abG:ab (E7 shut) Tryz.prog:=ab.bB uB λxs k z _ hz=>bG aad (λ{R} xs k z h=>by
 match xs,h with
 | .cons s .nil,h=>exact⟨100,(an9 s k).trans (bH h)⟩) hz
end Go.Proofs.YtdhaaaeffhaadaaGreatDoor
end
section
namespace Go.Proofs.YtdhaaaeffhaadaaGreatDoor
open Go.RowKit Go.Dc Go.Vx
set_option maxRecDepth 100000
theorem jH {x:Int} (h0: -9223372036854775808<=x) (h1:x<9223372036854775808):IntKind.i64.wrap x=x:=by
 simp[IntKind.wrap,IntKind.signed,IntKind.bits]
 omega
theorem yo {x:Int} (h0:0<=x) (h1:x<18446744073709551616):IntKind.u64.wrap x=x:=by
 simp[IntKind.wrap,IntKind.signed,IntKind.bits]
 omega
def ix (pid:Int):Int:=IntKind.i64.wrap (pid.tmod 64)
theorem U' {pid:Int} (h:0<=pid):ix pid=pid%64:=by
 unfold ix
 rw[Int.tmod_eq_emod_of_nonneg h]
 exact jH (by omega) (by omega)
@[simp] theorem ZK (pid:Int):vG aq pid=some (ix pid):=rfl
@[simp] theorem v93 (pid:Int):qo aq pid=some (ix pid):=rfl
def nU (l:List ah) (pid:Int):Option ah:=l.find? λz=>z.ae==pid
def ez (l:List ah) (pid:Int):Bool:=match nU l pid with|some z=>!z.bW|none=>false
theorem apI (l:List ah) (pid:Int):HL aq l pid=some (match nU l pid with|some z=>(z,true)|none=>(⟨0,0,false,0⟩,false)):=by
 show(AL aq l pid).val=_
 unfold AL F_ nU
 simp only[T.de,T.b8]
 show((dO (λi z a=>(Ae aq pid l i z a).val) (λi a=>(EK aq pid l i a).val) 0 l ()).bind _)=_
 rw[xU (p:=λz=>z.ae==pid) (e:=λz=> .inl (z.ae,z.bn,z.bW,z.cP))]
 ·cases List.find? (λz=>z.ae==pid) l with
  |none=>rfl
  |some z=>rfl
 ·intro i z _
  unfold Ae
  cases h:z.ae==pid<;>simp[h]
@[simp] theorem v87 (l:List ah) (pid:Int):B_ aq l pid=some (ez l pid):=by
 show(Bu aq l pid).val=_
 unfold Bu ez
 simp only[T.b8,apI,Option.bind_some]
 cases nU l pid<;>rfl
@[simp] theorem MO (s:bF) (pid:Int):vD aq s pid=some (ez s.aG.ao pid):=by
 show(A9 aq s pid).val=_
 unfold A9
 simp
def jV (p:b_) (x:ah):Bool:=decide (1<=ix x.ae)&&(decide (ix x.ae<=16)&&((x.ae/64+1==aN p.aR (ix x.ae-1).toNat)&&(!(x.bn==x.ae)&&((x.bn==0||ez p.ao x.bn)&&bif x.bW then x.bn !=0 else x.cP==0))))
def kT (g:List Int):Bool:=(List.range 16).all λi=>decide (0<=aN g i)&&decide (aN g i<=65536)
def jX (l:List ah) (i:Nat) (x:ah):Bool:=i==0||(match l[i-1]? with|some y=>decide (ix y.ae<ix x.ae)|none=>false)
def mP (p:b_):Bool:=kT p.aR&&(allI (λi x=>jV p x&&jX p.ao i x) 0 p.ao&&(match p.ao with|z::_=>iN z ⟨1,0,false,0⟩|[]=>false))
structure E5 (p:b_):Prop where
 pid: ∀x∈p.ao,0<=x.ae/\x.ae<18446744073709551616
 len:p.ao.length<=maxLen
theorem Va {pid:Int} (h:0<=pid):0<=ix pid/\ix pid<64:=by rw[U' h];omega
theorem xm {j:Int} {n:Nat} (h0:0<=j) (h1:j<n):fk j n=some j.toNat:=by
 unfold fk
 rw[if_pos ⟨h0,h1⟩]
theorem v80 {p:b_} {x:ah} (hx:0<=x.ae/\x.ae<18446744073709551616) (hg:kT p.aR=true):B6 aq p x=some (jV p x):=by
 show(Bo aq p x).val=_
 unfold Bo jV
 have hr:=Va hx.1
 simp only[T.b8,T.bZ,T.bO,ZK,v87,Option.bind_some]
 by_cases h1:ix x.ae<1
 ·simp[h1,show ¬(1<=ix x.ae) by omega]
 by_cases h2:ix x.ae>16
 ·simp[h1,h2,show ¬(ix x.ae<=16) by omega]
 have hw:IntKind.i64.wrap (ix x.ae-1)=ix x.ae-1:=jH (by omega) (by omega)
 have hi:fk (ix x.ae-1) 16=some (ix x.ae-1).toNat:=xm (by omega) (by omega)
 have lS:0<=aN p.aR (ix x.ae-1).toNat/\aN p.aR (ix x.ae-1).toNat<=65536:=by
  unfold kT at hg
  rw[List.all_eq_true] at hg
  have:=hg (ix x.ae-1).toNat (by simp;omega)
  simpa using this
 have hd:IntKind.u64.wrap (x.ae.tdiv 64)=x.ae/64:=by
  rw[Int.tdiv_eq_ediv_of_nonneg hx.1]
  exact yo (by omega) (by omega)
 have hc:(x.ae/64 !=IntKind.u64.wrap (IntKind.i64.wrap (aN p.aR (ix x.ae-1).toNat-1)))=!(x.ae/64+1==aN p.aR (ix x.ae-1).toNat):=by
  obtain⟨g,Ui⟩: ∃g,g=aN p.aR (ix x.ae-1).toNat:=⟨_,rfl⟩
  rw[<-Ui] at lS ⊢
  rw[jH (by omega) (by omega)]
  by_cases h0:g=0
  ·subst h0
   have:IntKind.u64.wrap (0-1)=18446744073709551615:=by decide
   rw[this]
   rw[Bool.eq_iff_iff]
   simp
   omega
  ·rw[yo (by omega) (by omega),Bool.eq_iff_iff]
   simp
   omega
 simp only[h1,h2,decide_false,cond_false,hw,hi,Option.bind_some,hd,hc,show(1<=ix x.ae) by omega,show(ix x.ae<=16) by omega,decide_true,Bool.true_and]
 cases x.ae/64+1==aN p.aR (ix x.ae-1).toNat<;>cases hp:x.bn==x.ae<;>simp
 cases hq:x.bn==0
 ·have:(x.bn !=0)=true:=by simp[bne,hq]
  simp only[this,cond_true,Bool.false_or]
  cases ez p.ao x.bn<;>cases x.bW<;>simp
 ·have:(x.bn !=0)=false:=by simp[bne,hq]
  simp only[this,cond_false,Bool.true_or,Bool.true_and]
  cases x.bW<;>simp
theorem Dr {α:Type} {l:List α} {i:Nat} (h:i<l.length) (hm:l.length<=maxLen) (h0:0<i):idx l (IntKind.i64.wrap ((i:Int)-1))=l[i-1]? :=by
 unfold maxLen at hm
 rw[jH (by omega) (by omega)]
 unfold idx
 rw[if_pos (by omega)]
 congr 1
 omega
theorem aiA {S:Int->T (Int ⊕ Unit ⊕ (Bool×Int))} {g:List Int} (hS: ∀a:Int,(S a).val=bif decide (a<16) then(fk a 16).bind λz0=>bif decide (aN g z0<0) then some (.inr (.inl ())) else bif decide (aN g z0>65536) then some (.inr (.inl ())) else some (.inl (IntKind.i64.wrap (a+1))) else some (.inr (.inr (decide (a<16),a)))):
  fu (λa=>(S a).val) 1000000 (0:Int)=some (bif kT g then .inr (false,16) else .inl ()):=by
 have h:=MW (step:=λa=>(S a).val) (q:=λa=>decide (0<=aN g a)&&decide (aN g a<=65536)) (x:=λ_=> .inl ()) (y:= .inr (false,16)) (N:=16) (λa ha=>by
  rw[hS,decide_eq_true (by omega:(a:Int)<16),cond_true,xm (by omega) (by omega),Option.bind_some,Int.toNat_natCast]
  by_cases h1:aN g a<0
  ·simp[h1,show ¬(0<=aN g a) by omega]
  by_cases h2:aN g a>65536
  ·simp[h1,h2,show ¬(aN g a<=65536) by omega]
  ·rw[jH (by omega) (by omega)]
   simp[h1,h2,show(0<=aN g a) by omega,show(aN g a<=65536) by omega]) (by rw[hS];rfl) (k:=16) (n:=1000000) (a:=0) rfl (by omega)
 rw[show((0:Nat):Int)=0 from rfl] at h
 rw[h]
 congr 1
 unfold kT
 rw[List.range_eq_range']
 cases hf:List.find? (λb=>!(decide (0<=aN g b)&&decide (aN g b<=65536))) (List.range' 0 16) with
 |none=>
  have:((List.range' 0 16).all λi=>decide (0<=aN g i)&&decide (aN g i<=65536))=true:=by
   rw[List.all_eq_true]
   intro i hi
   have:=List.find?_eq_none.1 hf i hi
   simpa using this
  rw[this];rfl
 |some b=>
  have:((List.range' 0 16).all λi=>decide (0<=aN g i)&&decide (aN g i<=65536))=false:=by
   rw[Bool.eq_false_iff]
   intro ht
   rw[List.all_eq_true] at ht
   have h1:=ht b (List.mem_of_find?_eq_some hf)
   have h2:=List.find?_some hf
   rw[h1] at h2
   cases h2
  rw[this];rfl
theorem v40 {p:b_} (hp:E5 p):H8 aq p=some (mP p):=by
 show(A4 aq p).val=_
 unfold A4 mP
 simp only[T.de,T.b8,T.fH]
 have hg:Gk aq p.aR p.ao 0=some (bif kT p.aR then .inr (false,16) else .inl ()):=aiA λa=>rfl
 rw[hg]
 cases wK:kT p.aR with
 |false=>rfl
 |true=>
  simp only[cond_true,Option.bind_some,Bool.true_and]
  have hl:Gl aq p.ao p.aR=bif allI (λi x=>jV p x&&jX p.ao i x) 0 p.ao then some (.inr (false,(p.ao.length:Int))) else some (.inl ()):=by
   show dO (λi z a=>(Ai aq p.ao p.aR i z a).val) (λi a=>(yH aq p.ao p.aR i a).val) 0 p.ao ()=_
   rw[lz (q:=λi x=>jV p x&&jX p.ao i x) (x:= .inl ())]
   ·congr 1
    unfold yH
    simp
   ·intro i z hz
    have aH:=(List.getElem?_eq_some_iff.1 hz).1
    have hzm:=List.mem_of_getElem? hz
    unfold Ai
    simp only[T.b8,T.bZ,T.bO]
    rw[show B6 aq (b_.mk p.aR p.ao) z=some (jV p z) from v80 (p:=p) (hp.pid z hzm) wK]
    unfold jX
    cases jV p z with
    |false=>rfl
    |true=>
     cases i with
     |zero=>rfl
     |succ i=>
      have h1:decide (((i+1:Nat):Int)>0)=true:=decide_eq_true (by omega)
      rw[h1,Dr aH hp.len (by omega)]
      simp only[Option.bind_some,Bool.not_true,cond_false,cond_true,Bool.true_and,show(i+1==0)=false from rfl,Bool.false_or,Nat.add_sub_cancel]
      have hi:i<p.ao.length:=by omega
      rw[List.getElem?_eq_getElem hi]
      simp only[Option.bind_some,ZK]
      by_cases Uv:ix p.ao[i].ae<ix z.ae
      ·simp[Uv,show ¬(ix p.ao[i].ae>=ix z.ae) by omega]
      ·simp[Uv,show(ix p.ao[i].ae>=ix z.ae) by omega]
  rw[hl]
  cases allI (λi x=>jV p x&&jX p.ao i x) 0 p.ao with
  |false=>rfl
  |true=>
   simp only[cond_true,Option.bind_some,Bool.true_and,T.bZ,T.b8,T.bO]
   cases p.ao with
   |nil=>rfl
   |cons z r=>
    have:decide (((z::r).length:Int)>0)=true:=decide_eq_true (by simp)
    rw[this]
    rfl
theorem aiB {S:Int->T (Int ⊕ Int ⊕ (Bool×Int))} {g:List Int} (hS: ∀a:Int,(S a).val=bif decide (a<16) then(fk a 16).bind λz0=>bif decide (aN g z0<0) then some (.inr (.inl a)) else bif decide (aN g z0>65536) then some (.inr (.inl a)) else some (.inl (IntKind.i64.wrap (a+1))) else some (.inr (.inr (decide (a<16),a)))):
  ∃n:Nat,fu (λa=>(S a).val) 1000000 (0:Int)=some (bif kT g then .inr (false,16) else .inl (n:Int)):=by
 have h:=MW (step:=λa=>(S a).val) (q:=λa=>decide (0<=aN g a)&&decide (aN g a<=65536)) (x:=λa=> .inl (a:Int)) (y:= .inr (false,16)) (N:=16) (λa ha=>by
  rw[hS,decide_eq_true (by omega:(a:Int)<16),cond_true,xm (by omega) (by omega),Option.bind_some,Int.toNat_natCast]
  by_cases h1:aN g a<0
  ·simp[h1,show ¬(0<=aN g a) by omega]
  by_cases h2:aN g a>65536
  ·simp[h1,h2,show ¬(aN g a<=65536) by omega]
  ·rw[jH (by omega) (by omega)]
   simp[h1,h2,show(0<=aN g a) by omega,show(aN g a<=65536) by omega]) (by rw[hS];rfl) (k:=16) (n:=1000000) (a:=0) rfl (by omega)
 rw[show((0:Nat):Int)=0 from rfl] at h
 unfold kT
 rw[List.range_eq_range']
 cases hf:List.find? (λb=>!(decide (0<=aN g b)&&decide (aN g b<=65536))) (List.range' 0 16) with
 |none=>
  have:((List.range' 0 16).all λi=>decide (0<=aN g i)&&decide (aN g i<=65536))=true:=by
   rw[List.all_eq_true]
   intro i hi
   have:=List.find?_eq_none.1 hf i hi
   simpa using this
  rw[this]
  rw[hf] at h
  exact⟨0,h⟩
 |some b=>
  have:((List.range' 0 16).all λi=>decide (0<=aN g i)&&decide (aN g i<=65536))=false:=by
   rw[Bool.eq_false_iff]
   intro ht
   rw[List.all_eq_true] at ht
   have h1:=ht b (List.mem_of_find?_eq_some hf)
   have h2:=List.find?_some hf
   rw[h1] at h2
   cases h2
  rw[this]
  rw[hf] at h
  exact⟨b,h⟩
theorem ait (g:List Int) (l:List ah) (pid:Int):mg aq g l pid=some (match nU l pid with|some z=> .inl z|none=> .inr (false,(l.length:Int))):=by
 show dO (λi z a=>(Ag aq g l pid i z a).val) (λi a=>(yF aq g l pid i a).val) 0 l ()=_
 unfold nU
 rw[xU (p:=λz=>z.ae==pid) (e:=λz=> .inl z)]
 ·cases List.find? (λz=>z.ae==pid) l with
  |none=>unfold yF;simp
  |some z=>rfl
 ·intro i z _
  unfold Ag
  cases z.ae==pid<;>rfl
theorem v46 {p:b_} (hp:E5 p):qn aq p=some (bif mP p then 0 else 320):=by
 show(Ba aq p).val=_
 unfold Ba mP
 simp only[T.de,T.b8,T.fH,T.bZ,T.bO]
 cases k7:p.ao with
 |nil=>
  have:(match([]:List ah) with|z::_=>iN z ⟨1,0,false,0⟩|[]=>false)=false:=rfl
  simp
 |cons z0 r=>
  rw[<-k7]
  have h0:((p.ao.length:Int)==0)=false:=by rw[k7];simp;omega
  have h1:idx p.ao 0=some z0:=by rw[k7];rfl
  rw[h0,h1]
  simp only[cond_false,Option.bind_some]
  cases he:iN z0 ⟨1,0,false,0⟩ with
  |false=>simp[k7,he]
  |true=>
   have hm:(match p.ao with|z::_=>iN z ⟨1,0,false,0⟩|[]=>false)=true:=by rw[k7];exact he
   rw[hm,Bool.and_true]
   simp only[Bool.not_true,cond_false]
   obtain⟨n,hg⟩:=aiB (S:=GJ aq p.aR p.ao) (g:=p.aR) λa=>rfl
   have hg:F' aq p.aR p.ao 0=some (bif kT p.aR then .inr (false,16) else .inl (n:Int)):=hg
   rw[hg]
   cases wK:kT p.aR with
   |false=>
    have:decide ((n:Int)>=0)=true:=decide_eq_true (by omega)
    simp[this]
   |true=>
    simp only[cond_true,Option.bind_some,Bool.true_and]
    have hl:zN aq p.aR p.ao=bif allI (λi x=>jV p x&&jX p.ao i x) 0 p.ao then some (.inr (false,(p.ao.length:Int))) else some (.inl ()):=by
     show dO (λi z a=>(Af aq p.aR p.ao i z a).val) (λi a=>(yE aq p.aR p.ao i a).val) 0 p.ao ()=_
     rw[lz (q:=λi x=>jV p x&&jX p.ao i x) (x:= .inl ())]
     ·congr 1
      unfold yE
      simp
     ·intro i z hz
      have aH:=(List.getElem?_eq_some_iff.1 hz).1
      have hx:=hp.pid z (List.mem_of_getElem? hz)
      have hr:=Va hx.1
      unfold Af jV jX ez
      simp only[T.b8,T.bZ,T.bO,T.de,T.fH,v93,Option.bind_some,ait]
      by_cases h1:1<=ix z.ae
      rotate_left
      ·simp[show ¬(ix z.ae>=1) from h1,h1]
      by_cases h2:ix z.ae<=16
      rotate_left
      ·simp[show(ix z.ae>=1) from h1,h1,h2]
      have hw:IntKind.i64.wrap (ix z.ae-1)=ix z.ae-1:=jH (by omega) (by omega)
      have hi:fk (ix z.ae-1) 16=some (ix z.ae-1).toNat:=xm (by omega) (by omega)
      have lS:0<=aN p.aR (ix z.ae-1).toNat/\aN p.aR (ix z.ae-1).toNat<=65536:=by
       unfold kT at wK
       rw[List.all_eq_true] at wK
       have:=wK (ix z.ae-1).toNat (by simp;omega)
       simpa using this
      have hd:IntKind.u64.wrap (z.ae.tdiv 64)=z.ae/64:=by
       rw[Int.tdiv_eq_ediv_of_nonneg hx.1]
       exact yo (by omega) (by omega)
      have hc:(IntKind.u64.wrap (IntKind.u64.wrap (z.ae.tdiv 64)+1) !=IntKind.u64.wrap (aN p.aR (ix z.ae-1).toNat))=!(z.ae/64+1==aN p.aR (ix z.ae-1).toNat):=by
       rw[hd,yo (by omega) (by omega),yo (by omega) (by omega)]
       rfl
      rw[hw,hi]
      simp only[Option.bind_some]
      rw[hc]
      have aV:(z.bn !=0)=!(z.bn==0):=rfl
      have eL:(z.cP !=0)=!(z.cP==0):=rfl
      have UH:(z.bn==0)=true->(z.bn==z.ae)=false:=λh=>by
       rw[U' hx.1] at h1
       simp at h ⊢
       omega
      simp only[show(ix z.ae>=1) from h1,h1,h2,decide_true,cond_true,Bool.true_and,aV,eL]
      cases i with
      |zero=>
       rw[show(((0:Nat):Int)==0)=true from rfl,show((0:Nat)==0)=true from rfl]
       simp only[cond_true,Bool.true_or,Bool.and_true]
       cases hq:z.bn==0 with
       |true=>rw[UH hq];cases z.ae/64+1==aN p.aR (ix z.ae-1).toNat<;>cases z.bW<;>cases z.cP==0<;>simp
       |false=>
        cases z.ae/64+1==aN p.aR (ix z.ae-1).toNat<;>cases z.bn==z.ae<;>cases z.bW<;>cases z.cP==0<;>(cases nU p.ao z.bn with|none=>simp|some y=>cases y.bW<;>simp)
      |succ i=>
       have e0:((((i+1:Nat):Int))==0)=false:=by simp;omega
       rw[e0,show(i+1==0)=false from rfl,Dr aH hp.len (by omega)]
       have hi:i<p.ao.length:=by omega
       simp only[Nat.add_sub_cancel,List.getElem?_eq_getElem hi,Option.bind_some,v93,cond_false,Bool.false_or]
       cases hq:z.bn==0 with
       |true=>rw[UH hq];cases decide (ix p.ao[i].ae<ix z.ae)<;>cases z.ae/64+1==aN p.aR (ix z.ae-1).toNat<;>cases z.bW<;>cases z.cP==0<;>simp
       |false=>
        cases decide (ix p.ao[i].ae<ix z.ae)<;>cases z.ae/64+1==aN p.aR (ix z.ae-1).toNat<;>cases z.bn==z.ae<;>cases z.bW<;>cases z.cP==0<;>(cases nU p.ao z.bn with|none=>simp|some y=>cases y.bW<;>simp)
    rw[hl]
    cases allI (λi x=>jV p x&&jX p.ao i x) 0 p.ao<;>rfl
def kD (d:aj):Bool:=decide (d.ae<4294967296)&&(decide (d.cJ>=0)&&decide (d.cJ<=7))
def qa (a b:aj):Bool:=decide (a.ae<b.ae)||(a.ae==b.ae&&decide (a.cJ<b.cJ))
def jY {α:Type} (q:α->α->Bool) (l:List α) (i:Nat) (z:α):Bool:=i==0||(match l[i-1]? with|some y=>q y z|none=>false)
def q7 (l:List aj) (i:Nat) (x:aj):Bool:=jY qa l i x
theorem fX {σ X:Type} {step:σ->Option (σ ⊕ X)} {n:Nat} {a:σ}:fu step (n+1) a=(step a).bind λy=>match y with| .inl a'=>fu step n a'| .inr x=>some x:=rfl
def n8 (l:List aj):Bool:=allI (λi x=>kD x&&q7 l i x) 0 l&&decide (l.length<=64)
@[simp] theorem v82 (d:aj):Io aq d=some (kD d):=by
 show(Bp aq d).val=_
 unfold Bp kD
 simp only[T.bZ,T.bO]
 cases decide (d.ae<4294967296)<;>cases decide (d.cJ>=0)<;>rfl
@[simp] theorem v94 (d:aj):Iq aq d=some (kD d):=by
 show(Bw aq d).val=_
 unfold Bw kD
 have:decide (d.cJ<8)=decide (d.cJ<=7):=by rw[Bool.eq_iff_iff];simp;omega
 simp only[T.bZ,T.bO,this]
 cases decide (d.ae<4294967296)<;>cases decide (d.cJ>=0)<;>rfl
@[simp] theorem v83 (a b:aj):Ip aq a b=some (qa a b):=by
 show(Bq aq a b).val=_
 unfold Bq qa
 simp only[T.bZ,T.bO]
 cases decide (a.ae<b.ae)<;>cases a.ae==b.ae<;>rfl
def m7 (x y:Int):Int:=if x<y then -1 else if x>y then 1 else 0
@[simp] theorem ZA (x y:Int):lN aq x y=some (m7 x y):=by
 show(AM aq x y).val=_
 unfold AM m7
 simp only[T.bZ,T.bO]
 by_cases h1:x<y
 ·simp[h1]
 ·by_cases h2:x>y
  ·simp[h1,h2]
  ·simp[h1,h2]
@[simp] theorem v130 (x y:Int):HM aq x y=some (m7 x y):=ZA x y
def BO (a b:aj):Int:=if m7 a.ae b.ae=0 then m7 a.cJ b.cJ else m7 a.ae b.ae
@[simp] theorem v95 (a b:aj):vH aq a b=some (BO a b):=by
 show(Bx aq a b).val=_
 unfold Bx BO
 simp only[T.b8,ZA,v130,Option.bind_some,T.de,T.fH,T.bO]
 generalize m7 a.ae b.ae=c1
 generalize m7 a.cJ b.cJ=c2
 have h:Gb aq [c1,c2] 0=some (if c1=0 then(if c2=0 then .inr (false,2) else .inl c2) else .inl c1):=by
  show fu (λa=>(ov aq [c1,c2] a).val) 1000000 0=_
  have e0:(ov aq [c1,c2] 0).val=if c1=0 then some (.inl 1) else some (.inr (.inl c1)):=by
   unfold ov
   simp only[T.bZ,T.b8,T.bO]
   by_cases h:c1=0
   ·simp[idx,h];rfl
   ·have:(c1 !=0)=true:=by simp[h]
    simp[idx,h,this]
  have e1:(ov aq [c1,c2] 1).val=if c2=0 then some (.inl 2) else some (.inr (.inl c2)):=by
   unfold ov
   simp only[T.bZ,T.b8,T.bO]
   by_cases h:c2=0
   ·simp[idx,h];rfl
   ·have:(c2 !=0)=true:=by simp[h]
    simp[idx,h,this]
  have e2:(ov aq [c1,c2] 2).val=some (.inr (.inr (false,2))):=rfl
  rw[show(1000000:Nat)=999997+1+1+1 from rfl,fX,e0]
  by_cases h:c1=0
  ·rw[if_pos h,if_pos h,Option.bind_some]
   simp only
   rw[fX,e1]
   by_cases h2:c2=0
   ·rw[if_pos h2,if_pos h2,Option.bind_some]
    simp only
    rw[fX,e2,Option.bind_some]
   ·rw[if_neg h2,if_neg h2,Option.bind_some]
  ·rw[if_neg h,if_neg h,Option.bind_some]
 rw[h]
 by_cases h1:c1=0
 ·by_cases h2:c2=0<;>simp[h1,h2]
 ·simp[h1]
theorem adS (a b:aj):decide (BO a b>=0)=!qa a b:=by
 unfold BO qa m7
 rw[Bool.eq_iff_iff]
 by_cases h1:a.ae<b.ae
 ·simp[h1]
 ·by_cases h2:a.ae>b.ae
  ·have: ¬a.ae=b.ae:=by omega
   simp[h1,h2,this]
  ·have h3:a.ae=b.ae:=by omega
   by_cases h4:a.cJ<b.cJ
   ·simp[h3,h4]
   ·by_cases h5:b.cJ<a.cJ<;>simp[h3,h4,h5]<;>omega
theorem DT {α X:Type} {S:T (Unit ⊕ Unit ⊕ X)} {l:List α} {i:Nat} {z:α} {g:α->Bool} {q:α->α->Bool} (hm:l.length<=maxLen) (hz:l[i]? =some z)
  (hS:S.val=bif !g z then some (.inr (.inl ())) else bif decide ((i:Int)>0) then(idx l (IntKind.i64.wrap ((i:Int)-1))).bind λy=>bif !q y z then some (.inr (.inl ())) else some (.inl ()) else some (.inl ())):
  S.val=bif g z&&jY q l i z then some (.inl ()) else some (.inr (.inl ())):=by
 have aH:=(List.getElem?_eq_some_iff.1 hz).1
 rw[hS]
 unfold jY
 cases g z with
 |false=>rfl
 |true=>
  cases i with
  |zero=>rfl
  |succ i=>
   have h1:decide (((i+1:Nat):Int)>0)=true:=decide_eq_true (by omega)
   have hi:i<l.length:=by omega
   rw[h1,Dr aH hm (by omega)]
   simp only[Bool.not_true,cond_false,cond_true,Bool.true_and,show(i+1==0)=false from rfl,Bool.false_or,Nat.add_sub_cancel,List.getElem?_eq_getElem hi,Option.bind_some]
   cases q l[i] z<;>rfl
theorem v41 {l:List aj} (hm:l.length<=maxLen):H9 aq l=some (n8 l):=by
 show(A6 aq l).val=_
 unfold A6 n8
 simp only[T.de,T.b8,T.fH,T.bO]
 have hl:Gm aq l=bif allI (λi x=>kD x&&q7 l i x) 0 l then some (.inr (false,(l.length:Int))) else some (.inl ()):=by
  show dO (λi z a=>(u6 aq l i z a).val) (λi a=>(yI aq l i a).val) 0 l ()=_
  rw[lz (q:=λi x=>kD x&&q7 l i x) (x:= .inl ())]
  ·congr 1
   unfold yI
   simp
  ·intro i z hz
   exact DT (S:=u6 aq l i z ()) (g:=kD) (q:=qa) hm hz (by unfold u6;simp only[T.b8,T.bZ,T.bO,v82,v83,Option.bind_some])
 rw[hl]
 cases allI (λi x=>kD x&&q7 l i x) 0 l with
 |false=>rfl
 |true=>
  simp only[cond_true,Option.bind_some,Bool.true_and]
  congr 1
  rw[Bool.eq_iff_iff]
  simp
  omega
theorem v47 {l:List aj} (hm:l.length<=maxLen):ng aq l=some (bif n8 l then 0 else 330):=by
 show(Bb aq l).val=_
 unfold Bb n8
 simp only[T.de,T.b8,T.fH,T.bO,T.bZ]
 have hl:Gs aq l=bif allI (λi x=>kD x&&q7 l i x) 0 l then some (.inr (false,(l.length:Int))) else some (.inl ()):=by
  show dO (λi z a=>(u7 aq l i z a).val) (λi a=>(yN aq l i a).val) 0 l ()=_
  rw[lz (q:=λi x=>kD x&&q7 l i x) (x:= .inl ())]
  ·congr 1
   unfold yN
   simp
  ·intro i z hz
   exact DT (S:=u7 aq l i z ()) (g:=kD) (q:=qa) hm hz (by unfold u7;simp only[T.b8,T.bZ,T.bO,v94,v95,adS,Option.bind_some])
 rw[hl]
 by_cases h:l.length<=64
 ·have h1:decide ((l.length:Int)>64)=false:=decide_eq_false (by omega)
  rw[h1,decide_eq_true h]
  cases allI (λi x=>kD x&&q7 l i x) 0 l<;>rfl
 ·have h1:decide ((l.length:Int)>64)=true:=decide_eq_true (by omega)
  rw[h1,decide_eq_false h]
  simp
def ff (s:ByteArray) (j:Nat):Nat:=((s.data.toList[j]?).map UInt8.toNat).getD 0
def gL (c:Nat->Nat):Nat->Nat
 |0=>0
 |i+1=>gL c i+256^i*c i
def oE (s:ByteArray):Int×Int:=if 8<s.size then(0,111) else if(List.range s.size).any (λj=>ff s j==0) then(0,2) else((gL (ff s) 8:Nat),0)
theorem adD (s:ByteArray) (j:Nat):ff s j<256:=by
 unfold ff
 cases s.data.toList[j]? with
 |none=>simp
 |some b=>simpa using b.toNat_lt
theorem LJ {c:Nat->Nat} (hc: ∀j,c j<256): ∀i,gL c i<256^i
 |0=>by simp[gL]
 |i+1=>by
  have h1:=LJ hc i
  have h2:256^i*c i<=256^i*255:=Nat.mul_le_mul_left _ (by have:=hc i;omega)
  simp only[gL,Nat.pow_succ]
  generalize (256:Nat)^i=q at*
  generalize q*c i=r at*
  omega
theorem anY (c i:Nat) (hc:c<256) (hi:i<8):ru .u64 (c:Int) ((8*i:Nat):Int)=some ((256^i*c:Nat):Int):=by
 unfold ru
 rw[if_neg (by omega)]
 have h64:IntKind.u64.bits=64:=rfl
 have hm:min ((8*i:Nat):Int).toNat IntKind.u64.bits=8*i:=by rw[h64,Int.toNat_natCast];omega
 have hp:(2:Nat)^(8*i)=256^i:=by rw[Nat.pow_mul]
 have hle:256^i<=256^7:=Nat.pow_le_pow_right (by omega) (by omega)
 have e7:(256:Nat)^7=72057594037927936:=by decide
 have e:(c:Int)*2^(8*i)=((256^i*c:Nat):Int):=by rw[<-hp,Int.natCast_mul,Int.natCast_pow,Int.mul_comm];rfl
 rw[hm,IntKind.wrap_u64,e]
 have aH:256^i*c<18446744073709551616:=by
  have h1:256^i*c<=256^7*c:=Nat.mul_le_mul_right _ hle
  rw[e7] at h1
  omega
 generalize 256^i*c=q at*
 rw[Option.some.injEq]
 omega
theorem alD {c:Nat->Nat} (hc: ∀j,c j<256) (i:Nat) (hi:i<8):bits .or .u64 (gL c i:Int) ((256^i*c i:Nat):Int)=(gL c (i+1):Int):=by
 have h1:=LJ hc i
 have h2:=LJ hc (i+1)
 have hle:256^(i+1)<=256^8:=Nat.pow_le_pow_right (by omega) (by omega)
 have e8:(256:Nat)^8=18446744073709551616:=by decide
 rw[e8] at hle
 have h3:gL c (i+1)=gL c i+256^i*c i:=rfl
 rw[bits_or_u64_nat _ _ (by omega) (by omega),Nat.or_comm,h3]
 have hp:(2:Nat)^(8*i)=256^i:=by rw[Nat.pow_mul]
 have:=Nat.two_pow_add_eq_or_of_lt (i:=8*i) (b:=gL c i) (by rw[hp];exact h1) (c i)
 rw[hp] at this
 rw[<-this,Nat.add_comm]
theorem RO {α:Type} {b:Nat} {xs ys:List α} (h:(xs.length+ys.length)*b<=140737488355328):app b xs ys=some (xs++ys):=by
 unfold app
 rw[if_pos h]
def dg:Nat->Nat->List Nat
 |0,_=>[]
 |k+1,n=>if n%256=0 then[] else n%256::dg k (n/256)
def fF:Nat->Nat->Nat
 |0,n=>n
 |k+1,n=>if n%256=0 then n else fF k (n/256)
def bs (l:List Nat):ByteArray:=⟨(l.map UInt8.ofNat).toArray⟩
theorem r_: ∀(k n:Nat),(dg k n).length<=k
 |0,_=>by simp[dg]
 |k+1,n=>by
  simp only[dg]
  split
  ·simp
  ·have:=r_ k (n/256)
   simp
   omega
theorem BV: ∀(k n:Nat),∀x∈dg k n,0<x/\x<256
 |0,_,x,h=>by simp[dg] at h
 |k+1,n,x,h=>by
  simp only[dg] at h
  split at h
  ·cases h
  ·rcases List.mem_cons.1 h with e|h
   ·omega
   ·exact BV k _ x h
theorem eS (l:List Nat):(bs l).size=l.length:=by simp[bs,ByteArray.size]
theorem adC (l m:List Nat):bs l++bs m=bs (l++m):=by
 apply ByteArray.ext
 simp[bs,ByteArray.data_append]
theorem foldl_push: ∀(xs:List Int) (r:ByteArray),(xs.foldl (λr n=>r.push (UInt8.ofNat n.toNat)) r).data.toList=r.data.toList++xs.map (λn=>UInt8.ofNat n.toNat)
 |[],r=>by simp
 |x::xs,r=>by
  rw[List.foldl_cons,foldl_push xs]
  simp[ByteArray.data_push]
theorem Zp (l:List Nat):strOf (l.map λ(n:Nat)=>(n:Int))=bs l:=by
 apply ByteArray.ext
 apply Array.ext'
 unfold strOf
 rw[foldl_push]
 show[]++_=_
 simp[bs]
theorem Ek {l m:List Nat} (h:l.length+m.length<=1000):oc (bs l) (bs m)=some (bs (l++m)):=by
 unfold oc
 rw[eS,eS,if_pos (by omega),adC]
theorem apA (n:Nat):((n:Int).tmod 256)=((n%256:Nat):Int):=by
 rw[Int.tmod_eq_emod_of_nonneg (by omega)];omega
theorem apy (n:Nat):((n:Int).tdiv 256)=((n/256:Nat):Int):=by
 rw[Int.tdiv_eq_ediv_of_nonneg (by omega)];omega
theorem ads {n:Nat} (h:n<18446744073709551616):bits .and .u64 (n:Int) 255=((n%256:Nat):Int):=by
 have e:bits .and .u64 (n:Int) ((255:Nat):Int)=((n&&&255:Nat):Int):=bits_and_u64_nat n 255 h (by omega)
 have e2:n&&&255=n%256:=by
  have:=Nat.and_two_pow_sub_one_eq_mod n 8
  simpa using this
 rw[e2] at e
 exact e
def pk:List Nat->Nat
 |[]=>0
 |x::r=>x+256*pk r
theorem LK (c:Nat->Nat): ∀k,gL c (k+1)=c 0+256*gL (λi=>c (i+1)) k
 |0=>by simp[gL]
 |k+1=>by
  rw[gL,LK c k]
  simp only[gL,Nat.pow_succ,Nat.mul_add]
  rw[Nat.mul_comm (256^k) 256]
  simp only[Nat.mul_assoc,Nat.add_assoc]
theorem LI: ∀(k:Nat) (l:List Nat),l.length<=k->gL (λi=>(l[i]?).getD 0) k=pk l
 |0,l,h=>by
  have:l=[]:=List.eq_nil_of_length_eq_zero (by omega)
  subst this;rfl
 |k+1,[],h=>by
  rw[LK]
  have:=LI k [] (by simp)
  simp only[List.getElem?_nil,Option.getD_none] at this ⊢
  rw[this];rfl
 |k+1,x::r,h=>by
  rw[LK]
  have:=LI k r (by simpa using h)
  simp only[List.getElem?_cons_succ,List.getElem?_cons_zero,Option.getD_some] at this ⊢
  rw[this];rfl
theorem LO: ∀(k n:Nat),pk (dg k n)+256^(dg k n).length*fF k n=n
 |0,n=>by simp[dg,fF,pk]
 |k+1,n=>by
  simp only[dg,fF]
  split
  ·simp[pk]
  ·have:=LO k (n/256)
   simp only[pk,List.length_cons,Nat.pow_succ]
   rw[Nat.mul_comm (256^_) 256,Nat.mul_assoc]
   omega
theorem R4 {l:List Nat} (h: ∀x∈l,x<256) (j:Nat):ff (bs l) j=(l[j]?).getD 0:=by
 unfold ff bs
 simp only[List.getElem?_map]
 cases hj:l[j]? with
 |none=>simp
 |some x=>
  have:=h x (List.mem_of_getElem? hj)
  simp
  omega
theorem G7 {l:List Nat} (h: ∀x∈l,0<x/\x<256) (hl:l.length<=8):oE (bs l)=(((pk l:Nat):Int),0):=by
 unfold oE
 rw[eS,if_neg (by omega)]
 have e:(List.range l.length).any (λj=>ff (bs l) j==0)=false:=by
  rw[List.any_eq_false]
  intro j hj
  have hj:j<l.length:=by simpa using hj
  rw[R4 (λx hx=>(h x hx).2),List.getElem?_eq_getElem hj]
  have:=(h _ (List.getElem_mem hj)).1
  simp
  omega
 rw[e,if_neg (by simp)]
 rw[show ff (bs l)=λi=>(l[i]?).getD 0 from funext λj=>R4 (λx hx=>(h x hx).2) j,LI 8 l hl]
theorem Tf {l:List Nat} (h: ∀x∈l,x<256) {i x:Nat} (hx:l[i]? =some x):((bs l).get! i).toNat=x:=by
 have hl:=(List.getElem?_eq_some_iff.1 hx).1
 have aH:=h x (List.mem_of_getElem? hx)
 have e:(bs l).get! i=UInt8.ofNat x:=by
  unfold ByteArray.get! bs
  have:((l.map UInt8.ofNat).toArray)[i]? =some (UInt8.ofNat x):=by simp[hx]
  simp[getElem!_def,this]
 rw[e]
 simp
 omega
theorem Ho {s:ByteArray} {i:Nat} (h:(s.get! i).toNat<128):Go.Utf8.decode s i=((s.get! i).toNat,1):=by
 unfold Go.Utf8.decode
 simp only[Nat.add_zero]
 rw[if_pos h]
theorem decode_high {s:ByteArray} {i:Nat} (h: ¬(s.get! i).toNat<128):128<=(Go.Utf8.decode s i).1:=by
 unfold Go.Utf8.decode
 simp only[Nat.add_zero]
 rw[if_neg h]
 have hr:128<=Go.Utf8.runeError:=by decide
 repeat' split
 all_goals first|exact hr|skip
 ·assumption
 ·rename_i hc;simp only[Bool.and_eq_true,decide_eq_true_eq] at hc;have:=hc.1;show 128<=_;omega
 ·rename_i hc;simp only[Bool.and_eq_true,decide_eq_true_eq] at hc;have:=hc.1;show 128<=_;omega
def fK (c:Nat):Bool:=decide (97<=c/\c<=122\/48<=c/\c<=57)
theorem BK {c:Nat} (h:128<=c):fK c=false:=by
 unfold fK
 simp
 omega
theorem En {l:List Nat} (h: ∀x∈l,x<256) {i x:Nat} (hx:l[i]? =some x):ib (bs l) (i:Int)=some (x:Int):=by
 have hl:=(List.getElem?_eq_some_iff.1 hx).1
 have aH:=h x (List.mem_of_getElem? hx)
 have hs:i<(bs l).size:=by rw[eS];exact hl
 unfold ib
 rw[if_pos (by omega),Int.toNat_natCast,getElem?_pos (bs l) i hs]
 have hg:(bs l)[i]=UInt8.ofNat x:=by
  show(bs l).data[i]=_
  have jT:=(List.getElem?_eq_some_iff.1 hx).2
  simp[bs,jT]
 rw[hg]
 simp
 omega
theorem BU (n:Nat): ∀x∈dg 8 n,x<256:=λx hx=>(BV 8 n x hx).2
theorem Hs (l:List Nat):((bs l).toList==(⟨#[]⟩:ByteArray).toList)=l.isEmpty:=by
 have e1: ∀x:ByteArray,x.toList=x.data.toList:=λx=>ByteArray.toList_eq x
 rw[e1,e1]
 cases l<;>simp[bs]
def nS (n:Int):Bool:=(fF 8 n.toNat==0)&&!(dg 8 n.toNat).isEmpty&&(dg 8 n.toNat).all fK
theorem Qm {n:Nat} {l:List Nat} (hn:n<18446744073709551616) (hl:l.length<=100):(u4 aq ((n:Int),bs l)).val=if n=0 then some (.inr (.inr (false,0,bs l))) else if n%256=0 then some (.inr (.inl ())) else some (.inl (((n/256:Nat):Int),bs (l++[n%256]))):=by
 unfold u4
 simp only[T.bZ,T.b8,T.bO]
 rw[apA,apy]
 by_cases h0:n=0
 ·subst h0
  rfl
 ·have hp:decide ((n:Int)>0)=true:=by simp;omega
  rw[hp,if_neg h0]
  simp only[cond_true]
  by_cases hm:n%256=0
  ·have e:(((n%256:Nat):Int)==0)=true:=by rw[hm];rfl
   rw[e,if_pos hm]
   rfl
  ·have e:(((n%256:Nat):Int)==0)=false:=by simp;omega
   rw[e,if_neg hm]
   have hw:IntKind.u8.wrap ((n%256:Nat):Int)=((n%256:Nat):Int):=by rw[IntKind.wrap_u8];omega
   have nP:IntKind.u64.wrap ((n/256:Nat):Int)=((n/256:Nat):Int):=by rw[IntKind.wrap_u64];omega
   have hs:strOf [((n%256:Nat):Int)]=bs [n%256]:=Zp [n%256]
   simp only[cond_false]
   rw[hw,nP,hs,Ek (by simp;omega)]
   rfl
theorem Zz: ∀(k f n:Nat) (l:List Nat),n<256^k->n<18446744073709551616->l.length+k<=100->
  fu (λa=>(u4 aq a).val) (k+1+f) ((n:Int),bs l)=some (if fF k n=0 then .inr (false,0,bs (l++dg k n)) else .inl ())
 |0,f,n,l,h,_,_=>by
  have:n=0:=by simpa using h
  subst this
  rw[show 0+1+f=f+1 by omega,fX,Qm (by omega) (by omega)]
  simp[fF,dg]
 |k+1,f,n,l,h,hn,hl=>by
  rw[show k+1+1+f=(k+1+f)+1 by omega,fX,Qm hn (by omega)]
  by_cases h0:n=0
  ·subst h0
   simp[fF,dg]
  ·rw[if_neg h0]
   by_cases hm:n%256=0
   ·rw[if_pos hm]
    simp[fF,hm,h0]
   ·rw[if_neg hm,Option.bind_some]
    simp only
    rw[Zz k f (n/256) (l++[n%256]) (by rw[Nat.pow_succ] at h;omega) (by omega) (by simp;omega)]
    simp only[fF,dg,if_neg hm,List.append_assoc,List.singleton_append]
theorem Zy {n:Nat} (h:n<18446744073709551616):BZ aq (n:Int)=some (if fF 8 n=0 then(bs (dg 8 n),true) else(⟨#[]⟩,false)):=by
 show(AJ aq (n:Int)).val=_
 unfold AJ
 simp only[T.de,T.b8,T.fH,T.bO]
 have:=Zz 8 999991 n [] (by omega) h (by simp)
 rw[List.nil_append] at this
 have hL:F8 aq (n:Int) (ByteArray.mk #[])=_:=this
 rw[hL]
 by_cases h0:fF 8 n=0
 ·rw[if_pos h0,if_pos h0];rfl
 ·rw[if_neg h0,if_neg h0];rfl
theorem akY {s:ByteArray} (hs:s.size<=8) {i:Nat} (hi:i<8):aN (cU [0,0,0,0,0,0,0,0] (s.data.toList.map λb=>(b.toNat:Int))) i=(ff s i:Int):=by
 have hl:s.data.toList.length=s.size:=by rw[Array.length_toList];rfl
 unfold aN cU ff
 simp only[List.length_map,List.length_cons,List.length_nil,hl]
 by_cases h:i<s.size
 ·rw[List.getElem?_append_left (by rw[List.length_take,List.length_map];omega),List.getElem?_take,if_pos (by omega),List.getElem?_map,List.getElem?_eq_getElem (by omega)]
  rfl
 ·have hn:s.data.toList[i]? =none:=List.getElem?_eq_none (by omega)
  rw[hn,List.getElem?_append_right (by rw[List.length_take,List.length_map];omega)]
  have: ∀(k:Nat) (l:List Int),(∀x∈l,x=0)->(l[k]?).getD 0=0:=λk l hl=>by
   cases hk:l[k]? with
   |none=>rfl
   |some x=>exact hl x (List.mem_of_getElem? hk)
  exact this _ _ λx hx=>by
   have:=List.mem_of_mem_drop hx
   simp only[List.mem_cons,List.not_mem_nil,or_false] at this
   omega
theorem U7: ∀l:List Int,mF KK 5 .u8 l=some l
 |[]=>rfl
 |x::l=>by
  have ih:=U7 l
  show(match mF KK 5 .u8 l with|some zs=>some (x::zs)|none=>none)=_
  rw[ih]
theorem S79 {s:ByteArray} (hs:s.size<=8) {i:Nat} (hi:i<8):(u9 aq s (cU [0,0,0,0,0,0,0,0] (s.data.toList.map λb=>(b.toNat:Int))) (((gL (ff s) i:Nat):Int),(i:Int))).val=if ff s i=0/\i<s.size then some (.inr (.inl ())) else some (.inl (((gL (ff s) (i+1):Nat):Int),((i+1:Nat):Int))):=by
 have hb:=adD s
 unfold u9
 simp only[T.bZ,T.b8,T.bO]
 have h1:decide ((i:Int)<8)=true:=decide_eq_true (by omega)
 have sU:IntKind.u64.wrap (ff s i:Int)=(ff s i:Int):=by have:=hb i;rw[IntKind.wrap_u64];omega
 have nP:IntKind.i64.wrap (8*(i:Int))=((8*i:Nat):Int):=by rw[jH (by omega) (by omega)];omega
 have pg:IntKind.i64.wrap ((i:Int)+1)=((i+1:Nat):Int):=by rw[jH (by omega) (by omega)];omega
 rw[h1,xm (by omega) (by omega)]
 simp only[cond_true,Option.bind_some,Int.toNat_natCast]
 rw[akY hs hi,sU,nP,pg,anY _ i (hb i) hi]
 simp only[Option.bind_some]
 rw[alD hb i hi]
 by_cases h0:ff s i=0
 ·by_cases hz:i<s.size
  ·have e:decide ((i:Int)<(s.size:Int))=true:=decide_eq_true (by omega)
   rw[h0,e,if_pos ⟨rfl,hz⟩]
   rfl
  ·have e:decide ((i:Int)<(s.size:Int))=false:=decide_eq_false (by omega)
   rw[h0,e,if_neg (λh=>hz h.2)]
   rfl
 ·have e:((ff s i:Int)==0)=false:=by simp;omega
  rw[e,if_neg (λh=>h0 h.1)]
  rfl
theorem ZJ {s:ByteArray} (hs:s.size<=8): ∀(k f i:Nat),i+k=8->(∀j,j<i->j<s.size->ff s j≠0)->
  fu (λa=>(u9 aq s (cU [0,0,0,0,0,0,0,0] (s.data.toList.map λb=>(b.toNat:Int))) a).val) (k+1+f) (((gL (ff s) i:Nat):Int),(i:Int))=some (if(List.range s.size).any (λj=>ff s j==0) then .inl () else .inr (false,((gL (ff s) 8:Nat):Int),8))
 |0,f,i,e,h=>by
  obtain rfl:i=8:=by omega
  have iU:(List.range s.size).any (λj=>ff s j==0)=false:=by
   rw[List.any_eq_false]
   intro j hj
   have hj:j<s.size:=by simpa using hj
   have:=h j (by omega) hj
   simpa using this
  rw[iU,show 0+1+f=f+1 by omega,fX]
  rfl
 |k+1,f,i,e,h=>by
  rw[show k+1+1+f=(k+1+f)+1 by omega,fX,S79 hs (by omega)]
  by_cases h0:ff s i=0/\i<s.size
  ·have aj8:(List.range s.size).any (λj=>ff s j==0)=true:=by
    rw[List.any_eq_true]
    exact⟨i,by simpa using h0.2,by simpa using h0.1⟩
   rw[if_pos h0,aj8]
   rfl
  ·rw[if_neg h0,Option.bind_some]
   simp only
   exact ZJ hs k f (i+1) (by omega) λj hj sN=>by
    rcases Nat.lt_succ_iff_lt_or_eq.1 hj with h1|h1
    ·exact h j h1 sN
    ·subst h1;exact λhz=>h0 ⟨hz,sN⟩
theorem ZI (s:ByteArray):vF aq s=some (oE s):=by
 show(Bn aq s).val=_
 unfold Bn oE
 simp only[T.de,T.b8,T.fH,T.bO,T.bZ]
 by_cases h:8<s.size
 ·have e:decide ((s.size:Int)>8)=true:=decide_eq_true (by omega)
  rw[e,if_pos h]
  rfl
 ·have e:decide ((s.size:Int)>8)=false:=decide_eq_false (by omega)
  have hb:Nat.ble s.size 8=true:=Nat.ble_eq_true_of_le (by omega)
  rw[e,if_neg h]
  simp only[cond_false,Eo,sameKind,hb,Bool.true_and,cond_true,Option.bind_some]
  have hL:Gy aq s (cU [0,0,0,0,0,0,0,0] (s.data.toList.map λb=>(b.toNat:Int))) 0 0=_:=ZJ (by omega) 8 999991 0 rfl λj hj=>by omega
  rw[hL]
  cases (List.range s.size).any (λj=>ff s j==0)<;>rfl
def ints (l:List Nat):List Int:=l.map λ(n:Nat)=>(n:Int)
theorem Qn (U:Int) {n:Nat} {l:List Nat} (hn:n<18446744073709551616) (hl:l.length<=100):(u5 aq U ((n:Int),ints l)).val=if n%256=0 then some (.inr (false,0,(n:Int),ints l)) else some (.inl (((n/256:Nat):Int),ints (l++[n%256]))):=by
 unfold u5
 simp only[T.bZ,T.b8,T.bO]
 rw[ads hn]
 by_cases hm:n%256=0
 ·have e:(((n%256:Nat):Int) !=0)=false:=by rw[hm];rfl
  rw[e,if_pos hm,hm]
  rfl
 ·have e:(((n%256:Nat):Int) !=0)=true:=by simp;omega
  rw[e,if_neg hm]
  simp only[cond_true]
  have hw:IntKind.u8.wrap (n:Int)=((n%256:Nat):Int):=by rw[IntKind.wrap_u8];omega
  have nP:(n:Int).fdiv 256=((n/256:Nat):Int):=by
   rw[Int.fdiv_eq_ediv_of_nonneg _ (by omega)];omega
  rw[hw,nP,RO (by simp[ints];omega)]
  simp only[Option.bind_some]
  rw[ints,ints,List.map_append]
  rfl
theorem ZC (U:Int): ∀(k f n:Nat) (l:List Nat),n<256^k->n<18446744073709551616->l.length+k<=100->
  ∃m,fu (λa=>(u5 aq U a).val) (k+1+f) ((n:Int),ints l)=some (false,0,m,ints (l++dg k n))
 |0,f,n,l,h,_,_=>by
  have:n=0:=by simpa using h
  subst this
  rw[show 0+1+f=f+1 by omega,fX,Qn U (by omega) (by omega)]
  exact⟨0,by simp[dg]⟩
 |k+1,f,n,l,h,hn,hl=>by
  rw[show k+1+1+f=(k+1+f)+1 by omega,fX,Qn U hn (by omega)]
  by_cases hm:n%256=0
  ·rw[if_pos hm]
   exact⟨(n:Int),by simp[dg,hm]⟩
  ·rw[if_neg hm,Option.bind_some]
   simp only
   obtain⟨m,hm2⟩:=ZC U k f (n/256) (l++[n%256]) (by rw[Nat.pow_succ] at h;omega) (by omega) (by simp;omega)
   rw[hm2]
   exact⟨m,by simp only[dg,if_neg hm,List.append_assoc,List.singleton_append]⟩
theorem ZB {n:Nat} (h:n<18446744073709551616):B0 aq (n:Int)=some (if fF 8 n=0 then(bs (dg 8 n),0) else(⟨#[]⟩,2)):=by
 show(AP aq (n:Int)).val=_
 unfold AP
 simp only[T.de,T.b8,T.bZ,T.bO]
 obtain⟨m,hm⟩:=ZC (n:Int) 8 999991 n [] (by omega) h (by simp)
 rw[List.nil_append] at hm
 have hL:Gc aq (n:Int) (n:Int) []=_:=hm
 rw[hL]
 simp only[Option.bind_some,U7,ZI]
 rw[show strOf (ints (dg 8 n))=bs (dg 8 n) from Zp _,G7 (BV 8 n) (r_ 8 n)]
 have:=LO 8 n
 simp only[bne_self_eq_false,cond_false]
 by_cases h0:fF 8 n=0
 ·rw[h0,Nat.mul_zero,Nat.add_zero] at this
  rw[this,if_pos h0]
  simp
 ·have h1:0<256^(dg 8 n).length*fF 8 n:=Nat.mul_pos (Nat.pow_pos (by omega)) (by omega)
  have e:(((pk (dg 8 n):Nat):Int) !=(n:Int))=true:=by simp;omega
  rw[e,if_neg h0]
  rfl
theorem BL (c:Nat):fK c=(bif decide ((c:Int)>=97) then(bif decide ((c:Int)<=122) then true else(bif decide ((c:Int)>=48) then decide ((c:Int)<=57) else false)) else(bif decide ((c:Int)>=48) then decide ((c:Int)<=57) else false)):=by
 unfold fK
 by_cases h1:(c:Int)>=97<;>by_cases h2:(c:Int)<=122<;>by_cases h3:(c:Int)>=48<;>by_cases h4:(c:Int)<=57<;>simp[h1,h2,h3,h4]<;>omega
theorem S85 {l:List Nat} (h: ∀x∈l,x<256) (hl:l.length<=100) {pos:Nat} (ok:Bool) (hp:pos<l.length):(rV aq (bs l) (l.length:Int) (ok,(pos:Int))).val=some (.inl (ok&&fK l[pos],((pos+1:Nat):Int))):=by
 have hx:=List.getElem?_eq_getElem hp
 have hs:=En h hx
 have hw:IntKind.i64.wrap ((pos:Int)+1)=((pos+1:Nat):Int):=by rw[jH (by omega) (by omega)];omega
 unfold rV
 simp only[T.bZ,T.b8,T.bO]
 rw[decide_eq_true (by omega:(pos:Int)<(l.length:Int)),hs,hw,BL]
 cases ok with
 |false=>rfl
 |true=>
  simp only[cond_true,Option.bind_some,Bool.true_and]
  cases decide ((l[pos]:Int)>=97)<;>cases decide ((l[pos]:Int)<=122)<;>cases decide ((l[pos]:Int)>=48)<;>rfl
theorem MP {l:List Nat} (h: ∀x∈l,x<256) (hl:l.length<=100): ∀(k f pos:Nat) (ok:Bool),pos+k=l.length->fu (λa=>(rV aq (bs l) (l.length:Int) a).val) (k+1+f) (ok,(pos:Int))=some (false,ok&&(l.drop pos).all fK,(l.length:Int))
 |0,f,pos,ok,e=>by
  obtain rfl:pos=l.length:=by omega
  rw[show 0+1+f=f+1 by omega,fX]
  unfold rV
  simp
 |k+1,f,pos,ok,e=>by
  have hp:pos<l.length:=by omega
  rw[show k+1+1+f=(k+1+f)+1 by omega,fX,S85 h hl ok hp,Option.bind_some]
  simp only
  rw[MP h hl k f (pos+1) _ (by omega),List.drop_eq_getElem_cons hp,List.all_cons,Bool.and_assoc]
theorem v85 {n:Nat} (h:n<18446744073709551616):B8 aq (n:Int)=some (nS (n:Int)):=by
 show(Bs aq (n:Int)).val=_
 unfold Bs nS
 simp only[T.de,T.b8,T.bZ,T.bO,Zy h,Option.bind_some,Int.toNat_natCast]
 have hl:=r_ 8 n
 by_cases h0:fF 8 n=0
 ·rw[if_pos h0,h0]
  have:=MP (BU n) (by omega) (dg 8 n).length (999999-(dg 8 n).length) 0 true (by omega)
  rw[show(dg 8 n).length+1+(999999-(dg 8 n).length)=1000000 by omega,List.drop_zero] at this
  have hL:uW aq (bs (dg 8 n)) true ((dg 8 n).length:Int) 0=some (false,true&&(dg 8 n).all fK,((dg 8 n).length:Int)):=this
  simp only
  rw[eS,hL]
  simp only[Option.bind_some,Bool.true_and,beq_self_eq_true]
  cases hd:dg 8 n with
  |nil=>rfl
  |cons x r=>
   have:decide (((x::r).length:Int)>0)=true:=decide_eq_true (by simp)
   rw[this]
   cases (x::r).all fK<;>rfl
 ·rw[if_neg h0]
  have e:(fF 8 n==0)=false:=by simp[h0]
  have hL:uW aq (bs []) false ((0:Nat):Int) 0=_:=MP (l:=[]) (by simp) (by simp) 0 999999 0 false rfl
  have hL:uW aq (ByteArray.mk #[]) false (((ByteArray.mk #[]).size:Nat):Int) 0=_:=hL
  rw[e]
  simp only
  rw[hL]
  rfl
def DO:((Bool×Bool×Int×Bool×Bool×Bool×Bool×Int×Nat) ⊕ (Bool×Int×Bool×Bool×Bool×Int×Nat) ⊕ (Bool×Bool×Int×Bool×Bool×Bool×Int×Nat) ⊕ (Bool×Int×Bool×Bool×Int×Nat) ⊕ (Bool×Int×Int×Nat) ⊕ (Bool×Nat))->Bool
 | .inl y=>y.2.1
 | .inr (.inl _)=>false
 | .inr (.inr (.inl y))=>y.2.1
 | .inr (.inr (.inr (.inl _)))=>false
 | .inr (.inr (.inr (.inr (.inl _))))=>false
 | .inr (.inr (.inr (.inr (.inr y))))=>y.1
theorem S98 {s:ByteArray} {pos:Nat} (ok:Bool) (hp:pos<s.size):(ok&&fK (Utf8.decode s pos).1)=true/\(oz aq s (ok,pos)).val=some (.inl (true,pos+(Utf8.decode s pos).2))\/(ok&&fK (Utf8.decode s pos).1)=false/\ ∃x,(oz aq s (ok,pos)).val=some (.inr x)/\DO x=false:=by
 unfold oz
 simp only[T.bZ,T.bO]
 rw[decide_eq_true hp,BL]
 cases ok with
 |false=>exact .inr ⟨rfl,_,rfl,rfl⟩
 |true=>
  simp only[cond_true,Bool.true_and]
  cases decide (((Utf8.decode s pos).1:Int)>=97) with
  |true=>
   cases decide (((Utf8.decode s pos).1:Int)<=122) with
   |true=>exact .inl ⟨rfl,rfl⟩
   |false=>
    cases decide (((Utf8.decode s pos).1:Int)>=48) with
    |false=>exact .inr ⟨rfl,_,rfl,rfl⟩
    |true=>
     cases decide (((Utf8.decode s pos).1:Int)<=57) with
     |true=>exact .inl ⟨rfl,rfl⟩
     |false=>exact .inr ⟨rfl,_,rfl,rfl⟩
  |false=>
   cases decide (((Utf8.decode s pos).1:Int)>=48) with
   |false=>exact .inr ⟨rfl,_,rfl,rfl⟩
   |true=>
    cases decide (((Utf8.decode s pos).1:Int)<=57) with
    |true=>exact .inl ⟨rfl,rfl⟩
    |false=>exact .inr ⟨rfl,_,rfl,rfl⟩
theorem MQ {l:List Nat} (h: ∀x∈l,x<256): ∀(k f pos:Nat) (ok:Bool),pos+k=l.length-> ∃x,fu (λa=>(oz aq (bs l) a).val) (k+1+f) (ok,pos)=some x/\DO x=(ok&&(l.drop pos).all fK)
 |0,f,pos,ok,e=>by
  obtain rfl:pos=l.length:=by omega
  rw[show 0+1+f=f+1 by omega,fX]
  have:(oz aq (bs l) (ok,l.length)).val=some (.inr (.inr (.inr (.inr (.inr (.inr (ok,l.length))))))):=by
   unfold oz
   simp[eS]
  rw[this]
  exact⟨_,rfl,by simp[DO]⟩
 |k+1,f,pos,ok,e=>by
  have hp:pos<l.length:=by omega
  have hx:=List.getElem?_eq_getElem hp
  have hg:=Tf h hx
  rw[show k+1+1+f=(k+1+f)+1 by omega,fX,List.drop_eq_getElem_cons hp,List.all_cons]
  rcases S98 (s:=bs l) ok (pos:=pos) (by rw[eS];exact hp) with⟨h1,h2⟩|⟨h1,x,h2,h3⟩
  ·have hb:((bs l).get! pos).toNat<128:=by
    apply Classical.byContradiction
    intro hb
    rw[BK (decode_high hb)] at h1
    simp at h1
   rw[Ho hb,hg] at h1 h2
   rw[h2,Option.bind_some]
   simp only
   obtain⟨x,Kt,hx2⟩:=MQ h k f (pos+1) true (by omega)
   refine⟨x,Kt,?_⟩
   rw[hx2,<-Bool.and_assoc,h1]
  ·rw[h2,Option.bind_some]
   refine⟨x,rfl,?_⟩
   rw[h3,<-Bool.and_assoc]
   by_cases hb:((bs l).get! pos).toNat<128
   ·rw[Ho hb,hg] at h1
    rw[h1];rfl
   ·have h4:=BK (c:=l[pos]) (by rw[<-hg];omega)
    rw[h4];simp
theorem ZM (x:(Bool×Bool×Int×Bool×Bool×Bool×Bool×Int×Nat) ⊕ (Bool×Int×Bool×Bool×Bool×Int×Nat) ⊕ (Bool×Bool×Int×Bool×Bool×Bool×Int×Nat) ⊕ (Bool×Int×Bool×Bool×Int×Nat) ⊕ (Bool×Int×Int×Nat) ⊕ (Bool×Nat)):
  (T.cs x (λy1=> .ok y1.2.1) λM6=> .cs M6 (λ_=> .ok false) λM7=> .cs M7 (λy1=> .ok y1.2.1) λM8=> .cs M8 (λ_=> .ok false) λM9=> .cs M9 (λ_=> .ok false) λy1=> .ok y1.1:T Bool).val=some (DO x):=by
 rcases x with x|x|x|x|x|x<;>rfl
theorem v98 {n:Nat} (h:n<18446744073709551616):nh aq (n:Int)=some (nS (n:Int)):=by
 show(Bz aq (n:Int)).val=_
 unfold Bz nS
 simp only[T.de,T.b8,T.bZ,ZB h,Option.bind_some,Int.toNat_natCast]
 have hl:=r_ 8 n
 by_cases h0:fF 8 n=0
 ·rw[if_pos h0,h0]
  obtain⟨x,h1,h2⟩:=MQ (BU n) (dg 8 n).length (999999-(dg 8 n).length) 0 (!(dg 8 n).isEmpty) (by omega)
  rw[show(dg 8 n).length+1+(999999-(dg 8 n).length)=1000000 by omega] at h1
  rw[List.drop_zero] at h2
  simp only[Hs]
  have hL:uX aq (!(dg 8 n).isEmpty) (bs (dg 8 n)) 0=some x:=h1
  rw[hL]
  simp only[Option.bind_some,beq_self_eq_true,cond_true,Bool.true_and]
  exact(ZM x).trans (by rw[h2])
 ·rw[if_neg h0]
  have e:(fF 8 n==0)=false:=by simp[h0]
  obtain⟨x,h1,h2⟩:=MQ (l:=[]) (by simp) 0 999999 0 false rfl
  have hL:uX aq false (ByteArray.mk #[]) 0=some x:=h1
  rw[e]
  simp only[show((2:Int)==0)=false from rfl,cond_false]
  rw[hL]
  simp only[Option.bind_some,Bool.false_and]
  exact(ZM x).trans (by rw[h2];rfl)
abbrev p_ (x:Int):Prop:=0<=x/\x<18446744073709551616
def mI (p:Int):Bool:=decide (p>=1)&&decide (p<4294967296)
@[simp] theorem ZN (p:Int):ss aq p=some (mI p):=by
 show(rW aq p).val=_
 unfold rW mI
 simp only[T.bZ,T.bO]
 cases decide (p>=1)<;>rfl
@[simp] theorem ZL (p:Int):B9 aq p=some (mI p):=by
 show(Bt aq p).val=_
 unfold Bt mI
 have:decide (p>0)=decide (p>=1):=by rw[Bool.eq_iff_iff];simp;omega
 simp only[T.bZ,T.bO,this]
 cases decide (p>=1)<;>rfl
theorem apK {w:Int} (h:p_ w):B8 aq w=some (nS w):=by
 obtain⟨n,rfl⟩:=Int.eq_ofNat_of_zero_le h.1
 exact v85 (by have:=h.2;omega)
theorem apL {w:Int} (h:p_ w):nh aq w=some (nS w):=by
 obtain⟨n,rfl⟩:=Int.eq_ofNat_of_zero_le h.1
 exact v98 (by have:=h.2;omega)
def DM (z:aw):Bool:=nS z.cB&&mI z.ae
def okB (z:an):Bool:=mI z.ae&&(decide (1<=z.a_.length)&&decide (z.a_.length<=4))
def ta (l:List aw):Bool:=allI (λi z=>DM z&&jY (λy z=>decide (y.cB<z.cB)) l i z) 0 l
def r8 (l:List an):Bool:=allI (λi z=>okB z&&jY (λy z=>decide (y.ae<z.ae)) l i z) 0 l
def n9 (s:bh):Bool:=ta s.aK&&(r8 s.ay&&decide (s.aK.length<=16))
structure E3 (s:bh):Prop where
 names: ∀z∈s.aK,p_ z.cB
 ln:s.aK.length<=maxLen
 lb:s.ay.length<=maxLen
theorem Td (a b:Int):decide (a>=b)=!decide (a<b):=by rw[Bool.eq_iff_iff];simp
theorem WA {S:Int->aw->Unit->T (Unit ⊕ Unit ⊕ (Bool×Int))} {F:Int->Unit->T (Unit ⊕ (Bool×Int))} {l:List aw} (hm:l.length<=maxLen)
  (hF:(F (l.length:Int) ()).val=some (.inr (false,(l.length:Int))))
  (hS: ∀(i:Int) z,z∈l->(S i z ()).val=bif !nS z.cB then some (.inr (.inl ())) else bif !mI z.ae then some (.inr (.inl ())) else bif decide (i>0) then(idx l (IntKind.i64.wrap (i-1))).bind λy=>bif decide (y.cB>=z.cB) then some (.inr (.inl ())) else some (.inl ()) else some (.inl ())):
  dO (λi z a=>(S i z a).val) (λi a=>(F i a).val) 0 l ()=bif ta l then some (.inr (false,(l.length:Int))) else some (.inl ()):=by
 unfold ta
 rw[lz (q:=λi z=>DM z&&jY (λy z=>decide (y.cB<z.cB)) l i z) (x:= .inl ()),hF]
 intro i z hz
 refine DT (S:=S i z ()) (g:=DM) (q:=λy z=>decide (y.cB<z.cB)) hm hz ?_
 rw[hS _ z (List.mem_of_getElem? hz)]
 unfold DM
 simp only[Td]
 cases nS z.cB<;>cases mI z.ae<;>rfl
theorem R3 {S:Int->an->Unit->T (Unit ⊕ Unit ⊕ (Bool×Int))} {F:Int->Unit->T (Unit ⊕ (Bool×Int))} {l:List an} (hm:l.length<=maxLen)
  (hF:(F (l.length:Int) ()).val=some (.inr (false,(l.length:Int))))
  (hS: ∀(i:Int) z,(S i z ()).val=bif !mI z.ae then some (.inr (.inl ())) else bif decide ((z.a_.length:Int)<1) then some (.inr (.inl ())) else bif decide ((z.a_.length:Int)>4) then some (.inr (.inl ())) else bif decide (i>0) then(idx l (IntKind.i64.wrap (i-1))).bind λy=>bif decide (y.ae>=z.ae) then some (.inr (.inl ())) else some (.inl ()) else some (.inl ())):
  dO (λi z a=>(S i z a).val) (λi a=>(F i a).val) 0 l ()=bif r8 l then some (.inr (false,(l.length:Int))) else some (.inl ()):=by
 unfold r8
 rw[lz (q:=λi z=>okB z&&jY (λy z=>decide (y.ae<z.ae)) l i z) (x:= .inl ()),hF]
 intro i z hz
 refine DT (S:=S i z ()) (g:=okB) (q:=λy z=>decide (y.ae<z.ae)) hm hz ?_
 rw[hS]
 unfold okB
 have e1:decide ((z.a_.length:Int)<1)=!decide (1<=z.a_.length):=by
  by_cases h:1<=z.a_.length
  ·rw[decide_eq_true h,decide_eq_false (by omega)];rfl
  ·rw[decide_eq_false h,decide_eq_true (by omega)];rfl
 have e2:decide ((z.a_.length:Int)>4)=!decide (z.a_.length<=4):=by
  by_cases h:z.a_.length<=4
  ·rw[decide_eq_true h,decide_eq_false (by omega)];rfl
  ·rw[decide_eq_false h,decide_eq_true (by omega)];rfl
 simp only[Td,e1,e2]
 cases mI z.ae<;>cases decide (1<=z.a_.length)<;>cases decide (z.a_.length<=4)<;>rfl
theorem v43 {s:bh} (h:E3 s):H_ aq s=some (n9 s):=by
 show(A8 aq s).val=_
 unfold A8 n9
 simp only[T.de,T.b8,T.fH,T.bO]
 have h1:Gp aq s.aK s.ay=_:=WA (S:=Al aq s.aK s.ay) (F:=yL aq s.aK s.ay) h.ln (by unfold yL;simp) (λi z hz=>by
  unfold Al
  simp only[T.b8,T.bZ,T.bO,apK (h.names z hz),ZL,Option.bind_some])
 have h2:Gq aq s.ay s.aK=_:=R3 (S:=Am aq s.ay s.aK) (F:=yM aq s.ay s.aK) h.lb (by unfold yM;simp) (λi z=>by
  unfold Am
  have e:((z.a_.length:Int)==0)=decide ((z.a_.length:Int)<1):=by
   by_cases h:(z.a_.length:Int)=0
   ·rw[h];rfl
   ·rw[beq_eq_false_iff_ne.2 h,decide_eq_false (by omega)]
  simp only[T.b8,T.bZ,T.bO,ZL,Option.bind_some,e])
 rw[h1]
 cases ta s.aK with
 |false=>rfl
 |true=>
  simp only[cond_true,Option.bind_some,Bool.true_and]
  rw[h2]
  cases r8 s.ay with
  |false=>rfl
  |true=>
   simp only[cond_true,Option.bind_some,Bool.true_and]
   congr 1
   rw[Bool.eq_iff_iff]
   simp
   omega
theorem v49 {s:bh} (h:E3 s):oL aq s=some (bif n9 s then 0 else 350):=by
 show(Bd aq s).val=_
 unfold Bd n9
 simp only[T.de,T.b8,T.fH,T.bO,T.bZ]
 have h1:Gu aq s.aK s.ay=_:=WA (S:=Aq aq s.aK s.ay) (F:=yQ aq s.aK s.ay) h.ln (by unfold yQ;simp) (λi z hz=>by
  unfold Aq
  simp only[T.b8,T.bZ,T.bO,apL (h.names z hz),ZN,Option.bind_some])
 have h2:Gt aq s.ay s.aK=_:=R3 (S:=Ap aq s.ay s.aK) (F:=yP aq s.ay s.aK) h.lb (by unfold yP;simp) (λi z=>by
  unfold Ap
  simp only[T.b8,T.bZ,T.bO,ZN,Option.bind_some])
 rw[h1,h2]
 by_cases hl:s.aK.length<=16
 ·rw[decide_eq_false (by omega: ¬(s.aK.length:Int)>16),decide_eq_true hl]
  cases ta s.aK<;>cases r8 s.ay<;>rfl
 ·rw[decide_eq_true (by omega:(s.aK.length:Int)>16),decide_eq_false hl]
  cases ta s.aK<;>cases r8 s.ay<;>rfl
theorem kR {α:Type} [DecidableEq α] {S:Int->α->Unit->T (Unit ⊕ Unit ⊕ (Bool×Int))} {F:Int->Unit->T (Unit ⊕ (Bool×Int))} {l m:List α} {e:α->α->Bool} (he: ∀x y,e x y=decide (x=y)) (hl:l.length=m.length)
  (hF:(F (l.length:Int) ()).val=some (.inr (false,(l.length:Int))))
  (hS: ∀(i:Int) z,(S i z ()).val=(idx m i).bind λy=>bif !e z y then some (.inr (.inl ())) else some (.inl ())):
  dO (λi z a=>(S i z a).val) (λi a=>(F i a).val) 0 l ()=bif decide (l=m) then some (.inr (false,(l.length:Int))) else some (.inl ()):=by
 rw[lz (q:=λi z=>decide (m[i]? =some z)) (x:= .inl ()),hF]
 ·congr 1
  rw[Bool.eq_iff_iff,BD]
  constructor
  ·intro h
   refine decide_eq_true (List.ext_getElem? λi=>?_)
   cases hz:l[i]? with
   |none=>rw[List.getElem?_eq_none_iff] at hz;rw[List.getElem?_eq_none (by omega)]
   |some z=>
    have:=h i z hz
    rw[Nat.zero_add] at this
    exact(of_decide_eq_true this).symm
  ·intro h k z hk
   have h:=of_decide_eq_true h
   rw[Nat.zero_add,<-h]
   exact decide_eq_true hk
 ·intro i z hz
  have aH:=(List.getElem?_eq_some_iff.1 hz).1
  have hm:m[i]? =some m[i]:=List.getElem?_eq_getElem (by omega)
  have hi:idx m (i:Int)=some m[i]:=KE hm
  rw[hS,hi,hm]
  simp only[Option.bind_some,he,Option.some.injEq]
  by_cases h:z=m[i]
  ·rw[decide_eq_true h,decide_eq_true h.symm];rfl
  ·rw[decide_eq_false h,decide_eq_false (λx=>h x.symm)];rfl
theorem lL {L:Option (Unit ⊕ (Bool×Int))} {p:Bool} {n:Int} (h:L=bif p then some (.inr (false,n)) else some (.inl ())):(T.bd L λx=> .cs x (λ_=> .ok false) λ_=> .ok true:T Bool).val=some p:=by
 rw[h]
 cases p<;>rfl
theorem l5 {α:Type} {l m:List α}:((l.length:Int) !=(m.length:Int))=!decide (l.length=m.length):=by
 by_cases h:l.length=m.length
 ·rw[decide_eq_true h,h];simp
 ·rw[decide_eq_false h];simp;omega
theorem ld {α:Type} [DecidableEq α] {l m:List α} (h:l.length≠m.length):decide (l=m)=false:=decide_eq_false λe=>h (by rw[e])
theorem Sx (x y:ah):iN x y=decide (x=y):=by
 rw[Bool.eq_iff_iff]
 cases x;cases y
 simp[iN,and_assoc]
theorem Ss (x y:aj):kQ x y=decide (x=y):=by
 rw[Bool.eq_iff_iff]
 cases x;cases y
 simp[kQ,and_assoc]
theorem Sv (x y:ar):lJ x y=decide (x=y):=by
 rw[Bool.eq_iff_iff]
 cases x;cases y
 simp[lJ]
theorem Sw (x y:aw):lK x y=decide (x=y):=by
 rw[Bool.eq_iff_iff]
 cases x;cases y
 simp[lK]
theorem Su (x y:Int):(x==y)=decide (x=y):=by rw[Bool.eq_iff_iff];simp
@[simp] theorem v57 (a b:List aj):Ib aq a b=some (decide (a=b)):=by
 show(Bf aq a b).val=_
 unfold Bf
 simp only[T.bZ,T.bO,T.de,l5]
 by_cases h:a.length=b.length
 ·rw[decide_eq_true h]
  exact lL (kR (S:=GM aq a b) (F:=yR aq a b) (e:=kQ) Ss h (by unfold yR;simp) (λi z=>rfl))
 ·rw[decide_eq_false h,ld h]
  rfl
@[simp] theorem apE (a b:List ah):HF aq a b=some (decide (a=b)):=by
 show(AA aq a b).val=_
 unfold AA
 simp only[T.bZ,T.bO,T.de,l5]
 by_cases h:a.length=b.length
 ·rw[decide_eq_true h]
  exact lL (kR (S:=GC aq a b) (F:=yr aq a b) (e:=iN) Sx h (by unfold yr;simp) (λi z=>rfl))
 ·rw[decide_eq_false h,ld h]
  rfl
@[simp] theorem apF (a b:List ar):HG aq a b=some (decide (a=b)):=by
 show(AB aq a b).val=_
 unfold AB
 simp only[T.bZ,T.bO,T.de,l5]
 by_cases h:a.length=b.length
 ·rw[decide_eq_true h]
  exact lL (kR (S:=GD aq a b) (F:=yt aq a b) (e:=lJ) Sv h (by unfold yt;simp) (λi z=>rfl))
 ·rw[decide_eq_false h,ld h]
  rfl
@[simp] theorem apG (a b:List aw):HH aq a b=some (decide (a=b)):=by
 show(AD aq a b).val=_
 unfold AD
 simp only[T.bZ,T.bO,T.de,l5]
 by_cases h:a.length=b.length
 ·rw[decide_eq_true h]
  exact lL (kR (S:=GF aq a b) (F:=yu aq a b) (e:=lK) Sw h (by unfold yu;simp) (λi z=>rfl))
 ·rw[decide_eq_false h,ld h]
  rfl
@[simp] theorem v105 (a b:List Int):HI aq a b=some (decide (a=b)):=by
 show(AE aq a b).val=_
 unfold AE
 simp only[T.bZ,T.bO,T.de,l5]
 by_cases h:a.length=b.length
 ·rw[decide_eq_true h]
  exact lL (kR (S:=GG aq a b) (F:=yw aq a b) (e:=(λx y=>x==y)) Su h (by unfold yw;simp) (λi z=>rfl))
 ·rw[decide_eq_false h,ld h]
  rfl
@[simp] theorem v61 (a b:List aj):Ih aq a b=some (decide (a=b)):=by
 show(Bj aq a b).val=_
 unfold Bj
 simp only[T.bZ,T.bO,T.de,l5]
 by_cases h:a.length=b.length
 ·rw[decide_eq_true h]
  exact lL (kR (S:=GO aq b a) (F:=yT aq b a) (e:=kQ) Ss h (by unfold yT;simp) (λi z=>rfl))
 ·rw[decide_eq_false h,ld h]
  rfl
@[simp] theorem apH (a b:List Int):HJ aq a b=some (decide (a=b)):=by
 show(AF aq a b).val=_
 unfold AF
 simp only[T.bZ,T.bO,T.de,l5]
 by_cases h:a.length=b.length
 ·rw[decide_eq_true h]
  exact lL (kR (S:=GH aq b a) (F:=yx aq b a) (e:=(λx y=>x==y)) Su h (by unfold yx;simp) (λi z=>rfl))
 ·rw[decide_eq_false h,ld h]
  rfl
theorem v60 (a b:b_):Ig aq a b=some (decide (a=b)):=by
 show(Bi aq a b).val=_
 unfold Bi
 simp only[T.bZ,T.bO,T.de,l5]
 obtain⟨g,l⟩:=a
 obtain⟨g',l'⟩:=b
 by_cases hg:g=g'
 ·subst hg
  have e:decide (b_.mk g l=b_.mk g l')=decide (l=l'):=by rw[Bool.eq_iff_iff];simp
  rw[e]
  simp only[beq_self_eq_true,Bool.not_true,cond_false]
  by_cases h:l.length=l'.length
  ·rw[decide_eq_true h]
   exact lL (kR (S:=GN aq l g l') (F:=yS aq l g l') (e:=iN) Sx h (by unfold yS;simp) (λi z=>rfl))
  ·rw[decide_eq_false h,ld h]
   rfl
 ·have e:decide (b_.mk g l=b_.mk g' l')=false:=decide_eq_false (by simp[hg])
  have e2:(g==g')=false:=by simp[hg]
  rw[e,e2]
  rfl
theorem v62 (a b:cz):Ii aq a b=some (decide (a=b)):=by
 show(Bl aq a b).val=_
 unfold Bl
 simp only[T.bZ,T.bO,T.de,l5]
 obtain⟨l,g⟩:=a
 obtain⟨l',g'⟩:=b
 by_cases hg:g=g'
 ·subst hg
  have e:decide (cz.mk l g=cz.mk l' g)=decide (l=l'):=by rw[Bool.eq_iff_iff];simp
  rw[e]
  simp only[bne_self_eq_false,cond_false]
  by_cases h:l.length=l'.length
  ·rw[decide_eq_true h]
   exact lL (kR (S:=GP aq l l' g) (F:=yU aq l l' g) (e:=lJ) Sv h (by unfold yU;simp) (λi z=>rfl))
  ·rw[decide_eq_false h,ld h]
   rfl
 ·have e:decide (cz.mk l g=cz.mk l' g')=false:=decide_eq_false (by simp[hg])
  have e2:(g !=g')=true:=by simp[hg]
  rw[e,e2]
  rfl
theorem v56 (a b:b_):Ia aq a b=some (decide (a=b)):=by
 show(Be aq a b).val=_
 unfold Be
 simp only[T.bZ,T.b8,T.bO,apE,Option.bind_some]
 obtain⟨g,l⟩:=a
 obtain⟨g',l'⟩:=b
 by_cases hg:g=g'
 ·subst hg
  simp
 ·have e:(g==g')=false:=by simp[hg]
  simp[hg,e]
theorem v58 (a b:cz):Ic aq a b=some (decide (a=b)):=by
 show(Bg aq a b).val=_
 unfold Bg
 simp only[T.bZ,T.b8,T.bO,apF,Option.bind_some]
 obtain⟨l,g⟩:=a
 obtain⟨l',g'⟩:=b
 by_cases hg:g=g'
 ·subst hg
  simp
 ·have e:(g==g')=false:=by simp[hg]
  simp[hg,e]
def sg (x y:an):Bool:=(x.ae==y.ae)&&decide (x.a_=y.a_)
theorem Sr (x y:an):sg x y=decide (x=y):=by
 rw[Bool.eq_iff_iff]
 cases x;cases y
 simp[sg]
theorem U9 (a b:bh):decide (a=b)=(decide (a.aK=b.aK)&&decide (a.ay=b.ay)):=by
 rw[Bool.eq_iff_iff]
 cases a;cases b
 simp
theorem v63 (a b:bh):Ij aq a b=some (decide (a=b)):=by
 show(Bm aq a b).val=_
 unfold Bm
 rw[U9]
 simp only[T.bZ,T.bO,T.de,l5]
 by_cases h:a.aK.length=b.aK.length
 rotate_left
 ·rw[decide_eq_false h,ld h]
  rfl
 by_cases h2:a.ay.length=b.ay.length
 rotate_left
 ·rw[decide_eq_true h,decide_eq_false h2,ld h2,Bool.and_false]
  rfl
 rw[decide_eq_true h,decide_eq_true h2]
 simp only[Bool.not_true,cond_false,T.b8]
 have h3:Gx aq a.aK a.ay b.aK b.ay=_:=kR (S:=GQ aq a.aK a.ay b.aK b.ay) (F:=yW aq a.aK a.ay b.aK b.ay) (m:=b.aK) (e:=lK) Sw h (by unfold yW;simp) (λi z=>rfl)
 have h4:Gw aq a.ay b.aK b.ay=_:=kR (S:=As aq a.ay b.aK b.ay) (F:=yV aq a.ay b.aK b.ay) (m:=b.ay) (e:=sg) Sr h2 (by unfold yV;simp) (λi z=>by
  unfold As sg
  simp only[T.b8,T.bZ,T.bO,apH,Option.bind_some]
  cases idx b.ay i with
  |none=>rfl
  |some y=>
   simp only[Option.bind_some]
   cases h:z.ae==y.ae<;>simp[bne,h])
 rw[h3]
 cases decide (a.aK=b.aK) with
 |false=>rfl
 |true=>
  simp only[cond_true,Option.bind_some,T.fH,T.de,Bool.true_and]
  exact lL h4
theorem v59 (a b:bh):Ie aq a b=some (decide (a=b)):=by
 show(Bh aq a b).val=_
 unfold Bh
 rw[U9]
 simp only[T.bZ,T.bO,T.de,T.b8,apG,Option.bind_some,l5]
 cases decide (a.aK=b.aK) with
 |false=>rfl
 |true=>
  simp only[cond_true,Bool.true_and]
  by_cases h2:a.ay.length=b.ay.length
  rotate_left
  ·rw[decide_eq_false h2,ld h2]
   rfl
  rw[decide_eq_true h2]
  have h4:F4 aq b.ay a.ay=_:=kR (S:=zZ aq b.ay a.ay) (F:=yv aq b.ay a.ay) (l:=a.ay) (m:=b.ay) (e:=sg) Sr h2 (by unfold yv;simp) (λi z=>by
   unfold zZ sg
   simp only[T.b8,T.bZ,T.bO,v105,Option.bind_some]
   cases idx b.ay i with
   |none=>rfl
   |some y=>
    simp only[Option.bind_some]
    cases h:z.ae==y.ae<;>simp)
  exact lL h4
theorem Zj (a b:bF):decide (a=b)=(decide (a.aG=b.aG)&&(decide (a.bj=b.bj)&&(decide (a.aI=b.aI)&&decide (a.aA=b.aA)))):=by
 rw[Bool.eq_iff_iff]
 cases a;cases b
 simp
theorem v13 (a b:bF):kS aq a b=some (decide (a=b)):=by
 show(AN aq a b).val=_
 unfold AN
 rw[Zj]
 simp only[T.bZ,T.bO,T.b8,v60,v61,v62,v63,Option.bind_some]
 cases decide (a.aG=b.aG)<;>cases decide (a.bj=b.bj)<;>cases decide (a.aI=b.aI)<;>rfl
theorem v12 (a b:bF):qi aq a b=some (decide (a=b)):=by
 show(AI aq a b).val=_
 unfold AI
 rw[Zj]
 simp only[T.bZ,T.bO,T.b8,v56,v57,v58,v59,Option.bind_some]
 cases decide (a.aG=b.aG)<;>cases decide (a.bj=b.bj)<;>cases decide (a.aI=b.aI)<;>rfl
theorem r9 {α:Type} (l:List α) (n:Nat) (k:Int) (hk:k=n):gq l none (some (if k<(l.length:Int) then k else(l.length:Int))) none=some (l.take n):=by
 subst hk
 unfold gq
 by_cases h:(n:Int)<(l.length:Int)
 ·rw[if_pos h]
  simp only[Option.getD_none,Option.getD_some]
  rw[if_pos ⟨by omega,by omega,by omega,by omega,by omega,by simp⟩]
  simp
 ·rw[if_neg h]
  simp only[Option.getD_none,Option.getD_some]
  rw[if_pos ⟨by omega,by omega,by omega,by omega,by omega,by simp⟩,Int.toNat_natCast]
  show some ((l.take l.length).drop 0)=_
  rw[List.drop_zero,List.take_length,List.take_of_length_le (by omega)]
theorem oB {α:Type} {b n:Nat} {xs ys:List α} (h:xs.length+ys.length<=n) (hb:b*n<=140737488355328):app b xs ys=some (xs++ys):=by
 refine RO ?_
 have:(xs.length+ys.length)*b<=n*b:=Nat.mul_le_mul_right _ h
 rw[Nat.mul_comm n b] at this
 omega
theorem XX {α β X:Type} {step:Int->α->List β->Option (List β ⊕ X)} {fin:Int->List β->Option X} {g:α->β} {l:List α} (h: ∀(i:Nat) z (a:List β),a.length=i->l[i]? =some z->step i z a=some (.inl (a++[g z]))):
  ∀(r pre:List α),l=pre++r->dO step fin pre.length r (pre.map g)=fin (l.length:Int) (l.map g)
 |[],pre,e=>by
  rw[List.append_nil] at e
  subst e
  rfl
 |z::r,pre,e=>by
  rw[tD,h pre.length z (pre.map g) (by simp) (by rw[e];simp),Option.bind_some]
  have:=XX (fin:=fin) h r (pre++[z]) (by rw[e];simp)
  rw[show(pre++[z]).length=pre.length+1 by simp,List.map_append] at this
  exact this
def DR (b:an):an:=⟨b.ae,b.a_.take 6⟩
def nX (s:bF):bF:=⟨⟨s.aG.aR,s.aG.ao.take 18⟩,s.bj.take 66,⟨s.aI.ao.take 18,s.aI.bz⟩,⟨s.aA.aK.take 18,(s.aA.ay.take 18).map DR⟩⟩
theorem ry {α:Type} (l:List α) (n:Nat):(l.take n).length<=n:=by rw[List.length_take];omega
theorem v9 (s:bF):mu aq s=some (nX s):=by
 show(Bv aq s).val=_
 unfold Bv nX
 simp only[T.b8,T.de,T.bO]
 rw[r9 s.aG.ao 18 18 rfl,Option.bind_some,oB (n:=18) (by simpa using ry _ 18) (by omega),Option.bind_some]
 rw[r9 s.bj 66 66 rfl,Option.bind_some,oB (n:=66) (by simpa using ry _ 66) (by omega),Option.bind_some]
 rw[r9 s.aI.ao 18 18 rfl,Option.bind_some,oB (n:=18) (by simpa using ry _ 18) (by omega),Option.bind_some]
 rw[r9 s.aA.aK 18 18 rfl,Option.bind_some,oB (n:=18) (by simpa using ry _ 18) (by omega),Option.bind_some]
 rw[r9 s.aA.ay 18 18 rfl,Option.bind_some]
 simp only[List.nil_append]
 have hl: ∀(p1:List Int) (p2:Int) (p4:List ah) (p5:List aj) (p6:List ar) (p7:List aw),zS aq (s.aA.ay.take 18) p1 p2 s.aA.ay p4 p5 p6 p7 []=some (false,((s.aA.ay.take 18).length:Int),(s.aA.ay.take 18).map DR):=by
  intro p1 p2 p4 p5 p6 p7
  have:=XX (step:=λi z a=>(u_ aq (s.aA.ay.take 18) p1 p2 s.aA.ay p4 p5 p6 p7 i z a).val) (fin:=λi a=>(yY aq (s.aA.ay.take 18) p1 p2 s.aA.ay p4 p5 p6 p7 i a).val) (g:=DR) (l:=s.aA.ay.take 18) (λi z a ha hz=>by
   have aH:=(List.getElem?_eq_some_iff.1 hz).1
   have h18:=ry s.aA.ay 18
   show(u_ aq (s.aA.ay.take 18) p1 p2 s.aA.ay p4 p5 p6 p7 i z a).val=_
   unfold u_
   simp only[T.b8,T.bO]
   rw[r9 z.a_ 6 6 rfl,Option.bind_some,oB (n:=6) (by simpa using ry _ 6) (by omega),Option.bind_some,oB (n:=18) (by simp;omega) (by omega),Option.bind_some]
   rfl) (s.aA.ay.take 18) [] rfl
  have h2:zS aq (s.aA.ay.take 18) p1 p2 s.aA.ay p4 p5 p6 p7 []=_:=this
  rw[h2]
  unfold yY
  simp
 rw[hl]
 rfl
def rowsOf (s:bF):List Int:=[(s.aA.aK.length:Int),(s.aI.ao.length:Int),(s.aG.ao.length:Int),(s.bj.length:Int),s.aA.ay.foldl (λa z=>IntKind.i64.wrap (a+(z.a_.length:Int))) 0]
theorem v14 (s:bF):B1 aq s=some (rowsOf s):=by
 show(AQ aq s).val=_
 unfold AQ rowsOf
 simp only[T.b8,T.de,T.bO]
 have h:Gd aq s.aA.ay s.aG.aR s.aG.ao s.bj s.aI.ao s.aI.bz s.aA.aK 0=_:=rj (g:=λa (z:an)=>IntKind.i64.wrap (a+(z.a_.length:Int))) (l:=s.aA.ay) (i:=0) (a:=0) (step:=λi z a=>(GK aq s.aA.ay s.aG.aR s.aG.ao s.bj s.aI.ao s.aI.bz s.aA.aK i z a).val) (fin:=λi a=>(EL aq s.aA.ay s.aG.aR s.aG.ao s.bj s.aI.ao s.aI.bz s.aA.aK i a).val) (λi z a _=>rfl)
 rw[h]
 rfl
theorem v15 {s:bF} {e:Int} (he:qh aq s=some e):qj aq s=some (bif e !=0 then[0,0,0,0,0] else rowsOf s):=by
 show(AR aq s).val=_
 unfold AR rowsOf
 simp only[T.b8,T.de,T.bO,T.bZ,he,Option.bind_some]
 have h:Ge aq s.aA.ay s.aG.aR s.aG.ao s.bj s.aI.ao s.aI.bz s.aA.aK 0=_:=rj (g:=λa (z:an)=>IntKind.i64.wrap (a+(z.a_.length:Int))) (l:=s.aA.ay) (i:=0) (a:=0) (step:=λi z a=>(GL aq s.aA.ay s.aG.aR s.aG.ao s.bj s.aI.ao s.aI.bz s.aA.aK i z a).val) (fin:=λi a=>(EM aq s.aA.ay s.aG.aR s.aG.ao s.bj s.aI.ao s.aI.bz s.aA.aK i a).val) (λi z a _=>rfl)
 rw[h]
 cases e !=0<;>rfl
def WH:bF:=⟨⟨[1,0,0,0,0,0,0,0,0,0,0,0,0,0,0,0],[ah.mk 1 0 false 0]⟩,[],⟨[],1⟩,⟨[],[]⟩⟩
theorem v16:qk aq=some WH:=rfl
theorem v17:sr aq=some WH:=rfl
theorem s' (p:Int×Int) (r:List (Int×Int)) (j:Int):cj (p::r) j=bif j==p.1 then some p.2 else cj r j:=by
 unfold cj
 rw[List.find?_cons]
 cases j==p.1<;>rfl
theorem Zf (p:Int×Int) (r:List (Int×Int)) (k v:Int):eW (p::r) k v=bif k==p.1 then(k,v)::r else p::eW r k v:=by
 unfold eW
 rw[List.findIdx?_cons]
 cases k==p.1 with
 |true=>rfl
 |false=>
  simp only[cond_false,Bool.false_eq_true,if_false]
  cases List.findIdx? (λp=>k==p.1) r<;>rfl
theorem Lf (k v j:Int): ∀m:List (Int×Int),cj (eW m k v) j=if j=k then some v else cj m j
 |[]=>by
  show cj [(k,v)] j=_
  rw[s']
  by_cases h:j=k
  ·simp[h]
  ·have e:(j==k)=false:=by simp[h]
   simp[h,e]
 |p::r=>by
  rw[Zf]
  cases hk:k==p.1 with
  |true=>
   have hk:=eq_of_beq hk
   simp only[cond_true]
   rw[s',s']
   by_cases h:j=k
   ·simp[h]
   ·have h2:(j==p.1)=false:=by rw[<-hk];simp[h]
    have e:(j==k)=false:=by simp[h]
    simp[h,h2,e]
  |false=>
   simp only[cond_false]
   rw[s',s',Lf k v j r]
   by_cases h:j=k
   ·subst h
    rw[hk]
    simp
   ·simp[h]
theorem Ws {α:Type} (c:α->Bool) (key:α->Int) (j:Int): ∀(l:List α) (m:List (Int×Int)),cj (l.foldl (λa z=>bif c z then eW a (key z) 1 else a) m) j=if l.any (λz=>c z&&(key z==j)) then some 1 else cj m j
 |[],m=>by simp
 |z::l,m=>by
  rw[List.foldl_cons,Ws c key j l,List.any_cons]
  cases c z with
  |false=>simp
  |true=>
   simp only[cond_true,Bool.true_and,Lf]
   by_cases h:j=key z
   ·subst h;simp
   ·have:(key z==j)=false:=by simp;exact λe=>h e.symm
    simp[h,this]
theorem Wt {α:Type} (c:α->Bool) (key:α->Int) (j:Int) (l:List α):((cj (l.foldl (λa z=>bif c z then eW a (key z) 1 else a) []) j).getD 0==1)=l.any (λz=>c z&&(key z==j)):=by
 rw[Ws]
 cases l.any (λz=>c z&&(key z==j))<;>rfl
theorem LH {l:List ah} (h: ∀i x,l[i]? =some x->jX l i x=true): ∀(j i:Nat) (x y:ah),i<j->l[i]? =some x->l[j]? =some y->ix x.ae<ix y.ae
 |0,i,x,y,dp,_,_=>by omega
 |j+1,i,x,y,dp,hx,hy=>by
  have h1:=h (j+1) y hy
  have aH:=(List.getElem?_eq_some_iff.1 hy).1
  have hj:l[j]? =some l[j]:=List.getElem?_eq_getElem (by omega)
  unfold jX at h1
  rw[show(j+1==0)=false from rfl,Bool.false_or,Nat.add_sub_cancel,hj] at h1
  have h1:ix l[j].ae<ix y.ae:=of_decide_eq_true h1
  rcases Nat.lt_succ_iff_lt_or_eq.1 dp with h2|h2
  ·have:=LH h j i x l[j] h2 hx hj
   omega
  ·subst h2
   rw[hj] at hx
   cases hx
   exact h1
theorem anO {p:b_} (h:allI (λi x=>jV p x&&jX p.ao i x) 0 p.ao=true) (pid:Int):ez p.ao pid=p.ao.any (λz=>!z.bW&&(z.ae==pid)):=by
 have ho: ∀i x,p.ao[i]? =some x->jX p.ao i x=true:=λi x hx=>by
  have:=BD.1 h i x hx
  rw[Nat.zero_add,Bool.and_eq_true] at this
  exact this.2
 unfold ez nU
 cases hf:p.ao.find? (λz=>z.ae==pid) with
 |none=>
  symm
  rw[List.any_eq_false]
  intro z hz
  have:=List.find?_eq_none.1 hf z hz
  simp only[Bool.and_eq_true,not_and]
  exact λ_=>this
 |some z0=>
  have UY:=List.mem_of_find?_eq_some hf
  have lZ:(z0.ae==pid)=true:=List.find?_some (p:=λz:ah=>z.ae==pid) hf
  rw[Bool.eq_iff_iff,List.any_eq_true]
  constructor
  ·intro hd
   have hd:(!z0.bW)=true:=hd
   exact⟨z0,UY,by rw[hd,lZ];rfl⟩
  ·rintro ⟨z,hz,hc⟩
   rw[Bool.and_eq_true] at hc
   obtain⟨i,hi⟩:=List.getElem?_of_mem hz
   obtain⟨j,hj⟩:=List.getElem?_of_mem UY
   have e:z.ae=z0.ae:=(eq_of_beq hc.2).trans (eq_of_beq lZ).symm
   rcases Nat.lt_trichotomy i j with h1|h1|h1
   ·have:=LH ho j i z z0 h1 hi hj
    rw[e] at this;omega
   ·subst h1
    rw[hi] at hj
    cases hj
    exact hc.1
   ·have:=LH ho i j z0 z h1 hj hi
    rw[e] at this;omega
@[simp] theorem v45 (s:bF) (id:Int):H' aq s id=some (s.aI.ao.any λm=>m.bc==id):=by
 show(A_ aq s id).val=_
 unfold A_ Gr
 simp only[T.de,T.b8]
 show((dO (λi z a=>(Ao aq id s.aI.ao i z a).val) (λi a=>(EN aq id s.aI.ao i a).val) 0 s.aI.ao ()).bind _)=_
 rw[xU (p:=λz=>z.bc==id) (e:=λz=> .inl ()),<-S3]
 ·cases List.find? (λz=>z.bc==id) s.aI.ao<;>rfl
 ·intro i z _
  unfold Ao
  cases h:z.bc==id<;>simp
def DN {A B C D:Type}:(A×Bool×B) ⊕ (C×Bool×D)->Bool
 | .inl y=>y.2.1
 | .inr y=>y.2.1
theorem Ef {α X:Type} {step:Int->α->Bool->Option (Bool ⊕ X)} {fin:Int->Bool->Option X} {out:X->Bool} {q:α->Bool} (hF: ∀i a,∃x,fin i a=some x/\out x=a):
  ∀ {l:List α} {i:Nat},(∀i z a,z∈l->(q z=true/\step i z a=some (.inl true))\/(q z=false/\ ∃x,step i z a=some (.inr x)/\out x=false))-> ∃x,dO step fin i l true=some x/\out x=l.all q
 |[],i,_=>by
  obtain⟨x,h1,h2⟩:=hF i true
  exact⟨x,h1,h2⟩
 |z::l,i,h=>by
  rw[tD,List.all_cons]
  rcases h i z true List.mem_cons_self with⟨h1,h2⟩|⟨h1,x,h2,h3⟩
  ·rw[h1,h2,Option.bind_some]
   obtain⟨x,h4,h5⟩:=Ef hF (l:=l) (i:=i+1) λi z a hz=>h i z a (List.mem_cons_of_mem _ hz)
   exact⟨x,h4,by simpa using h5⟩
  ·rw[h1,h2,Option.bind_some]
   exact⟨x,rfl,by simpa using h3⟩
theorem BE {α:Type} {q:α->Bool}: ∀ {l:List α} {i:Nat},allI (λ_ z=>q z) i l=l.all q
 |[],_=>rfl
 |z::l,i=>by simp only[allI,List.all_cons];rw[BE]
def xR (s:bF):Bool:=(s.bj.all λd=>ez s.aG.ao d.ae&&s.aI.ao.any λm=>m.bc==d.c8)&&((s.aA.aK.all λn=>ez s.aG.ao n.ae)&&s.aA.ay.all λb=>ez s.aG.ao b.ae)
structure E6 (s:bF):Prop where
 p:E5 s.aG
 d:s.bj.length<=maxLen
 i:E3 s.aA
theorem v10 {s:bF} (h:E6 s) {m:Bool} (hm:B5 aq s.aI=some m):HE aq s=some (mP s.aG&&(n8 s.bj&&(m&&(n9 s.aA&&xR s)))):=by
 show(Az aq s).val=_
 unfold Az
 simp only[T.b8,T.bZ,T.bO,T.de,T.fH,v40 h.p,v41 h.d,hm,v43 h.i,Option.bind_some]
 cases mP s.aG<;>cases n8 s.bj<;>cases m<;>cases n9 s.aA<;>simp only[Bool.not_true,Bool.not_false,cond_true,cond_false,Bool.true_and,Bool.false_and]
 unfold xR
 have h1:F7 aq s.bj s.aG.aR s.aG.ao s.aI.ao s.aI.bz s.aA.aK s.aA.ay=bif (s.bj.all λd=>ez s.aG.ao d.ae&&s.aI.ao.any λm=>m.bc==d.c8) then some (.inr (false,(s.bj.length:Int))) else some (.inl ()):=by
  rw[<-BE (i:=0)]
  show dO (λi z a=>(Ab aq s.bj s.aG.aR s.aG.ao s.aI.ao s.aI.bz s.aA.aK s.aA.ay i z a).val) (λi a=>(yA aq s.bj s.aG.aR s.aG.ao s.aI.ao s.aI.bz s.aA.aK s.aA.ay i a).val) 0 s.bj ()=_
  rw[lz (q:=λ_ d=>ez s.aG.ao d.ae&&s.aI.ao.any λm=>m.bc==d.c8) (x:= .inl ())]
  ·congr 1
   unfold yA
   simp
  ·intro i z _
   unfold Ab
   simp only[T.b8,T.bZ,T.bO,MO,v45,Option.bind_some]
   cases ez s.aG.ao z.ae<;>cases (s.aI.ao.any λm=>m.bc==z.c8)<;>rfl
 have h2:F5 aq s.aA.aK s.aG.aR s.aG.ao s.bj s.aI.ao s.aI.bz s.aA.ay=bif (s.aA.aK.all λn=>ez s.aG.ao n.ae) then some (.inr (false,(s.aA.aK.length:Int))) else some (.inl ()):=by
  rw[<-BE (i:=0)]
  show dO (λi z a=>(z_ aq s.aA.aK s.aG.aR s.aG.ao s.bj s.aI.ao s.aI.bz s.aA.ay i z a).val) (λi a=>(yy aq s.aA.aK s.aG.aR s.aG.ao s.bj s.aI.ao s.aI.bz s.aA.ay i a).val) 0 s.aA.aK ()=_
  rw[lz (q:=λ_ d=>ez s.aG.ao d.ae) (x:= .inl ())]
  ·congr 1
   unfold yy
   simp
  ·intro i z _
   unfold z_
   simp only[T.b8,T.bZ,T.bO,MO,Option.bind_some]
   cases ez s.aG.ao z.ae<;>rfl
 have h3:F6 aq s.aA.ay s.aG.aR s.aG.ao s.bj s.aI.ao s.aI.bz s.aA.aK=bif (s.aA.ay.all λn=>ez s.aG.ao n.ae) then some (.inr (false,(s.aA.ay.length:Int))) else some (.inl ()):=by
  rw[<-BE (i:=0)]
  show dO (λi z a=>(Aa aq s.aA.ay s.aG.aR s.aG.ao s.bj s.aI.ao s.aI.bz s.aA.aK i z a).val) (λi a=>(yz aq s.aA.ay s.aG.aR s.aG.ao s.bj s.aI.ao s.aI.bz s.aA.aK i a).val) 0 s.aA.ay ()=_
  rw[lz (q:=λ_ d=>ez s.aG.ao d.ae) (x:= .inl ())]
  ·congr 1
   unfold yz
   simp
  ·intro i z _
   unfold Aa
   simp only[T.b8,T.bZ,T.bO,MO,Option.bind_some]
   cases ez s.aG.ao z.ae<;>rfl
 rw[h1,h2,h3]
 cases (s.bj.all λd=>ez s.aG.ao d.ae&&s.aI.ao.any λm=>m.bc==d.c8)<;>cases (s.aA.aK.all λn=>ez s.aG.ao n.ae)<;>cases (s.aA.ay.all λn=>ez s.aG.ao n.ae)<;>rfl
theorem S50 (l:List aj) (M1 M2:List (Int×Int)) (i:Int) (z:aj) (a:Bool):(rS aq l M1 M2 i z a).val=bif ((cj M1 z.ae).getD 0==1) then(bif !((cj M2 z.c8).getD 0==1) then some (.inr (.inl (!((cj M2 z.c8).getD 0==1),((cj M2 z.c8).getD 0==1),z.ae,z.cJ,z.c8,z,decide (i<l.length),a,i))) else some (.inl ((cj M2 z.c8).getD 0==1))) else some (.inr (.inl (true,false,z.ae,z.cJ,z.c8,z,decide (i<l.length),a,i))):=by
 unfold rS
 cases cj M1 z.ae<;>cases cj M2 z.c8<;>rfl
theorem S52 (l:List aw) (M1:List (Int×Int)) (i:Int) (z:aw) (a:Bool):(rT aq l M1 i z a).val=bif !((cj M1 z.ae).getD 0==1) then some (.inr (.inl (!((cj M1 z.ae).getD 0==1),((cj M1 z.ae).getD 0==1),z.cB,z.ae,z,decide (i<l.length),a,i))) else some (.inl ((cj M1 z.ae).getD 0==1)):=by
 unfold rT
 cases cj M1 z.ae<;>rfl
theorem S54 (l:List an) (M1:List (Int×Int)) (i:Int) (z:an) (a:Bool):(rU aq l M1 i z a).val=bif !((cj M1 z.ae).getD 0==1) then some (.inr (.inl (!((cj M1 z.ae).getD 0==1),((cj M1 z.ae).getD 0==1),z.ae,z.a_,z,decide (i<l.length),a,i))) else some (.inl ((cj M1 z.ae).getD 0==1)):=by
 unfold rU
 cases cj M1 z.ae<;>rfl
theorem v11 {s:bF} (h:E6 s) {m:Bool} (hm:vE aq s.aI=some (bif m then 0 else 340)):qh aq s=some (bif mP s.aG&&(n8 s.bj&&(m&&(n9 s.aA&&xR s))) then 0 else 360):=by
 show(AG aq s).val=_
 unfold AG
 simp only[T.b8,T.bZ,T.bO,T.de,v46 h.p,v47 h.d,hm,v49 h.i,Option.bind_some]
 cases hp:mP s.aG
 ·rfl
 cases n8 s.bj
 ·rfl
 cases m
 ·rfl
 cases n9 s.aA
 ·rfl
 have fO:allI (λi x=>jV s.aG x&&jX s.aG.ao i x) 0 s.aG.ao=true:=by
  unfold mP at hp
  rw[Bool.and_eq_true,Bool.and_eq_true] at hp
  exact hp.2.1
 have hr:=anO fO
 simp only[cond_true,cond_false,Bool.true_and,show((0:Int) !=0)=false from rfl]
 obtain⟨M1,TJ⟩: ∃M,M=s.aG.ao.foldl (λa z=>bif !z.bW then eW a z.ae 1 else a) []:=⟨_,rfl⟩
 obtain⟨M2,TK⟩: ∃M,M=s.aI.ao.foldl (λa z=>bif (λ_:ar=>true) z then eW a z.bc 1 else a) []:=⟨_,rfl⟩
 have h1:zM aq s.aG.ao s.aG.aR s.bj s.aI.ao s.aI.bz s.aA.aK s.aA.ay []=some (false,(s.aG.ao.length:Int),M1):=by
  have:=rj (g:=λa (z:ah)=>bif !z.bW then eW a z.ae 1 else a) (l:=s.aG.ao) (i:=0) (a:=[]) (step:=λi z a=>(uZ aq s.aG.ao s.aG.aR s.bj s.aI.ao s.aI.bz s.aA.aK s.aA.ay i z a).val) (fin:=λi a=>(yC aq s.aG.ao s.aG.aR s.bj s.aI.ao s.aI.bz s.aA.aK s.aA.ay i a).val) (λi z a _=>by
   show(uZ aq s.aG.ao s.aG.aR s.bj s.aI.ao s.aI.bz s.aA.aK s.aA.ay i z a).val=_
   unfold uZ
   cases z.bW<;>rfl)
  have h2:zM aq s.aG.ao s.aG.aR s.bj s.aI.ao s.aI.bz s.aA.aK s.aA.ay []=_:=this
  rw[h2,TJ]
  unfold yC
  simp
 have h2:zL aq s.aI.ao s.aG.aR s.aG.ao s.bj s.aI.bz s.aA.aK s.aA.ay M1 []=some (false,(s.aI.ao.length:Int),M2):=by
  have:=rj (g:=λa (z:ar)=>bif (λ_:ar=>true) z then eW a z.bc 1 else a) (l:=s.aI.ao) (i:=0) (a:=[]) (step:=λi z a=>(GI aq s.aI.ao s.aG.aR s.aG.ao s.bj s.aI.bz s.aA.aK s.aA.ay M1 i z a).val) (fin:=λi a=>(yB aq s.aI.ao s.aG.aR s.aG.ao s.bj s.aI.bz s.aA.aK s.aA.ay M1 i a).val) (λi z a _=>rfl)
  have h2:zL aq s.aI.ao s.aG.aR s.aG.ao s.bj s.aI.bz s.aA.aK s.aA.ay M1 []=_:=this
  rw[h2,TK]
  unfold yB
  simp
 have bC: ∀pid,((cj M1 pid).getD 0==1)=ez s.aG.ao pid:=λpid=>by rw[TJ,Wt (λz:ah=>!z.bW) (λz=>z.ae),hr pid]
 have hmt: ∀id,((cj M2 id).getD 0==1)=s.aI.ao.any λm=>m.bc==id:=λid=>by rw[TK,Wt (λ_:ar=>true) (λz=>z.bc)];simp
 obtain⟨x6,h6,o6⟩:=Ef (out:=DN) (q:=λd:aj=>ez s.aG.ao d.ae&&s.aI.ao.any λm=>m.bc==d.c8) (step:=λi z a=>(rS aq s.bj M1 M2 i z a).val) (fin:=λi a=>(EO aq s.bj M1 M2 i a).val) (λi a=>⟨_,rfl,rfl⟩) (l:=s.bj) (i:=0) (λi z a _=>by
  show _/\(rS aq s.bj M1 M2 i z a).val=_\/_
  rw[S50,bC,hmt]
  cases ez s.aG.ao z.ae with
  |false=>exact .inr ⟨rfl,_,rfl,rfl⟩
  |true=>
   cases (s.aI.ao.any λm=>m.bc==z.c8) with
   |false=>exact .inr ⟨rfl,_,rfl,rfl⟩
   |true=>exact .inl ⟨rfl,rfl⟩)
 obtain⟨x7,h7,o7⟩:=Ef (out:=DN) (q:=λd:aw=>ez s.aG.ao d.ae) (step:=λi z a=>(rT aq s.aA.aK M1 i z a).val) (fin:=λi a=>(EP aq s.aA.aK M1 i a).val) (λi a=>⟨_,rfl,rfl⟩) (l:=s.aA.aK) (i:=0) (λi z a _=>by
  show _/\(rT aq s.aA.aK M1 i z a).val=_\/_
  rw[S52,bC]
  cases ez s.aG.ao z.ae with
  |false=>exact .inr ⟨rfl,_,rfl,rfl⟩
  |true=>exact .inl ⟨rfl,rfl⟩)
 obtain⟨x8,h8,o8⟩:=Ef (out:=DN) (q:=λd:an=>ez s.aG.ao d.ae) (step:=λi z a=>(rU aq s.aA.ay M1 i z a).val) (fin:=λi a=>(ER aq s.aA.ay M1 i a).val) (λi a=>⟨_,rfl,rfl⟩) (l:=s.aA.ay) (i:=0) (λi z a _=>by
  show _/\(rU aq s.aA.ay M1 i z a).val=_\/_
  rw[S54,bC]
  cases ez s.aG.ao z.ae with
  |false=>exact .inr ⟨rfl,_,rfl,rfl⟩
  |true=>exact .inl ⟨rfl,rfl⟩)
 have h6:Gv aq s.bj M1 M2 true=some x6:=h6
 have h7:zQ aq s.aA.aK M1 true=some x7:=h7
 have h8:rN aq s.aA.ay M1 true=some x8:=h8
 unfold xR
 rw[h1]
 simp only[Option.bind_some]
 rw[h2]
 simp only[Option.bind_some]
 rw[h6,h7,h8,<-o6,<-o7,<-o8]
 simp only[Option.bind_some]
 rcases x6 with y6|y6<;>rcases x7 with y7|y7<;>rcases x8 with y8|y8<;>simp only[T.fH,T.b8,T.de,T.bZ,T.bO,DN,Option.bind_some]<;>cases y6.2.1<;>cases y7.2.1<;>cases y8.2.1<;>rfl
def GB (w:Int) (b:Bool):Prop:=B7 aq w=some b/\vI aq w=some (bif b then 0 else 310)
structure E4 (P:Int->Bool) (m:cz):Prop where
 path: ∀z∈m.ao,GB z.bY (P z.bY)
 len:m.ao.length<=maxLen
def xD (P:Int->Bool) (next:Int) (z:ar):Bool:=P z.bY&&(decide (1<=z.bc)&&decide (z.bc<next))
def xx (l:List ar) (i:Nat) (z:ar):Bool:=!(l.take i).any λy=>y.bY==z.bY
def s_ (P:Int->Bool) (next:Int) (l:List ar):Bool:=allI (λi z=>(xD P next z&&jY (λy z=>decide (y.bc<z.bc)) l i z)&&xx l i z) 0 l
def xT (P:Int->Bool) (m:cz):Bool:=s_ P m.bz m.ao&&(decide (m.ao.length<=16)&&(decide (m.bz>=1)&&decide (m.bz<=1073741825)))
theorem afs {α:Type} {l:List α} {i:Nat} (h:i<=l.length):gq l none (some (i:Int)) none=some (l.take i):=by
 unfold gq
 simp only[Option.getD_none,Option.getD_some]
 rw[if_pos ⟨by omega,by omega,by omega,by omega,by omega,by simp⟩,Int.toNat_natCast]
 rfl
theorem abL (U:List ar) (p1:Int) (l:List ar) (p3 w p5:Int):zO aq U p1 l p3 w p5=bif l.any (λy=>y.bY==w) then some (.inl ()) else some (.inr (false,(l.length:Int))):=by
 show dO (λi z a=>(Ak aq U p1 l p3 w p5 i z a).val) (λi a=>(yK aq U p1 l p3 w p5 i a).val) 0 l ()=_
 rw[xU (p:=λz=>z.bY==w) (e:=λz=> .inl ()),<-S3]
 ·cases List.find? (λz=>z.bY==w) l with
  |none=>unfold yK;simp
  |some z=>rfl
 ·intro i z _
  unfold Ak
  cases h:z.bY==w<;>simp
theorem v42 {P:Int->Bool} {m:cz} (h:E4 P m):B5 aq m=some (xT P m):=by
 show(A7 aq m).val=_
 unfold A7 xT
 simp only[T.de,T.b8,T.fH,T.bZ,T.bO]
 have hl:Gn aq m.ao m.bz=bif s_ P m.bz m.ao then some (.inr (false,(m.ao.length:Int))) else some (.inl ()):=by
  unfold s_
  show dO (λi z a=>(Aj aq m.ao m.bz i z a).val) (λi a=>(yJ aq m.ao m.bz i a).val) 0 m.ao ()=_
  rw[lz (q:=λi z=>(xD P m.bz z&&jY (λy z=>decide (y.bc<z.bc)) m.ao i z)&&xx m.ao i z) (x:= .inl ())]
  ·congr 1
   unfold yJ
   simp
  ·intro i z hz
   have aH:=(List.getElem?_eq_some_iff.1 hz).1
   unfold Aj xD jY xx
   simp only[T.b8,T.bZ,T.bO,T.de,T.fH,(h.path z (List.mem_of_getElem? hz)).1,Option.bind_some,afs (Nat.le_of_lt aH),abL]
   have e1:decide (z.bc<1)=!decide (1<=z.bc):=by rw[Bool.eq_iff_iff];simp
   have e2:decide (z.bc>=m.bz)=!decide (z.bc<m.bz):=by rw[Bool.eq_iff_iff];simp
   rw[e1,e2]
   cases P z.bY with
   |false=>rfl
   |true=>
    cases decide (1<=z.bc) with
    |false=>rfl
    |true=>
     cases decide (z.bc<m.bz) with
     |false=>rfl
     |true=>
      cases i with
      |zero=>
       rfl
      |succ i=>
       have h1:decide (((i+1:Nat):Int)>0)=true:=decide_eq_true (by omega)
       have hi:i<m.ao.length:=by omega
       rw[h1,Dr aH h.len (by omega)]
       simp only[Bool.not_true,Bool.not_false,cond_false,cond_true,Bool.true_and,show(i+1==0)=false from rfl,Bool.false_or,Nat.add_sub_cancel,List.getElem?_eq_getElem hi,Option.bind_some]
       have e3:decide (m.ao[i].bc>=z.bc)=!decide (m.ao[i].bc<z.bc):=by rw[Bool.eq_iff_iff];simp
       rw[e3]
       cases decide (m.ao[i].bc<z.bc)<;>cases (m.ao.take (i+1)).any (λy=>y.bY==z.bY)<;>rfl
 rw[hl]
 have e:decide ((m.ao.length:Int)<=16)=decide (m.ao.length<=16):=by rw[Bool.eq_iff_iff];simp;omega
 rw[e]
 cases s_ P m.bz m.ao<;>cases decide (m.ao.length<=16)<;>cases decide (m.bz>=1)<;>rfl
def rq (P:Int->Bool) (next:Int):Int->List ar->Bool
 |_,[]=>true
 |a,z::r=>(P z.bY&&(decide (a<z.bc)&&decide (z.bc<next)))&&rq P next z.bc r
theorem Ze {P:Int->Bool} {l0:List ar} {next:Int}: ∀(l:List ar) (i:Nat) (a:Int),(∀z∈l,GB z.bY (P z.bY))->(rq P next a l=true/\ ∃b,dO (λi z a=>(ow aq l0 next i z a).val) (λi a=>(yO aq l0 next i a).val) i l a=some (.inr b))\/(rq P next a l=false/\dO (λi z a=>(ow aq l0 next i z a).val) (λi a=>(yO aq l0 next i a).val) i l a=some (.inl ()))
 |[],i,a,_=> .inl ⟨rfl,_,rfl⟩
 |z::l,i,a,h=>by
  have hs:(ow aq l0 next i z a).val=bif P z.bY&&(decide (a<z.bc)&&decide (z.bc<next)) then some (.inl z.bc) else some (.inr (.inl ())):=by
   unfold ow
   simp only[T.b8,T.bZ,T.bO,(h z List.mem_cons_self).2,Option.bind_some]
   have e1:decide (z.bc<=a)=!decide (a<z.bc):=by rw[Bool.eq_iff_iff];simp
   have e2:decide (z.bc>=next)=!decide (z.bc<next):=by rw[Bool.eq_iff_iff];simp
   rw[e1,e2]
   cases P z.bY<;>cases decide (a<z.bc)<;>cases decide (z.bc<next)<;>rfl
  rw[tD]
  show _/\(∃b,((ow aq l0 next i z a).val.bind _)=_)\/_/\((ow aq l0 next i z a).val.bind _)=_
  rw[hs]
  unfold rq
  cases P z.bY&&(decide (a<z.bc)&&decide (z.bc<next)) with
  |false=>exact .inr ⟨rfl,rfl⟩
  |true=>
   simp only[cond_true,Option.bind_some,Bool.true_and]
   exact Ze l (i+1) z.bc λy hy=>h y (List.mem_cons_of_mem _ hy)
theorem Zd {P:Int->Bool} {next:Int} {l0:List ar}: ∀(r pre:List ar) (a:Int),l0=pre++r->(pre=[]->a=0)->(∀y,pre.getLast? =some y->a=y.bc/\1<=y.bc)->rq P next a r=allI (λi z=>xD P next z&&jY (λy z=>decide (y.bc<z.bc)) l0 i z) pre.length r
 |[],_,_,_,_,_=>rfl
 |z::r,pre,a,e,h0,h1=>by
  unfold rq allI xD
  have hq:(P z.bY&&(decide (a<z.bc)&&decide (z.bc<next)))=((P z.bY&&(decide (1<=z.bc)&&decide (z.bc<next)))&&jY (λy z=>decide (y.bc<z.bc)) l0 pre.length z):=by
   unfold jY
   rcases List.eq_nil_or_concat pre with hp|⟨p,y,hp⟩
   ·subst hp
    rw[h0 rfl]
    have:decide ((0:Int)<z.bc)=decide (1<=z.bc):=by rw[Bool.eq_iff_iff];simp;omega
    rw[this]
    simp
   ·subst hp
    obtain⟨e1,e2⟩:=h1 y (by simp)
    have hg:l0[(p++[y]).length-1]? =some y:=by rw[e];simp
    have aV:((p++[y]).length==0)=false:=by simp
    have:decide (a<z.bc)=(decide (1<=z.bc)&&decide (y.bc<z.bc)):=by rw[Bool.eq_iff_iff];simp;omega
    simp only[List.concat_eq_append] at*
    rw[hg,aV,this]
    simp only[Bool.false_or]
    cases P z.bY<;>cases decide (1<=z.bc)<;>cases decide (y.bc<z.bc)<;>cases decide (z.bc<next)<;>rfl
  rw[hq]
  cases hc:(P z.bY&&(decide (1<=z.bc)&&decide (z.bc<next)))&&jY (λy z=>decide (y.bc<z.bc)) l0 pre.length z with
  |false=>rfl
  |true=>
   have hid:1<=z.bc:=by
    simp only[Bool.and_eq_true,decide_eq_true_eq] at hc
    exact hc.1.2.1
   have:=Zd (P:=P) (next:=next) (l0:=l0) r (pre++[z]) z.bc (by rw[e];simp) (λh=>by simp at h) (λy hy=>by simp at hy;subst hy;exact⟨rfl,hid⟩)
   rw[show(pre++[z]).length=pre.length+1 by simp] at this
   rw[this]
   rfl
def mapM:List (Int×Int)->List ar->List (Int×Int)
 |m,[]=>m
 |m,z::r=>mapM (eW m z.bY z.bc) r
def ka:List (Int×Int)->List ar->Bool
 |_,[]=>true
 |m,z::r=>!(cj m z.bY).isSome&&ka (eW m z.bY z.bc) r
theorem Wq (k v:Int): ∀m:List (Int×Int),(eW m k v).length=if(cj m k).isSome then m.length else m.length+1
 |[]=>rfl
 |p::r=>by
  rw[Zf,s']
  cases k==p.1 with
  |true=>simp
  |false=>
   simp only[cond_false,List.length_cons,Wq k v r]
   split<;>rfl
theorem Wx: ∀(l:List ar) (m:List (Int×Int)),(mapM m l).length<=m.length+l.length/\(ka m l=true->(mapM m l).length=m.length+l.length)/\(ka m l=false->(mapM m l).length<m.length+l.length)
 |[],m=>by simp[mapM,ka]
 |z::r,m=>by
  obtain⟨h1,h2,h3⟩:=Wx r (eW m z.bY z.bc)
  have hl:=Wq z.bY z.bc m
  simp only[mapM,ka,List.length_cons]
  cases hs:(cj m z.bY).isSome with
  |true=>
   rw[hs,if_pos rfl] at hl
   simp only[Bool.not_true,Bool.false_and]
   refine⟨by omega,λh=>(by cases h),λ_=>by omega⟩
  |false=>
   rw[hs,if_neg (by simp)] at hl
   simp only[Bool.not_false,Bool.true_and]
   exact⟨by omega,λh=>by have:=h2 h;omega,λh=>by have:=h3 h;omega⟩
theorem Wy (j:Int): ∀(l:List ar) (m:List (Int×Int)),(cj (mapM m l) j).isSome=(l.any (λy=>y.bY==j)||(cj m j).isSome)
 |[],m=>by simp[mapM]
 |z::r,m=>by
  simp only[mapM,List.any_cons]
  rw[Wy j r,Lf]
  by_cases h:j=z.bY
  ·subst h;simp
  ·have:(z.bY==j)=false:=by simp;exact λe=>h e.symm
   simp[h,this]
theorem Ww: ∀(l r:List ar) (m:List (Int×Int)),mapM m (l++r)=mapM (mapM m l) r
 |[],r,m=>rfl
 |z::l,r,m=>Ww l r _
theorem Tc {l0:List ar}: ∀(r pre:List ar),l0=pre++r->ka (mapM [] pre) r=allI (λi z=>xx l0 i z) pre.length r
 |[],_,_=>rfl
 |z::r,pre,e=>by
  unfold ka allI xx
  rw[Wy]
  have ht:l0.take pre.length=pre:=by rw[e];simp
  have hn:(cj ([]:List (Int×Int)) z.bY).isSome=false:=rfl
  rw[ht,hn,Bool.or_false]
  have:=Tc (l0:=l0) r (pre++[z]) (by rw[e];simp)
  rw[show(pre++[z]).length=pre.length+1 by simp,Ww] at this
  have this:ka (eW (mapM [] pre) z.bY z.bc) r=_:=this
  rw[this]
  rfl
theorem RK {α:Type} {p q:Nat->α->Bool}: ∀ {l:List α} {i:Nat},allI (λi z=>p i z&&q i z) i l=(allI p i l&&allI q i l)
 |[],_=>rfl
 |z::l,i=>by
  simp only[allI]
  rw[RK]
  cases p i z<;>cases q i z<;>cases allI p (i+1) l<;>simp
theorem akw {P:Int->Bool} {next:Int} {l:List ar}:s_ P next l=(rq P next 0 l&&ka [] l):=by
 unfold s_
 rw[RK,Zd (l0:=l) l [] 0 rfl (λ_=>rfl) (λy hy=>by simp at hy)]
 have:=Tc (l0:=l) l [] rfl
 have this:ka [] l=_:=this
 rw[this]
 rfl
theorem fold_map: ∀(l:List ar) (m:List (Int×Int)),l.foldl (λa z=>eW a z.bY z.bc) m=mapM m l
 |[],_=>rfl
 |z::r,m=>fold_map r _
theorem v48 {P:Int->Bool} {m:cz} (h:E4 P m):vE aq m=some (bif xT P m then 0 else 340):=by
 show(Bc aq m).val=_
 unfold Bc xT
 rw[akw]
 simp only[T.de,T.b8,T.fH,T.bZ,T.bO]
 have h2:zR aq m.ao []=some (false,(m.ao.length:Int),mapM [] m.ao):=by
  have:=rj (g:=λa (z:ar)=>eW a z.bY z.bc) (l:=m.ao) (i:=0) (a:=[]) (step:=λi z a=>(GR aq m.ao i z a).val) (fin:=λi a=>(yX aq m.ao i a).val) (λi z a _=>rfl)
  have h2:zR aq m.ao []=_:=this
  rw[h2,fold_map]
  unfold yX
  simp
 obtain⟨q1,q2,q3⟩:=Wx m.ao []
 have bP:decide (((mapM [] m.ao).length:Int)<(m.ao.length:Int))=!ka [] m.ao:=by
  cases hf:ka [] m.ao with
  |true=>have:=q2 hf;simp at this;exact decide_eq_false (by omega)
  |false=>have:=q3 hf;simp at this;exact decide_eq_true (by omega)
 have e1:decide ((m.ao.length:Int)>16)=!decide (m.ao.length<=16):=by
  by_cases h:m.ao.length<=16
  ·rw[decide_eq_true h,decide_eq_false (by omega)];rfl
  ·rw[decide_eq_false h,decide_eq_true (by omega)];rfl
 have e2:decide (m.bz<1)=!decide (m.bz>=1):=by rw[Bool.eq_iff_iff];simp
 have e3:decide (m.bz>1073741825)=!decide (m.bz<=1073741825):=by rw[Bool.eq_iff_iff];simp
 rcases Ze (P:=P) (l0:=m.ao) (next:=m.bz) m.ao 0 0 h.path with⟨h3,b,h4⟩|⟨h3,h4⟩
 ·have h4:zP aq m.ao m.bz 0=some (.inr b):=h4
  rw[h4,h3,h2]
  simp only[Option.bind_some,Bool.true_and]
  rw[bP,e1,e2,e3]
  cases ka [] m.ao<;>cases decide (m.ao.length<=16)<;>cases decide (m.bz>=1)<;>cases decide (m.bz<=1073741825)<;>rfl
 ·have h4:zP aq m.ao m.bz 0=some (.inl ()):=h4
  rw[h4,h3]
  rfl
def eF (l:List Nat):Bool:=l.all fK&&!l.isEmpty
theorem abQ {l:List Nat} (h: ∀x∈l,x<256) (hl:l.length<=100) {pos:Nat} (hp:pos<l.length):(rQ aq (bs l) (l.length:Int) (pos:Int)).val=bif fK l[pos] then some (.inl ((pos+1:Nat):Int)) else some (.inr (.inl ())):=by
 have hs:=En h (List.getElem?_eq_getElem hp)
 have hw:IntKind.i64.wrap ((pos:Int)+1)=((pos+1:Nat):Int):=by rw[jH (by omega) (by omega)];omega
 unfold rQ
 simp only[T.bZ,T.bO,T.b8]
 rw[decide_eq_true (by omega:(pos:Int)<(l.length:Int)),hs,hw,BL]
 simp only[cond_true,Option.bind_some]
 cases decide ((l[pos]:Int)>=97)<;>cases decide ((l[pos]:Int)<=122)<;>cases decide ((l[pos]:Int)>=48)<;>cases decide ((l[pos]:Int)<=57)<;>rfl
theorem ZE {l:List Nat} (h: ∀x∈l,x<256) (hl:l.length<=100): ∀(k f pos:Nat),pos+k=l.length->fu (λa=>(rQ aq (bs l) (l.length:Int) a).val) (k+1+f) (pos:Int)=some (bif (l.drop pos).all fK then .inr (false,(l.length:Int)) else .inl ())
 |0,f,pos,e=>by
  obtain rfl:pos=l.length:=by omega
  rw[show 0+1+f=f+1 by omega,fX]
  unfold rQ
  simp
 |k+1,f,pos,e=>by
  have hp:pos<l.length:=by omega
  rw[show k+1+1+f=(k+1+f)+1 by omega,fX,abQ h hl hp,List.drop_eq_getElem_cons hp,List.all_cons]
  cases fK l[pos] with
  |false=>rfl
  |true=>
   simp only[cond_true,Option.bind_some,Bool.true_and]
   exact ZE h hl k f (pos+1) (by omega)
theorem v171 {l:List Nat} (h: ∀x∈l,x<256) (hl:l.length<=100):HP aq (bs l)=some (eF l):=by
 show(AU aq (bs l)).val=_
 unfold AU eF
 simp only[T.de,T.b8,T.fH,T.bO]
 have:=ZE h hl l.length (999999-l.length) 0 (by omega)
 rw[show l.length+1+(999999-l.length)=1000000 by omega,List.drop_zero] at this
 have hL:Gg aq (bs l) (l.length:Int) 0=some (bif l.all fK then .inr (false,(l.length:Int)) else .inl ()):=this
 rw[eS,hL]
 cases l.all fK with
 |false=>rfl
 |true=>
  cases l with
  |nil=>rfl
  |cons x r=>
   have:decide (((x::r).length:Int)>0)=true:=decide_eq_true (by simp)
   simp only[cond_true,Option.bind_some,this]
   rfl
theorem abR {s:ByteArray} {pos:Nat} (hp:pos<s.size):(rR aq s pos).val=bif fK (Utf8.decode s pos).1 then some (.inl (pos+(Utf8.decode s pos).2)) else some (.inr (.inl ())):=by
 unfold rR
 simp only[T.bZ,T.bO]
 rw[decide_eq_true hp,BL]
 cases decide (((Utf8.decode s pos).1:Int)>=97)<;>cases decide (((Utf8.decode s pos).1:Int)<=122)<;>cases decide (((Utf8.decode s pos).1:Int)>=48)<;>cases decide (((Utf8.decode s pos).1:Int)<=57)<;>rfl
theorem ZF {l:List Nat} (h: ∀x∈l,x<256): ∀(k f pos:Nat),pos+k=l.length->fu (λa=>(rR aq (bs l) a).val) (k+1+f) pos=some (bif (l.drop pos).all fK then .inr l.length else .inl ())
 |0,f,pos,e=>by
  obtain rfl:pos=l.length:=by omega
  rw[show 0+1+f=f+1 by omega,fX]
  unfold rR
  simp[eS]
 |k+1,f,pos,e=>by
  have hp:pos<l.length:=by omega
  have hg:=Tf h (List.getElem?_eq_getElem hp)
  rw[show k+1+1+f=(k+1+f)+1 by omega,fX,abR (by rw[eS];exact hp),List.drop_eq_getElem_cons hp,List.all_cons]
  by_cases hb:((bs l).get! pos).toNat<128
  ·rw[Ho hb,hg]
   cases fK l[pos] with
   |false=>rfl
   |true=>
    simp only[cond_true,Option.bind_some,Bool.true_and]
    exact ZF h k f (pos+1) (by omega)
  ·have h4:=BK (c:=l[pos]) (by rw[<-hg];omega)
   rw[BK (decode_high hb),h4]
   rfl
theorem v175 {l:List Nat} (h: ∀x∈l,x<256) (hl:l.length<=100):vz aq (bs l)=some (eF l):=by
 show(AW aq (bs l)).val=_
 unfold AW eF
 simp only[T.de,T.b8,T.fH,T.bO]
 have:=ZF h l.length (999999-l.length) 0 (by omega)
 rw[show l.length+1+(999999-l.length)=1000000 by omega,List.drop_zero] at this
 have hL:Gi aq (bs l) 0=some (bif l.all fK then .inr l.length else .inl ()):=this
 rw[hL]
 cases l.all fK with
 |false=>rfl
 |true=>
  simp only[cond_true,Option.bind_some,Bool.true_and]
  rw[Hs]
def ed (acc:List (List Nat)) (x:Nat):List (List Nat):=if x=47 then acc++[[]] else match acc[acc.length-1]? with|some y=>acc.set (acc.length-1) (y++[x])|none=>acc
theorem afu {l:List Nat} {i:Nat} (hi:i<l.length) (hl:l.length<=100):fM (bs l) (some (i:Int)) (some (IntKind.i64.wrap ((i:Int)+1)))=some (bs [l[i]]):=by
 rw[jH (by omega) (by omega)]
 unfold fM
 simp only[Option.getD_some]
 rw[if_pos ⟨by omega,by omega,by rw[eS];omega⟩]
 congr 1
 apply ByteArray.ext
 rw[ByteArray.data_extract,Int.toNat_natCast,show((i:Int)+1).toNat=i+1 by omega]
 unfold bs
 apply Array.ext'
 rw[Array.toList_extract]
 simp[List.extract,List.drop_eq_getElem_cons hi]
 rw[List.drop_eq_getElem_cons (by simpa using hi)]
 simp
theorem abP {l:List Nat} (h: ∀x∈l,x<256) (hl:l.length<=100) {i:Nat} (hi:i<l.length) {acc:List (List Nat)} (ha:acc.length<=i) (hy: ∀y∈acc,y.length<=i):(rP aq (bs l) (l.length:Int) ((i:Int),acc.map bs)).val=some (.inl (((i+1:Nat):Int),(ed acc l[i]).map bs)):=by
 have hs:=En h (List.getElem?_eq_getElem hi)
 have hw:IntKind.i64.wrap ((i:Int)+1)=((i+1:Nat):Int):=by rw[jH (by omega) (by omega)];omega
 have hc:=afu hi hl
 unfold rP ed
 simp only[T.bZ,T.bO,T.b8]
 rw[decide_eq_true (by omega:(i:Int)<(l.length:Int)),hs,hc,hw]
 simp only[cond_true,Option.bind_some]
 by_cases nm:l[i]=47
 ·have e:((l[i]:Int)==47)=true:=by rw[nm];rfl
  rw[e,if_pos nm]
  simp only[cond_true]
  rw[oB (n:=200) (by simp;omega) (by omega),Option.bind_some,List.map_append]
  rfl
 ·have e:((l[i]:Int)==47)=false:=by simp;omega
  rw[e,if_neg nm]
  simp only[cond_false]
  rcases List.eq_nil_or_concat acc with hp|⟨p,y,hp⟩
  ·subst hp
   rfl
  ·subst hp
   have hlen:(List.map bs (p.concat y)).length=p.length+1:=by simp
   have hd:decide (((List.map bs (p.concat y)).length:Int)>0)=true:=decide_eq_true (by rw[hlen];omega)
   have Kq:IntKind.i64.wrap (((List.map bs (p.concat y)).length:Int)-1)=(p.length:Int):=by
    rw[hlen,jH (by simp at ha;omega) (by simp at ha;omega)];omega
   have Uh:(List.map bs (p.concat y))[p.length]? =some (bs y):=by simp
   have ajv:idx (List.map bs (p.concat y)) (p.length:Int)=some (bs y):=KE Uh
   have Kv:=hy y (by simp)
   rw[hd,Kq,ajv]
   simp only[cond_true,Option.bind_some,Int.toNat_natCast]
   rw[Uh]
   simp only[Option.bind_some]
   rw[Ek (by simp;omega)]
   simp only[Option.bind_some]
   have kW:(p.concat y)[(p.concat y).length-1]? =some y:=by simp
   rw[kW]
   simp only
   rw[show(p.concat y).length-1=p.length by simp,List.map_set]
theorem Zi {acc:List (List Nat)} {x i:Nat} (ha:acc.length<=i) (hy: ∀y∈acc,y.length<=i):(ed acc x).length<=i+1/\ ∀y∈ed acc x,y.length<=i+1:=by
 unfold ed
 split
 ·refine⟨by simp;omega,λy h=>?_⟩
  rcases List.mem_append.1 h with h|h
  ·have:=hy y h;omega
  ·have:y=[]:=by simpa using h
   subst this;simp
 ·split
  ·rename_i y hg
   refine⟨by simp;omega,λz h=>?_⟩
   rcases List.mem_or_eq_of_mem_set h with h|h
   ·have:=hy z h;omega
   ·subst h
    have:=hy y (List.mem_of_getElem? hg)
    simp;omega
  ·exact⟨by omega,λy h=>by have:=hy y h;omega⟩
theorem ZD {l:List Nat} (h: ∀x∈l,x<256) (hl:l.length<=100): ∀(k f pos:Nat) (acc:List (List Nat)),pos+k=l.length->acc.length<=pos->(∀y∈acc,y.length<=pos)->fu (λa=>(rP aq (bs l) (l.length:Int) a).val) (k+1+f) ((pos:Int),acc.map bs)=some (false,(l.length:Int),((l.drop pos).foldl ed acc).map bs)
 |0,f,pos,acc,e,_,_=>by
  obtain rfl:pos=l.length:=by omega
  rw[show 0+1+f=f+1 by omega,fX]
  unfold rP
  simp
 |k+1,f,pos,acc,e,ha,hy=>by
  have hp:pos<l.length:=by omega
  rw[show k+1+1+f=(k+1+f)+1 by omega,fX,abP h hl hp ha hy,Option.bind_some,List.drop_eq_getElem_cons hp,List.foldl_cons]
  obtain⟨h1,h2⟩:=Zi (x:=l[pos]) ha hy
  exact ZD h hl k f (pos+1) _ (by omega) h1 h2
theorem apJ {l:List Nat} (h: ∀x∈l,x<256) (hl:l.length<=100):HO aq (bs l)=some ((l.foldl ed []).map bs):=by
 show(AT aq (bs l)).val=_
 unfold AT
 simp only[T.de,T.b8,T.bO]
 have:=ZD h hl l.length (999999-l.length) 0 [] (by omega) (by simp) (by simp)
 rw[show l.length+1+(999999-l.length)=1000000 by omega,List.drop_zero] at this
 have hL:Gf aq (bs l) (l.length:Int) 0 []=some (false,(l.length:Int),(l.foldl ed []).map bs):=this
 rw[eS,hL]
 rfl
theorem S_: ∀(a:List Nat) (acc:List (List Nat)) (y:List Nat),(∀x∈a,x≠47)->a.foldl ed (acc++[y])=acc++[y++a]
 |[],acc,y,_=>by simp
 |x::a,acc,y,h=>by
  have hx:ed (acc++[y]) x=acc++[y++[x]]:=by
   unfold ed
   rw[if_neg (h x List.mem_cons_self)]
   simp
  rw[List.foldl_cons,hx,S_ a acc (y++[x]) λz hz=>h z (List.mem_cons_of_mem _ hz)]
  simp
def wd (t:List Nat):List Nat:=t.takeWhile λx=>x !=47
def rs (t:List Nat):List Nat:=t.dropWhile λx=>x !=47
theorem ZR: ∀(t:List Nat) (x:Nat),x∈wd t->x≠47
 |[],x,h=>by simp[wd] at h
 |z::t,x,h=>by
  unfold wd at h
  rw[List.takeWhile_cons] at h
  cases hz:z !=47 with
  |true=>
   rw[hz] at h
   rcases List.mem_cons.1 h with rfl|h
   ·simpa using hz
   ·exact ZR t x h
  |false=>rw[hz] at h;simp at h
theorem Ce (t:List Nat) (acc:List (List Nat)):(47::t).foldl ed acc=(rs t).foldl ed (acc++[wd t]):=by
 rw[List.foldl_cons]
 have h1:ed acc 47=acc++[[]]:=by unfold ed;rw[if_pos rfl]
 rw[h1]
 conv=>lhs;rw[<-List.takeWhile_append_dropWhile (p:=λx=>x !=47) (l:=t)]
 rw[List.foldl_append]
 show List.foldl ed (List.foldl ed (acc++[[]]) (wd t)) (rs t)=_
 rw[S_ _ acc [] λx hx=>ZR t x hx]
 rfl
theorem tE (t:List Nat):rs t=[]\/ ∃u,rs t=47::u:=by
 unfold rs
 cases h:t.dropWhile λx=>x !=47 with
 |nil=>exact .inl rfl
 |cons x u=>
  right
  have:=List.head?_dropWhile_not (λx=>x !=47) t
  rw[h] at this
  simp at this
  exact⟨u,by rw[this]⟩
theorem Cd: ∀(k:Nat) (r:List Nat) (acc:List (List Nat)),r.length<=k->(r=[]\/ ∃t,r=47::t)->r.foldl ed acc=acc++r.foldl ed []
 |0,r,acc,hk,_=>by
  have:r=[]:=List.eq_nil_of_length_eq_zero (by omega)
  subst this;simp
 |k+1,r,acc,hk,hr=>by
  rcases hr with rfl|⟨t,rfl⟩
  ·simp
  ·have hl:(rs t).length<=k:=by
    have:(rs t).length<=t.length:=(List.dropWhile_sublist _).length_le
    simp at hk
    omega
   rw[Ce,Ce,Cd k (rs t) _ hl (tE t),Cd k (rs t) ([]++[wd t]) hl (tE t)]
   simp
theorem KF: ∀(t:List Nat),(∀x∈t,x<256)->Lib.indexByte (bs t).data.toList (Nat.toUInt8 47)=if rs t=[] then -1 else((wd t).length:Int)
 |[],_=>rfl
 |x::t,h=>by
  have ih:=KF t λz hz=>h z (List.mem_cons_of_mem _ hz)
  have hx:=h x List.mem_cons_self
  have e1:(bs (x::t)).data.toList=UInt8.ofNat x::(bs t).data.toList:=by simp[bs]
  rw[e1]
  unfold Lib.indexByte rs wd
  rw[List.dropWhile_cons,List.takeWhile_cons]
  by_cases nm:x=47
  ·subst nm
   rfl
  ·have e2:(UInt8.ofNat x==Nat.toUInt8 47)=false:=by
    rw[beq_eq_false_iff_ne]
    intro e
    have:=congrArg UInt8.toNat e
    simp at this
    omega
   have e3:(x !=47)=true:=by simp[nm]
   rw[e2,e3]
   simp only[Bool.false_eq_true,if_false,if_true]
   unfold rs wd at ih
   rw[ih]
   split
   ·rfl
   ·rename_i aV
    rw[if_neg (by simp)]
    simp
theorem ZS (t:List Nat):wd t++rs t=t:=List.takeWhile_append_dropWhile
theorem aft {l:List Nat} {i j:Nat} (dp:i<=j) (hj:j<=l.length):(bs l).extract i j=bs ((l.take j).drop i):=by
 apply ByteArray.ext
 rw[ByteArray.data_extract]
 unfold bs
 apply Array.ext'
 rw[Array.toList_extract]
 simp[List.extract,List.map_drop,List.map_take,List.take_drop,show i+(j-i)=j by omega]
theorem mq {l:List Nat} {i j:Nat} (dp:i<=j) (hj:j<=l.length) {lo hi:Option Int} (h1:lo.getD 0=(i:Int)) (h2:hi.getD ((bs l).size:Int)=(j:Int)):fM (bs l) lo hi=some (bs ((l.take j).drop i)):=by
 unfold fM
 rw[h1,h2,if_pos ⟨by omega,by omega,by rw[eS];omega⟩,Int.toNat_natCast,Int.toNat_natCast,aft dp hj]
theorem abS {d t:List Nat} {w:Int} {acc:List (List Nat)} (hd:((bs d).toList==(ByteArray.mk #[47]).toList)=false) (h: ∀x∈t,x<256) (hl:t.length<=50) (ha:acc.length<=50):
  (jK aq (bs d) w (true,bs (47::t),acc.map bs)).val=bif eF (wd t) then some (.inl (true,bs (rs t),(acc++[wd t]).map bs)) else some (.inr (.inl (false,bs (47::t),acc.map bs))):=by
 have sV:=ZS t
 have hlen:(wd t).length+(rs t).length=t.length:=by rw[<-List.length_append,sV]
 have hw: ∀x∈wd t,x<256:=λx hx=>h x (by rw[<-sV];exact List.mem_append_left _ hx)
 have e1:decide (((bs (47::t)).size:Int)>=1)=true:=decide_eq_true (by rw[eS];simp;omega)
 have c1:fM (bs (47::t)) none (some 1)=some (bs [47]):=mq (i:=0) (j:=1) (by omega) (by simp) rfl rfl
 have c2:fM (bs (47::t)) (some 1) none=some (bs t):=by
  have:=mq (l:=47::t) (i:=1) (j:=t.length+1) (lo:=some 1) (hi:=none) (by omega) (by simp) rfl (by rw[eS];simp)
  rw[this]
  simp
 have e2:((bs [47]).toList==(ByteArray.mk #[47]).toList)=true:=by
  have:bs [47]=ByteArray.mk #[47]:=rfl
  rw[this];exact beq_self_eq_true _
 have wv:app 16 (acc.map bs) [bs (wd t)]=some ((acc++[wd t]).map bs):=by
  rw[oB (n:=200) (by simp;omega) (by omega),List.map_append]
  rfl
 unfold jK
 simp only[T.bZ,T.bO,T.b8]
 rw[e1,c1]
 simp only[cond_true,Option.bind_some]
 rw[e2,c2]
 simp only[cond_true,Option.bind_some]
 rw[KF t h,hd]
 by_cases hr:rs t=[]
 ·have hwt:wd t=t:=by rw[hr,List.append_nil] at sV;exact sV
  rw[if_pos hr]
  have e3:(IntKind.i64.wrap (-1+1)==0)=true:=rfl
  have c3:fM (bs (47::t)) (some 1) (some ((bs (47::t)).size:Int))=some (bs (wd t)):=by
   have:=mq (l:=47::t) (i:=1) (j:=t.length+1) (lo:=some 1) (hi:=some ((bs (47::t)).size:Int)) (by omega) (by simp) rfl (by rw[eS];simp)
   rw[this,hwt]
   simp
  have c4:fM (bs (47::t)) (some ((bs (47::t)).size:Int)) none=some (bs (rs t)):=by
   have:=mq (l:=47::t) (i:=t.length+1) (j:=t.length+1) (lo:=some ((bs (47::t)).size:Int)) (hi:=none) (by omega) (by simp) (by rw[eS];simp) (by rw[eS];simp)
   rw[this,hr]
   simp
  rw[e3]
  simp only[cond_true]
  rw[c3]
  simp only[Option.bind_some,cond_false]
  rw[v175 hw (by omega),wv,c4]
  cases eF (wd t)<;>rfl
 ·rw[if_neg hr]
  have k8:0<(rs t).length:=List.length_pos_iff.2 hr
  have Kq:IntKind.i64.wrap (((wd t).length:Int)+1)=(((wd t).length+1:Nat):Int):=by rw[jH (by omega) (by omega)];omega
  rw[Kq]
  have e3:((((wd t).length+1:Nat):Int)==0)=false:=by simp;omega
  have c3:fM (bs (47::t)) (some 1) (some (((wd t).length+1:Nat):Int))=some (bs (wd t)):=by
   have:=mq (l:=47::t) (i:=1) (j:=(wd t).length+1) (lo:=some 1) (hi:=some (((wd t).length+1:Nat):Int)) (by omega) (by simp;omega) rfl rfl
   rw[this]
   have:t.take (wd t).length=wd t:=by
    have:=List.take_left (l₁:=wd t) (l₂:=rs t)
    rwa [sV] at this
   simp[this]
  have c4:fM (bs (47::t)) (some (((wd t).length+1:Nat):Int)) none=some (bs (rs t)):=by
   have:=mq (l:=47::t) (i:=(wd t).length+1) (j:=t.length+1) (lo:=some (((wd t).length+1:Nat):Int)) (hi:=none) (by omega) (by simp) rfl (by rw[eS];simp)
   rw[this]
   have:t.drop (wd t).length=rs t:=by
    have:=List.drop_left (l₁:=wd t) (l₂:=rs t)
    rwa [sV] at this
   simp[this]
  rw[e3]
  simp only[cond_false]
  rw[c3]
  simp only[Option.bind_some,cond_false]
  rw[v175 hw (by omega),wv,c4]
  cases eF (wd t)<;>rfl
theorem ZH {d:List Nat} {w:Int} (hd:((bs d).toList==(ByteArray.mk #[47]).toList)=false): ∀(k f:Nat) (r:List Nat) (acc:List (List Nat)),r.length<=k->(∀x∈r,x<256)->r.length+acc.length<=50->acc.all eF=true->(r=[]\/ ∃t,r=47::t)->
  ((r.foldl ed []).all eF=true/\ ∃b s0,fu (λa=>(jK aq (bs d) w a).val) (k+1+f) (true,bs r,acc.map bs)=some (.inr (b,s0,true,(acc++r.foldl ed []).map bs)))\/
  ((r.foldl ed []).all eF=false/\ ∃s0 ps,ps.all eF=true/\(∃q,acc++r.foldl ed []=ps++q)/\fu (λa=>(jK aq (bs d) w a).val) (k+1+f) (true,bs r,acc.map bs)=some (.inl (false,s0,ps.map bs)))
 |k,f,[],acc,_,_,_,_,_=>by
  left
  refine⟨rfl,false,bs [],?_⟩
  rw[show k+1+f=(k+f)+1 by omega,fX]
  have:(jK aq (bs d) w (true,bs [],acc.map bs)).val=some (.inr (.inr (false,bs [],true,acc.map bs))):=by
   unfold jK
   rfl
  rw[this]
  simp
 |0,f,x::r,acc,hk,_,_,_,_=>by simp at hk
 |k+1,f,x::t,acc,hk,h,hl,ha,hr=>by
  rcases hr with h0|⟨t',e⟩
  ·cases h0
  cases e
  have ht: ∀x∈t,x<256:=λx hx=>h x (List.mem_cons_of_mem _ hx)
  simp only[List.length_cons] at hk hl
  have hlen:(rs t).length<=t.length:=(List.dropWhile_sublist _).length_le
  rw[show k+1+1+f=(k+1+f)+1 by omega,fX,abS hd ht (by omega) (by omega),Ce,List.nil_append,Cd (rs t).length (rs t) _ (Nat.le_refl _) (tE t)]
  rw[List.all_append]
  cases hp:eF (wd t) with
  |false=>
   right
   refine⟨by simp[hp],bs (47::t),acc,ha,⟨_,rfl⟩,rfl⟩
  |true=>
   simp only[cond_true,Option.bind_some]
   have eT:(acc++[wd t]).all eF=true:=by rw[List.all_append,ha];simp[hp]
   have sS: ∀x∈rs t,x<256:=λx hx=>ht x ((List.dropWhile_sublist (λx=>x !=47)).subset hx)
   have e1:acc++([wd t]++(rs t).foldl ed [])=(acc++[wd t])++(rs t).foldl ed []:=by simp
   have e2:[wd t].all eF=true:=by simp[hp]
   rw[e1,e2,Bool.true_and]
   exact ZH hd k f (rs t) (acc++[wd t]) (by omega) sS (by simp;omega) eT (tE t)
def jt (ps:List (List Nat)):List Nat:=(ps.map λp=>47::p).flatten
def tx (ps:List (List Nat)):List Nat:=match ps with|[]=>[47]|_=>jt ps
theorem akm (p:List Nat) (ps:List (List Nat)):kE ((p::ps).map bs) (ByteArray.mk #[47])=bs (p++jt ps):=by
 unfold kE
 apply ByteArray.ext
 apply Array.ext'
 show Lib.join (((p::ps).map bs).map (·.data.toList)) [47]=_
 rw[List.map_cons,List.map_cons,Lib.join_cons]
 unfold Lib.joinTail jt bs
 simp only[List.map_append,List.map_map]
 congr 1
 rw[List.map_flatten,List.map_map]
 congr 1
theorem an0: ∀(ps:List (List Nat)),(tx ps).length<=500->oc (ByteArray.mk #[47]) (kE (ps.map bs) (ByteArray.mk #[47]))=some (bs (tx ps))/\(kE (ps.map bs) (ByteArray.mk #[47])).size<=500
 |[],_=>by
  have e:kE [] (ByteArray.mk #[47])=bs []:=rfl
  rw[List.map_nil,e]
  exact⟨Ek (l:=[47]) (m:=[]) (by simp),by rw[eS];simp⟩
 |p::ps,h=>by
  rw[akm]
  have h:(47::p++jt ps).length<=500:=by simpa[tx,jt] using h
  refine⟨?_,by rw[eS];simp at h ⊢;omega⟩
  have:=Ek (l:=[47]) (m:=p++jt ps) (by simp at h ⊢;omega)
  have e:bs [47]=ByteArray.mk #[47]:=rfl
  rw[e] at this
  rw[this]
  rfl
theorem MN {ps:List (List Nat)} (eT:ps.all eF=true) (h: ∀p∈ps,(∀x∈p,x<256)/\p.length<=100) (hl:(tx ps).length<=500) (hn:ps.length<=100):oK aq (ps.map bs)=some ((oE (bs (tx ps))).1,(oE (bs (tx ps))).2==0&&decide (ps.length<=4)):=by
 show(AY aq (ps.map bs)).val=_
 unfold AY
 obtain⟨h1,h2⟩:=an0 ps hl
 simp only[T.bZ,T.b8,T.bO,T.de,T.fH]
 rw[h1,decide_eq_true (by simp;omega:(ps.map bs).length<=140737488355328),decide_eq_true (by omega:(kE (ps.map bs) (ByteArray.mk #[47])).size<=140737488355328)]
 simp only[Bool.and_self,cond_true,Option.bind_some,ZI]
 have e1:decide (((ps.map bs).length:Int)<=4)=decide (ps.length<=4):=by rw[Bool.eq_iff_iff];simp;omega
 have hL:Gj aq (ps.map bs)=some (.inr (false,((ps.map bs).length:Int))):=by
  show dO (λi z a=>(Ah aq (ps.map bs) i z a).val) (λi a=>(yG aq (ps.map bs) i a).val) 0 (ps.map bs) ()=_
  rw[rj (g:=λa _=>a)]
  ·unfold yG
   simp
  ·intro i z a hz
   obtain⟨p,hp,rfl⟩:=List.mem_map.1 hz
   unfold Ah
   have:=List.all_eq_true.1 eT p hp
   simp only[T.bZ,T.b8,T.bO,v175 (h p hp).1 (h p hp).2,this,Option.bind_some]
   rfl
 rw[e1,hL]
 cases (oE (bs (tx ps))).2==0<;>cases decide (ps.length<=4)<;>rfl
def eo (d:List Nat):List (List Nat):=d.foldl ed []
theorem LN (t:List Nat):eo (47::t)=wd t::eo (rs t):=by
 unfold eo
 rw[Ce,List.nil_append,Cd (rs t).length (rs t) _ (Nat.le_refl _) (tE t)]
 rfl
theorem KT: ∀(k:Nat) (r:List Nat),r.length<=k->(r=[]\/ ∃t,r=47::t)->jt (eo r)=r
 |_,[],_,_=>rfl
 |0,x::r,hk,_=>by simp at hk
 |k+1,x::t,hk,hr=>by
  rcases hr with h0|⟨t',e⟩
  ·cases h0
  cases e
  have hlen:(rs t).length<=t.length:=(List.dropWhile_sublist _).length_le
  simp only[List.length_cons] at hk
  have ih:=KT k (rs t) (by omega) (tE t)
  rw[LN]
  unfold jt at ih ⊢
  rw[List.map_cons,List.flatten_cons,ih]
  show 47::(wd t++rs t)=_
  rw[ZS]
theorem Mx {d:List Nat} (h: ∀x∈d,x<256):((bs d).toList==(ByteArray.mk #[47]).toList)=decide (d=[47]):=by
 have e1: ∀x:ByteArray,x.toList=x.data.toList:=λx=>ByteArray.toList_eq x
 rw[e1,e1,Bool.eq_iff_iff]
 simp only[beq_iff_eq,decide_eq_true_eq]
 constructor
 ·intro e
  have e:d.map UInt8.ofNat=[47]:=by simpa[bs] using e
  obtain⟨x,rfl⟩:=List.length_eq_one_iff.1 (by simpa using congrArg List.length e)
  have hx:=h x (by simp)
  simp at e
  have:=congrArg UInt8.toNat e
  simp at this
  rw[show x=47 by omega]
 ·rintro rfl
  rfl
def qT (d:List Nat):Bool:=decide (d=[47])||(match d with|47::_=>(eo d).all eF&&decide ((eo d).length<=4)|_=>false)
def mH (w:Int):Bool:=(fF 8 w.toNat==0)&&qT (dg 8 w.toNat)
def Xk (d:List Nat):List (List Nat):=if d=[47] then[] else eo d
def Xl (w:Int):List (List Nat):=Xk (dg 8 w.toNat)
theorem akG {ps:List (List Nat)} {p:List Nat} {x:Nat} (hp:p∈ps) (hx:x∈p):x∈jt ps:=by
 unfold jt
 rw[List.mem_flatten]
 exact⟨47::p,List.mem_map.2 ⟨p,hp,rfl⟩,List.mem_cons_of_mem _ hx⟩
theorem Vb: ∀ {ps:List (List Nat)} {p:List Nat},p∈ps->p.length+1<=(jt ps).length
 |q::ps,p,h=>by
  have e:(jt (q::ps)).length=q.length+1+(jt ps).length:=by simp[jt];omega
  rcases List.mem_cons.1 h with rfl|h
  ·omega
  ·have:=Vb h
   omega
theorem KS: ∀(ps:List (List Nat)),ps.length<=(jt ps).length
 |[]=>by simp
 |q::ps=>by
  have e:(jt (q::ps)).length=q.length+1+(jt ps).length:=by simp[jt];omega
  have:=KS ps
  simp only[List.length_cons]
  omega
theorem akp (ps q:List (List Nat)):jt (ps++q)=jt ps++jt q:=by simp[jt]
theorem akF {d:List Nat} (hd: ∀x∈d,x<256) (hl:d.length<=8) (hs: ∃t,d=47::t) {p:List Nat} (hp:p∈eo d):(∀x∈p,x<256)/\p.length<=100:=by
 have hj:=KT d.length d (Nat.le_refl _) (.inr hs)
 refine⟨λx hx=>hd x (by rw[<-hj];exact akG hp hx),?_⟩
 have:=Vb hp
 rw[hj] at this
 omega
theorem Xb: ∀(d:List Nat) (acc:List (List Nat)) (i:Nat),(∀x∈d,x<256)->(∀p∈acc,∀x∈p,x<256)->acc.length<=i->(∀p∈acc,p.length<=i)->(∀p∈d.foldl ed acc,(∀x∈p,x<256)/\p.length<=i+d.length)
 |[],acc,i,_,h2,_,h4=>λp hp=>⟨h2 p hp,by have:=h4 p hp;simp;omega⟩
 |x::d,acc,i,h1,h2,h3,h4=>by
  rw[List.foldl_cons]
  obtain⟨q1,q2⟩:=Zi (x:=x) h3 h4
  have hx:=h1 x List.mem_cons_self
  have h5: ∀p∈ed acc x,∀y∈p,y<256:=by
   unfold ed
   split
   ·intro p hp y hy
    rcases List.mem_append.1 hp with hp|hp
    ·exact h2 p hp y hy
    ·have:p=[]:=by simpa using hp
     subst this;simp at hy
   ·split
    ·rename_i z hg
     intro p hp y hy
     rcases List.mem_or_eq_of_mem_set hp with hp|hp
     ·exact h2 p hp y hy
     ·subst hp
      rcases List.mem_append.1 hy with hy|hy
      ·exact h2 z (List.mem_of_getElem? hg) y hy
      ·have:y=x:=by simpa using hy
       omega
    ·exact h2
  intro p hp
  have:=Xb d (ed acc x) (i+1) (λy hy=>h1 y (List.mem_cons_of_mem _ hy)) h5 q1 q2 p hp
  exact⟨this.1,by have:=this.2;simp;omega⟩
theorem abK {s:ByteArray} {ps:List (List Nat)} (h: ∀p∈ps,(∀x∈p,x<256)/\p.length<=100):F9 aq s (ps.map bs)=bif ps.all eF then some (.inr (false,((ps.map bs).length:Int))) else some (.inl ()):=by
 show dO (λi z a=>(Ad aq s (ps.map bs) i z a).val) (λi a=>(yD aq s (ps.map bs) i a).val) 0 (ps.map bs) ()=_
 rw[lz (q:=λi _=>match ps[i]? with|some p=>eF p|none=>false) (x:= .inl ())]
 ·have e:allI (λi (_:ByteArray)=>match ps[i]? with|some p=>eF p|none=>false) 0 (ps.map bs)=ps.all eF:=by
   rw[Bool.eq_iff_iff,BD,List.all_eq_true]
   constructor
   ·intro hq p hp
    obtain⟨i,hi⟩:=List.getElem?_of_mem hp
    have:=hq i (bs p) (by simp[hi])
    rw[Nat.zero_add,hi] at this
    exact this
   ·intro hq k z hz
    rw[Nat.zero_add]
    rw[List.getElem?_map] at hz
    cases hk:ps[k]? with
    |none=>rw[hk] at hz;simp at hz
    |some p=>exact hq p (List.mem_of_getElem? hk)
  rw[e]
  congr 1
  unfold yD
  simp
 ·intro i z hz
  rw[List.getElem?_map] at hz
  cases hk:ps[i]? with
  |none=>rw[hk] at hz;simp at hz
  |some p=>
   rw[hk] at hz
   have hz:bs p=z:=by simpa using hz
   subst hz
   have hp:=h p (List.mem_of_getElem? hk)
   unfold Ad
   simp only[T.bZ,T.b8,T.bO,v171 hp.1 hp.2,Option.bind_some]
   cases eF p<;>rfl
theorem v124 {d:List Nat} (hd: ∀x∈d,x<256) (hl:d.length<=8):HK aq (bs d)=some (qT d):=by
 show(AK aq (bs d)).val=_
 unfold AK qT
 simp only[T.bZ,T.b8,T.bO,T.de,T.fH]
 rw[Mx hd]
 by_cases nm:d=[47]
 ·rw[decide_eq_true nm];rfl
 rw[decide_eq_false nm,apJ hd (by omega)]
 simp only[cond_false,Option.bind_some,Bool.false_or]
 have kB:=Xb d [] 0 hd (by simp) (by simp) (by simp)
 rw[abK (ps:=d.foldl ed []) (λp hp=>⟨(kB p hp).1,by have:=(kB p hp).2;omega⟩)]
 show _=some (match d with|47::_=>(eo d).all eF&&decide ((eo d).length<=4)|_=>false)
 change (Option.bind (bif (eo d).all eF then _ else _) _)=_
 cases d with
 |nil=>rfl
 |cons x t=>
  have bt:decide (((bs (x::t)).size:Int)>0)=true:=decide_eq_true (by rw[eS];simp)
  have hs8:decide (((bs (x::t)).size:Int)<=8)=true:=decide_eq_true (by rw[eS];omega)
  have kX:ib (bs (x::t)) 0=some (x:Int):=En (i:=0) hd rfl
  rw[bt,hs8,kX]
  have hc:((List.map bs (List.foldl ed [] (x::t))).length:Int)=((eo (x::t)).length:Int):=by unfold eo;simp
  by_cases hx:x=47
  ·subst hx
   have h1:decide (((eo (47::t)).length:Int)>=1)=true:=decide_eq_true (by rw[LN];simp;omega)
   have h4:decide (((eo (47::t)).length:Int)<=4)=decide ((eo (47::t)).length<=4):=by rw[Bool.eq_iff_iff];simp;omega
   rw[hc,h1,h4]
   cases (eo (47::t)).all eF<;>rfl
  ·have e:((x:Int)==47)=false:=by simp;omega
   have e2:(match x::t with|47::_=>(eo (x::t)).all eF&&decide ((eo (x::t)).length<=4)|_=>false)=false:=by
    split
    ·rename_i h;cases h;exact absurd rfl hx
    ·rfl
   rw[e2]
   simp only[e,Option.bind_some,cond_true,cond_false]
   cases (eo (x::t)).all eF<;>rfl
theorem v84 {n:Nat} (h:n<18446744073709551616):B7 aq (n:Int)=some (mH (n:Int)):=by
 show(Br aq (n:Int)).val=_
 unfold Br mH
 simp only[T.b8,T.bZ,T.bO,Zy h,Option.bind_some,Int.toNat_natCast]
 by_cases h0:fF 8 n=0
 ·rw[if_pos h0,h0]
  simp only[cond_true,v124 (BU n) (r_ 8 n),Option.bind_some]
  rfl
 ·rw[if_neg h0]
  have e:(fF 8 n==0)=false:=by simp[h0]
  rw[e]
  rfl
theorem apz:oE (bs (tx []))=(47,0):=G7 (l:=[47]) (by simp) (by simp)
theorem ZG:oK aq []=some (47,true):=by
 have:=MN (ps:=[]) rfl (by simp) (by simp[tx]) (by simp)
 rw[List.map_nil] at this
 rw[this,apz]
 rfl
theorem Ev {α:Type} {w:Int} {ps:List ByteArray} {b:Bool} {s0:α} {r:Int×Bool} (hr:oK aq ps=some r):(T.bd (oK aq ps) λy2=> .bf (!b) (.ok (mf.mk [] 0,false))<| .bf (!y2.2) (.ok (mf.mk [] 0,false))<| .bf (y2.1 !=w) (.ok (mf.mk [] 0,false))<| .ok (mf.mk ps w,true):T (mf×Bool)).val=some (bif b&&(r.2&&r.1==w) then⟨ps,w⟩ else⟨[],0⟩,b&&(r.2&&r.1==w)):=by
 rw[T.b8,hr,Option.bind_some]
 simp only[T.bZ,T.bO]
 have e:(r.1 !=w)=!(r.1==w):=rfl
 rw[e]
 cases b<;>cases r.2<;>cases r.1==w<;>rfl
theorem v131 {n:Nat} (h:n<18446744073709551616):sq aq (n:Int)=some (bif mH (n:Int) then⟨(Xl (n:Int)).map bs,(n:Int)⟩ else⟨[],0⟩,mH (n:Int)):=by
 show(AO aq (n:Int)).val=_
 unfold AO mH Xl
 simp only[T.b8,T.bZ,T.bO,T.de,ZB h,Option.bind_some,Int.toNat_natCast]
 by_cases h0:fF 8 n=0
 rotate_left
 ·rw[if_neg h0]
  have e:(fF 8 n==0)=false:=by simp[h0]
  rw[e]
  rfl
 rw[if_pos h0,h0]
 simp only[show((0:Int) !=0)=false from rfl,cond_false,Hs,beq_self_eq_true,Bool.true_and]
 have hd:=BU n
 have hl:=r_ 8 n
 have k6:=LO 8 n
 rw[h0,Nat.mul_zero,Nat.add_zero] at k6
 have J7:=BV 8 n
 generalize dg 8 n=d at*
 cases d with
 |nil=>rfl
 |cons x t=>
  simp only[List.isEmpty_cons,cond_false]
  by_cases hx:x=47
  ·subst hx
   cases t with
   |nil=>
    have hn:(n:Int)=47:=by simp[pk] at k6;omega
    have hL:rM aq (bs [47]) (n:Int) true (bs [47]) []=some (.inl (true,bs [47],[])):=by
     show fu (λa=>(jK aq (bs [47]) (n:Int) a).val) 1000000 (true,bs [47],[])=_
     rw[show(1000000:Nat)=999999+1 from rfl,fX]
     have:(jK aq (bs [47]) (n:Int) (true,bs [47],[])).val=some (.inr (.inl (true,bs [47],[]))):=by
      have e1:decide (((bs [47]).size:Int)>=1)=true:=decide_eq_true (by rw[eS];simp)
      have c1:fM (bs [47]) none (some 1)=some (bs [47]):=mq (l:=[47]) (i:=0) (j:=1) (by omega) (by simp) rfl rfl
      have c2:fM (bs [47]) (some 1) none=some (bs []):=mq (l:=[47]) (i:=1) (j:=1) (by omega) (by simp) rfl (by rw[eS];simp)
      have c3:fM (bs [47]) (some 1) (some ((bs [47]).size:Int))=some (bs []):=mq (l:=[47]) (i:=1) (j:=1) (by omega) (by simp) rfl (by rw[eS];simp)
      have e2:((bs [47]).toList==(ByteArray.mk #[47]).toList)=true:=by
       have:bs [47]=ByteArray.mk #[47]:=rfl
       rw[this];exact beq_self_eq_true _
      unfold jK
      simp only[T.bZ,T.b8,T.bO]
      rw[e1,c1]
      simp only[cond_true,Option.bind_some]
      rw[e2,c2]
      simp only[cond_true,Option.bind_some]
      rw[KF [] (by simp),if_pos (show rs []=[] from rfl),show(IntKind.i64.wrap (-1+1)==0)=true from rfl]
      simp only[cond_true]
      rw[c3]
      simp only[Option.bind_some]
     rw[this]
     rfl
    rw[hL]
    simp only[Option.bind_some,T.fH]
    refine(Ev (s0:=()) (b:=true) (w:=(n:Int)) ZG).trans ?_
    rw[hn]
    rfl
   |cons y t=>
    have aV:decide (47::y::t=[47])=false:=decide_eq_false (by simp)
    have hs:=Mx hd
    rw[aV] at hs
    have hj:=KT _ (47::y::t) (Nat.le_refl _) (.inr ⟨_,rfl⟩)
    have JX:qT (47::y::t)=((eo (47::y::t)).all eF&&decide ((eo (47::y::t)).length<=4)):=by
     unfold qT
     rw[aV]
     rfl
    rw[JX]
    have sL:=ZH (w:=(n:Int)) hs (47::y::t).length (999999-(47::y::t).length) (47::y::t) [] (Nat.le_refl _) hd (by simp at hl ⊢;omega) rfl (.inr ⟨_,rfl⟩)
    rw[show(47::y::t).length+1+(999999-(47::y::t).length)=1000000 by omega] at sL
    have kA: ∀p∈eo (47::y::t),(∀x∈p,x<256)/\p.length<=100:=λp hp=>akF hd hl ⟨_,rfl⟩ hp
    have ajl:=KS (eo (47::y::t))
    rw[hj] at ajl
    rcases sL with⟨h1,b,s0,h2⟩|⟨h1,s0,ps,h3,⟨q,h4⟩,h2⟩
    ·have hL:rM aq (bs (47::y::t)) (n:Int) true (bs (47::y::t)) []=some (.inr (b,s0,true,(eo (47::y::t)).map bs)):=h2
     have h1:(eo (47::y::t)).all eF=true:=h1
     rw[hL,h1]
     simp only[Option.bind_some,T.fH]
     have UR:tx (eo (47::y::t))=47::y::t:=by
      rw[LN] at hj ⊢
      exact hj
     have Ch:=MN h1 kA (by rw[UR];omega) (by omega)
     rw[UR,G7 J7 hl,k6] at Ch
     refine(Ev (s0:=()) (b:=true) (w:=(n:Int)) Ch).trans ?_
     rw[show Xk (47::y::t)=eo (47::y::t) from if_neg (by simp)]
     simp
    ·have hL:rM aq (bs (47::y::t)) (n:Int) true (bs (47::y::t)) []=some (.inl (false,s0,ps.map bs)):=h2
     have h1:(eo (47::y::t)).all eF=false:=h1
     have h4:eo (47::y::t)=ps++q:=by simpa[eo] using h4
     rw[hL,h1]
     simp only[Option.bind_some,T.fH]
     have iy:(jt ps).length<=8:=by
      rw[h4,akp] at hj
      have:=congrArg List.length hj
      rw[List.length_append] at this
      omega
     have Ch:=MN h3 (λp hp=>kA p (by rw[h4];exact List.mem_append_left _ hp)) (by
      cases ps with
      |nil=>simp[tx]
      |cons a b=>show(jt (a::b)).length<=500;omega) (by have:=KS ps;omega)
     exact Ev (s0:=()) (b:=false) (w:=(n:Int)) Ch
  ·have JX:qT (x::t)=false:=by
    unfold qT
    rw[decide_eq_false (by simp;intro e;exact absurd e hx),Bool.false_or]
    split
    ·rename_i h;cases h;exact absurd rfl hx
    ·rfl
   have hL:rM aq (bs (x::t)) (n:Int) true (bs (x::t)) []=some (.inr (false,bs (x::t),true,[])):=by
    show fu (λa=>(jK aq (bs (x::t)) (n:Int) a).val) 1000000 (true,bs (x::t),[])=_
    rw[show(1000000:Nat)=999999+1 from rfl,fX]
    have:(jK aq (bs (x::t)) (n:Int) (true,bs (x::t),[])).val=some (.inr (.inr (false,bs (x::t),true,[]))):=by
     have e1:decide (((bs (x::t)).size:Int)>=1)=true:=decide_eq_true (by rw[eS];simp;omega)
     have c1:fM (bs (x::t)) none (some 1)=some (bs [x]):=mq (i:=0) (j:=1) (by omega) (by simp) rfl rfl
     have e2:((bs [x]).toList==(ByteArray.mk #[47]).toList)=false:=by
      rw[Mx (λz hz=>by have:z=x:=by simpa using hz
                       subst this;exact hd z List.mem_cons_self)]
      exact decide_eq_false (by simp;exact hx)
     unfold jK
     simp only[T.bZ,T.b8,T.bO]
     rw[e1,c1]
     simp only[cond_true,Option.bind_some]
     rw[e2]
     rfl
    rw[this]
    rfl
   rw[hL,JX]
   simp only[Option.bind_some,T.fH]
   refine(Ev (s0:=()) (b:=true) (w:=(n:Int)) ZG).trans ?_
   have hn:((47:Int)==(n:Int))=false:=by
    have aqB:=hd x List.mem_cons_self
    simp[pk] at k6
    simp
    omega
   rw[hn]
   rfl
theorem v96 {n:Nat} (h:n<18446744073709551616):vI aq (n:Int)=some (bif mH (n:Int) then 0 else 310):=by
 show(By aq (n:Int)).val=_
 unfold By
 simp only[T.b8,T.bZ,T.bO,v131 h,Option.bind_some]
 cases mH (n:Int)<;>rfl
theorem alJ {w:Int} (h:p_ w):GB w (mH w):=by
 obtain⟨n,rfl⟩:=Int.eq_ofNat_of_zero_le h.1
 have hn:n<18446744073709551616:=by have:=h.2;omega
 exact⟨v84 hn,v96 hn⟩
end Go.Proofs.YtdhaaaeffhaadaaGreatDoor
end
section
namespace Go.Proofs.YtdhaaaeffhaadaaGreatDoor
open Go.RowKit Go.Dc Go.Vx
set_option maxRecDepth 100000
set_option maxHeartbeats 4000000
noncomputable def AZ (sh:Sh) (x y:bF):T (Bool):=
 .bd (Im sh) λy0=>
  .bf (!y0) (
   .ok false)<|
  .bd (mu sh x) λz1=>
   .bd (mu sh y) λz2=>
    .bd (HE sh z1) λz3=>
     .bd (qh sh z1) λz4=>
      .bf (!(z4==0)==z3) (
       .ok false)<|
      .bf (z4 !=0) (
       .bf (z4 !=360) (
        .ok false)<|
       .bd (qi sh z1 z2) λz5=>
        .bd (kS sh z1 z2) λz6=>
         .bf (!z5==z6) (
          .ok false)<|
         .bd (mu sh x) λz7=>
          .bd (qi sh z1 z7) λz8=>
           .bf (!z8) (
            .ok false)<|
           .bf (z3) (
            .bd (B1 sh z1) λz9=>
             .bd (qj sh z1) λrE=>
              .bf (rE==z9) (
               .bd (qk sh) λrF=>
                .bd (sr sh) λz12=>
                 .bd (kS sh rF z12) λrG=>
                  .bf (rG) (
                   .bd (mu sh x) λrH=>
                    .bd (kS sh z1 rH) λNb=>
                     .ok Nb)<|
                  .ok false)<|
              .ok false)<|
           .bd (qj sh z1) λz9=>
            .bf (z9==[0,0,0,0,0]) (
             .bd (qk sh) λrE=>
              .bd (sr sh) λrF=>
               .bd (kS sh rE rF) λz12=>
                .bf (z12) (
                 .bd (mu sh x) λrG=>
                  .bd (kS sh z1 rG) λrH=>
                   .ok rH)<|
                .ok false)<|
            .ok false)<|
      .bd (qi sh z1 z2) λz5=>
       .bd (kS sh z1 z2) λz6=>
        .bf (!z5==z6) (
         .ok false)<|
        .bd (mu sh x) λz7=>
         .bd (qi sh z1 z7) λz8=>
          .bf (!z8) (
           .ok false)<|
          .bf (z3) (
           .bd (B1 sh z1) λz9=>
            .bd (qj sh z1) λrE=>
             .bf (rE==z9) (
              .bd (qk sh) λrF=>
               .bd (sr sh) λz12=>
                .bd (kS sh rF z12) λrG=>
                 .bf (rG) (
                  .bd (mu sh x) λrH=>
                   .bd (kS sh z1 rH) λNb=>
                    .ok Nb)<|
                 .ok false)<|
             .ok false)<|
          .bd (qj sh z1) λz9=>
           .bf (z9==[0,0,0,0,0]) (
            .bd (qk sh) λrE=>
             .bd (sr sh) λrF=>
              .bd (kS sh rE rF) λz12=>
               .bf (z12) (
                .bd (mu sh x) λrG=>
                 .bd (kS sh z1 rG) λrH=>
                  .ok rH)<|
               .ok false)<|
           .ok false
noncomputable def SO (sh:Sh) (x y:bF):Option (Bool):=sh.s _ (AZ sh x y).val
theorem t_3 {R:Type} (x y:bF) (k:Rs SS->Option R):bu (E7 shut) 100 3 [KK.aa 36 x,KK.aa 36 y] [] (bD KK [4] k)=(AZ shut x y).run (λr=>k (.ret (.s (KK.aa 4 r)))):=by kernel_rfl
end Go.Proofs.YtdhaaaeffhaadaaGreatDoor
end
section
namespace Go.Proofs.YtdhaaaeffhaadaaGreatDoor
open Go.RowKit Go.Dc Go.Vx
set_option maxRecDepth 1000000
theorem v8:Im aq=some true:=by kernel_rfl
structure BA (x:bF):Prop where
 pid: ∀z∈x.aG.ao,p_ z.ae
 path: ∀z∈x.aI.ao,p_ z.bY
 name: ∀z∈x.aA.aK,p_ z.cB
theorem short {α:Type} (l:List α) (n:Nat) (h:n<=100):(l.take n).length<=maxLen:=by
 have:=ry l n
 unfold maxLen
 omega
theorem Tq {x:bF} (h:BA x):E6 (nX x) where
 p:=⟨λz hz=>h.pid z (List.mem_of_mem_take hz),short _ 18 (by omega)⟩
 d:=short _ 66 (by omega)
 i:=⟨λz hz=>h.name z (List.mem_of_mem_take hz),short _ 18 (by omega),by
  show(List.map DR (List.take 18 x.aA.ay)).length<=maxLen
  rw[List.length_map]
  exact short _ 18 (by omega)⟩
theorem aiX {x:bF} (h:BA x):E4 mH (nX x).aI:=
 ⟨λz hz=>alJ (h.path z (List.mem_of_mem_take hz)),short _ 18 (by omega)⟩
theorem abM {x:bF} (h:BA x) (y:bF):SO aq x y=some true:=by
 show(AZ aq x y).val=_
 have hm:=aiX h
 have h10:=v10 (Tq h) (v42 hm)
 have Tw:=v11 (Tq h) (v48 hm)
 generalize (mP (nX x).aG&&(n8 (nX x).bj&&(xT mH (nX x).aI&&(n9 (nX x).aA&&xR (nX x)))))=R at*
 unfold AZ
 simp only[T.b8,T.bZ,T.bO,v8,v9,h10,Tw,v12,v13,v14,v15 Tw,v16,v17,Option.bind_some]
 cases R<;>simp
end Go.Proofs.YtdhaaaeffhaadaaGreatDoor
end
section
namespace Go.Dc
open Go.RowKit
structure ee {α:Type} (P:Program) (t:TypeId) (T:Ty α) (D: {H:Type}->DataW H->α->Prop):Prop where
 cells:P.cellsOf t=T.n
 shape: ∀ {w:World} {b:Nat} {v:Value},Value.okWide P w .any b t v->v=T.mk' v.cells.toList
 aa: ∀ {H:Type} {enc:TypeId×Value->H} {w:World} {held:Bool} {fuel:Nat} {cs:List Value} {d:DataW H} {p:List MemPlace},DataW.trod enc P w 0 (λ_=>true) held fuel t cs=some (d,p)->w.noneFrozen p-> ∃x,T.rep [] w cs x/\D d x
section
variable {P:Program} {t:TypeId}
def b5 (k:IntKind) {H:Type} (d:DataW H) (x:Int):Prop:=d= .lit (.int k x)/\(Lit.int k x).wf=true
def mU {H:Type} (d:DataW H) (x:Bool):Prop:=d= .lit (.bool x)
theorem W7 {k:IntKind} (hu:P.underlying t=some (.int k)) (hc:P.cellsOf t=1):ee P t (Ty.int k) (b5 k) where
 cells:=hc
 shape {w b v} h:=by
  simp only[Value.okWide,hu,Cell.okWide] at h
  unfold Cell.ok at h
  rw[hu] at h
  cases v<;>simp_all [Ty.mk',Ty.int,Value.cells]
 aa {H enc w held fuel cs d p} h _:=by
  obtain⟨n,rfl,hx,hw⟩:=DataW.trod_int hu h
  cases hx
  exact⟨n,rfl,rfl,hw⟩
theorem alz (hu:P.underlying t=some .bool) (hc:P.cellsOf t=1):ee P t Ty.bool mU where
 cells:=hc
 shape {w b v} h:=by
  simp only[Value.okWide,hu,Cell.okWide] at h
  unfold Cell.ok at h
  rw[hu] at h
  cases v<;>simp_all [Ty.mk',Ty.bool,Value.cells]
 aa {H enc w held fuel cs d p} h _:=by
  obtain⟨b,rfl,hx⟩:=DataW.trod_bool hu h
  cases hx
  exact⟨b,rfl,rfl⟩
def lF {α:Type} (D: {H:Type}->DataW H->α->Prop) {H:Type}:List (DataW H)->List α->Prop
 |[],xs=>xs=[]
 |d::ds,xs=> ∃y ys,xs=y::ys/\D d y/\lF D ds ys
def eA {α:Type} (D: {H:Type}->DataW H->α->Prop) {H:Type} (d:DataW H) (xs:List α):Prop:=
 match d with
 | .nil=>xs=[]
 | .slice es _=>lF D es xs
 |_=>False
theorem lF.len {α:Type} {D: {H:Type}->DataW H->α->Prop} {H:Type}: ∀ {ds:List (DataW H)} {xs:List α},lF D ds xs->ds.length=xs.length
 |[],_,h=>by rw[show _=[] from h];rfl
 |_::_,_,⟨y,ys,h,_,h2⟩=>by subst h;simp[lF.len h2]
theorem lF.mem {α:Type} {D: {H:Type}->DataW H->α->Prop} {H:Type}: ∀ {ds:List (DataW H)} {xs:List α},lF D ds xs-> ∀x∈xs,∃d∈ds,D d x
 |[],_,h,x,hx=>by rw[show _=[] from h] at hx;cases hx
 |d::_,_,⟨y,ys,h,h1,h2⟩,x,hx=>by
  subst h
  rcases List.mem_cons.1 hx with rfl|hx
  ·exact⟨d,List.mem_cons_self,h1⟩
  ·obtain⟨e,he,h⟩:=lF.mem h2 x hx
   exact⟨e,List.mem_cons_of_mem _ he,h⟩
theorem eA.mem {α:Type} {D: {H:Type}->DataW H->α->Prop} {H:Type} {d:DataW H} {xs:List α} (h:eA D d xs): ∀x∈xs,∃e:DataW H,D e x:=by
 intro x hx
 unfold eA at h
 split at h
 ·subst h;cases hx
 ·obtain⟨e,_,he⟩:=lF.mem h x hx;exact⟨e,he⟩
 ·exact h.elim
theorem Hm {α:Type} {D: {H:Type}->DataW H->α->Prop} {H:Type} {R:Nat->α->Prop}: ∀(ds:List (DataW H)) (o:Nat),(∀k d,ds[k]? =some d-> ∃x,R (o+k) x/\D d x)-> ∃xs,lF D ds xs/\ ∀(k:Nat) x,xs[k]? =some x->R (o+k) x
 |[],_,_=>⟨[],rfl,λk x h=>by simp at h⟩
 |d::ds,o,h=>by
  obtain⟨x,hx,hd⟩:=h 0 d rfl
  obtain⟨xs,h1,h2⟩:=Hm (R:=R) ds (o+1) (λk e he=>by
   have:=h (k+1) e (by simpa using he)
   rwa [show o+(k+1)=o+1+k by omega] at this)
  refine⟨x::xs,⟨x,xs,rfl,hd,h1⟩,λk y hy=>?_⟩
  cases k with
  |zero=>simp at hy;subst hy;simpa using hx
  |succ k=>
   have:=h2 k y (by simpa using hy)
   rwa [show o+(k+1)=o+1+k by omega]
theorem R1 {w:World} {a:Addr} {u:Value} (h:w.cell? a=some u):a.block<w.heap.size:=by
 unfold World.cell? at h
 split at h
 ·rename_i hh;exact(Array.getElem?_eq_some_iff.1 hh).1
 ·cases h
theorem adp (a:Addr) (n:Nat):(a.add n).off=a.off+n:=by unfold Addr.add;split<;>simp_all
theorem th {α:Type} {e:TypeId} {T:Ty α} {D: {H:Type}->DataW H->α->Prop} (hu:P.underlying t=some (.slice e)) (hc:P.cellsOf t=1) (he:ee P e T D) (hn:0<T.n):ee P t T.slice (eA D) where
 cells:=hc
 shape {w b v} h:=by
  obtain⟨a,len,cap,rfl⟩:=WideShapes.okWide_slice hu h
  rfl
 aa {H enc w held fuel cs d p} h jg:=by
  rcases DataW.trod_slice hu h with⟨rfl,hx⟩|⟨a,len,cap,elems,rest,n,rfl,rfl,hx,_,J2,kU,hlen,hel,_,_⟩
  ·cases hx
   exact⟨[],⟨none,0,rfl,⟨Nat.le_refl _,by unfold maxLen;omega⟩,λk x h=>by simp at h⟩,rfl⟩
  ·cases hx
   have key: ∀(k:Nat) (x:DataW H),(elems.map (·.1))[k]? =some x-> ∃y,(a.block<w.heap.size/\ ∃es,T.rep [] w es y/\pP w (a.add ((0+k)*T.n)) es)/\D x y:=by
    intro k x hk
    have iT:k<len:=by
     have:=(List.getElem?_eq_some_iff.1 hk).1
     simpa[hlen] using this
    have cL:elems[k]? =some elems[k]:=List.getElem?_eq_getElem (by omega)
    have cG:=hel k iT
    rw[cL] at cG
    simp only[Option.bind_eq_some_iff] at cG
    obtain⟨cs,fb,eO⟩:=cG
    have hx:x=elems[k].1:=by
     rw[List.getElem?_map,cL] at hk
     simpa using hk.symm
    obtain⟨y,nR,xh⟩:=he.aa (d:=elems[k].1) (p:=elems[k].2) eO (λb off hm=>jg b off (List.mem_append_right _ (List.mem_flatMap.2 ⟨elems[k],List.mem_append_left _ (List.getElem_mem _),hm⟩)))
    obtain⟨_,hl,wB⟩:=World.cells?_some fb
    rw[he.cells] at hl wB
    have k8:0<cs.length:=by omega
    refine⟨y,⟨?_,cs,nR,λj u hj=>?_,λj hj=>?_⟩,by rw[hx];exact xh⟩
    ·have h0:=wB 0 (by omega)
     rw[List.getElem?_eq_getElem k8] at h0
     have:=R1 h0
     simpa[kO] using this
    ·have iy:j<T.n:=by have:=(List.getElem?_eq_some_iff.1 hj).1;omega
     rw[Nat.zero_add,wB j iy]
     exact hj
    ·have aH:(0+k)*T.n+j<(elems.length+rest.length)*P.cellsOf e:=by
      rw[he.cells,Nat.zero_add]
      have:(k+1)*T.n<=(elems.length+rest.length)*T.n:=Nat.mul_le_mul_right _ (by omega)
      rw[Nat.succ_mul] at this
      omega
     have:=jg a.block (a.off+((0+k)*T.n+j)) (List.mem_append_left _ (MemPlace.mem_row.2 ⟨_,aH,rfl⟩))
     rw[add_add]
     simp only[World.frozen?,kO,adp] at this ⊢
     exact this
   obtain⟨xs,h1,h2⟩:=Hm (R:=λk y=>a.block<w.heap.size/\ ∃es,T.rep [] w es y/\pP w (a.add (k*T.n)) es) (elems.map (·.1)) 0 (λk x hk=>key k x hk)
   have mE:xs.length=len:=by rw[<-h1.len];simpa using hlen
   refine⟨xs,⟨some a,cap,by rw[mE],⟨by omega,kU⟩,λk x hk=>?_⟩,h1⟩
   obtain⟨Js,es,hr,wA⟩:=h2 k x hk
   exact⟨a,es,rfl,Js,by simp,hr,by simpa using wA⟩
structure zW {α:Type} (P:Program) (o:Nat) (fs:List Field) (T:Ty α) (D: {H:Type}->List (DataW H)->α->Prop):Prop where
 aa: ∀ {H:Type} {enc:TypeId×Value->H} {w:World} {held:Bool} {fuel:Nat} {cs:List Value} {xs:List (DataW H×List MemPlace)},xs.length=fs.length->
  (∀(i:Nat) (f:Field),fs[i]? =some f->DataW.trod enc P w 0 (λ_=>true) held fuel f.type ((cs.drop f.offset).take (P.cellsOf f.type))=xs[i]?)->w.noneFrozen (xs.flatMap (·.2))->
  ∃x,T.rep [] w ((cs.drop o).take T.n) x/\D (xs.map (·.1)) x
def dA {α:Type} (D: {H:Type}->DataW H->α->Prop) {H:Type} (ds:List (DataW H)) (x:α):Prop:= ∃d,ds=[d]/\D d x
def cv {α β:Type} (D: {H:Type}->DataW H->α->Prop) (E: {H:Type}->List (DataW H)->β->Prop) {H:Type} (ds:List (DataW H)) (x:α×β):Prop:= ∃d r,ds=d::r/\D d x.1/\E r x.2
theorem nV {α:Type} {o:Nat} {f:Field} {T:Ty α} {D: {H:Type}->DataW H->α->Prop} (ho:f.offset=o) (h:ee P f.type T D):zW P o [f] T (dA D) where
 aa {H enc w held fuel cs xs} hl hm jg:=by
  obtain⟨y,rfl⟩: ∃y,xs=[y]:=List.length_eq_one_iff.1 hl
  have hy:=hm 0 f rfl
  obtain⟨x,h1,h2⟩:=h.aa (d:=y.1) (p:=y.2) hy (λb off hm=>jg b off (by simpa using hm))
  rw[ho,h.cells] at h1
  exact⟨x,h1,y.1,rfl,h2⟩
theorem jW {α β:Type} {o o':Nat} {f:Field} {fs:List Field} {T:Ty α} {S:Ty β} {D: {H:Type}->DataW H->α->Prop} {E: {H:Type}->List (DataW H)->β->Prop} (ho:f.offset=o) (h:ee P f.type T D) (ei:o'=o+T.n) (hs:zW P o' fs S E):
  zW P o (f::fs) (Ty.pair T S) (cv D E) where
 aa {H enc w held fuel cs xs} hl hm jg:=by
  cases xs with
  |nil=>simp at hl
  |cons y r=>
   have hy:=hm 0 f rfl
   obtain⟨x,h1,h2⟩:=h.aa (d:=y.1) (p:=y.2) hy (λb off hm=>jg b off (by simp[hm]))
   obtain⟨z,h3,h4⟩:=hs.aa (xs:=r) (by simpa using hl) (λi g hg=>by simpa using hm (i+1) g (by simpa using hg)) (λb off hm=>jg b off (by rw[List.flatMap_cons];exact List.mem_append_right _ hm))
   rw[ho,h.cells] at h1
   refine⟨(x,z),⟨_,_,?_,h1,h3⟩,y.1,r.map (·.1),rfl,h2,h4⟩
   show(cs.drop o).take (T.n+S.n)=_
   rw[List.take_add,List.drop_drop,ei]
def dB {α β:Type} (E: {H:Type}->List (DataW H)->α->Prop) (f:β->α) {H:Type} (d:DataW H) (x:β):Prop:= ∃ds,d= .agg ds/\E ds (f x)
theorem nW {α β:Type} {fs:Array Field} {T:Ty α} {E: {H:Type}->List (DataW H)->α->Prop} (f:β->α) (g:α->β) (Uf: ∀x,f (g x)=x) (hu:P.underlying t=some (.struct fs)) (hc:P.cellsOf t=T.n) (ha:T.agg=true) (h:zW P 0 fs.toList T E):ee P t (T.ji f) (dB E f) where
 cells:=hc
 shape {w b v} h:=by
  simp only[Value.okWide,hu] at h
  obtain⟨cs,rfl,_⟩:=h
  simp[Ty.mk',Ty.ji,ha,Value.cells]
 aa {H enc w held fuel cs d p} hd jg:=by
  obtain⟨xs,n,rfl,hx,hl,mE,hi⟩:=DataW.trod_struct hu hd
  cases hx
  obtain⟨x,h1,h2⟩:=h.aa (xs:=xs) (cs:=cs) (by simpa using mE) (λi g hg=>hi i g (by simpa using hg)) jg
  rw[List.drop_zero,List.take_of_length_le (by omega)] at h1
  exact⟨g x,by show T.rep [] w cs (f (g x));rw[Uf];exact h1,_,rfl,by rw[Uf];exact h2⟩
theorem ee.arg {α:Type} {T:Ty α} {D: {H:Type}->DataW H->α->Prop} (h:ee P t T D) {H:Type} {enc:TypeId×Value->H} {w:World} {held:Bool} {v:Value} {d:DataW H} {p:List MemPlace} {b:Nat} (hs:Value.okWide P w .any b t v)
  (hd:DataW.Trod enc P w 0 (λ_=>true) held t v d p) (jg:w.noneFrozen p): ∃x,T.is [] w v x/\D d x:=by
 obtain⟨fuel,hf⟩:=hd
 obtain⟨x,h1,h2⟩:=h.aa hf jg
 exact⟨x,⟨_,h1,h.shape hs⟩,h2⟩
end
theorem RS {H:Type} {enc:TypeId×Value->H} {P:Program} {W W':World} (hl:laidOutB P=true): ∀ {ts:List TypeId} {vs:List Value} {ds:List (DataW H)} {ps:List MemPlace},(∀t∈ts,P.readableRec t=true/\t<P.types.size)->DataW.TrodAll enc P W 0 (λ_=>true) true ts vs ds ps->Below W.heap.size W W'->(∀x∈ps,x.block<W.heap.size)->
  ∀sp:Nat->Bool,(∀p∈ps,sp p.block=true)->DataW.TrodAll enc P W' 0 sp true ts vs ds ps
 |[],[],[],_,_,h,_,_,_,_=>h
 |_::_,_::_,_::_,_,ht,⟨p,q,h1,h2,e⟩,hb,aH,sp,hs=>by
  subst e
  refine⟨p,q,?_,RS hl (λt h=>ht t (List.mem_cons_of_mem _ h)) h2 hb (λx hx=>aH x (List.mem_append_right _ hx)) sp (λx hx=>hs x (List.mem_append_right _ hx)),rfl⟩
  exact WideElems.Trod_stays hl (ht _ List.mem_cons_self).1 (ht _ List.mem_cons_self).2 h1 (λx hx=>hb.same (aH x (List.mem_append_left _ hx))) (λx hx=>hs x (List.mem_append_left _ hx))
end Go.Dc
end
section
namespace Go.Vx
open Go.RowKit Go.Dc
variable {P:Program} {t:TypeId}
def tP (k:IntKind) (n:Nat) {H:Type} (d:DataW H) (x:List Int):Prop:= ∃ds,d= .agg ds/\lF (b5 k) ds x/\x.length=n
theorem aly {k:IntKind} {n:Nat} {e:TypeId} (hu:P.underlying t=some (.array n e)) (hc:P.cellsOf t=n) (he:ee P e (Ty.int k) (b5 k)):ee P t (mn k n) (tP k n) where
 cells:=hc
 shape {w b v} hs:=by
  simp only[Value.okWide,hu] at hs
  obtain⟨cs,rfl,_⟩:=hs
  simp[Ty.mk',mn,Value.cells]
 aa {H enc w held fuel cs d p} hd jg:=by
  obtain⟨xs,m,rfl,hx,hl,mE,hi⟩:=DataW.trod_array hu hd
  cases hx
  have h1:P.cellsOf e=1:=he.cells
  have key: ∀(j:Nat) (x:DataW H),(xs.map (·.1))[j]? =some x-> ∃y,(cs[0+j]? =some (.int k y))/\b5 k x y:=by
   intro j x hj
   have iy:j<xs.length:=by
    have:=(List.getElem?_eq_some_iff.1 hj).1
    simpa using this
   have cL:xs[j]? =some xs[j]:=List.getElem?_eq_getElem iy
   have hx:x=xs[j].1:=by
    rw[List.getElem?_map,cL] at hj
    simpa using hj.symm
   have dp:=hi j (by omega)
   rw[cL] at dp
   obtain⟨y,nR,xh⟩:=he.aa (d:=xs[j].1) (p:=xs[j].2) dp (λb off hm=>jg b off (List.mem_flatMap.2 ⟨xs[j],List.getElem_mem _,hm⟩))
   refine⟨y,?_,by rw[hx];exact xh⟩
   rw[h1,Nat.mul_one] at nR
   have nR:(cs.drop j).take 1=[.int k y]:=nR
   rw[Nat.zero_add]
   cases hd:cs.drop j with
   |nil=>rw[hd] at nR;simp at nR
   |cons u r=>
    rw[hd] at nR
    have:u= .int k y:=by simpa using nR
    subst this
    have:=List.getElem?_drop (xs:=cs) (i:=j) (j:=0)
    rw[hd] at this
    simpa using this.symm
  obtain⟨ys,h2,h3⟩:=Hm (R:=λj y=>cs[j]? =some (.int k y)) (xs.map (·.1)) 0 (λj x hj=>key j x hj)
  have Kv:ys.length=n:=by rw[<-h2.len];simpa using mE
  refine⟨ys,⟨Kv,?_⟩,_,rfl,h2,Kv⟩
  refine List.ext_getElem? λj=>?_
  rw[List.getElem?_map]
  cases hj:ys[j]? with
  |none=>
   rw[List.getElem?_eq_none_iff] at hj
   rw[List.getElem?_eq_none (by rw[hl,hc];omega)]
   rfl
  |some y=>
   have:=h3 j y hj
   rw[Nat.zero_add] at this
   exact this
end Go.Vx
end
section
namespace Go.Proofs.YtdhaaaeffhaadaaGreatDoor
open Go.RowKit Go.Dc Go.Vx
set_option maxRecDepth 100000
theorem W0:ee Tryz.prog 3 (Ty.int .i64) (b5 .i64):=W7 Tryz.underlying3 (by kernel_rfl)
theorem alh:ee Tryz.prog 22 (mn .i64 16) (tP .i64 16):=aly Tryz.underlying22 (by kernel_rfl) W0
theorem lk:ee Tryz.prog 28 (Ty.int .u64) (b5 .u64):=W7 Tryz.underlying28 (by kernel_rfl)
theorem alr:ee Tryz.prog 4 Ty.bool mU:=alz Tryz.underlying4 (by kernel_rfl)
theorem W5:ee Tryz.prog 69 jG (dB (cv (b5 .u64) (cv (b5 .u64) (cv mU (dA (b5 .u64))))) (λd:ah=>(d.ae,d.bn,d.bW,d.cP))):=nW (λd:ah=>(d.ae,d.bn,d.bW,d.cP)) (λp=>⟨p.1,p.2.1,p.2.2.1,p.2.2.2⟩) (λ_=>rfl) Tryz.underlying69 (by kernel_rfl) rfl (jW rfl lk rfl (jW rfl lk rfl (jW rfl alr rfl (nV rfl lk))))
theorem ali:ee Tryz.prog 23 (Ty.slice jG) (eA (dB (cv (b5 .u64) (cv (b5 .u64) (cv mU (dA (b5 .u64))))) (λd:ah=>(d.ae,d.bn,d.bW,d.cP)))):=th Tryz.underlying23 (by kernel_rfl) W5 (by decide)
theorem alj:ee Tryz.prog 25 yc (dB (cv (tP .i64 16) (dA (eA (dB (cv (b5 .u64) (cv (b5 .u64) (cv mU (dA (b5 .u64))))) (λd:ah=>(d.ae,d.bn,d.bW,d.cP)))))) (λd:b_=>(d.aR,d.ao))):=nW (λd:b_=>(d.aR,d.ao)) (λp=>⟨p.1,p.2⟩) (λ_=>rfl) Tryz.underlying25 (by kernel_rfl) rfl (jW rfl alh rfl (nV rfl ali))
theorem alw:ee Tryz.prog 89 kL (dB (cv (b5 .u64) (cv (b5 .i64) (dA (b5 .u64)))) (λd:aj=>(d.ae,d.cJ,d.c8))):=nW (λd:aj=>(d.ae,d.cJ,d.c8)) (λp=>⟨p.1,p.2.1,p.2.2⟩) (λ_=>rfl) Tryz.underlying89 (by kernel_rfl) rfl (jW rfl lk rfl (jW rfl W0 rfl (nV rfl lk)))
theorem alk:ee Tryz.prog 26 (Ty.slice kL) (eA (dB (cv (b5 .u64) (cv (b5 .i64) (dA (b5 .u64)))) (λd:aj=>(d.ae,d.cJ,d.c8)))):=th Tryz.underlying26 (by kernel_rfl) alw (by decide)
theorem als:ee Tryz.prog 71 mR (dB (cv (b5 .u64) (dA (b5 .u64))) (λd:ar=>(d.bY,d.bc))):=nW (λd:ar=>(d.bY,d.bc)) (λp=>⟨p.1,p.2⟩) (λ_=>rfl) Tryz.underlying71 (by kernel_rfl) rfl (jW rfl lk rfl (nV rfl lk))
theorem alm:ee Tryz.prog 27 (Ty.slice mR) (eA (dB (cv (b5 .u64) (dA (b5 .u64))) (λd:ar=>(d.bY,d.bc)))):=th Tryz.underlying27 (by kernel_rfl) als (by decide)
theorem aln:ee Tryz.prog 30 yb (dB (cv (eA (dB (cv (b5 .u64) (dA (b5 .u64))) (λd:ar=>(d.bY,d.bc)))) (dA (b5 .u64))) (λd:cz=>(d.ao,d.bz))):=nW (λd:cz=>(d.ao,d.bz)) (λp=>⟨p.1,p.2⟩) (λ_=>rfl) Tryz.underlying30 (by kernel_rfl) rfl (jW rfl alm rfl (nV rfl lk))
theorem alx:ee Tryz.prog 93 eP (dB (cv (b5 .u64) (dA (b5 .u64))) (λd:aw=>(d.cB,d.ae))):=nW (λd:aw=>(d.cB,d.ae)) (λp=>⟨p.1,p.2⟩) (λ_=>rfl) Tryz.underlying93 (by kernel_rfl) rfl (jW rfl lk rfl (nV rfl lk))
theorem alo:ee Tryz.prog 31 (Ty.slice eP) (eA (dB (cv (b5 .u64) (dA (b5 .u64))) (λd:aw=>(d.cB,d.ae)))):=th Tryz.underlying31 (by kernel_rfl) alx (by decide)
theorem alu:ee Tryz.prog 76 (Ty.slice (Ty.int .u64)) (eA (b5 .u64)):=th Tryz.underlying76 (by kernel_rfl) lk (by decide)
theorem alv:ee Tryz.prog 82 lA (dB (cv (b5 .u64) (dA (eA (b5 .u64)))) (λd:an=>(d.ae,d.a_))):=nW (λd:an=>(d.ae,d.a_)) (λp=>⟨p.1,p.2⟩) (λ_=>rfl) Tryz.underlying82 (by kernel_rfl) rfl (jW rfl lk rfl (nV rfl alu))
theorem alp:ee Tryz.prog 32 (Ty.slice lA) (eA (dB (cv (b5 .u64) (dA (eA (b5 .u64)))) (λd:an=>(d.ae,d.a_)))):=th Tryz.underlying32 (by kernel_rfl) alv (by decide)
theorem alq:ee Tryz.prog 34 ja (dB (cv (eA (dB (cv (b5 .u64) (dA (b5 .u64))) (λd:aw=>(d.cB,d.ae)))) (dA (eA (dB (cv (b5 .u64) (dA (eA (b5 .u64)))) (λd:an=>(d.ae,d.a_)))))) (λd:bh=>(d.aK,d.ay))):=nW (λd:bh=>(d.aK,d.ay)) (λp=>⟨p.1,p.2⟩) (λ_=>rfl) Tryz.underlying34 (by kernel_rfl) rfl (jW rfl alo rfl (nV rfl alp))
theorem W4:ee Tryz.prog 36 tI (dB (cv (dB (cv (tP .i64 16) (dA (eA (dB (cv (b5 .u64) (cv (b5 .u64) (cv mU (dA (b5 .u64))))) (λd:ah=>(d.ae,d.bn,d.bW,d.cP)))))) (λd:b_=>(d.aR,d.ao))) (cv (eA (dB (cv (b5 .u64) (cv (b5 .i64) (dA (b5 .u64)))) (λd:aj=>(d.ae,d.cJ,d.c8)))) (cv (dB (cv (eA (dB (cv (b5 .u64) (dA (b5 .u64))) (λd:ar=>(d.bY,d.bc)))) (dA (b5 .u64))) (λd:cz=>(d.ao,d.bz))) (dA (dB (cv (eA (dB (cv (b5 .u64) (dA (b5 .u64))) (λd:aw=>(d.cB,d.ae)))) (dA (eA (dB (cv (b5 .u64) (dA (eA (b5 .u64)))) (λd:an=>(d.ae,d.a_)))))) (λd:bh=>(d.aK,d.ay))))))) (λd:bF=>(d.aG,d.bj,d.aI,d.aA))):=nW (λd:bF=>(d.aG,d.bj,d.aI,d.aA)) (λp=>⟨p.1,p.2.1,p.2.2.1,p.2.2.2⟩) (λ_=>rfl) Tryz.underlying36 (by kernel_rfl) rfl (jW rfl alj rfl (jW rfl alk rfl (jW rfl aln rfl (nV rfl alq))))
def Gz (P:Program) (w:World) (n:String) (d:DataW Unit):Prop:=
 ∃g t cs fuel p,P.globalNamed n=some g/\(P.globals[g]?).map (·.type)=some t/\w.var? P n=some cs/\DataW.trod (λ_=>()) P w 0 (λ_=>true) false fuel t cs.toList=some (d,p)/\w.noneFrozen p/\w.noneFrozen (MemPlace.row ⟨g,0,none⟩ cs.size)
theorem Vj {P:Program} {w:World}: ∀ {l:List (String×DataW Unit)} {ps:List MemPlace},DataW.LaidVars P w l ps->w.noneFrozen ps-> ∀n d,(n,d)∈l->Gz P w n d
 |[],_,_,_,_,_,hm=>by cases hm
 |(n',d')::r,ps,h,hf,n,d,hm=>by
  obtain⟨g,t,cs,fuel,p,q,h1,h2,h3,h4,h5,rfl⟩:=h
  rcases List.mem_cons.1 hm with e|e
  ·cases e
   exact⟨g,t,cs,fuel,p,h1,h2,h3,h4,λb off hb=>hf b off (by simp[hb]),λb off hb=>hf b off (by simp[hb])⟩
  ·exact Vj h5 (λb off hb=>hf b off (by simp[hb])) n d e
theorem aku {P:Program} {w:World} {l:List (String×DataW Unit)} (h:laidMet P l w) {n:String} {d:DataW Unit} (hm:(n,d)∈l):Gz P w n d:=by
 obtain⟨ps,hv,_,hc⟩:=h
 refine Vj hv (λb off hb=>?_) n d hm
 obtain⟨⟨c,t,e⟩,_⟩:=hc b off hb
 unfold World.frozen?
 simp[e]
theorem akv {α:Type} {P:Program} {w:World} {n:String} {d:DataW Unit} {g t:Nat} {T:Ty α} {D: {H:Type}->DataW H->α->Prop} (hg:P.globalNamed n=some g) (hty:(P.globals[g]?).map (·.type)=some t) (h:ee P t T D) (k8:0<T.n) (hl:Gz P w n d):
  ∃x,T.ptr.is [] w (.pointer (some ⟨g,0,none⟩)) x/\D d x:=by
 obtain⟨g',t',cs,fuel,p,h1,h2,h3,h4,hp,hf⟩:=hl
 cases hg.symm.trans h1
 cases hty.symm.trans h2
 obtain⟨x,h5,h6⟩:=h.aa h4 hp
 have hc: ∀j,w.cell? ⟨g,j,none⟩=cs.toList[j]? :=λj=>by
  have:=World.var?_cell hg h3 j
  simpa using this
 have hl:=T.len h5
 have e: ∀j,(⟨g,0,none⟩:Addr).add j=⟨g,j,none⟩:=λj=>by unfold Addr.add;split<;>simp_all
 refine⟨x,⟨_,⟨⟨g,0,none⟩,_,rfl,?_,by simp,h5,λj u hu=>?_,λj hj=>?_⟩,rfl⟩,h6⟩
 ·obtain⟨u,hu⟩: ∃u,cs.toList[0]? =some u:=⟨_,List.getElem?_eq_getElem (by omega)⟩
  rw[<-hc] at hu
  exact R1 hu
 ·rw[e,hc]
  exact hu
 ·rw[e]
  refine hf g j ?_
  unfold MemPlace.row
  simp_all
theorem Iz {H:Type} {d:DataW H} {x:Int} (h:b5 .u64 d x):0<=x/\x<18446744073709551616:=by
 have:=h.2
 simp[Lit.wf,IntKind.min,IntKind.max,IntKind.signed,IntKind.bits] at this
 omega
theorem aiy {x:ah} (h:dB (cv (b5 .u64) (cv (b5 .u64) (cv mU (dA (b5 .u64))))) (λd:ah=>(d.ae,d.bn,d.bW,d.cP)) (Rows.laid_afterglow_proc_first (H:=Unit)) x):x=Cf:=by
 obtain⟨a,b,c,d⟩:=x
 simp[Rows.laid_afterglow_proc_first,dB,cv,dA,b5,mU] at h
 obtain⟨d1,r1,⟨rfl,rfl⟩,⟨h1,_⟩,d2,r2,e2,⟨h2,_⟩,d3,r3,e3,h3,d4,e4,h4,_⟩:=h
 simp at e2
 obtain⟨rfl,rfl⟩:=e2
 simp at e3
 obtain⟨rfl,rfl⟩:=e3
 simp at e4
 subst e4
 simp at h1 h2 h3 h4
 subst h1;subst h2;subst h3;subst h4
 rfl
theorem aiC {O:List Nat} {w:World} (h:jG.ptr.is O w (.pointer (some ⟨0,0,none⟩)) Cf):dq KK O w:=by
 intro g t x hg
 show(SS.ty t).ptr.is O w (.pointer (some ⟨g,0,none⟩)) x
 have hg:Iw g=some ⟨t,x⟩:=hg
 unfold Iw at hg
 split at hg
 ·cases hg;exact h
 ·cases hg
theorem adz {f:Nat} {args:List (aE SS)} {r:Bool} (hc:fY KK Tryz.prog f args (.ret (.s (KK.aa 4 r)))) {A:Pl} {O:List Nat} {w:World} {vs:List Value} (hv:di A O w args vs) (hO:OB O w) (hG:dq KK O w):Calls Tryz.prog f vs.toArray w (jI (tF Ty.bool) O w r):=by
 refine(hc.2 A O w vs hv hO hG).mono ?_
 rintro e w' ⟨⟨v,rfl,h1,_⟩,hF⟩
 cases h1
 exact⟨_,rfl,m5.2 rfl,hF⟩
theorem aks {O:List Nat} {w:World} (hO:OB O w) (hg:jG.ptr.is O w (.pointer (some ⟨0,0,none⟩)) Cf) {v0 v1:Value} {x0 x1:bF} (h0:tI.is O w v0 x0) (h1:tI.is O w v1 x1) {r:Bool} (h:SO aq x0 x1=some r):Calls Tryz.prog 3 #[v0,v1] w (jI (tF Ty.bool) O w r):=by
 rw[<-tH] at h
 have hc:fY KK Tryz.prog 3 [KK.aa 36 x0,KK.aa 36 x1] (.ret (.s (KK.aa 4 r))):=Eg (G:=E7 shut) (ab.all abG rfl) (kf:=λ{R} (k:Rs SS->Option R)=>(λr=>k (.ret (.s (KK.aa 4 r))))) (λk=>t_3 x0 x1 k) rfl (Iu h) λk=>rfl
 exact adz hc (A:=DH) (vs:=[v0,v1]) ⟨v0,_,rfl,kJ er (t:=36) rfl rfl h0,v1,_,rfl,kJ er (t:=36) rfl rfl h1,rfl⟩ hO (aiC hg)
theorem apO {H:Type} {d:DataW H} {x:bF} (h:(dB (cv (dB (cv (tP .i64 16) (dA (eA (dB (cv (b5 .u64) (cv (b5 .u64) (cv mU (dA (b5 .u64))))) (λd:ah=>(d.ae,d.bn,d.bW,d.cP)))))) (λd:b_=>(d.aR,d.ao))) (cv (eA (dB (cv (b5 .u64) (cv (b5 .i64) (dA (b5 .u64)))) (λd:aj=>(d.ae,d.cJ,d.c8)))) (cv (dB (cv (eA (dB (cv (b5 .u64) (dA (b5 .u64))) (λd:ar=>(d.bY,d.bc)))) (dA (b5 .u64))) (λd:cz=>(d.ao,d.bz))) (dA (dB (cv (eA (dB (cv (b5 .u64) (dA (b5 .u64))) (λd:aw=>(d.cB,d.ae)))) (dA (eA (dB (cv (b5 .u64) (dA (eA (b5 .u64)))) (λd:an=>(d.ae,d.a_)))))) (λd:bh=>(d.aK,d.ay))))))) (λd:bF=>(d.aG,d.bj,d.aI,d.aA))) d x):BA x:=by
 obtain⟨_,_,_,_,_,hP,_,_,_,_,_,_,_,hM,_,_,hI⟩:=h
 obtain⟨_,_,_,_,_,_,_,_,hP⟩:=hP
 obtain⟨_,_,_,_,_,hM,_⟩:=hM
 obtain⟨_,_,_,_,_,hI,_⟩:=hI
 refine⟨λz hz=>?_,λz hz=>?_,λz hz=>?_⟩
 ·obtain⟨e,_,_,_,_,_,h,_⟩:=hP.mem z hz
  exact Iz h
 ·obtain⟨e,_,_,_,_,_,h,_⟩:=hM.mem z hz
  exact Iz h
 ·obtain⟨e,_,_,_,_,_,h,_⟩:=hI.mem z hz
  exact Iz h
end Go.Proofs.YtdhaaaeffhaadaaGreatDoor
end
section
namespace Go.Proofs.YtdhaaaeffhaadaaGreatDoor.modelMay
open Go.ChangeShapes Go.WideShapes Go.ChangeAt Go.RowKit Go.Dc Go.Vx
set_option maxRecDepth 100000
theorem own:ownKnob Tryz.prog.godebug=none:=by kernel_rfl
theorem laidOut:laidOutB Tryz.prog=true:=by kernel_rfl
theorem afp (H:Type) (enc:TypeId×Value->H) (W:World) (base:Nat) (args:Array Value) (ds gs:List (DataW H)) (before:List MemPlace)
  (pf: ∀(j:Nat) t v,Tryz.f3.params[j]? =some t->args[j]? =some v->Value.okWide Tryz.prog W .any base t v)
  (hW:DataW.Whole enc Tryz.prog Tryz.f3.params.toList Rows.modelMaySpec.vars false W args.toList ds gs before) (hL:laidMetH Tryz.prog Rows.modelMayRow.laid W):
  Calls Tryz.prog 3 args W λe W'=> ∃v,e= .returned v/\Rows.modelMaySpec.post enc Tryz.prog Tryz.f3 false true false false W args v W':=by
 have hW':=hW
 have aH:=hW.lt
 obtain⟨p,q,sC,hV,rfl,jg,o_⟩:=hW
 have hA:DataW.TrodAll enc Tryz.prog W 0 (λ_=>true) true Tryz.f3.params.toList args.toList ds p:=sC
 have nn:=sC
 rw[Tryz.params3] at hA pf
 obtain⟨v0,MS,d0,ds0,U,q0,ap8,rfl,rfl,h0,r0⟩:=trodAll_cons hA
 obtain⟨v1,ZP,d1,ds1,p1,q1,rfl,rfl,rfl,h1,r1⟩:=trodAll_cons r0
 obtain⟨rfl,rfl,rfl⟩:=trodAll_nil r1
 obtain rfl:args= #[v0,v1]:=by cases args;simp_all
 obtain⟨rfl,rfl⟩:=trodVars_none hV
 obtain⟨x0,Dk,D0⟩:=W4.arg (pf 0 36 v0 rfl rfl) h0 (λb off hm=>jg b off (by simp[hm]))
 obtain⟨x1,Kt,D1⟩:=W4.arg (pf 1 36 v1 rfl rfl) h1 (λb off hm=>jg b off (by simp[hm]))
 obtain⟨y0,JR,Z8⟩:=akv (g:=0) (by kernel_rfl) (by kernel_rfl) W5 (by decide) (aku hL (.head _))
 obtain rfl:=aiy Z8
 have gu:=aks (O:=[]) (w:=W) (λk hk=>by cases hk) JR Dk Kt (abM (apO D0) x1)
 refine gu.mono λe W' ⟨v,he,hv,hF⟩=>?_
 subst he
 obtain rfl:=m5.1 hv
 refine⟨_,rfl,_,_,_,[],(U++(p1++[])),[],hW',?_,?_,?_,hF.below.frame _,λh=>by cases h⟩
 ·exact trodAll_cons_mk (shut_bool Tryz.underlying4 _) trodAll_mk0
 ·exact RS laidOut (by rw[Tryz.params3];intro t ht;simp only[List.mem_cons,List.not_mem_nil,or_false] at ht;rcases ht with rfl|rfl<;>exact⟨by kernel_rfl,of_decide_eq_true (by kernel_rfl)⟩) nn hF.below (λx hx=>aH x (List.mem_append_left _ hx)) _ (λx hx=>by simpa using aH x (List.mem_append_left _ hx))
 ·rfl
noncomputable def KW (os:Os):World:=
 let w0:=World.holding Tryz.prog os ⟨#[],#[],[]⟩
 { w0 with heap:=w0.heap.modify 0 λ
  | .cells _ t frozen=> .cells #[.int .u64 1,.int .u64 0,.bool false,.int .u64 0] t frozen
  |o=>o }
theorem akt (os:Os):laidMet Tryz.prog Rows.modelMayRow.laid ((KW os).forCall (λ_ _=>0) ⟨#[],#[(.agg #[.int .i64 0,.int .i64 0,.int .i64 0,.int .i64 0,.int .i64 0,.int .i64 0,.int .i64 0,.int .i64 0,.int .i64 0,.int .i64 0,.int .i64 0,.int .i64 0,.int .i64 0,.int .i64 0,.int .i64 0,.int .i64 0,.slice none 0 0,.slice none 0 0,.slice none 0 0,.int .u64 0,.slice none 0 0,.slice none 0 0]:Value),(.agg #[.int .i64 0,.int .i64 0,.int .i64 0,.int .i64 0,.int .i64 0,.int .i64 0,.int .i64 0,.int .i64 0,.int .i64 0,.int .i64 0,.int .i64 0,.int .i64 0,.int .i64 0,.int .i64 0,.int .i64 0,.int .i64 0,.slice none 0 0,.slice none 0 0,.slice none 0 0,.int .u64 0,.slice none 0 0,.slice none 0 0]:Value)],[]⟩).memory:=
 laidMet_of_run' 8 (by kernel_rfl) (by kernel_rfl)
theorem reads (os:Os) {H:Type} (enc:TypeId×Value->H):(DataW.whole enc Tryz.prog ((KW os).forCall (λ_ _=>0) ⟨#[],#[(.agg #[.int .i64 0,.int .i64 0,.int .i64 0,.int .i64 0,.int .i64 0,.int .i64 0,.int .i64 0,.int .i64 0,.int .i64 0,.int .i64 0,.int .i64 0,.int .i64 0,.int .i64 0,.int .i64 0,.int .i64 0,.int .i64 0,.slice none 0 0,.slice none 0 0,.slice none 0 0,.int .u64 0,.slice none 0 0,.slice none 0 0]:Value),(.agg #[.int .i64 0,.int .i64 0,.int .i64 0,.int .i64 0,.int .i64 0,.int .i64 0,.int .i64 0,.int .i64 0,.int .i64 0,.int .i64 0,.int .i64 0,.int .i64 0,.int .i64 0,.int .i64 0,.int .i64 0,.int .i64 0,.slice none 0 0,.slice none 0 0,.slice none 0 0,.int .u64 0,.slice none 0 0,.slice none 0 0]:Value)],[]⟩).memory Tryz.f3.params.toList Rows.modelMaySpec.vars false (#[(.agg #[.int .i64 0,.int .i64 0,.int .i64 0,.int .i64 0,.int .i64 0,.int .i64 0,.int .i64 0,.int .i64 0,.int .i64 0,.int .i64 0,.int .i64 0,.int .i64 0,.int .i64 0,.int .i64 0,.int .i64 0,.int .i64 0,.slice none 0 0,.slice none 0 0,.slice none 0 0,.int .u64 0,.slice none 0 0,.slice none 0 0]:Value),(.agg #[.int .i64 0,.int .i64 0,.int .i64 0,.int .i64 0,.int .i64 0,.int .i64 0,.int .i64 0,.int .i64 0,.int .i64 0,.int .i64 0,.int .i64 0,.int .i64 0,.int .i64 0,.int .i64 0,.int .i64 0,.int .i64 0,.slice none 0 0,.slice none 0 0,.slice none 0 0,.int .u64 0,.slice none 0 0,.slice none 0 0]:Value)]:Array Value).toList 8).map (λx=>(x.1,x.2.1))=some ([.agg [.agg [.agg [.lit (.int .i64 0),.lit (.int .i64 0),.lit (.int .i64 0),.lit (.int .i64 0),.lit (.int .i64 0),.lit (.int .i64 0),.lit (.int .i64 0),.lit (.int .i64 0),.lit (.int .i64 0),.lit (.int .i64 0),.lit (.int .i64 0),.lit (.int .i64 0),.lit (.int .i64 0),.lit (.int .i64 0),.lit (.int .i64 0),.lit (.int .i64 0)],.nil],.nil,.agg [.nil,.lit (.int .u64 0)],.agg [.nil,.nil]],.agg [.agg [.agg [.lit (.int .i64 0),.lit (.int .i64 0),.lit (.int .i64 0),.lit (.int .i64 0),.lit (.int .i64 0),.lit (.int .i64 0),.lit (.int .i64 0),.lit (.int .i64 0),.lit (.int .i64 0),.lit (.int .i64 0),.lit (.int .i64 0),.lit (.int .i64 0),.lit (.int .i64 0),.lit (.int .i64 0),.lit (.int .i64 0),.lit (.int .i64 0)],.nil],.nil,.agg [.nil,.lit (.int .u64 0)],.agg [.nil,.nil]]],[]):=by kernel_rfl
theorem lifted (os:Os) (started:os.Started) (H:Type) (enc:TypeId×Value->H) (F:Stop.Interp):
  ReturnsInHanded {} Tryz.checked os 3 .any ((OpenSpec.ofChange Rows.modelMaySpec).preRow enc Tryz.prog Tryz.f3 Rows.modelMayRow.domain false Rows.modelMayRow.laid) (((OpenSpec.ofChange Rows.modelMaySpec).at F).post enc Tryz.prog Tryz.f3 false true false false):=by
 obtain⟨⟨z1,z2,z3⟩,hx,hz⟩:=Option.map_eq_some_iff.1 (reads os enc)
 simp only[Prod.mk.injEq] at hz
 obtain⟨rfl,rfl⟩:=hz
 refine returnsInHanded_of_row (C:=Tryz.checked) (s:=OpenSpec.ofChange Rows.modelMaySpec) own started (by kernel_rfl) Tryz.func3
  (witness_row_atRef (enc:=enc) (C:=Tryz.checked) false (KW os) #[(.agg #[.int .i64 0,.int .i64 0,.int .i64 0,.int .i64 0,.int .i64 0,.int .i64 0,.int .i64 0,.int .i64 0,.int .i64 0,.int .i64 0,.int .i64 0,.int .i64 0,.int .i64 0,.int .i64 0,.int .i64 0,.int .i64 0,.slice none 0 0,.slice none 0 0,.slice none 0 0,.int .u64 0,.slice none 0 0,.slice none 0 0]:Value),(.agg #[.int .i64 0,.int .i64 0,.int .i64 0,.int .i64 0,.int .i64 0,.int .i64 0,.int .i64 0,.int .i64 0,.int .i64 0,.int .i64 0,.int .i64 0,.int .i64 0,.int .i64 0,.int .i64 0,.int .i64 0,.int .i64 0,.slice none 0 0,.slice none 0 0,.slice none 0 0,.int .u64 0,.slice none 0 0,.slice none 0 0]:Value)] rfl (by kernel_rfl) (by kernel_rfl) (by kernel_rfl)
   (OpenSpec.preRow_of_cond 8 hx (by kernel_rfl) (λk hk=>by cases hk) (by kernel_rfl) (akt os))) ?_
 intro W base args ds gs before pf hW _ _ _ hL _ _
 exact afp H enc W base args ds gs before pf hW hL
theorem said:Rows.ModelMaySaid:=
 OpenClaim.holds_of_cond 3 Tryz.f3 rfl rfl rfl rfl rfl rfl rfl ⟨rfl,rfl,rfl,rfl,rfl⟩ rfl rfl rfl rfl rfl (by kernel_rfl) Tryz.func3 (by kernel_rfl)
  (of_decide_eq_true (by kernel_rfl)) (by unfold Func.isWrapper;first|(rw[if_pos (by decide+kernel)];kernel_rfl)|(rw[if_neg (by decide+kernel)];exact⟨rfl,rfl⟩))
  (λos started H enc _ F=>by rw[OpenClaim.pre_eq_preRow];exact lifted os started H enc F)
theorem plain (f:FuncId) (fn:Func) (hf:Tryz.pinned.checked.prog.funcNamed "afterglow/afterglowlaw26.ModelMay" =some f) (wH:Tryz.pinned.checked.prog.funcs[f]? =some fn):
  true=Tryz.pinned.checked.prog.looks []/\ ∀(j:Nat) t,fn.params[j]? =some t->Tryz.pinned.checked.prog.wantsStandIn t=false:=by
 obtain rfl:f=3:=Option.some.inj ((show Tryz.prog.funcNamed "afterglow/afterglowlaw26.ModelMay" =some 3 by kernel_rfl).symm.trans hf)|>.symm
 obtain rfl:fn=Tryz.f3:=(Option.some.inj (Tryz.func3.symm.trans wH)).symm
 refine⟨by kernel_rfl,λj t ht=>?_⟩
 rw[Tryz.params3] at ht
 have ht:=Array.mem_of_getElem? ht
 simp only[List.mem_toArray,List.mem_cons,List.not_mem_nil,or_false] at ht
 rcases ht with rfl|rfl
 ·exact(show Tryz.prog.wantsStandIn 36=false by kernel_rfl)
 ·exact(show Tryz.prog.wantsStandIn 36=false by kernel_rfl)
theorem card:Rows.ModelMayCardSaid:=
 Claim7.holds_tied_plain_at .later [] _ _ _ _ said (λ_ h=>by cases h) (by kernel_rfl) (λ_ h=>by cases h) modelMay_row_tie rfl ⟨rfl,rfl⟩ (by kernel_rfl) rfl plain (by kernel_rfl)
end Go.Proofs.YtdhaaaeffhaadaaGreatDoor.modelMay
end
