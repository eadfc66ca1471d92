/- A part of the proof that ModelErrors, ModelNever and ModelPairs return true for every input: the machine of values, its soundness, the program as plain functions, the laws. Conditions: those of the given rows. -/
import Derived.Test.YtdhaaaeffhaadaaGreatDoorR3
set_option linter.unusedVariables false
set_option linter.unusedSimpArgs false
noncomputable section
section
namespace Go.Proofs.YtdhaaaeffhaadaaGreatDoor
open Go.RowKit Go.Dc Go.Vx
set_option maxRecDepth 100000
set_option maxHeartbeats 4000000
noncomputable def KS (p0:List Int) (p1:List ae) (p2 p3:Int):AS SS:=⟨[(0,(vs .dW)),(1,(va 4 0)),(9,(vi (↑p1.length:Int))),(10,(vi p3))],[(bX 142 [(.bQ .i64 16 p0),(.aV 23 p1)]),(bX 28 [(lu p2)]),(bX 143 [(.v (.pointer none))]),(some (.bN 127 [] [(.one (.bu 4 0))])),(bX 140 [(.bu 0 0)])],5,(some ⟨⟨Tryz.f89,aE 89⟩,[9,10],(gN (bm Tryz.f89) 4),(gO (bm Tryz.f89) 4),[(3,(va 1 0)),(4,(va 2 0)),(8,(vc 3))],none⟩),false,[],[]⟩
noncomputable def YN (p0:List Int) (p1:List ae) (p2:Int):AS SS:=KS p0 p1 p2 0
noncomputable def afH (p0:List Int) (p1:List ae) (p2:Int) (a0:ae):AS SS:=⟨[],[(bX 142 [(.bQ .i64 16 p0),(.aV 23 p1)]),(bX 28 [(lu p2)]),(bX 143 [(.ptr 69 a0 0)]),(some (.bN 127 [] [(.one (.bu 4 0))])),(bX 140 [(.bu 0 0)])],5,(some ⟨⟨Tryz.f89,aE 89⟩,[9,10],(gN (bm Tryz.f89) 4),(gO (bm Tryz.f89) 4),[(3,(va 1 0)),(4,(va 2 0)),(8,(vc 3))],(some .ret)⟩),false,[],[2]⟩
noncomputable def afI (p0:List Int) (p1:List ae) (p2:Int) (a0:Bool) (a1:Int):AS SS:= { KS p0 p1 p2 p2 with env:=[(11,(vb a0)),(0,(vs .dW)),(1,(va 4 0)),(9,(vi (↑p1.length:Int))),(10,(vi a1))] }
noncomputable def Ca (sh:Sh) (p0:List Int) (p1:List ae) (p2 p3:Int) (z0:ae) (a:Unit):T (Unit ⊕ ae ⊕ (Bool×Int)):=
 .bf (z0.aa==p2) (
  .ok (.inr (.inl z0)))<|
 .ok (.inl ())
noncomputable def Ba (sh:Sh) (p0:List Int) (p1:List ae) (p2 p3:Int) (a:Unit):T (ae ⊕ (Bool×Int)):=
 .ok (.inr ((decide (p3<(↑p1.length:Int))),p3))
noncomputable def Iq (sh:Sh) (p0:List Int) (p1:List ae) (p2:Int):Option (ae ⊕ (Bool×Int)):=cP sh (Ca sh p0 p1 p2) (Ba sh p0 p1 p2) p1 ()
noncomputable def acj {R:Type} (k:AX->AS SS->Option R) (p0:List Int) (p1:List ae) (p2:Int) (x:ae ⊕ (Bool×Int)):Option R:=(λx=>Sum.rec (λv=>k .ret (afH p0 p1 p2 v)) (λv=>k (.exit 0) (afI p0 p1 p2 v.1 v.2)) x) x
noncomputable def VV:bM SS:=cd 2 (λst=>((ey st 3 127).bind λ_=>kC st 18 4).bind λ_=>(gS (bq st 0 0)).bind λp0=>(bE 23 (bq st 0 1)).bind λp1=>(bT (bq st 1 0)).bind λp2=>some (p0,p1,p2)) (λp=>YN p.1 p.2.1 p.2.2) (λp=>Iq shut p.1 p.2.1 p.2.2) (λk p=>acj k p.1 p.2.1 p.2.2)
theorem alA:aO KK Tryz.prog ⟨Tryz.f127,aE 127⟩ (b9 (bm Tryz.f127) 2) VV:=
 aO.c_ (π:=List Int×List ae×Int) (σ:=Unit) (aw.all HG rfl) (aC.nil) rfl 60 (λp i a=>KS p.1 p.2.1 p.2.2 i) (λp=>p.2.1) (λp=>()) (St:=λp=>Ca shut p.1 p.2.1 p.2.2) (F:=λp=>Ba shut p.1 p.2.1 p.2.2) (λp=>rfl)
  (λm p i a k=>by kernel_rfl) (by rintro p (x|x)<;>exact⟨_,_,λ_=>rfl⟩) (λp N C A O w a hr=>Nb hr (j:=0) (n:=1) (t:=23) rfl rfl λv h=>h)
noncomputable def QJ:aK SS:= { (wC shut) with T:=bI ((wC shut).T) 127 ⟨⟨Tryz.f127,aE 127⟩,[VV]⟩ }
theorem abp:aS QJ Tryz.prog:=(aS.cj (aw.all HG rfl) Tryz.func127 rfl bA λc hc=>by cases hc;exact aC.cons (aC.nil) (by kernel_rfl) alA)
noncomputable def De (sh:Sh) (p:br) (pid:Int):T (ae×Bool):=
 .bd (qF sh p) λy0=>
  .bf (y0 !=0) (
   .ok (⟨0,0,false,0⟩,false))<|
  .gd (YN p.aJ p.ab pid)<|
   .bd (Iq sh p.aJ p.ab pid) λx4=> .cs x4 (λy1=>
    .ok (y1,true)) λy1=>
    .ok (⟨0,0,false,0⟩,false)
noncomputable def Kp (sh:Sh) (p:br) (pid:Int):Option (ae×Bool):=sh.s _ (De sh p pid).val
theorem aoo {R:Type} (p:br) (pid:Int) (k:Rs SS->Option R):b8 QJ 100 72 [KK.ah 25 p,KK.ah 28 pid] [] (cg KK [69,4] k)=(De shut p pid).run (λr=>k (.ret (.bj [KK.ah 69 r.1,KK.ah 4 r.2]))):=by kernel_rfl
noncomputable def aeN (sh:Sh):b6 SS:=cf KK 72 [25,28] (λ{R} xs k=>match xs with| .cons p (.cons pid .nil)=>(Kp sh p pid).bind (λr=>k (.ret (.bj [KK.ah 69 r.1,KK.ah 4 r.2]))))
noncomputable def BO (sh:Sh):aK SS:= { (wC sh) with C:=aeN sh::(wC sh).C }
theorem Ra:aw (BO shut) Tryz.prog:=aw.cm HG λxs k z _ hz=>ct abp (λ{R} xs k z h=>by
 match xs,h with
 | .cons p (.cons pid .nil),h=>exact⟨100,(aoo p pid k).trans (cv h)⟩) hz
noncomputable def CZ (sh:Sh) (p:br) (pid:Int):T (Bool):=
 .bd (Kp sh p pid) λy0=>
  .bf (y0.2) (
   .ok (!y0.1.bC))<|
  .ok false
noncomputable def nP (sh:Sh) (p:br) (pid:Int):Option (Bool):=sh.s _ (CZ sh p pid).val
theorem an' {R:Type} (p:br) (pid:Int) (k:Rs SS->Option R):b8 (BO shut) 100 28 [KK.ah 25 p,KK.ah 28 pid] [] (cg KK [4] k)=(CZ shut p pid).run (λr=>k (.ret (.s (KK.ah 4 r)))):=by kernel_rfl
noncomputable def aew (sh:Sh):b6 SS:=cf KK 28 [25,28] (λ{R} xs k=>match xs with| .cons p (.cons pid .nil)=>(nP sh p pid).bind (λr=>k (.ret (.s (KK.ah 4 r)))))
noncomputable def mR (sh:Sh):aK SS:= { (BO sh) with C:=aew sh::(BO sh).C }
theorem wS:aw (mR shut) Tryz.prog:=aw.cm Ra λxs k z _ hz=>ct (aw.all Ra rfl) (λ{R} xs k z h=>by
 match xs,h with
 | .cons p (.cons pid .nil),h=>exact⟨100,(an' p pid k).trans (cv h)⟩) hz
noncomputable def KN (p0:List Int) (p1:List ae) (p2 p3:Int):AS SS:=⟨[(0,(vs .dW)),(1,(va 5 0)),(9,(vi (↑p1.length:Int))),(10,(vi p3))],[(bX 142 [(.bQ .i64 16 p0),(.own 1)]),(rX 69 p1),(bX 28 [(lu p2)]),(bX 143 [(.v (.pointer none))]),(some (.bN 127 [] [(.one (.bu 5 0))])),(bX 140 [(.bu 0 0)])],6,(some ⟨⟨Tryz.f89,aE 89⟩,[9,10],(gN (bm Tryz.f89) 4),(gO (bm Tryz.f89) 4),[(3,(va 2 0)),(4,(va 3 0)),(8,(vc 4))],none⟩),false,[],[]⟩
noncomputable def YL (p0:List Int) (p1:List ae) (p2:Int):AS SS:=KN p0 p1 p2 0
noncomputable def afw (p0:List Int) (p1:List ae) (p2:Int) (a0:Nat):AS SS:=⟨[],[(bX 142 [(.bQ .i64 16 p0),(.own 1)]),(rX 69 p1),(bX 28 [(lu p2)]),(bX 143 [(.gG 69 1 a0 0)]),(some (.bN 127 [] [(.one (.bu 5 0))])),(bX 140 [(.bu 0 0)])],6,(some ⟨⟨Tryz.f89,aE 89⟩,[9,10],(gN (bm Tryz.f89) 4),(gO (bm Tryz.f89) 4),[(3,(va 2 0)),(4,(va 3 0)),(8,(vc 4))],(some .ret)⟩),false,[],[3]⟩
noncomputable def afx (p0:List Int) (p1:List ae) (p2:Int) (a0:Bool) (a1:Int):AS SS:= { KN p0 p1 p2 p2 with env:=[(11,(vb a0)),(0,(vs .dW)),(1,(va 5 0)),(9,(vi (↑p1.length:Int))),(10,(vi a1))] }
noncomputable def Rw (sh:Sh) (p0:List Int) (p1:List ae) (p2 p3:Int) (z0:ae) (a:Unit):T (Unit ⊕ Nat ⊕ (Bool×Int)):=
 .bd (p1[p3.toNat]?) λz1=>
  .bf (z1.aa==p2) (
   .ok (.inr (.inl p3.toNat)))<|
  .ok (.inl ())
noncomputable def G_ (sh:Sh) (p0:List Int) (p1:List ae) (p2 p3:Int) (a:Unit):T (Nat ⊕ (Bool×Int)):=
 .ok (.inr ((decide (p3<(↑p1.length:Int))),p3))
noncomputable def Im (sh:Sh) (p0:List Int) (p1:List ae) (p2:Int):Option (Nat ⊕ (Bool×Int)):=cP sh (Rw sh p0 p1 p2) (G_ sh p0 p1 p2) p1 ()
noncomputable def acd {R:Type} (k:AX->AS SS->Option R) (p0:List Int) (p1:List ae) (p2:Int) (x:Nat ⊕ (Bool×Int)):Option R:=(λx=>Sum.rec (λv=>k .ret (afw p0 p1 p2 v)) (λv=>k (.exit 0) (afx p0 p1 p2 v.1 v.2)) x) x
noncomputable def zL:bM SS:=cd 2 (λst=>((ey st 4 127).bind λ_=>kC st 18 4).bind λ_=>(gS (bq st 0 0)).bind λp0=>(dD st 1 69).bind λp1=>(bT (bq st 2 0)).bind λp2=>some (p0,p1,p2)) (λp=>YL p.1 p.2.1 p.2.2) (λp=>Im shut p.1 p.2.1 p.2.2) (λk p=>acd k p.1 p.2.1 p.2.2)
theorem Oc:aO KK Tryz.prog ⟨Tryz.f127,aE 127⟩ (b9 (bm Tryz.f127) 2) zL:=
 aO.c_ (π:=List Int×List ae×Int) (σ:=Unit) (aw.all wS rfl) (aC.nil) rfl 60 (λp i a=>KN p.1 p.2.1 p.2.2 i) (λp=>p.2.1) (λp=>()) (St:=λp=>Rw shut p.1 p.2.1 p.2.2) (F:=λp=>G_ shut p.1 p.2.1 p.2.2) (λp=>rfl)
  (λm p i a k=>by kernel_rfl) (by rintro p (x|x)<;>exact⟨_,_,λ_=>rfl⟩) (λp N C A O w a hr=>s6 (j:=1) hr rfl)
noncomputable def EI (p0:List ae) (p1 p2:Int):AS SS:=⟨[(0,(vo 0)),(1,(vc 1)),(7,(vi (↑p0.length:Int))),(8,(vi p2))],[(rX 69 p0),(some (.bN 253 [] [(.one (.bu 2 0))])),(bX 3 [(li p1)])],3,none,false,[],[]⟩
noncomputable def YT (p0:List ae) (p1:Int):AS SS:=EI p0 p1 0
noncomputable def af5 (p0:List ae) (p1 a0:Int):AS SS:= { EI p0 p1 p1 with env:=[(4,(vi a0))] }
noncomputable def af6 (p0:List ae) (p1:Int) (a0:Bool) (a1:Int):AS SS:= { EI p0 p1 p1 with env:=[(9,(vb a0)),(0,(vo 0)),(1,(vc 1)),(7,(vi (↑p0.length:Int))),(8,(vi a1))] }
noncomputable def Ce (sh:Sh) (p0:List ae) (p1 p2:Int) (z0:ae) (a:Unit):T (Unit ⊕ Int ⊕ (Bool×Int)):=
 .bd (p0[p2.toNat]?) λz1=>
  .bd (sk sh z1.aa) λy2=>
   .bf (y2==IntKind.i64.wrap (p1+1)) (
    .ok (.inr (.inl p2)))<|
   .ok (.inl ())
noncomputable def Bd (sh:Sh) (p0:List ae) (p1 p2:Int) (a:Unit):T (Int ⊕ (Bool×Int)):=
 .ok (.inr ((decide (p2<(↑p0.length:Int))),p2))
noncomputable def IF (sh:Sh) (p0:List ae) (p1:Int):Option (Int ⊕ (Bool×Int)):=cP sh (Ce sh p0 p1) (Bd sh p0 p1) p0 ()
noncomputable def acB {R:Type} (k:AX->AS SS->Option R) (p0:List ae) (p1:Int) (x:Int ⊕ (Bool×Int)):Option R:=(λx=>Sum.rec (λv=>k .ret (af5 p0 p1 v)) (λv=>k (.exit 0) (af6 p0 p1 v.1 v.2)) x) x
noncomputable def M4:bM SS:=cd 3 (λst=>(ey st 1 253).bind λ_=>(dD st 0 69).bind λp0=>(bT (bq st 2 0)).bind λp1=>some (p0,p1)) (λp=>YT p.1 p.2) (λp=>IF shut p.1 p.2) (λk p=>acB k p.1 p.2)
noncomputable def aaD:aK SS:= { (mR shut) with T:=bI ((mR shut).T) 127 ⟨⟨Tryz.f127,aE 127⟩,[zL]⟩ }
theorem P7:aS aaD Tryz.prog:=(aS.cj (aw.all wS rfl) Tryz.func127 rfl bA λc hc=>by cases hc;exact aC.cons (aC.nil) (by kernel_rfl) Oc)
theorem XN:aO KK Tryz.prog ⟨Tryz.f254,aE 254⟩ (b9 (bm Tryz.f254) 3) M4:=
 aO.c_ (π:=List ae×Int) (σ:=Unit) P7 (aC.nil) rfl 60 (λp i a=>EI p.1 p.2 i) (λp=>p.1) (λp=>()) (St:=λp=>Ce shut p.1 p.2) (F:=λp=>Bd shut p.1 p.2) (λp=>rfl)
  (λm p i a k=>by kernel_rfl) (by rintro p (x|x)<;>exact⟨_,_,λ_=>rfl⟩) (λp N C A O w a hr=>s6 (j:=0) hr rfl)
noncomputable def EE (p0:List Int) (p1:List ae) (p2:Int):AS SS:=⟨[(0,(va 0 0)),(3,(va 2 0))],[(bX 142 [(.bQ .i64 16 p0),(.own 1)]),(rX 69 p1),(bX 3 [(li p2)])],2,none,false,[],[]⟩
noncomputable def afW (p0:List Int) (p1:List ae) (a0:Bool) (a1:Int):AS SS:= { EE p0 p1 a1 with env:=[(6,(vb a0)),(5,(vi a1)),(0,(va 0 0)),(3,(va 2 0))] }
noncomputable def afX (p0:List Int) (p1:List ae) (a0:Bool) (a1:Int) (a2:Nat) (a3:Int) (a4 a5 a6:Bool):AS SS:=⟨[(26,(vb a0)),(25,(vb a0)),(17,(vb true)),(24,(vi a1)),(17,(vb true)),(23,(vs (.iE 0 0 16 a2))),(17,(vb true)),(22,(va 0 0)),(17,(vb true)),(21,(va 0 0)),(17,(vb true)),(20,(va 0 0)),(17,(vb true)),(19,(vi a3)),(17,(vb true)),(18,(va 0 0)),(17,(vb true)),(17,(vb a4)),(16,(vb a4)),(15,(vb a5)),(4,(vb a5)),(14,(vb a5)),(13,(vc 3)),(12,(vo 1)),(11,(va 0 16)),(10,(va 0 0)),(9,(va 0 0)),(8,(va 0 0)),(7,(.bj [])),(6,(vb a6)),(5,(vi a3)),(0,(va 0 0)),(3,(va 2 0))],[(bX 142 [(.bQ .i64 16 p0),(.own 1)]),(rX 69 p1),(bX 3 [(li a3)]),(some (.bN 253 [] [(.one (.bu 2 0))]))],2,none,false,[],[]⟩
noncomputable def tX (sh:Sh) (p0:List Int) (p1:List ae) (a:Int):T (Int ⊕ (Bool×Int) ⊕ (Bool×Int×Nat×Int×Bool×Bool×Bool)):=
 .bf (!decide (a<16)) (
  .ok (.inr (.inl ((decide (a<16)),a))))<|
 .gd (YT p1 a)<|
  .bd (IF sh p1 a) λx3=> .cs x3 (λy0=>
   .bf (!decide (y0>=0)) (
    .bd (cF a 16) λz1=>
     .bf (decide (au p0 z1<=65535)) (
      .ok (.inr (.inr ((decide (au p0 z1<=65535)),(au p0 z1),z1,a,(!decide (y0>=0)),(decide (y0>=0)),(decide (a<16))))))<|
     .ok (.inl (IntKind.i64.wrap (a+1))))<|
   .ok (.inl (IntKind.i64.wrap (a+1)))) λy0=>
   .bd (cF a 16) λz1=>
    .bf (decide (au p0 z1<=65535)) (
     .ok (.inr (.inr ((decide (au p0 z1<=65535)),(au p0 z1),z1,a,true,false,(decide (a<16))))))<|
    .ok (.inl (IntKind.i64.wrap (a+1)))
noncomputable def Iy (sh:Sh) (p0:List Int) (p1:List ae) (p2:Int):Option ((Bool×Int) ⊕ (Bool×Int×Nat×Int×Bool×Bool×Bool)):=da sh (tX sh p0 p1) 1000000 p2
noncomputable def acu {R:Type} (k:AX->AS SS->Option R) (p0:List Int) (p1:List ae) (x:(Bool×Int) ⊕ (Bool×Int×Nat×Int×Bool×Bool×Bool)):Option R:=(λx=>Sum.rec (λv=>k (.bP (.iface 40 (.int .i64 322))) (afW p0 p1 v.1 v.2)) (λv=>k (.exit 0) (afX p0 p1 v.1 v.2.1 v.2.2.1 v.2.2.2.1 v.2.2.2.2.1 v.2.2.2.2.2.1 v.2.2.2.2.2.2)) x) x
noncomputable def MZ:bM SS:=cd 3 (λst=>(gS (bq st 0 0)).bind λp0=>(dD st 1 69).bind λp1=>(bT (bq st 2 0)).bind λp2=>some (p0,p1,p2)) (λp=>EE p.1 p.2.1 p.2.2) (λp=>Iy shut p.1 p.2.1 p.2.2) (λk p=>acu k p.1 p.2.1)
noncomputable def aaE:aK SS:= { (mR shut) with T:=bI (bI ((mR shut).T) 127 ⟨⟨Tryz.f127,aE 127⟩,[zL]⟩) 254 ⟨⟨Tryz.f254,aE 254⟩,[M4]⟩ }
theorem aaF:aS aaE Tryz.prog:=(aS.cj P7 Tryz.func254 rfl bA λc hc=>by cases hc;exact aC.cons (aC.nil) (by kernel_rfl) XN)
theorem XL:aO KK Tryz.prog ⟨Tryz.f217,aE 217⟩ (b9 (bm Tryz.f217) 3) MZ:=
 aO.da (π:=List Int×List ae×Int) (σ:=Int) aaF (aC.nil) rfl 60 (λp a=>EE p.1 p.2.1 a) (λp=>p.2.2) (St:=λp=>tX shut p.1 p.2.1) (λp=>1000000) (λp=>rfl)
  (λm p a k=>by kernel_rfl)
noncomputable def EJ (p0:List ae) (p1 p2 p3:Int):AS SS:=⟨[(0,(vo 0)),(1,(vc 1)),(7,(vi (↑p0.length:Int))),(8,(vi p3))],[(rX 69 p0),(some (.bN 255 [] [(.one (.bu 2 0))])),(bX 69 [(lu p1),(lu p2),(.v (.bool false)),(lu 0)])],3,none,false,[],[]⟩
noncomputable def YU (p0:List ae) (p1 p2:Int):AS SS:=EJ p0 p1 p2 0
noncomputable def af7 (p0:List ae) (p1 p2 a0:Int):AS SS:= { EJ p0 p1 p2 p1 with env:=[(4,(vi a0))] }
noncomputable def af8 (p0:List ae) (p1 p2:Int) (a0:Bool) (a1:Int):AS SS:= { EJ p0 p1 p2 p1 with env:=[(9,(vb a0)),(0,(vo 0)),(1,(vc 1)),(7,(vi (↑p0.length:Int))),(8,(vi a1))] }
noncomputable def Cf (sh:Sh) (p0:List ae) (p1 p2 p3:Int) (z0:ae) (a:Unit):T (Unit ⊕ Int ⊕ (Bool×Int)):=
 .bd (p0[p3.toNat]?) λz1=>
  .bd (sk sh z1.aa) λy2=>
   .bd (sk sh p1) λy3=>
    .bf (decide (y2>y3)) (
     .ok (.inr (.inl p3)))<|
    .ok (.inl ())
noncomputable def Be (sh:Sh) (p0:List ae) (p1 p2 p3:Int) (a:Unit):T (Int ⊕ (Bool×Int)):=
 .ok (.inr ((decide (p3<(↑p0.length:Int))),p3))
noncomputable def IG (sh:Sh) (p0:List ae) (p1 p2:Int):Option (Int ⊕ (Bool×Int)):=cP sh (Cf sh p0 p1 p2) (Be sh p0 p1 p2) p0 ()
noncomputable def acC {R:Type} (k:AX->AS SS->Option R) (p0:List ae) (p1 p2:Int) (x:Int ⊕ (Bool×Int)):Option R:=(λx=>Sum.rec (λv=>k .ret (af7 p0 p1 p2 v)) (λv=>k (.exit 0) (af8 p0 p1 p2 v.1 v.2)) x) x
noncomputable def V8:bM SS:=cd 3 (λst=>(ey st 1 255).bind λ_=>(dD st 0 69).bind λp0=>(bT (bq st 2 0)).bind λp1=>(bT (bq st 2 1)).bind λp2=>some (p0,p1,p2)) (λp=>YU p.1 p.2.1 p.2.2) (λp=>IG shut p.1 p.2.1 p.2.2) (λk p=>acC k p.1 p.2.1 p.2.2)
noncomputable def aaG:aK SS:= { (mR shut) with T:=bI (bI ((mR shut).T) 127 ⟨⟨Tryz.f127,aE 127⟩,[zL]⟩) 217 ⟨⟨Tryz.f217,aE 217⟩,[MZ]⟩ }
theorem aaH:aS aaG Tryz.prog:=(aS.cj (aS.cj (aw.all wS rfl) Tryz.func127 rfl bA λc hc=>by cases hc;exact aC.cons (aC.nil) (by kernel_rfl) Oc) Tryz.func217 rfl bA λc hc=>by cases hc;exact aC.cons (aC.nil) (by kernel_rfl) XL)
theorem alO:aO KK Tryz.prog ⟨Tryz.f254,aE 254⟩ (b9 (bm Tryz.f254) 3) V8:=
 aO.c_ (π:=List ae×Int×Int) (σ:=Unit) aaH (aC.nil) rfl 60 (λp i a=>EJ p.1 p.2.1 p.2.2 i) (λp=>p.1) (λp=>()) (St:=λp=>Cf shut p.1 p.2.1 p.2.2) (F:=λp=>Be shut p.1 p.2.1 p.2.2) (λp=>rfl)
  (λm p i a k=>by kernel_rfl) (by rintro p (x|x)<;>exact⟨_,_,λ_=>rfl⟩) (λp N C A O w a hr=>s6 (j:=0) hr rfl)
noncomputable def P8:aK SS:= { (mR shut) with T:=bI (bI (bI ((mR shut).T) 127 ⟨⟨Tryz.f127,aE 127⟩,[zL]⟩) 254 ⟨⟨Tryz.f254,aE 254⟩,[xG (λst=>ey st 1 253) M4 (V8)]⟩) 217 ⟨⟨Tryz.f217,aE 217⟩,[MZ]⟩ }
theorem aaI:aS P8 Tryz.prog:=(aS.cj (aS.cj (aS.cj (aw.all wS rfl) Tryz.func127 rfl bA λc hc=>by cases hc;exact aC.cons (aC.nil) (by kernel_rfl) Oc) Tryz.func254 rfl bA λc hc=>by cases hc;exact aC.cons (aC.nil) (by kernel_rfl) (aO.alt XN alO)) Tryz.func217 rfl bA λc hc=>by cases hc;exact aC.cons (aC.nil) (by kernel_rfl) XL)
noncomputable def CG (sh:Sh) (p:br) (parent:Int):T (br×Int×Int):=
 .bd (qF sh p) λy0=>
  .bf (!y0==0) (
   .ok (⟨[0,0,0,0,0,0,0,0,0,0,0,0,0,0,0,0],[]⟩,0,320))<|
  .bd (app 32 [] p.ab) λz1=>
   .gd (YL p.aJ z1 parent)<|
    .bd (Im sh p.aJ z1 parent) λx5=> .cs x5 (λy2=>
     .bd (z1[y2]?) λz3=>
      .bf (!!z3.bC) (
       .ok (⟨[0,0,0,0,0,0,0,0,0,0,0,0,0,0,0,0],[]⟩,0,321))<|
      .gd (EE p.aJ z1 0)<|
       .bd (Iy sh p.aJ z1 0) λx8=> .cs x8 (λy4=>
        .ok (⟨[0,0,0,0,0,0,0,0,0,0,0,0,0,0,0,0],[]⟩,0,322)) λy4=>
        .bd (cF y4.2.2.2.1 16) λz5=>
         .bd (cF y4.2.2.2.1 16) λz6=>
          .bd (cF y4.2.2.2.1 16) λz7=>
           .bf (true&&p.aJ.length.beq 16) (
            .gd (YU z1 (IntKind.u64.wrap (IntKind.i64.wrap (IntKind.i64.wrap (IntKind.i64.wrap (au p.aJ z5*64)+y4.2.2.2.1)+1))) parent)<|
             .bd (IG sh z1 (IntKind.u64.wrap (IntKind.i64.wrap (IntKind.i64.wrap (IntKind.i64.wrap (au p.aJ z5*64)+y4.2.2.2.1)+1))) parent) λx14=> .cs x14 (λy8=>
              .bf (decide (y8<0)) (
               .bd (sY z1 (↑z1.length:Int) [ae.mk (IntKind.u64.wrap (IntKind.i64.wrap (IntKind.i64.wrap (IntKind.i64.wrap (au p.aJ z5*64)+y4.2.2.2.1)+1))) parent false 0]) λz9=>
                .ok (⟨(p.aJ.set z7 (IntKind.i64.wrap (au p.aJ z6+1))),z9⟩,(IntKind.u64.wrap (IntKind.i64.wrap (IntKind.i64.wrap (IntKind.i64.wrap (au p.aJ z5*64)+y4.2.2.2.1)+1))),0))<|
              .bd (sY z1 y8 [ae.mk (IntKind.u64.wrap (IntKind.i64.wrap (IntKind.i64.wrap (IntKind.i64.wrap (au p.aJ z5*64)+y4.2.2.2.1)+1))) parent false 0]) λz9=>
               .ok (⟨(p.aJ.set z7 (IntKind.i64.wrap (au p.aJ z6+1))),z9⟩,(IntKind.u64.wrap (IntKind.i64.wrap (IntKind.i64.wrap (IntKind.i64.wrap (au p.aJ z5*64)+y4.2.2.2.1)+1))),0)) λy8=>
              .bd (sY z1 (↑z1.length:Int) [ae.mk (IntKind.u64.wrap (IntKind.i64.wrap (IntKind.i64.wrap (IntKind.i64.wrap (au p.aJ z5*64)+y4.2.2.2.1)+1))) parent false 0]) λz9=>
               .ok (⟨(p.aJ.set z7 (IntKind.i64.wrap (au p.aJ z6+1))),z9⟩,(IntKind.u64.wrap (IntKind.i64.wrap (IntKind.i64.wrap (IntKind.i64.wrap (au p.aJ z5*64)+y4.2.2.2.1)+1))),0))<|
           .no) λy2=>
     .ok (⟨[0,0,0,0,0,0,0,0,0,0,0,0,0,0,0,0],[]⟩,0,321)
noncomputable def DR (sh:Sh) (p:br) (parent:Int):Option (br×Int×Int):=sh.s _ (CG sh p parent).val
theorem anO {R:Type} (p:br) (parent:Int) (k:Rs SS->Option R):b8 P8 100 177 [KK.ah 25 p,KK.ah 28 parent] [] (cg KK [25,28,40] k)=(CG shut p parent).run (λr=>k (.ret (.bj [KK.ah 25 r.1,KK.ah 28 r.2.1,KK.ah 40 r.2.2]))):=by kernel_rfl
noncomputable def ad7 (sh:Sh):b6 SS:=cf KK 177 [25,28] (λ{R} xs k=>match xs with| .cons p (.cons parent .nil)=>(DR sh p parent).bind (λr=>k (.ret (.bj [KK.ah 25 r.1,KK.ah 28 r.2.1,KK.ah 40 r.2.2]))))
noncomputable def oG (sh:Sh):aK SS:= { (mR sh) with C:=ad7 sh::(mR sh).C }
theorem wH:aw (oG shut) Tryz.prog:=aw.cm wS λxs k z _ hz=>ct aaI (λ{R} xs k z h=>by
 match xs,h with
 | .cons p (.cons parent .nil),h=>exact⟨100,(anO p parent k).trans (cv h)⟩) hz
noncomputable def KO (p0:List Int) (p1:List ae) (p2 p3:Int):AS SS:=⟨[(0,(vs .dW)),(1,(va 5 0)),(9,(vi (↑p1.length:Int))),(10,(vi p3))],[(bX 142 [(.bQ .i64 16 p0),(.own 1)]),(rX 69 p1),(bX 28 [(lu p2)]),(bX 143 [(.v (.pointer none))]),(some (.bN 127 [] [(.one (.bu 5 0))])),(bX 140 [(.bu 0 0)])],6,(some ⟨⟨Tryz.f89,aE 89⟩,[9,10],(gN (bm Tryz.f89) 4),(gO (bm Tryz.f89) 4),[(3,(va 2 0)),(4,(va 3 0)),(8,(vc 4))],none⟩),false,[],[]⟩
noncomputable def YM (p0:List Int) (p1:List ae) (p2:Int):AS SS:=KO p0 p1 p2 0
noncomputable def afy (p0:List Int) (p1:List ae) (p2:Int) (a0:Nat):AS SS:=⟨[],[(bX 142 [(.bQ .i64 16 p0),(.own 1)]),(rX 69 p1),(bX 28 [(lu p2)]),(bX 143 [(.gG 69 1 a0 0)]),(some (.bN 127 [] [(.one (.bu 5 0))])),(bX 140 [(.bu 0 0)])],6,(some ⟨⟨Tryz.f89,aE 89⟩,[9,10],(gN (bm Tryz.f89) 4),(gO (bm Tryz.f89) 4),[(3,(va 2 0)),(4,(va 3 0)),(8,(vc 4))],(some .ret)⟩),false,[],[3]⟩
noncomputable def afz (p0:List Int) (p1:List ae) (p2:Int) (a0:Bool) (a1:Int):AS SS:= { KO p0 p1 p2 p2 with env:=[(11,(vb a0)),(0,(vs .dW)),(1,(va 5 0)),(9,(vi (↑p1.length:Int))),(10,(vi a1))] }
noncomputable def Rx (sh:Sh) (p0:List Int) (p1:List ae) (p2 p3:Int) (z0:ae) (a:Unit):T (Unit ⊕ Nat ⊕ (Bool×Int)):=
 .bd (p1[p3.toNat]?) λz1=>
  .bf (z1.aa==p2) (
   .ok (.inr (.inl p3.toNat)))<|
  .ok (.inl ())
noncomputable def G' (sh:Sh) (p0:List Int) (p1:List ae) (p2 p3:Int) (a:Unit):T (Nat ⊕ (Bool×Int)):=
 .ok (.inr ((decide (p3<(↑p1.length:Int))),p3))
noncomputable def Io (sh:Sh) (p0:List Int) (p1:List ae) (p2:Int):Option (Nat ⊕ (Bool×Int)):=cP sh (Rx sh p0 p1 p2) (G' sh p0 p1 p2) p1 ()
noncomputable def ace {R:Type} (k:AX->AS SS->Option R) (p0:List Int) (p1:List ae) (p2:Int) (x:Nat ⊕ (Bool×Int)):Option R:=(λx=>Sum.rec (λv=>k .ret (afy p0 p1 p2 v)) (λv=>k (.exit 0) (afz p0 p1 p2 v.1 v.2)) x) x
noncomputable def MW:bM SS:=cd 2 (λst=>((ey st 4 127).bind λ_=>kC st 18 4).bind λ_=>(gS (bq st 0 0)).bind λp0=>(dD st 1 69).bind λp1=>(bT (bq st 2 0)).bind λp2=>some (p0,p1,p2)) (λp=>YM p.1 p.2.1 p.2.2) (λp=>Io shut p.1 p.2.1 p.2.2) (λk p=>ace k p.1 p.2.1 p.2.2)
theorem XJ:aO KK Tryz.prog ⟨Tryz.f127,aE 127⟩ (b9 (bm Tryz.f127) 2) MW:=
 aO.c_ (π:=List Int×List ae×Int) (σ:=Unit) (aw.all wH rfl) (aC.nil) rfl 60 (λp i a=>KO p.1 p.2.1 p.2.2 i) (λp=>p.2.1) (λp=>()) (St:=λp=>Rx shut p.1 p.2.1 p.2.2) (F:=λp=>G' shut p.1 p.2.1 p.2.2) (λp=>rfl)
  (λm p i a k=>by kernel_rfl) (by rintro p (x|x)<;>exact⟨_,_,λ_=>rfl⟩) (λp N C A O w a hr=>s6 (j:=1) hr rfl)
noncomputable def EF (p0:List ae) (p1:Int) (p2:Bool) (p3 p4:Int) (p5:List ae):AS SS:=⟨[(1,(vc 1)),(5,(vo 4)),(8,(vo 0)),(9,(vi p3)),(10,(vi p4))],[(rX 69 p0),(some (.bN 222 [] [(.one (.bu 2 0)),(.one (.bu 3 0))])),(bX 28 [(lu p1)]),(bX 4 [(.v (.bool p2))]),(rX 69 p5)],4,none,false,[],[]⟩
noncomputable def afY (p0:List ae) (p1:Int) (p2:Bool) (p3:Int) (a0:Bool) (a1:Int) (a2:List ae):AS SS:= { EF p0 p1 p2 p3 p1 a2 with env:=[(11,(vb a0)),(1,(vc 1)),(5,(vo 4)),(8,(vo 0)),(9,(vi p3)),(10,(vi a1))] }
noncomputable def xp (sh:Sh) (p0:List ae) (p1:Int) (p2:Bool) (p3:Int) (a:Int×List ae):T ((Int×List ae) ⊕ (Bool×Int×List ae)):=
 .bf (decide (a.1<p3)) (
  .bd (idx p0 a.1) λz0=>
   .bd (p0[a.1.toNat]?) λz1=>
    .bf (z1.aa !=p1) (
     .bf (z1.ba !=p1) (
      .bd (app 32 a.2 [z1]) λz2=>
       .ok (.inl ((IntKind.i64.wrap (a.1+1)),z2)))<|
     .bf (!z1.bC) (
      .bd (app 32 a.2 [z1]) λz2=>
       .ok (.inl ((IntKind.i64.wrap (a.1+1)),z2)))<|
     .ok (.inl ((IntKind.i64.wrap (a.1+1)),a.2)))<|
    .bf (!p2) (
     .bf (z1.ba !=p1) (
      .bd (app 32 a.2 [z1]) λz2=>
       .ok (.inl ((IntKind.i64.wrap (a.1+1)),z2)))<|
     .bf (!z1.bC) (
      .bd (app 32 a.2 [z1]) λz2=>
       .ok (.inl ((IntKind.i64.wrap (a.1+1)),z2)))<|
     .ok (.inl ((IntKind.i64.wrap (a.1+1)),a.2)))<|
    .ok (.inl ((IntKind.i64.wrap (a.1+1)),a.2)))<|
 .ok (.inr ((decide (a.1<p3)),a.1,a.2))
noncomputable def Iz (sh:Sh) (p0:List ae) (p1:Int) (p2:Bool) (p3 p4:Int) (p5:List ae):Option ((Bool×Int×List ae)):=da sh (xp sh p0 p1 p2 p3) 1000000 (p4,p5)
noncomputable def acv {R:Type} (k:AX->AS SS->Option R) (p0:List ae) (p1:Int) (p2:Bool) (p3:Int) (x:(Bool×Int×List ae)):Option R:=(λv=>k (.exit 0) (afY p0 p1 p2 p3 v.1 v.2.1 v.2.2)) x
noncomputable def M0:bM SS:=cd 4 (λst=>(ey st 1 222).bind λ_=>(dD st 0 69).bind λp0=>(bT (bq st 2 0)).bind λp1=>(si (bq st 3 0)).bind λp2=>(bT (bD st 9 0)).bind λp3=>(bT (bD st 10 0)).bind λp4=>(dD st 4 69).bind λp5=>some (p0,p1,p2,p3,p4,p5)) (λp=>EF p.1 p.2.1 p.2.2.1 p.2.2.2.1 p.2.2.2.2.1 p.2.2.2.2.2) (λp=>Iz shut p.1 p.2.1 p.2.2.1 p.2.2.2.1 p.2.2.2.2.1 p.2.2.2.2.2) (λk p=>acv k p.1 p.2.1 p.2.2.1 p.2.2.2.1)
noncomputable def aaJ:aK SS:= { (oG shut) with T:=bI ((oG shut).T) 127 ⟨⟨Tryz.f127,aE 127⟩,[MW]⟩ }
theorem aaK:aS aaJ Tryz.prog:=(aS.cj (aw.all wH rfl) Tryz.func127 rfl bA λc hc=>by cases hc;exact aC.cons (aC.nil) (by kernel_rfl) XJ)
theorem XM:aO KK Tryz.prog ⟨Tryz.f221,aE 221⟩ (b9 (bm Tryz.f221) 4) M0:=
 aO.da (π:=List ae×Int×Bool×Int×Int×List ae) (σ:=Int×List ae) aaK (aC.nil) rfl 60 (λp a=>EF p.1 p.2.1 p.2.2.1 p.2.2.2.1 a.1 a.2) (λp=>(p.2.2.2.2.1,p.2.2.2.2.2)) (St:=λp=>xp shut p.1 p.2.1 p.2.2.1 p.2.2.2.1) (λp=>1000000) (λp=>rfl)
  (λm p a k=>by kernel_rfl)
noncomputable def Ex (p0:List Int) (p1:List ae) (p2 p3:Int) (p4:List ae) (p5:Int) (p6:List ae):AS SS:=⟨[(0,(vs .dW)),(1,(va 6 0)),(9,(vi (↑p4.length:Int))),(10,(vi p5))],[(bX 142 [(.bQ .i64 16 p0),(.own 4)]),(rX 69 p1),(bX 28 [(lu p2)]),(bX 28 [(lu p3)]),(rX 69 p6),(some (.bN 127 [] [(.one (.bu 6 0))])),(bX 140 [(.bu 0 0)])],7,(some ⟨⟨Tryz.f219,aE 219⟩,[41,42],(gN (bm Tryz.f219) 8),(gO (bm Tryz.f219) 8),[(1,(va 2 0)),(40,(vc 5))],none⟩),false,[],[4]⟩
noncomputable def afA (p0:List Int) (p1:List ae) (p2 p3:Int) (p4:List ae) (a0:Bool) (a1:Int) (a2:List ae):AS SS:= { Ex p0 p1 p2 p3 p4 p2 a2 with env:=[(11,(vb a0)),(0,(vs .dW)),(1,(va 6 0)),(9,(vi (↑p4.length:Int))),(10,(vi a1))] }
noncomputable def xj (sh:Sh) (p0:List Int) (p1:List ae) (p2 p3:Int) (p4:List ae) (a:Int×List ae):T ((Int×List ae) ⊕ (Bool×Int×List ae)):=
 .bf (decide (a.1<(↑p4.length:Int))) (
  .bd (idx a.2 a.1) λz0=>
   .bd (a.2[a.1.toNat]?) λz1=>
    .bf (z1.ba==p2) (
     .bd (a.2[a.1.toNat]?) λz2=>
      .ok (.inl ((IntKind.i64.wrap (a.1+1)),(a.2.set a.1.toNat (ae.mk z2.aa 0 z2.bC z2.cJ)))))<|
    .ok (.inl ((IntKind.i64.wrap (a.1+1)),a.2)))<|
 .ok (.inr ((decide (a.1<(↑p4.length:Int))),a.1,a.2))
noncomputable def Ip (sh:Sh) (p0:List Int) (p1:List ae) (p2 p3:Int) (p4:List ae) (p5:Int) (p6:List ae):Option ((Bool×Int×List ae)):=da sh (xj sh p0 p1 p2 p3 p4) 1000000 (p5,p6)
noncomputable def acf {R:Type} (k:AX->AS SS->Option R) (p0:List Int) (p1:List ae) (p2 p3:Int) (p4:List ae) (x:(Bool×Int×List ae)):Option R:=(λv=>k (.exit 0) (afA p0 p1 p2 p3 p4 v.1 v.2.1 v.2.2)) x
noncomputable def VT:bM SS:=pS (λst=>gc (aE 127 2) (ka [4] (st)))<|cd 2 (λst=>((ey st 5 127).bind λ_=>kC st 52 8).bind λ_=>(gS (bq st 0 0)).bind λp0=>(dD st 1 69).bind λp1=>(bT (bq st 2 0)).bind λp2=>(bT (bq st 3 0)).bind λp3=>(dD st 4 69).bind λp4=>(bT (bD st 10 0)).bind λp5=>(dD st 4 69).bind λp6=>some (p0,p1,p2,p3,p4,p5,p6)) (λp=>Ex p.1 p.2.1 p.2.2.1 p.2.2.2.1 p.2.2.2.2.1 p.2.2.2.2.2.1 p.2.2.2.2.2.2) (λp=>Ip shut p.1 p.2.1 p.2.2.1 p.2.2.2.1 p.2.2.2.2.1 p.2.2.2.2.2.1 p.2.2.2.2.2.2) (λk p=>acf k p.1 p.2.1 p.2.2.1 p.2.2.2.1 p.2.2.2.2.1)
noncomputable def aaL:aK SS:= { (oG shut) with T:=bI ((oG shut).T) 221 ⟨⟨Tryz.f221,aE 221⟩,[M0]⟩ }
theorem aaM:aS aaL Tryz.prog:=(aS.cj (aw.all wH rfl) Tryz.func221 rfl bA λc hc=>by cases hc;exact aC.cons (aC.nil) (by kernel_rfl) XM)
theorem alx:aO KK Tryz.prog ⟨Tryz.f127,aE 127⟩ (b9 (bm Tryz.f127) 2) VT:=aO.pre (du.comp (du.gc (aE 127 2)) (du.ka [4]))<|
 aO.da (π:=List Int×List ae×Int×Int×List ae×Int×List ae) (σ:=Int×List ae) aaM (aC.nil) rfl 60 (λp a=>Ex p.1 p.2.1 p.2.2.1 p.2.2.2.1 p.2.2.2.2.1 a.1 a.2) (λp=>(p.2.2.2.2.2.1,p.2.2.2.2.2.2)) (St:=λp=>xj shut p.1 p.2.1 p.2.2.1 p.2.2.2.1 p.2.2.2.2.1) (λp=>1000000) (λp=>rfl)
  (λm p a k=>by kernel_rfl)
noncomputable def P9:aK SS:= { (oG shut) with T:=bI (bI ((oG shut).T) 127 ⟨⟨Tryz.f127,aE 127⟩,[xG (λst=>(ey st 4 127).bind λ_=>kC st 18 4) MW (VT)]⟩) 221 ⟨⟨Tryz.f221,aE 221⟩,[M0]⟩ }
theorem aaN:aS P9 Tryz.prog:=(aS.cj (aS.cj (aw.all wH rfl) Tryz.func127 rfl bA λc hc=>by cases hc;exact aC.cons (aC.nil) (by kernel_rfl) (aO.alt XJ alx)) Tryz.func221 rfl bA λc hc=>by cases hc;exact aC.cons (aC.nil) (by kernel_rfl) XM)
noncomputable def CH (sh:Sh) (p:br) (pid code:Int):T (br×Int):=
 .bd (qF sh p) λy0=>
  .bf (!y0==0) (
   .ok (⟨[0,0,0,0,0,0,0,0,0,0,0,0,0,0,0,0],[]⟩,320))<|
  .bd (app 32 [] p.ab) λz1=>
   .gd (YM p.aJ z1 pid)<|
    .bd (Io sh p.aJ z1 pid) λx5=> .cs x5 (λy2=>
     .bd (z1[y2]?) λz3=>
      .bf (!!z3.bC) (
       .ok (⟨[0,0,0,0,0,0,0,0,0,0,0,0,0,0,0,0],[]⟩,321))<|
      .bf (!pid !=1) (
       .ok (⟨[0,0,0,0,0,0,0,0,0,0,0,0,0,0,0,0],[]⟩,323))<|
      .bd (z1[y2]?) λz4=>
       .bd ((z1.set y2 (ae.mk z4.aa z4.ba true z4.cJ))[y2]?) λz5=>
        .bd (((z1.set y2 (ae.mk z4.aa z4.ba true z4.cJ)).set y2 (ae.mk z5.aa z5.ba z5.bC code))[y2]?) λz6=>
         .gd (EF ((z1.set y2 (ae.mk z4.aa z4.ba true z4.cJ)).set y2 (ae.mk z5.aa z5.ba z5.bC code)) pid (z6.ba==0) ((↑((z1.set y2 (ae.mk z4.aa z4.ba true z4.cJ)).set y2 (ae.mk z5.aa z5.ba z5.bC code)).length:Int)) 0 [])<|
          .bd (Iz sh ((z1.set y2 (ae.mk z4.aa z4.ba true z4.cJ)).set y2 (ae.mk z5.aa z5.ba z5.bC code)) pid (z6.ba==0) ((↑((z1.set y2 (ae.mk z4.aa z4.ba true z4.cJ)).set y2 (ae.mk z5.aa z5.ba z5.bC code)).length:Int)) 0 []) λy7=>
           .gd (Ex p.aJ ((z1.set y2 (ae.mk z4.aa z4.ba true z4.cJ)).set y2 (ae.mk z5.aa z5.ba z5.bC code)) pid code y7.2.2 0 y7.2.2)<|
            .bd (Ip sh p.aJ ((z1.set y2 (ae.mk z4.aa z4.ba true z4.cJ)).set y2 (ae.mk z5.aa z5.ba z5.bC code)) pid code y7.2.2 0 y7.2.2) λy8=>
             .ok (⟨p.aJ,y8.2.2⟩,0)) λy2=>
     .ok (⟨[0,0,0,0,0,0,0,0,0,0,0,0,0,0,0,0],[]⟩,321)
noncomputable def DS (sh:Sh) (p:br) (pid code:Int):Option (br×Int):=sh.s _ (CH sh p pid code).val
theorem anP {R:Type} (p:br) (pid code:Int) (k:Rs SS->Option R):b8 P9 100 179 [KK.ah 25 p,KK.ah 28 pid,KK.ah 28 code] [] (cg KK [25,40] k)=(CH shut p pid code).run (λr=>k (.ret (.bj [KK.ah 25 r.1,KK.ah 40 r.2]))):=by kernel_rfl
noncomputable def ad8 (sh:Sh):b6 SS:=cf KK 179 [25,28,28] (λ{R} xs k=>match xs with| .cons p (.cons pid (.cons code .nil))=>(DS sh p pid code).bind (λr=>k (.ret (.bj [KK.ah 25 r.1,KK.ah 40 r.2]))))
noncomputable def rT (sh:Sh):aK SS:= { (oG sh) with C:=ad8 sh::(oG sh).C }
theorem HK:aw (rT shut) Tryz.prog:=aw.cm wH λxs k z _ hz=>ct aaN (λ{R} xs k z h=>by
 match xs,h with
 | .cons p (.cons pid (.cons code .nil)),h=>exact⟨100,(anP p pid code k).trans (cv h)⟩) hz
noncomputable def KP (p0:List Int) (p1:List ae) (p2 p3:Int):AS SS:=⟨[(0,(vs .dW)),(1,(va 5 0)),(9,(vi (↑p1.length:Int))),(10,(vi p3))],[(bX 142 [(.bQ .i64 16 p0),(.own 1)]),(rX 69 p1),(bX 28 [(lu p2)]),(bX 143 [(.v (.pointer none))]),(some (.bN 127 [] [(.one (.bu 5 0))])),(bX 140 [(.bu 0 0)])],6,(some ⟨⟨Tryz.f89,aE 89⟩,[9,10],(gN (bm Tryz.f89) 4),(gO (bm Tryz.f89) 4),[(3,(va 2 0)),(4,(va 3 0)),(8,(vc 4))],none⟩),false,[],[]⟩
noncomputable def ON (p0:List Int) (p1:List ae) (p2:Int):AS SS:=KP p0 p1 p2 0
noncomputable def afB (p0:List Int) (p1:List ae) (p2:Int) (a0:Nat):AS SS:=⟨[],[(bX 142 [(.bQ .i64 16 p0),(.own 1)]),(rX 69 p1),(bX 28 [(lu p2)]),(bX 143 [(.gG 69 1 a0 0)]),(some (.bN 127 [] [(.one (.bu 5 0))])),(bX 140 [(.bu 0 0)])],6,(some ⟨⟨Tryz.f89,aE 89⟩,[9,10],(gN (bm Tryz.f89) 4),(gO (bm Tryz.f89) 4),[(3,(va 2 0)),(4,(va 3 0)),(8,(vc 4))],(some .ret)⟩),false,[],[3]⟩
noncomputable def afC (p0:List Int) (p1:List ae) (p2:Int) (a0:Bool) (a1:Int):AS SS:= { KP p0 p1 p2 p2 with env:=[(11,(vb a0)),(0,(vs .dW)),(1,(va 5 0)),(9,(vi (↑p1.length:Int))),(10,(vi a1))] }
noncomputable def Ry (sh:Sh) (p0:List Int) (p1:List ae) (p2 p3:Int) (z0:ae) (a:Unit):T (Unit ⊕ Nat ⊕ (Bool×Int)):=
 .bd (p1[p3.toNat]?) λz1=>
  .bf (z1.aa==p2) (
   .ok (.inr (.inl p3.toNat)))<|
  .ok (.inl ())
noncomputable def Ha (sh:Sh) (p0:List Int) (p1:List ae) (p2 p3:Int) (a:Unit):T (Nat ⊕ (Bool×Int)):=
 .ok (.inr ((decide (p3<(↑p1.length:Int))),p3))
noncomputable def BU (sh:Sh) (p0:List Int) (p1:List ae) (p2:Int):Option (Nat ⊕ (Bool×Int)):=cP sh (Ry sh p0 p1 p2) (Ha sh p0 p1 p2) p1 ()
noncomputable def acg {R:Type} (k:AX->AS SS->Option R) (p0:List Int) (p1:List ae) (p2:Int) (x:Nat ⊕ (Bool×Int)):Option R:=(λx=>Sum.rec (λv=>k .ret (afB p0 p1 p2 v)) (λv=>k (.exit 0) (afC p0 p1 p2 v.1 v.2)) x) x
noncomputable def MX:bM SS:=cd 2 (λst=>((ey st 4 127).bind λ_=>kC st 18 4).bind λ_=>(gS (bq st 0 0)).bind λp0=>(dD st 1 69).bind λp1=>(bT (bq st 2 0)).bind λp2=>some (p0,p1,p2)) (λp=>ON p.1 p.2.1 p.2.2) (λp=>BU shut p.1 p.2.1 p.2.2) (λk p=>acg k p.1 p.2.1 p.2.2)
theorem aly:aO KK Tryz.prog ⟨Tryz.f127,aE 127⟩ (b9 (bm Tryz.f127) 2) MX:=
 aO.c_ (π:=List Int×List ae×Int) (σ:=Unit) (aw.all HK rfl) (aC.nil) rfl 60 (λp i a=>KP p.1 p.2.1 p.2.2 i) (λp=>p.2.1) (λp=>()) (St:=λp=>Ry shut p.1 p.2.1 p.2.2) (F:=λp=>Ha shut p.1 p.2.1 p.2.2) (λp=>rfl)
  (λm p i a k=>by kernel_rfl) (by rintro p (x|x)<;>exact⟨_,_,λ_=>rfl⟩) (λp N C A O w a hr=>s6 (j:=1) hr rfl)
noncomputable def KU (p0:List ae) (p1 p2:Int) (p3:List ae):AS SS:=⟨[(1,(vc 1)),(5,(vo 3)),(8,(vo 0)),(9,(vi (↑p0.length:Int))),(10,(vi p2))],[(rX 69 p0),(some (.bN 224 [] [(.one (.bu 2 0))])),(bX 28 [(lu p1)]),(rX 69 p3)],3,none,false,[],[]⟩
noncomputable def YR (p0:List ae) (p1:Int) (p3:List ae):AS SS:=KU p0 p1 0 p3
noncomputable def afZ (p0:List ae) (p1:Int) (a0:Bool) (a1:Int) (a2:List ae):AS SS:= { KU p0 p1 p1 a2 with env:=[(11,(vb a0)),(1,(vc 1)),(5,(vo 3)),(8,(vo 0)),(9,(vi (↑p0.length:Int))),(10,(vi a1))] }
noncomputable def Cc (sh:Sh) (p0:List ae) (p1 p2:Int) (z0:ae) (a:List ae):T (List ae ⊕ (Bool×Int×List ae)):=
 .bd (p0[p2.toNat]?) λz1=>
  .bf (z1.aa !=p1) (
   .bd (app 32 a [z1]) λz2=>
    .ok (.inl z2))<|
  .ok (.inl a)
noncomputable def Bb (sh:Sh) (p0:List ae) (p1 p2:Int) (a:List ae):T ((Bool×Int×List ae)):=
 .ok ((decide (p2<(↑p0.length:Int))),p2,a)
noncomputable def IA (sh:Sh) (p0:List ae) (p1:Int) (p3:List ae):Option ((Bool×Int×List ae)):=cP sh (Cc sh p0 p1) (Bb sh p0 p1) p0 p3
noncomputable def acw {R:Type} (k:AX->AS SS->Option R) (p0:List ae) (p1:Int) (x:(Bool×Int×List ae)):Option R:=(λv=>k (.exit 0) (afZ p0 p1 v.1 v.2.1 v.2.2)) x
noncomputable def V4:bM SS:=cd 4 (λst=>(ey st 1 224).bind λ_=>(dD st 0 69).bind λp0=>(bT (bq st 2 0)).bind λp1=>(dD st 3 69).bind λp3=>some (p0,p1,p3)) (λp=>YR p.1 p.2.1 p.2.2) (λp=>IA shut p.1 p.2.1 p.2.2) (λk p=>acw k p.1 p.2.1)
noncomputable def aaO:aK SS:= { (rT shut) with T:=bI ((rT shut).T) 127 ⟨⟨Tryz.f127,aE 127⟩,[MX]⟩ }
theorem P_:aS aaO Tryz.prog:=(aS.cj (aw.all HK rfl) Tryz.func127 rfl bA λc hc=>by cases hc;exact aC.cons (aC.nil) (by kernel_rfl) aly)
theorem alJ:aO KK Tryz.prog ⟨Tryz.f221,aE 221⟩ (b9 (bm Tryz.f221) 4) V4:=
 aO.c_ (π:=List ae×Int×List ae) (σ:=List ae) P_ (aC.nil) rfl 60 (λp i a=>KU p.1 p.2.1 i a) (λp=>p.1) (λp=>p.2.2) (St:=λp=>Cc shut p.1 p.2.1) (F:=λp=>Bb shut p.1 p.2.1) (λp=>rfl)
  (λm p i a k=>by kernel_rfl) (λp x=>⟨_,_,λ_=>rfl⟩) (λp N C A O w a hr=>s6 (j:=0) hr rfl)
noncomputable def Qa:aK SS:= { (rT shut) with T:=bI (bI ((rT shut).T) 127 ⟨⟨Tryz.f127,aE 127⟩,[MX]⟩) 221 ⟨⟨Tryz.f221,aE 221⟩,[V4]⟩ }
theorem aaP:aS Qa Tryz.prog:=(aS.cj P_ Tryz.func221 rfl bA λc hc=>by cases hc;exact aC.cons (aC.nil) (by kernel_rfl) alJ)
noncomputable def CI (sh:Sh) (p:br) (pid child:Int):T (br×Int×Int):=
 .bd (qF sh p) λy0=>
  .bf (!y0==0) (
   .ok (⟨[0,0,0,0,0,0,0,0,0,0,0,0,0,0,0,0],[]⟩,0,320))<|
  .bd (app 32 [] p.ab) λz1=>
   .gd (ON p.aJ z1 pid)<|
    .bd (BU sh p.aJ z1 pid) λx5=> .cs x5 (λy2=>
     .bd (z1[y2]?) λz3=>
      .bf (!!z3.bC) (
       .ok (⟨[0,0,0,0,0,0,0,0,0,0,0,0,0,0,0,0],[]⟩,0,321))<|
      .gd (ON p.aJ z1 child)<|
       .bd (BU sh p.aJ z1 child) λx8=> .cs x8 (λy4=>
        .bd (z1[y4]?) λz5=>
         .bf (!z5.ba==pid) (
          .ok (⟨[0,0,0,0,0,0,0,0,0,0,0,0,0,0,0,0],[]⟩,0,324))<|
         .bd (z1[y4]?) λz6=>
          .bf (!z6.bC) (
           .ok (⟨[0,0,0,0,0,0,0,0,0,0,0,0,0,0,0,0],[]⟩,0,322))<|
          .bd (z1[y4]?) λz7=>
           .gd (YR z1 child [])<|
            .bd (IA sh z1 child []) λy8=>
             .ok (⟨p.aJ,y8.2.2⟩,z7.cJ,0)) λy4=>
        .ok (⟨[0,0,0,0,0,0,0,0,0,0,0,0,0,0,0,0],[]⟩,0,324)) λy2=>
     .ok (⟨[0,0,0,0,0,0,0,0,0,0,0,0,0,0,0,0],[]⟩,0,321)
noncomputable def DT (sh:Sh) (p:br) (pid child:Int):Option (br×Int×Int):=sh.s _ (CI sh p pid child).val
theorem anQ {R:Type} (p:br) (pid child:Int) (k:Rs SS->Option R):b8 Qa 100 181 [KK.ah 25 p,KK.ah 28 pid,KK.ah 28 child] [] (cg KK [25,28,40] k)=(CI shut p pid child).run (λr=>k (.ret (.bj [KK.ah 25 r.1,KK.ah 28 r.2.1,KK.ah 40 r.2.2]))):=by kernel_rfl
noncomputable def ad9 (sh:Sh):b6 SS:=cf KK 181 [25,28,28] (λ{R} xs k=>match xs with| .cons p (.cons pid (.cons child .nil))=>(DT sh p pid child).bind (λr=>k (.ret (.bj [KK.ah 25 r.1,KK.ah 28 r.2.1,KK.ah 40 r.2.2]))))
noncomputable def wI (sh:Sh):aK SS:= { (rT sh) with C:=ad9 sh::(rT sh).C }
theorem HL:aw (wI shut) Tryz.prog:=aw.cm HK λxs k z _ hz=>ct aaP (λ{R} xs k z h=>by
 match xs,h with
 | .cons p (.cons pid (.cons child .nil)),h=>exact⟨100,(anQ p pid child k).trans (cv h)⟩) hz
noncomputable def La (p0:List ai) (p1 p2:Int) (p3:List ai):AS SS:=⟨[(1,(vc 0)),(5,(vo 2)),(8,(vd 26 p0)),(9,(vi (↑p0.length:Int))),(10,(vi p2))],[(some (.bN 74 [] [(.one (.bu 1 0))])),(bX 28 [(lu p1)]),(rX 89 p3)],2,none,false,[],[]⟩
noncomputable def Zd (p0:List ai) (p1:Int) (p3:List ai):AS SS:=La p0 p1 0 p3
noncomputable def agP (p0:List ai) (p1:Int) (a0:Bool) (a1:Int) (a2:List ai):AS SS:= { La p0 p1 p1 a2 with env:=[(11,(vb a0)),(1,(vc 0)),(5,(vo 2)),(8,(vd 26 p0)),(9,(vi (↑p0.length:Int))),(10,(vi a1))] }
noncomputable def Cp (sh:Sh) (p0:List ai) (p1 p2:Int) (z0:ai) (a:List ai):T (List ai ⊕ (Bool×Int×List ai)):=
 .bf (z0.aa !=p1) (
  .bd (app 24 a [z0]) λz1=>
   .ok (.inl z1))<|
 .ok (.inl a)
noncomputable def Br (sh:Sh) (p0:List ai) (p1 p2:Int) (a:List ai):T ((Bool×Int×List ai)):=
 .ok ((decide (p2<(↑p0.length:Int))),p2,a)
noncomputable def I2 (sh:Sh) (p0:List ai) (p1:Int) (p3:List ai):Option ((Bool×Int×List ai)):=cP sh (Cp sh p0 p1) (Br sh p0 p1) p0 p3
noncomputable def ac1 {R:Type} (k:AX->AS SS->Option R) (p0:List ai) (p1:Int) (x:(Bool×Int×List ai)):Option R:=(λv=>k (.exit 0) (agP p0 p1 v.1 v.2.1 v.2.2)) x
noncomputable def Wp:bM SS:=cd 4 (λst=>(ey st 0 74).bind λ_=>(bE 26 (bD st 8 0)).bind λp0=>(bT (bq st 1 0)).bind λp1=>(dD st 2 89).bind λp3=>some (p0,p1,p3)) (λp=>Zd p.1 p.2.1 p.2.2) (λp=>I2 shut p.1 p.2.1 p.2.2) (λk p=>ac1 k p.1 p.2.1)
theorem amb:aO KK Tryz.prog ⟨Tryz.f73,aE 73⟩ (b9 (bm Tryz.f73) 4) Wp:=
 aO.c_ (π:=List ai×Int×List ai) (σ:=List ai) (aw.all HL rfl) (aC.nil) rfl 60 (λp i a=>La p.1 p.2.1 i a) (λp=>p.1) (λp=>p.2.2) (St:=λp=>Cp shut p.1 p.2.1) (F:=λp=>Br shut p.1 p.2.1) (λp=>rfl)
  (λm p i a k=>by kernel_rfl) (λp x=>⟨_,_,λ_=>rfl⟩) (λp N C A O w a hr=>dQ hr (t:=26) (sl:=8) rfl λv h=>h)
noncomputable def Qy:aK SS:= { (wI shut) with T:=bI ((wI shut).T) 73 ⟨⟨Tryz.f73,aE 73⟩,[Wp]⟩ }
theorem abb:aS Qy Tryz.prog:=(aS.cj (aw.all HL rfl) Tryz.func73 rfl bA λc hc=>by cases hc;exact aC.cons (aC.nil) (by kernel_rfl) amb)
noncomputable def C0 (sh:Sh) (l:List ai) (pid:Int):T (List ai×Int):=
 .bd (nQ sh l) λy0=>
  .bf (y0 !=0) (
   .ok ([],0))<|
  .gd (Zd l pid [])<|
   .bd (I2 sh l pid []) λy1=>
    .ok (y1.2.2,(IntKind.i64.wrap ((↑l.length:Int)-(↑y1.2.2.length:Int))))
noncomputable def ya (sh:Sh) (l:List ai) (pid:Int):Option (List ai×Int):=sh.s _ (C0 sh l pid).val
theorem aoa {R:Type} (l:List ai) (pid:Int) (k:Rs SS->Option R):b8 Qy 100 29 [KK.ah 26 l,KK.ah 28 pid] [] (cg KK [26,3] k)=(C0 shut l pid).run (λr=>k (.ret (.bj [KK.ah 26 r.1,KK.ah 3 r.2]))):=by kernel_rfl
noncomputable def aex (sh:Sh):b6 SS:=cf KK 29 [26,28] (λ{R} xs k=>match xs with| .cons l (.cons pid .nil)=>(ya sh l pid).bind (λr=>k (.ret (.bj [KK.ah 26 r.1,KK.ah 3 r.2]))))
noncomputable def wT (sh:Sh):aK SS:= { (wI sh) with C:=aex sh::(wI sh).C }
theorem H3:aw (wT shut) Tryz.prog:=aw.cm HL λxs k z _ hz=>ct abb (λ{R} xs k z h=>by
 match xs,h with
 | .cons l (.cons pid .nil),h=>exact⟨100,(aoa l pid k).trans (cv h)⟩) hz
noncomputable def KX (p0:List ai) (p1 p2 p3:Int):AS SS:=⟨[(0,(vs .dW)),(2,(va 5 0)),(6,(vd 26 p0)),(7,(vi (↑p0.length:Int))),(8,(vi p3))],[(bX 3 [(li p1)]),(bX 28 [(lu 0)]),(bX 4 [(.v (.bool false))]),(some (.bN 257 [] [(.one (.bu 4 0)),(.one (.bu 5 0))])),(bX 26 [(.aV 26 p0)]),(bX 28 [(lu p2)])],6,(some ⟨⟨Tryz.f232,aE 232⟩,[15],(gN (bm Tryz.f232) 6),(gO (bm Tryz.f232) 6),[(5,(va 0 0)),(6,(va 1 0)),(7,(va 2 0)),(14,(vc 3))],none⟩),false,[],[]⟩
noncomputable def YW (p0:List ai) (p1 p2:Int):AS SS:=KX p0 p1 p2 0
noncomputable def af_ (p0:List ai) (p1 p2 a0:Int):AS SS:=⟨[],[(bX 3 [(li p1)]),(bX 28 [(lu a0)]),(bX 4 [(.v (.bool true))]),(some (.bN 257 [] [(.one (.bu 4 0)),(.one (.bu 5 0))])),(bX 26 [(.aV 26 p0)]),(bX 28 [(lu p2)])],6,(some ⟨⟨Tryz.f232,aE 232⟩,[15],(gN (bm Tryz.f232) 6),(gO (bm Tryz.f232) 6),[(5,(va 0 0)),(6,(va 1 0)),(7,(va 2 0)),(14,(vc 3))],(some .ret)⟩),false,[],[1,2]⟩
noncomputable def af' (p0:List ai) (p1 p2:Int) (a0:Bool) (a1:Int):AS SS:= { KX p0 p1 p2 p1 with env:=[(9,(vb a0)),(0,(vs .dW)),(2,(va 5 0)),(6,(vd 26 p0)),(7,(vi (↑p0.length:Int))),(8,(vi a1))] }
noncomputable def Ch (sh:Sh) (p0:List ai) (p1 p2 p3:Int) (z0:ai) (a:Unit):T (Unit ⊕ Int ⊕ (Bool×Int)):=
 .bf (z0.aa==p2) (
  .bf (z0.bL==p1) (
   .ok (.inr (.inl z0.cK)))<|
  .ok (.inl ()))<|
 .ok (.inl ())
noncomputable def Bf (sh:Sh) (p0:List ai) (p1 p2 p3:Int) (a:Unit):T (Int ⊕ (Bool×Int)):=
 .ok (.inr ((decide (p3<(↑p0.length:Int))),p3))
noncomputable def II (sh:Sh) (p0:List ai) (p1 p2:Int):Option (Int ⊕ (Bool×Int)):=cP sh (Ch sh p0 p1 p2) (Bf sh p0 p1 p2) p0 ()
noncomputable def acE {R:Type} (k:AX->AS SS->Option R) (p0:List ai) (p1 p2:Int) (x:Int ⊕ (Bool×Int)):Option R:=(λx=>Sum.rec (λv=>k .ret (af_ p0 p1 p2 v)) (λv=>k (.exit 0) (af' p0 p1 p2 v.1 v.2)) x) x
noncomputable def V9:bM SS:=cd 2 (λst=>((ey st 3 257).bind λ_=>kC st 22 6).bind λ_=>(bE 26 (bD st 6 0)).bind λp0=>(bT (bq st 0 0)).bind λp1=>(bT (bq st 5 0)).bind λp2=>some (p0,p1,p2)) (λp=>YW p.1 p.2.1 p.2.2) (λp=>II shut p.1 p.2.1 p.2.2) (λk p=>acE k p.1 p.2.1 p.2.2)
theorem alQ:aO KK Tryz.prog ⟨Tryz.f257,aE 257⟩ (b9 (bm Tryz.f257) 2) V9:=
 aO.c_ (π:=List ai×Int×Int) (σ:=Unit) (aw.all H3 rfl) (aC.nil) rfl 60 (λp i a=>KX p.1 p.2.1 p.2.2 i) (λp=>p.1) (λp=>()) (St:=λp=>Ch shut p.1 p.2.1 p.2.2) (F:=λp=>Bf shut p.1 p.2.1 p.2.2) (λp=>rfl)
  (λm p i a k=>by kernel_rfl) (by rintro p (x|x)<;>exact⟨_,_,λ_=>rfl⟩) (λp N C A O w a hr=>dQ hr (t:=26) (sl:=6) rfl λv h=>h)
noncomputable def Qu:aK SS:= { (wT shut) with T:=bI ((wT shut).T) 257 ⟨⟨Tryz.f257,aE 257⟩,[V9]⟩ }
theorem aa9:aS Qu Tryz.prog:=(aS.cj (aw.all H3 rfl) Tryz.func257 rfl bA λc hc=>by cases hc;exact aC.cons (aC.nil) (by kernel_rfl) alQ)
noncomputable def CX (sh:Sh) (l:List ai) (pid fd:Int):T (Int×Bool):=
 .bd (nQ sh l) λy0=>
  .bf (y0 !=0) (
   .ok (0,false))<|
  .gd (YW l fd pid)<|
   .bd (II sh l fd pid) λx4=> .cs x4 (λy1=>
    .ok (y1,true)) λy1=>
    .ok (0,false)
noncomputable def qE (sh:Sh) (l:List ai) (pid fd:Int):Option (Int×Bool):=sh.s _ (CX sh l pid fd).val
theorem an7 {R:Type} (l:List ai) (pid fd:Int) (k:Rs SS->Option R):b8 Qu 100 232 [KK.ah 26 l,KK.ah 28 pid,KK.ah 3 fd] [] (cg KK [28,4] k)=(CX shut l pid fd).run (λr=>k (.ret (.bj [KK.ah 28 r.1,KK.ah 4 r.2]))):=by kernel_rfl
noncomputable def aer (sh:Sh):b6 SS:=cf KK 232 [26,28,3] (λ{R} xs k=>match xs with| .cons l (.cons pid (.cons fd .nil))=>(qE sh l pid fd).bind (λr=>k (.ret (.bj [KK.ah 28 r.1,KK.ah 4 r.2]))))
noncomputable def wP (sh:Sh):aK SS:= { (wT sh) with C:=aer sh::(wT sh).C }
theorem HY:aw (wP shut) Tryz.prog:=aw.cm H3 λxs k z _ hz=>ct aa9 (λ{R} xs k z h=>by
 match xs,h with
 | .cons l (.cons pid (.cons fd .nil)),h=>exact⟨100,(an7 l pid fd k).trans (cv h)⟩) hz
noncomputable def K_ (p0:List ai) (p1 p2:Int) (p3:List ai):AS SS:=⟨[(1,(vc 0)),(5,(vo 2)),(8,(vd 26 p0)),(9,(vi (↑p0.length:Int))),(10,(vi p2))],[(some (.bN 234 [] [(.one (.bu 1 0))])),(bX 28 [(lu p1)]),(rX 89 p3)],2,none,false,[],[]⟩
noncomputable def Zc (p0:List ai) (p1:Int) (p3:List ai):AS SS:=K_ p0 p1 0 p3
noncomputable def agO (p0:List ai) (p1:Int) (a0:Bool) (a1:Int) (a2:List ai):AS SS:= { K_ p0 p1 p1 a2 with env:=[(11,(vb a0)),(1,(vc 0)),(5,(vo 2)),(8,(vd 26 p0)),(9,(vi (↑p0.length:Int))),(10,(vi a1))] }
noncomputable def Co (sh:Sh) (p0:List ai) (p1 p2:Int) (z0:ai) (a:List ai):T (List ai ⊕ (Bool×Int×List ai)):=
 .bf (z0.cK==p1) (
  .bd (app 24 a [z0]) λz1=>
   .ok (.inl z1))<|
 .ok (.inl a)
noncomputable def Bq (sh:Sh) (p0:List ai) (p1 p2:Int) (a:List ai):T ((Bool×Int×List ai)):=
 .ok ((decide (p2<(↑p0.length:Int))),p2,a)
noncomputable def I1 (sh:Sh) (p0:List ai) (p1:Int) (p3:List ai):Option ((Bool×Int×List ai)):=cP sh (Co sh p0 p1) (Bq sh p0 p1) p0 p3
noncomputable def ac0 {R:Type} (k:AX->AS SS->Option R) (p0:List ai) (p1:Int) (x:(Bool×Int×List ai)):Option R:=(λv=>k (.exit 0) (agO p0 p1 v.1 v.2.1 v.2.2)) x
noncomputable def Wo:bM SS:=cd 4 (λst=>(ey st 0 234).bind λ_=>(bE 26 (bD st 8 0)).bind λp0=>(bT (bq st 1 0)).bind λp1=>(dD st 2 89).bind λp3=>some (p0,p1,p3)) (λp=>Zc p.1 p.2.1 p.2.2) (λp=>I1 shut p.1 p.2.1 p.2.2) (λk p=>ac0 k p.1 p.2.1)
theorem ama:aO KK Tryz.prog ⟨Tryz.f73,aE 73⟩ (b9 (bm Tryz.f73) 4) Wo:=
 aO.c_ (π:=List ai×Int×List ai) (σ:=List ai) (aw.all HY rfl) (aC.nil) rfl 60 (λp i a=>K_ p.1 p.2.1 i a) (λp=>p.1) (λp=>p.2.2) (St:=λp=>Co shut p.1 p.2.1) (F:=λp=>Bq shut p.1 p.2.1) (λp=>rfl)
  (λm p i a k=>by kernel_rfl) (λp x=>⟨_,_,λ_=>rfl⟩) (λp N C A O w a hr=>dQ hr (t:=26) (sl:=8) rfl λv h=>h)
noncomputable def Qk:aK SS:= { (wP shut) with T:=bI ((wP shut).T) 73 ⟨⟨Tryz.f73,aE 73⟩,[Wo]⟩ }
theorem aaZ:aS Qk Tryz.prog:=(aS.cj (aw.all HY rfl) Tryz.func73 rfl bA λc hc=>by cases hc;exact aC.cons (aC.nil) (by kernel_rfl) ama)
noncomputable def CP (sh:Sh) (l:List ai) (bH:Int):T (Int):=
 .bd (nQ sh l) λy0=>
  .bf (y0 !=0) (
   .ok 0)<|
  .gd (Zc l bH [])<|
   .bd (I1 sh l bH []) λy1=>
    .ok ((↑y1.2.2.length:Int))
noncomputable def DY (sh:Sh) (l:List ai) (bH:Int):Option (Int):=sh.s _ (CP sh l bH).val
theorem anY {R:Type} (l:List ai) (bH:Int) (k:Rs SS->Option R):b8 Qk 100 192 [KK.ah 26 l,KK.ah 28 bH] [] (cg KK [3] k)=(CP shut l bH).run (λr=>k (.ret (.s (KK.ah 3 r)))):=by kernel_rfl
noncomputable def aeg (sh:Sh):b6 SS:=cf KK 192 [26,28] (λ{R} xs k=>match xs with| .cons l (.cons bH .nil)=>(DY sh l bH).bind (λr=>k (.ret (.s (KK.ah 3 r)))))
noncomputable def oI (sh:Sh):aK SS:= { (wP sh) with C:=aeg sh::(wP sh).C }
theorem HQ:aw (oI shut) Tryz.prog:=aw.cm HY λxs k z _ hz=>ct aaZ (λ{R} xs k z h=>by
 match xs,h with
 | .cons l (.cons bH .nil),h=>exact⟨100,(anY l bH k).trans (cv h)⟩) hz
noncomputable def KW (p0:List ai) (p1 p2 p3:Int) (p4:List Bool):AS SS:=⟨[(0,(vs .dW)),(2,(va 3 0)),(6,(vd 26 p0)),(7,(vi (↑p0.length:Int))),(8,(vi p3))],[(bX 261 [(.er 8 p4)]),(some (.bN 257 [] [(.one (.bu 2 0)),(.one (.bu 3 0))])),(bX 26 [(.aV 26 p0)]),(bX 28 [(lu p1)])],4,(some ⟨⟨Tryz.f184,aE 184⟩,[26],(gN (bm Tryz.f184) 9),(gO (bm Tryz.f184) 9),[(0,(vd 26 p0)),(1,(vu p1)),(2,(vu p2)),(9,(va 0 0)),(25,(vc 1))],none⟩),false,[],[0]⟩
noncomputable def YV (p0:List ai) (p1 p2:Int) (p4:List Bool):AS SS:=KW p0 p1 p2 0 p4
noncomputable def af9 (p0:List ai) (p1 p2:Int) (a0:Bool) (a1:Int) (a2:List Bool):AS SS:= { KW p0 p1 p2 p1 a2 with env:=[(9,(vb a0)),(0,(vs .dW)),(2,(va 3 0)),(6,(vd 26 p0)),(7,(vi (↑p0.length:Int))),(8,(vi a1))] }
noncomputable def Cg (sh:Sh) (p0:List ai) (p1 p2 p3:Int) (z0:ai) (a:List Bool):T (List Bool ⊕ (Bool×Int×List Bool)):=
 .bf (z0.aa==p1) (
  .bd (cF z0.bL 8) λz1=>
   .bf (a.length.beq 8) (
    .ok (.inl (a.set z1 true)))<|
   .no)<|
 .ok (.inl a)
noncomputable def wu (sh:Sh) (p0:List ai) (p1 p2 p3:Int) (a:List Bool):T ((Bool×Int×List Bool)):=
 .ok ((decide (p3<(↑p0.length:Int))),p3,a)
noncomputable def IH (sh:Sh) (p0:List ai) (p1 p2:Int) (p4:List Bool):Option ((Bool×Int×List Bool)):=cP sh (Cg sh p0 p1 p2) (wu sh p0 p1 p2) p0 p4
noncomputable def acD {R:Type} (k:AX->AS SS->Option R) (p0:List ai) (p1 p2:Int) (x:(Bool×Int×List Bool)):Option R:=(λv=>k (.exit 0) (af9 p0 p1 p2 v.1 v.2.1 v.2.2)) x
noncomputable def FD:bM SS:=pS (λst=>gc (aE 257 2) (ka [0] (qy 0 (st))))<|cd 2 (λst=>((ey st 1 257).bind λ_=>kC st 61 9).bind λ_=>(bE 26 (bD st 6 0)).bind λp0=>(bT (bq st 3 0)).bind λp1=>(bT (lpL st 2 0)).bind λp2=>(SX (bq st 0 0)).bind λp4=>some (p0,p1,p2,p4)) (λp=>YV p.1 p.2.1 p.2.2.1 p.2.2.2) (λp=>IH shut p.1 p.2.1 p.2.2.1 p.2.2.2) (λk p=>acD k p.1 p.2.1 p.2.2.1)
theorem alP:aO KK Tryz.prog ⟨Tryz.f257,aE 257⟩ (b9 (bm Tryz.f257) 2) FD:=aO.pre (du.comp (du.gc (aE 257 2)) (du.comp (du.ka [0]) (du.qy 0)))<|
 aO.c_ (π:=List ai×Int×Int×List Bool) (σ:=List Bool) (aw.all HQ rfl) (aC.nil) rfl 60 (λp i a=>KW p.1 p.2.1 p.2.2.1 i a) (λp=>p.1) (λp=>p.2.2.2) (St:=λp=>Cg shut p.1 p.2.1 p.2.2.1) (F:=λp=>wu shut p.1 p.2.1 p.2.2.1) (λp=>rfl)
  (λm p i a k=>by kernel_rfl) (λp x=>⟨_,_,λ_=>rfl⟩) (λp N C A O w a hr=>dQ hr (t:=26) (sl:=6) rfl λv h=>h)
noncomputable def yN (p0:List Bool) (p1:Int):AS SS:=⟨[(0,(vs (.iF 0 0 8))),(1,(vb false)),(7,(vi 8)),(8,(vi p1))],[(bX 261 [(.er 8 p0)])],1,none,false,[],[]⟩
noncomputable def af1 (p0:List Bool) (a0:Int):AS SS:= { yN p0 a0 with env:=[(4,(vi a0))] }
noncomputable def af2 (p0:List Bool) (a0:Bool) (a1:Int):AS SS:= { yN p0 a1 with env:=[(9,(vb a0)),(0,(vs (.iF 0 0 8))),(1,(vb false)),(7,(vi 8)),(8,(vi a1))] }
noncomputable def xq (sh:Sh) (p0:List Bool) (a:Int):T (Int ⊕ Int ⊕ (Bool×Int)):=
 .bf (decide (a<8)) (
  .bd (cF a 8) λz0=>
   .bf (false==kF p0 z0) (
    .ok (.inr (.inl a)))<|
   .ok (.inl (IntKind.i64.wrap (a+1))))<|
 .ok (.inr (.inr ((decide (a<8)),a)))
noncomputable def IC (sh:Sh) (p0:List Bool) (p1:Int):Option (Int ⊕ (Bool×Int)):=da sh (xq sh p0) 1000000 p1
noncomputable def acy {R:Type} (k:AX->AS SS->Option R) (p0:List Bool) (x:Int ⊕ (Bool×Int)):Option R:=(λx=>Sum.rec (λv=>k .ret (af1 p0 v)) (λv=>k (.exit 0) (af2 p0 v.1 v.2)) x) x
noncomputable def M3:bM SS:=cd 3 (λst=>(SX (bq st 0 0)).bind λp0=>(bT (bD st 8 0)).bind λp1=>some (p0,p1)) (λp=>yN p.1 p.2) (λp=>IC shut p.1 p.2) (λk p=>acy k p.1)
noncomputable def aaS:aK SS:= { (oI shut) with T:=bI ((oI shut).T) 257 ⟨⟨Tryz.f257,aE 257⟩,[FD]⟩ }
theorem Qd:aS aaS Tryz.prog:=(aS.cj (aw.all HQ rfl) Tryz.func257 rfl bA λc hc=>by cases hc;exact aC.cons (aC.nil) (by kernel_rfl) alP)
theorem alL:aO KK Tryz.prog ⟨Tryz.f229,aE 229⟩ (b9 (bm Tryz.f229) 3) M3:=
 aO.da (π:=List Bool×Int) (σ:=Int) Qd (aC.nil) rfl 60 (λp a=>yN p.1 a) (λp=>p.2) (St:=λp=>xq shut p.1) (λp=>1000000) (λp=>rfl)
  (λm p a k=>by kernel_rfl)
noncomputable def EH (p0:List ai) (p1 p2 p3 p4 p5 p6:Int):AS SS:=⟨[(0,(vo 0)),(2,(vs (.v (.func (.func 95) (.mk []) (.mk []))))),(4,(va 1 0)),(8,(vi p4)),(9,(vi p6)),(10,(vi p5))],[(rX 89 p0),(bX 89 [(lu p1),(li p2),(lu p3)])],1,none,false,[],[]⟩
noncomputable def af3 (p0:List ai) (p1 p2 p3 p4:Int) (a0:Bool) (a1 a2:Int):AS SS:= { EH p0 p1 p2 p3 p4 p1 p1 with env:=[(17,(vb a0)),(16,(vi a1)),(15,(vi a2)),(0,(vo 0)),(2,(vs (.v (.func (.func 95) (.mk []) (.mk []))))),(4,(va 1 0)),(8,(vi p4)),(9,(vi a2)),(10,(vi a1))] }
noncomputable def xr (sh:Sh) (p0:List ai) (p1 p2 p3 p4:Int) (a:Int×Int):T ((Int×Int) ⊕ (Bool×Int×Int)):=
 .bf (decide (a.1<a.2)) (
  .bd (idx p0 (IntKind.i64.wrap ((IntKind.u64.wrap (IntKind.i64.wrap (a.1+a.2))).fdiv 2))) λz0=>
   .bd (p0[(IntKind.i64.wrap ((IntKind.u64.wrap (IntKind.i64.wrap (a.1+a.2))).fdiv 2)).toNat]?) λz1=>
    .bd (yh sh z1 (ai.mk p1 p2 p3)) λy2=>
     .bf (decide (y2<0)) (
      .ok (.inl ((IntKind.i64.wrap (IntKind.i64.wrap ((IntKind.u64.wrap (IntKind.i64.wrap (a.1+a.2))).fdiv 2)+1)),a.2)))<|
     .ok (.inl (a.1,(IntKind.i64.wrap ((IntKind.u64.wrap (IntKind.i64.wrap (a.1+a.2))).fdiv 2)))))<|
 .ok (.inr ((decide (a.1<a.2)),a.2,a.1))
noncomputable def ID (sh:Sh) (p0:List ai) (p1 p2 p3 p4 p5 p6:Int):Option ((Bool×Int×Int)):=da sh (xr sh p0 p1 p2 p3 p4) 1000000 (p6,p5)
noncomputable def acz {R:Type} (k:AX->AS SS->Option R) (p0:List ai) (p1 p2 p3 p4:Int) (x:(Bool×Int×Int)):Option R:=(λv=>k (.exit 0) (af3 p0 p1 p2 p3 p4 v.1 v.2.1 v.2.2)) x
noncomputable def V6:bM SS:=cd 4 (λst=>(dD st 0 89).bind λp0=>(bT (bq st 1 0)).bind λp1=>(bT (bq st 1 1)).bind λp2=>(bT (bq st 1 2)).bind λp3=>(bT (bD st 8 0)).bind λp4=>(bT (bD st 10 0)).bind λp5=>(bT (bD st 9 0)).bind λp6=>some (p0,p1,p2,p3,p4,p5,p6)) (λp=>EH p.1 p.2.1 p.2.2.1 p.2.2.2.1 p.2.2.2.2.1 p.2.2.2.2.2.1 p.2.2.2.2.2.2) (λp=>ID shut p.1 p.2.1 p.2.2.1 p.2.2.2.1 p.2.2.2.2.1 p.2.2.2.2.2.1 p.2.2.2.2.2.2) (λk p=>acz k p.1 p.2.1 p.2.2.1 p.2.2.2.1 p.2.2.2.2.1)
noncomputable def aaT:aK SS:= { (oI shut) with T:=bI (bI ((oI shut).T) 257 ⟨⟨Tryz.f257,aE 257⟩,[FD]⟩) 229 ⟨⟨Tryz.f229,aE 229⟩,[M3]⟩ }
theorem Qe:aS aaT Tryz.prog:=(aS.cj Qd Tryz.func229 rfl bA λc hc=>by cases hc;exact aC.cons (aC.nil) (by kernel_rfl) alL)
theorem alM:aO KK Tryz.prog ⟨Tryz.f230,aE 230⟩ (b9 (bm Tryz.f230) 4) V6:=
 aO.da (π:=List ai×Int×Int×Int×Int×Int×Int) (σ:=Int×Int) Qe (aC.nil) rfl 60 (λp a=>EH p.1 p.2.1 p.2.2.1 p.2.2.2.1 p.2.2.2.2.1 a.2 a.1) (λp=>(p.2.2.2.2.2.2,p.2.2.2.2.2.1)) (St:=λp=>xr shut p.1 p.2.1 p.2.2.1 p.2.2.2.1 p.2.2.2.2.1) (λp=>1000000) (λp=>rfl)
  (λm p a k=>by kernel_rfl)
noncomputable def Qf:aK SS:= { (oI shut) with T:=bI (bI (bI ((oI shut).T) 257 ⟨⟨Tryz.f257,aE 257⟩,[FD]⟩) 229 ⟨⟨Tryz.f229,aE 229⟩,[M3]⟩) 230 ⟨⟨Tryz.f230,aE 230⟩,[V6]⟩ }
theorem aaU:aS Qf Tryz.prog:=(aS.cj Qe Tryz.func230 rfl bA λc hc=>by cases hc;exact aC.cons (aC.nil) (by kernel_rfl) alM)
noncomputable def CK (sh:Sh) (l:List ai) (pid bH:Int):T (List ai×Int×Int):=
 .bd (nQ sh l) λy0=>
  .bf (y0 !=0) (
   .ok ([],0,330))<|
  .bf (decide (pid>=4294967296)) (
   .ok ([],0,2))<|
  .gd (YV l pid bH [false,false,false,false,false,false,false,false])<|
   .bd (IH sh l pid bH [false,false,false,false,false,false,false,false]) λy1=>
    .gd (yN y1.2.2 0)<|
     .bd (IC sh y1.2.2 0) λx6=> .cs x6 (λy2=>
      .bf (decide (y2<0)) (
       .ok ([],0,6))<|
      .bf ((↑l.length:Int)==64) (
       .ok ([],0,6))<|
      .bd (vF 24 ((↑l.length:Int)) ((↑l.length:Int)) (ai.mk 0 0 0)) λz3=>
       .gd (EH (cW z3 l) pid y2 bH ((↑(cW z3 l).length:Int)) ((↑(cW z3 l).length:Int)) 0)<|
        .bd (ID sh (cW z3 l) pid y2 bH ((↑(cW z3 l).length:Int)) ((↑(cW z3 l).length:Int)) 0) λy4=>
         .bf (decide (y4.2.2<(↑(cW z3 l).length:Int))) (
          .bd (idx (cW z3 l) y4.2.2) λz5=>
           .bd ((cW z3 l)[y4.2.2.toNat]?) λz6=>
            .bd (yh sh z6 (ai.mk pid y2 bH)) λy7=>
             .bd (vp (cW z3 l) y4.2.2 [ai.mk pid y2 bH]) λz8=>
              .ok (z8,y2,0))<|
         .bd (vp (cW z3 l) y4.2.2 [ai.mk pid y2 bH]) λz5=>
          .ok (z5,y2,0)) λy2=>
      .ok ([],0,6)
noncomputable def xZ (sh:Sh) (l:List ai) (pid bH:Int):Option (List ai×Int×Int):=sh.s _ (CK sh l pid bH).val
theorem anS {R:Type} (l:List ai) (pid bH:Int) (k:Rs SS->Option R):b8 Qf 100 184 [KK.ah 26 l,KK.ah 28 pid,KK.ah 28 bH] [] (cg KK [26,3,40] k)=(CK shut l pid bH).run (λr=>k (.ret (.bj [KK.ah 26 r.1,KK.ah 3 r.2.1,KK.ah 40 r.2.2]))):=by kernel_rfl
noncomputable def aea (sh:Sh):b6 SS:=cf KK 184 [26,28,28] (λ{R} xs k=>match xs with| .cons l (.cons pid (.cons bH .nil))=>(xZ sh l pid bH).bind (λr=>k (.ret (.bj [KK.ah 26 r.1,KK.ah 3 r.2.1,KK.ah 40 r.2.2]))))
noncomputable def BA (sh:Sh):aK SS:= { (oI sh) with C:=aea sh::(oI sh).C }
theorem QY:aw (BA shut) Tryz.prog:=aw.cm HQ λxs k z _ hz=>ct aaU (λ{R} xs k z h=>by
 match xs,h with
 | .cons l (.cons pid (.cons bH .nil)),h=>exact⟨100,(anS l pid bH k).trans (cv h)⟩) hz
noncomputable def CM (sh:Sh) (l:List ai) (pid fd:Int):T (List ai×Int×Int):=
 .bd (nQ sh l) λy0=>
  .bf (y0 !=0) (
   .ok ([],0,330))<|
  .bf (decide (pid>=4294967296)) (
   .ok ([],0,2))<|
  .bd (qE sh l pid fd) λy1=>
   .bf (!y1.2) (
    .ok ([],0,4))<|
   .bd (xZ sh l pid y1.1) λy2=>
    .ok (y2.1,y2.2.1,y2.2.2)
noncomputable def DV (sh:Sh) (l:List ai) (pid fd:Int):Option (List ai×Int×Int):=sh.s _ (CM sh l pid fd).val
theorem anU {R:Type} (l:List ai) (pid fd:Int) (k:Rs SS->Option R):b8 (BA shut) 100 188 [KK.ah 26 l,KK.ah 28 pid,KK.ah 3 fd] [] (cg KK [26,3,40] k)=(CM shut l pid fd).run (λr=>k (.ret (.bj [KK.ah 26 r.1,KK.ah 3 r.2.1,KK.ah 40 r.2.2]))):=by kernel_rfl
noncomputable def aec (sh:Sh):b6 SS:=cf KK 188 [26,28,3] (λ{R} xs k=>match xs with| .cons l (.cons pid (.cons fd .nil))=>(DV sh l pid fd).bind (λr=>k (.ret (.bj [KK.ah 26 r.1,KK.ah 3 r.2.1,KK.ah 40 r.2.2]))))
noncomputable def rU (sh:Sh):aK SS:= { (BA sh) with C:=aec sh::(BA sh).C }
theorem HN:aw (rU shut) Tryz.prog:=aw.cm QY λxs k z _ hz=>ct (aw.all QY rfl) (λ{R} xs k z h=>by
 match xs,h with
 | .cons l (.cons pid (.cons fd .nil)),h=>exact⟨100,(anU l pid fd k).trans (cv h)⟩) hz
noncomputable def K9 (p0:List ai) (p1 p2 p3 p4:Int) (p5:List ai):AS SS:=⟨[(1,(vc 1)),(5,(vo 3)),(8,(vo 0)),(9,(vi (↑p0.length:Int))),(10,(vi p4))],[(rX 89 p0),(some (.bN 233 [] [(.one (.bu 2 0))])),(bX 89 [(lu p1),(li p2),(lu p3)]),(rX 89 p5)],3,none,false,[],[]⟩
noncomputable def Zb (p0:List ai) (p1 p2 p3:Int) (p5:List ai):AS SS:=K9 p0 p1 p2 p3 0 p5
noncomputable def agN (p0:List ai) (p1 p2 p3:Int) (a0:Bool) (a1:Int) (a2:List ai):AS SS:= { K9 p0 p1 p2 p3 p1 a2 with env:=[(11,(vb a0)),(1,(vc 1)),(5,(vo 3)),(8,(vo 0)),(9,(vi (↑p0.length:Int))),(10,(vi a1))] }
noncomputable def Cn (sh:Sh) (p0:List ai) (p1 p2 p3 p4:Int) (z0:ai) (a:List ai):T (List ai ⊕ (Bool×Int×List ai)):=
 .bd (p0[p4.toNat]?) λz1=>
  .bf (!me z1 (ai.mk p1 p2 p3)) (
   .bd (app 24 a [z1]) λz2=>
    .ok (.inl z2))<|
  .ok (.inl a)
noncomputable def Bp (sh:Sh) (p0:List ai) (p1 p2 p3 p4:Int) (a:List ai):T ((Bool×Int×List ai)):=
 .ok ((decide (p4<(↑p0.length:Int))),p4,a)
noncomputable def I0 (sh:Sh) (p0:List ai) (p1 p2 p3:Int) (p5:List ai):Option ((Bool×Int×List ai)):=cP sh (Cn sh p0 p1 p2 p3) (Bp sh p0 p1 p2 p3) p0 p5
noncomputable def acZ {R:Type} (k:AX->AS SS->Option R) (p0:List ai) (p1 p2 p3:Int) (x:(Bool×Int×List ai)):Option R:=(λv=>k (.exit 0) (agN p0 p1 p2 p3 v.1 v.2.1 v.2.2)) x
noncomputable def M8:bM SS:=cd 4 (λst=>(ey st 1 233).bind λ_=>(dD st 0 89).bind λp0=>(bT (bq st 2 0)).bind λp1=>(bT (bq st 2 1)).bind λp2=>(bT (bq st 2 2)).bind λp3=>(dD st 3 89).bind λp5=>some (p0,p1,p2,p3,p5)) (λp=>Zb p.1 p.2.1 p.2.2.1 p.2.2.2.1 p.2.2.2.2) (λp=>I0 shut p.1 p.2.1 p.2.2.1 p.2.2.2.1 p.2.2.2.2) (λk p=>acZ k p.1 p.2.1 p.2.2.1 p.2.2.2.1)
theorem al':aO KK Tryz.prog ⟨Tryz.f73,aE 73⟩ (b9 (bm Tryz.f73) 4) M8:=
 aO.c_ (π:=List ai×Int×Int×Int×List ai) (σ:=List ai) (aw.all HN rfl) (aC.nil) rfl 60 (λp i a=>K9 p.1 p.2.1 p.2.2.1 p.2.2.2.1 i a) (λp=>p.1) (λp=>p.2.2.2.2) (St:=λp=>Cn shut p.1 p.2.1 p.2.2.1 p.2.2.2.1) (F:=λp=>Bp shut p.1 p.2.1 p.2.2.1 p.2.2.2.1) (λp=>rfl)
  (λm p i a k=>by kernel_rfl) (λp x=>⟨_,_,λ_=>rfl⟩) (λp N C A O w a hr=>s6 (j:=0) hr rfl)
noncomputable def EB (p0:Int) (p1:List Int) (p2:List ai) (p3:Bool) (p4:Int):AS SS:=⟨[(1,(vu p0)),(9,(vo 0)),(10,(vb p3)),(23,(vd 147 p1)),(24,(vi (↑p1.length:Int))),(25,(vi p4))],[(rX 89 p2)],0,none,false,[],[]⟩
noncomputable def YQ (p0:Int) (p1:List Int) (p2:List ai) (p3:Bool):AS SS:=EB p0 p1 p2 p3 0
noncomputable def afR (p0:Int) (p1:List Int) (a0 a1:Bool) (a2 a3:Int) (a4 a5:Bool) (a6:Int) (a7:List ai):AS SS:= { EB p0 p1 a7 a0 p0 with env:=[(38,(vb a0)),(37,(vb a1)),(10,(vb a1)),(36,(vb a1)),(14,(vb a1)),(13,(vu a2)),(35,(vb a1)),(34,(vu a2)),(29,(.bj [(.one (lu a2)),(.one (.v (.bool a1)))])),(33,(.bj [(.one (lu a2)),(.one (.v (.bool a1)))])),(32,(vi a3)),(31,(vu p0)),(30,(vo 0)),(12,(vi a3)),(28,(vi a3)),(27,(vs (.ptr 3 a3 0))),(26,(vb a4)),(1,(vu p0)),(9,(vo 0)),(10,(vb a5)),(23,(vd 147 p1)),(24,(vi (↑p1.length:Int))),(25,(vi a6))] }
noncomputable def afS (p0:Int) (p1:List Int) (a0 a1:Bool) (a2:Int) (a3:List ai):AS SS:= { EB p0 p1 a3 a0 p0 with env:=[(26,(vb a0)),(1,(vu p0)),(9,(vo 0)),(10,(vb a1)),(23,(vd 147 p1)),(24,(vi (↑p1.length:Int))),(25,(vi a2))] }
noncomputable def Cb (sh:Sh) (p0:Int) (p1:List Int) (p4 z0:Int) (a:Bool×List ai):T ((Bool×List ai) ⊕ (Bool×Bool×Int×Int×Bool×Bool×Int×List ai) ⊕ (Bool×Bool×Int×List ai)):=
 .bd (qE sh a.2 p0 z0) λy1=>
  .bf (!y1.2) (
   .ok (.inr (.inl (!y1.2,y1.2,y1.1,z0,(decide (p4<(↑p1.length:Int))),a.1,p4,a.2))))<|
  .gd (Zb a.2 p0 z0 y1.1 [])<|
   .bd (I0 sh a.2 p0 z0 y1.1 []) λy2=>
    .ok (.inl (y1.2,y2.2.2))
noncomputable def Hd (sh:Sh) (p0:Int) (p1:List Int) (p4:Int) (a:Bool×List ai):T ((Bool×Bool×Int×Int×Bool×Bool×Int×List ai) ⊕ (Bool×Bool×Int×List ai)):=
 .ok (.inr ((decide (p4<(↑p1.length:Int))),a.1,p4,a.2))
noncomputable def Iw (sh:Sh) (p0:Int) (p1:List Int) (p2:List ai) (p3:Bool):Option ((Bool×Bool×Int×Int×Bool×Bool×Int×List ai) ⊕ (Bool×Bool×Int×List ai)):=cP sh (Cb sh p0 p1) (Hd sh p0 p1) p1 (p3,p2)
noncomputable def acq {R:Type} (k:AX->AS SS->Option R) (p0:Int) (p1:List Int) (x:(Bool×Bool×Int×Int×Bool×Bool×Int×List ai) ⊕ (Bool×Bool×Int×List ai)):Option R:=(λx=>Sum.rec (λv=>k (.exit 0) (afR p0 p1 v.1 v.2.1 v.2.2.1 v.2.2.2.1 v.2.2.2.2.1 v.2.2.2.2.2.1 v.2.2.2.2.2.2.1 v.2.2.2.2.2.2.2)) (λv=>k (.exit 0) (afS p0 p1 v.1 v.2.1 v.2.2.1 v.2.2.2)) x) x
noncomputable def V1:bM SS:=cd 8 (λst=>(bT (bD st 1 0)).bind λp0=>(bE 147 (bD st 23 0)).bind λp1=>(dD st 0 89).bind λp2=>(si (bD st 10 0)).bind λp3=>some (p0,p1,p2,p3)) (λp=>YQ p.1 p.2.1 p.2.2.1 p.2.2.2) (λp=>Iw shut p.1 p.2.1 p.2.2.1 p.2.2.2) (λk p=>acq k p.1 p.2.1)
noncomputable def aaV:aK SS:= { (rU shut) with T:=bI ((rU shut).T) 73 ⟨⟨Tryz.f73,aE 73⟩,[M8]⟩ }
theorem Qg:aS aaV Tryz.prog:=(aS.cj (aw.all HN rfl) Tryz.func73 rfl bA λc hc=>by cases hc;exact aC.cons (aC.nil) (by kernel_rfl) al')
theorem alG:aO KK Tryz.prog ⟨Tryz.f186,aE 186⟩ (b9 (bm Tryz.f186) 8) V1:=
 aO.c_ (π:=Int×List Int×List ai×Bool) (σ:=Bool×List ai) Qg (aC.nil) rfl 60 (λp i a=>EB p.1 p.2.1 a.2 a.1 i) (λp=>p.2.1) (λp=>(p.2.2.2,p.2.2.1)) (St:=λp=>Cb shut p.1 p.2.1) (F:=λp=>Hd shut p.1 p.2.1) (λp=>rfl)
  (λm p i a k=>by kernel_rfl) (by rintro p (x|x)<;>exact⟨_,_,λ_=>rfl⟩) (λp N C A O w a hr=>dQ hr (t:=147) (sl:=23) rfl λv h=>h)
noncomputable def Qh:aK SS:= { (rU shut) with T:=bI (bI ((rU shut).T) 73 ⟨⟨Tryz.f73,aE 73⟩,[M8]⟩) 186 ⟨⟨Tryz.f186,aE 186⟩,[V1]⟩ }
theorem aaW:aS Qh Tryz.prog:=(aS.cj Qg Tryz.func186 rfl bA λc hc=>by cases hc;exact aC.cons (aC.nil) (by kernel_rfl) alG)
noncomputable def CL (sh:Sh) (l:List ai) (pid:Int) (fds:List Int):T (List ai×Int):=
 .bd (nQ sh l) λy0=>
  .bf (y0 !=0) (
   .ok ([],y0))<|
  .bd (app 24 [] l) λz1=>
   .gd (YQ pid fds z1 true)<|
    .bd (Iw sh pid fds z1 true) λx5=> .cs x5 (λy2=>
     .bf (!y2.2.1) (
      .ok ([],4))<|
     .ok (y2.2.2.2.2.2.2.2,0)) λy2=>
     .bf (!y2.2.1) (
      .ok ([],4))<|
     .ok (y2.2.2.2,0)
noncomputable def DU (sh:Sh) (l:List ai) (pid:Int) (fds:List Int):Option (List ai×Int):=sh.s _ (CL sh l pid fds).val
theorem anT {R:Type} (l:List ai) (pid:Int) (fds:List Int) (k:Rs SS->Option R):b8 Qh 100 186 [KK.ah 26 l,KK.ah 28 pid,KK.ah 147 fds] [] (cg KK [26,40] k)=(CL shut l pid fds).run (λr=>k (.ret (.bj [KK.ah 26 r.1,KK.ah 40 r.2]))):=by kernel_rfl
noncomputable def aeb (sh:Sh):b6 SS:=cf KK 186 [26,28,147] (λ{R} xs k=>match xs with| .cons l (.cons pid (.cons fds .nil))=>(DU sh l pid fds).bind (λr=>k (.ret (.bj [KK.ah 26 r.1,KK.ah 40 r.2]))))
noncomputable def BB (sh:Sh):aK SS:= { (rU sh) with C:=aeb sh::(rU sh).C }
theorem QZ:aw (BB shut) Tryz.prog:=aw.cm HN λxs k z _ hz=>ct aaW (λ{R} xs k z h=>by
 match xs,h with
 | .cons l (.cons pid (.cons fds .nil)),h=>exact⟨100,(anT l pid fds k).trans (cv h)⟩) hz
noncomputable def CV (sh:Sh) (m:bG) (w:Int):T (Int):=
 .bd (yd sh m) λy0=>
  .bf (y0 !=0) (
   .ok y0)<|
  .bd (yi sh w) λy1=>
   .ok y1
noncomputable def uH (sh:Sh) (m:bG) (w:Int):Option (Int):=sh.s _ (CV sh m w).val
theorem an5 {R:Type} (m:bG) (w:Int) (k:Rs SS->Option R):b8 (BB shut) 100 225 [KK.ah 30 m,KK.ah 28 w] [] (cg KK [40] k)=(CV shut m w).run (λr=>k (.ret (.s (KK.ah 40 r)))):=by kernel_rfl
noncomputable def aep (sh:Sh):b6 SS:=cf KK 225 [30,28] (λ{R} xs k=>match xs with| .cons m (.cons w .nil)=>(uH sh m w).bind (λr=>k (.ret (.s (KK.ah 40 r)))))
noncomputable def wN (sh:Sh):aK SS:= { (BB sh) with C:=aep sh::(BB sh).C }
theorem HW:aw (wN shut) Tryz.prog:=aw.cm QZ λxs k z _ hz=>ct (aw.all QZ rfl) (λ{R} xs k z h=>by
 match xs,h with
 | .cons m (.cons w .nil),h=>exact⟨100,(an5 m w k).trans (cv h)⟩) hz
noncomputable def EG (p0:List ByteArray) (p1 p2:Int) (p3:List Int):AS SS:=⟨[(4,(va 0 0)),(6,(vo 1)),(7,(vi p2))],[(bX 188 [(.aV 185 p0),(lu p1)]),(rX 28 p3)],0,none,false,[],[]⟩
noncomputable def af0 (p0:List ByteArray) (p1:Int) (a0:Bool) (a1:Int) (a2:List Int):AS SS:= { EG p0 p1 p1 a2 with env:=[(21,(vb a0)),(20,(vi a1)),(4,(va 0 0)),(6,(vo 1)),(7,(vi a1))] }
noncomputable def tY (sh:Sh) (p0:List ByteArray) (p1:Int) (a:Int×List Int):T ((Int×List Int) ⊕ (Bool×Int×List Int)):=
 .bf (decide (a.1>=0)) (
  .bd (gF p0 none (some a.1) (some a.1)) λz0=>
   .bd (oX sh z0) λy1=>
    .bd (app 8 a.2 [y1.1]) λz2=>
     .ok (.inl ((IntKind.i64.wrap (a.1-1)),z2)))<|
 .ok (.inr ((decide (a.1>=0)),a.1,a.2))
noncomputable def IB (sh:Sh) (p0:List ByteArray) (p1 p2:Int) (p3:List Int):Option ((Bool×Int×List Int)):=da sh (tY sh p0 p1) 1000000 (p2,p3)
noncomputable def acx {R:Type} (k:AX->AS SS->Option R) (p0:List ByteArray) (p1:Int) (x:(Bool×Int×List Int)):Option R:=(λv=>k (.exit 0) (af0 p0 p1 v.1 v.2.1 v.2.2)) x
noncomputable def V5:bM SS:=cd 7 (λst=>(bE 185 (bq st 0 0)).bind λp0=>(bT (bq st 0 1)).bind λp1=>(bT (bD st 7 0)).bind λp2=>(dD st 1 28).bind λp3=>some (p0,p1,p2,p3)) (λp=>EG p.1 p.2.1 p.2.2.1 p.2.2.2) (λp=>IB shut p.1 p.2.1 p.2.2.1 p.2.2.2) (λk p=>acx k p.1 p.2.1)
theorem alK:aO KK Tryz.prog ⟨Tryz.f226,aE 226⟩ (b9 (bm Tryz.f226) 7) V5:=
 aO.da (π:=List ByteArray×Int×Int×List Int) (σ:=Int×List Int) (aw.all HW rfl) (aC.nil) rfl 60 (λp a=>EG p.1 p.2.1 a.1 a.2) (λp=>(p.2.2.1,p.2.2.2)) (St:=λp=>tY shut p.1 p.2.1) (λp=>1000000) (λp=>rfl)
  (λm p a k=>by kernel_rfl)
noncomputable def Qt:aK SS:= { (wN shut) with T:=bI ((wN shut).T) 226 ⟨⟨Tryz.f226,aE 226⟩,[V5]⟩ }
theorem aa8:aS Qt Tryz.prog:=(aS.cj (aw.all HW rfl) Tryz.func226 rfl bA λc hc=>by cases hc;exact aC.cons (aC.nil) (by kernel_rfl) alK)
noncomputable def CW (sh:Sh) (w:Int):T (List Int×Int):=
 .bd (sj sh w) λy0=>
  .bf (!y0.2) (
   .ok ([],310))<|
  .gd (EG y0.1.kP y0.1.yp (↑y0.1.kP.length:Int) [])<|
   .bd (IB sh y0.1.kP y0.1.yp ((↑y0.1.kP.length:Int)) []) λy1=>
    .ok (y1.2.2,0)
noncomputable def Kj (sh:Sh) (w:Int):Option (List Int×Int):=sh.s _ (CW sh w).val
theorem an6 {R:Type} (w:Int) (k:Rs SS->Option R):b8 Qt 100 226 [KK.ah 28 w] [] (cg KK [76,40] k)=(CW shut w).run (λr=>k (.ret (.bj [KK.ah 76 r.1,KK.ah 40 r.2]))):=by kernel_rfl
noncomputable def aeq (sh:Sh):b6 SS:=cf KK 226 [28] (λ{R} xs k=>match xs with| .cons w .nil=>(Kj sh w).bind (λr=>k (.ret (.bj [KK.ah 76 r.1,KK.ah 40 r.2]))))
noncomputable def wO (sh:Sh):aK SS:= { (wN sh) with C:=aeq sh::(wN sh).C }
theorem HX:aw (wO shut) Tryz.prog:=aw.cm HW λxs k z _ hz=>ct aa8 (λ{R} xs k z h=>by
 match xs,h with
 | .cons w .nil,h=>exact⟨100,(an6 w k).trans (cv h)⟩) hz
noncomputable def EP (p0 p1:List ByteArray) (p2:Int):AS SS:=⟨[(0,(vd 185 p0)),(1,(vd 185 p1)),(12,(vi (↑p0.length:Int))),(13,(vi p2))],[],0,none,false,[],[]⟩
noncomputable def Y1 (p0 p1:List ByteArray):AS SS:=EP p0 p1 0
noncomputable def agk (p0 p1:List ByteArray):AS SS:= { EP p0 p1 0 with env:=[(4,(vb false))] }
noncomputable def agl (p0 p1:List ByteArray) (a0:Bool) (a1:Int):AS SS:= { EP p0 p1 a1 with env:=[(14,(vb a0)),(0,(vd 185 p0)),(1,(vd 185 p1)),(12,(vi (↑p0.length:Int))),(13,(vi a1))] }
noncomputable def Ck (sh:Sh) (p0 p1:List ByteArray) (p2:Int) (z0:ByteArray) (a:Unit):T (Unit ⊕ Unit ⊕ (Bool×Int)):=
 .bd (idx p1 p2) λz1=>
  .bf (!ByteArray.toList z0==ByteArray.toList z1) (
   .ok (.inr (.inl ())))<|
  .ok (.inl ())
noncomputable def Bi (sh:Sh) (p0 p1:List ByteArray) (p2:Int) (a:Unit):T (Unit ⊕ (Bool×Int)):=
 .ok (.inr ((decide (p2<(↑p0.length:Int))),p2))
noncomputable def IP (sh:Sh) (p0 p1:List ByteArray):Option (Unit ⊕ (Bool×Int)):=cP sh (Ck sh p0 p1) (Bi sh p0 p1) p0 ()
noncomputable def acL {R:Type} (k:AX->AS SS->Option R) (p0 p1:List ByteArray) (x:Unit ⊕ (Bool×Int)):Option R:=(λx=>Sum.rec (λv=>k .ret (agk p0 p1)) (λv=>k (.exit 0) (agl p0 p1 v.1 v.2)) x) x
noncomputable def Wd:bM SS:=cd 5 (λst=>(bE 185 (bD st 0 0)).bind λp0=>(bE 185 (bD st 1 0)).bind λp1=>some (p0,p1)) (λp=>Y1 p.1 p.2) (λp=>IP shut p.1 p.2) (λk p=>acL k p.1 p.2)
theorem alX:aO KK Tryz.prog ⟨Tryz.f280,aE 280⟩ (b9 (bm Tryz.f280) 5) Wd:=
 aO.c_ (π:=List ByteArray×List ByteArray) (σ:=Unit) (aw.all HX rfl) (aC.nil) rfl 60 (λp i a=>EP p.1 p.2 i) (λp=>p.1) (λp=>()) (St:=λp=>Ck shut p.1 p.2) (F:=λp=>Bi shut p.1 p.2) (λp=>rfl)
  (λm p i a k=>by kernel_rfl) (by rintro p (x|x)<;>exact⟨_,_,λ_=>rfl⟩) (λp N C A O w a hr=>dQ hr (t:=185) (sl:=0) rfl λv h=>h)
noncomputable def Qw:aK SS:= { (wO shut) with T:=bI ((wO shut).T) 280 ⟨⟨Tryz.f280,aE 280⟩,[Wd]⟩ }
theorem aa':aS Qw Tryz.prog:=(aS.cj (aw.all HX rfl) Tryz.func280 rfl bA λc hc=>by cases hc;exact aC.cons (aC.nil) (by kernel_rfl) alX)
noncomputable def CY (sh:Sh) (a b:Int):T (Bool):=
 .bd (sj sh a) λy0=>
  .bd (sj sh b) λy1=>
   .bf (y0.2) (
    .bf (y1.2) (
     .bf (decide ((↑y0.1.kP.length:Int)<=(↑y1.1.kP.length:Int))) (
      .bd (gF y1.1.kP none (some (↑y0.1.kP.length:Int)) none) λz2=>
       .bf ((↑y0.1.kP.length:Int) !=(↑z2.length:Int)) (
        .ok false)<|
       .gd (Y1 y0.1.kP z2)<|
        .bd (IP sh y0.1.kP z2) λx9=> .cs x9 (λ_=>
         .ok false) λy3=>
         .ok true)<|
     .ok false)<|
    .ok false)<|
   .ok false
noncomputable def Kk (sh:Sh) (a b:Int):Option (Bool):=sh.s _ (CY sh a b).val
theorem an_ {R:Type} (a b:Int) (k:Rs SS->Option R):b8 Qw 100 261 [KK.ah 28 a,KK.ah 28 b] [] (cg KK [4] k)=(CY shut a b).run (λr=>k (.ret (.s (KK.ah 4 r)))):=by kernel_rfl
noncomputable def aeu (sh:Sh):b6 SS:=cf KK 261 [28,28] (λ{R} xs k=>match xs with| .cons a (.cons b .nil)=>(Kk sh a b).bind (λr=>k (.ret (.s (KK.ah 4 r)))))
noncomputable def wR (sh:Sh):aK SS:= { (wO sh) with C:=aeu sh::(wO sh).C }
theorem H2:aw (wR shut) Tryz.prog:=aw.cm HX λxs k z _ hz=>ct aa' (λ{R} xs k z h=>by
 match xs,h with
 | .cons a (.cons b .nil),h=>exact⟨100,(an_ a b k).trans (cv h)⟩) hz
noncomputable def Lc (p0:List az) (p1:Int) (p2:List (Int×Int)):AS SS:=⟨[(3,(vs (.mp 0))),(8,(vd 27 p0)),(9,(vi (↑p0.length:Int))),(10,(vi p1))],[(some (.map .u64 .u64 p2))],0,none,false,[],[]⟩
noncomputable def Zf (p0:List az) (p2:List (Int×Int)):AS SS:=Lc p0 0 p2
noncomputable def agV (p0:List az) (a0:Bool) (a1:Int) (a2:List (Int×Int)):AS SS:= { Lc p0 a1 a2 with env:=[(11,(vb a0)),(3,(vs (.mp 0))),(8,(vd 27 p0)),(9,(vi (↑p0.length:Int))),(10,(vi a1))] }
noncomputable def RE (sh:Sh) (p0:List az) (p1:Int) (z0:az) (a:(List (Int×Int))):T (((List (Int×Int))) ⊕ (Bool×Int×(List (Int×Int)))):=
 .ok (.inl (cR a z0.bp z0.aZ))
noncomputable def Hm (sh:Sh) (p0:List az) (p1:Int) (a:(List (Int×Int))):T ((Bool×Int×(List (Int×Int)))):=
 .ok ((decide (p1<(↑p0.length:Int))),p1,a)
noncomputable def I5 (sh:Sh) (p0:List az) (p2:List (Int×Int)):Option ((Bool×Int×(List (Int×Int)))):=cP sh (RE sh p0) (Hm sh p0) p0 p2
noncomputable def ac5 {R:Type} (k:AX->AS SS->Option R) (p0:List az) (x:(Bool×Int×(List (Int×Int)))):Option R:=(λv=>k (.exit 0) (agV p0 v.1 v.2.1 v.2.2)) x
noncomputable def Ws:bM SS:=cd 4 (λst=>(bE 27 (bD st 8 0)).bind λp0=>(je st 0).bind λp2=>some (p0,p2)) (λp=>Zf p.1 p.2) (λp=>I5 shut p.1 p.2) (λk p=>ac5 k p.1)
theorem amf:aO KK Tryz.prog ⟨Tryz.f97,aE 97⟩ (b9 (bm Tryz.f97) 4) Ws:=
 aO.c_ (π:=List az×(List (Int×Int))) (σ:=(List (Int×Int))) (aw.all H2 rfl) (aC.nil) rfl 60 (λp i a=>Lc p.1 i a) (λp=>p.1) (λp=>p.2) (St:=λp=>RE shut p.1) (F:=λp=>Hm shut p.1) (λp=>rfl)
  (λm p i a k=>by kernel_rfl) (λp x=>⟨_,_,λ_=>rfl⟩) (λp N C A O w a hr=>dQ hr (t:=27) (sl:=8) rfl λv h=>h)
noncomputable def Qi:aK SS:= { (wR shut) with T:=bI ((wR shut).T) 97 ⟨⟨Tryz.f97,aE 97⟩,[Ws]⟩ }
theorem aaX:aS Qi Tryz.prog:=(aS.cj (aw.all H2 rfl) Tryz.func97 rfl bA λc hc=>by cases hc;exact aC.cons (aC.nil) (by kernel_rfl) amf)
noncomputable def CN (sh:Sh) (m:bG) (w:Int):T (bG×Int×Int):=
 .bd (uH sh m w) λy0=>
  .bf (y0 !=0) (
   .ok (⟨[],0⟩,0,y0))<|
  .gd (Zf m.ab [])<|
   .bd (I5 sh m.ab []) λy1=>
    .bf (match b5 y1.2.2 w with
|some val=>true
|none=>false) (
     .ok (⟨[],0⟩,0,5))<|
    .bf ((↑m.ab.length:Int)==16) (
     .ok (⟨[],0⟩,0,6))<|
    .bf (decide (m.aN>1073741824)) (
     .ok (⟨[],0⟩,0,6))<|
    .bd (vF 16 ((↑m.ab.length:Int)) (IntKind.i64.wrap ((↑m.ab.length:Int)+1)) (az.mk 0 0)) λz2=>
     .bd (app 16 (cW z2 m.ab) [az.mk w m.aN]) λz3=>
      .ok (⟨z3,(IntKind.u64.wrap (m.aN+1))⟩,m.aN,0)
noncomputable def DW (sh:Sh) (m:bG) (w:Int):Option (bG×Int×Int):=sh.s _ (CN sh m w).val
theorem anV {R:Type} (m:bG) (w:Int) (k:Rs SS->Option R):b8 Qi 100 189 [KK.ah 30 m,KK.ah 28 w] [] (cg KK [30,28,40] k)=(CN shut m w).run (λr=>k (.ret (.bj [KK.ah 30 r.1,KK.ah 28 r.2.1,KK.ah 40 r.2.2]))):=by kernel_rfl
noncomputable def aed (sh:Sh):b6 SS:=cf KK 189 [30,28] (λ{R} xs k=>match xs with| .cons m (.cons w .nil)=>(DW sh m w).bind (λr=>k (.ret (.bj [KK.ah 30 r.1,KK.ah 28 r.2.1,KK.ah 40 r.2.2]))))
noncomputable def wK (sh:Sh):aK SS:= { (wR sh) with C:=aed sh::(wR sh).C }
theorem HO:aw (wK shut) Tryz.prog:=aw.cm H2 λxs k z _ hz=>ct aaX (λ{R} xs k z h=>by
 match xs,h with
 | .cons m (.cons w .nil),h=>exact⟨100,(anV m w k).trans (cv h)⟩) hz
noncomputable def Ld (p0:List az) (p1:Int) (p2:List (Int×Int)):AS SS:=⟨[(3,(vs (.mp 0))),(8,(vd 27 p0)),(9,(vi (↑p0.length:Int))),(10,(vi p1))],[(some (.map .u64 .u64 p2))],0,none,false,[],[]⟩
noncomputable def Zg (p0:List az) (p2:List (Int×Int)):AS SS:=Ld p0 0 p2
noncomputable def agW (p0:List az) (a0:Bool) (a1:Int) (a2:List (Int×Int)):AS SS:= { Ld p0 a1 a2 with env:=[(11,(vb a0)),(3,(vs (.mp 0))),(8,(vd 27 p0)),(9,(vi (↑p0.length:Int))),(10,(vi a1))] }
noncomputable def RF (sh:Sh) (p0:List az) (p1:Int) (z0:az) (a:(List (Int×Int))):T (((List (Int×Int))) ⊕ (Bool×Int×(List (Int×Int)))):=
 .ok (.inl (cR a z0.bp z0.aZ))
noncomputable def Hn (sh:Sh) (p0:List az) (p1:Int) (a:(List (Int×Int))):T ((Bool×Int×(List (Int×Int)))):=
 .ok ((decide (p1<(↑p0.length:Int))),p1,a)
noncomputable def I6 (sh:Sh) (p0:List az) (p2:List (Int×Int)):Option ((Bool×Int×(List (Int×Int)))):=cP sh (RF sh p0) (Hn sh p0) p0 p2
noncomputable def ac6 {R:Type} (k:AX->AS SS->Option R) (p0:List az) (x:(Bool×Int×(List (Int×Int)))):Option R:=(λv=>k (.exit 0) (agW p0 v.1 v.2.1 v.2.2)) x
noncomputable def Wt:bM SS:=cd 4 (λst=>(bE 27 (bD st 8 0)).bind λp0=>(je st 0).bind λp2=>some (p0,p2)) (λp=>Zg p.1 p.2) (λp=>I6 shut p.1 p.2) (λk p=>ac6 k p.1)
theorem amg:aO KK Tryz.prog ⟨Tryz.f97,aE 97⟩ (b9 (bm Tryz.f97) 4) Wt:=
 aO.c_ (π:=List az×(List (Int×Int))) (σ:=(List (Int×Int))) (aw.all HO rfl) (aC.nil) rfl 60 (λp i a=>Ld p.1 i a) (λp=>p.1) (λp=>p.2) (St:=λp=>RF shut p.1) (F:=λp=>Hn shut p.1) (λp=>rfl)
  (λm p i a k=>by kernel_rfl) (λp x=>⟨_,_,λ_=>rfl⟩) (λp N C A O w a hr=>dQ hr (t:=27) (sl:=8) rfl λv h=>h)
noncomputable def Qj:aK SS:= { (wK shut) with T:=bI ((wK shut).T) 97 ⟨⟨Tryz.f97,aE 97⟩,[Wt]⟩ }
theorem aaY:aS Qj Tryz.prog:=(aS.cj (aw.all HO rfl) Tryz.func97 rfl bA λc hc=>by cases hc;exact aC.cons (aC.nil) (by kernel_rfl) amg)
noncomputable def CO (sh:Sh) (m:bG) (w:Int):T (Int×Int):=
 .bd (uH sh m w) λy0=>
  .bf (y0 !=0) (
   .ok (0,y0))<|
  .gd (Zg m.ab [])<|
   .bd (I6 sh m.ab []) λy1=>
    .bf (!match b5 y1.2.2 w with
 |some val=>true
 |none=>false) (
     .ok (0,4))<|
    .ok ((match b5 y1.2.2 w with
|some x=>x
|none=>0),0)
noncomputable def DX (sh:Sh) (m:bG) (w:Int):Option (Int×Int):=sh.s _ (CO sh m w).val
theorem anX {R:Type} (m:bG) (w:Int) (k:Rs SS->Option R):b8 Qj 100 191 [KK.ah 30 m,KK.ah 28 w] [] (cg KK [28,40] k)=(CO shut m w).run (λr=>k (.ret (.bj [KK.ah 28 r.1,KK.ah 40 r.2]))):=by kernel_rfl
noncomputable def aef (sh:Sh):b6 SS:=cf KK 191 [30,28] (λ{R} xs k=>match xs with| .cons m (.cons w .nil)=>(DX sh m w).bind (λr=>k (.ret (.bj [KK.ah 28 r.1,KK.ah 40 r.2]))))
noncomputable def oH (sh:Sh):aK SS:= { (wK sh) with C:=aef sh::(wK sh).C }
theorem HP:aw (oH shut) Tryz.prog:=aw.cm HO λxs k z _ hz=>ct aaY (λ{R} xs k z h=>by
 match xs,h with
 | .cons m (.cons w .nil),h=>exact⟨100,(anX m w k).trans (cv h)⟩) hz
noncomputable def Le (p0:List az) (p1:Int) (p2:List (Int×Int)):AS SS:=⟨[(3,(vs (.mp 0))),(8,(vd 27 p0)),(9,(vi (↑p0.length:Int))),(10,(vi p1))],[(some (.map .u64 .u64 p2))],0,none,false,[],[]⟩
noncomputable def Zh (p0:List az) (p2:List (Int×Int)):AS SS:=Le p0 0 p2
noncomputable def agX (p0:List az) (a0:Bool) (a1:Int) (a2:List (Int×Int)):AS SS:= { Le p0 a1 a2 with env:=[(11,(vb a0)),(3,(vs (.mp 0))),(8,(vd 27 p0)),(9,(vi (↑p0.length:Int))),(10,(vi a1))] }
noncomputable def RG (sh:Sh) (p0:List az) (p1:Int) (z0:az) (a:(List (Int×Int))):T (((List (Int×Int))) ⊕ (Bool×Int×(List (Int×Int)))):=
 .ok (.inl (cR a z0.bp z0.aZ))
noncomputable def Ho (sh:Sh) (p0:List az) (p1:Int) (a:(List (Int×Int))):T ((Bool×Int×(List (Int×Int)))):=
 .ok ((decide (p1<(↑p0.length:Int))),p1,a)
noncomputable def I7 (sh:Sh) (p0:List az) (p2:List (Int×Int)):Option ((Bool×Int×(List (Int×Int)))):=cP sh (RG sh p0) (Ho sh p0) p0 p2
noncomputable def ac7 {R:Type} (k:AX->AS SS->Option R) (p0:List az) (x:(Bool×Int×(List (Int×Int)))):Option R:=(λv=>k (.exit 0) (agX p0 v.1 v.2.1 v.2.2)) x
noncomputable def FF:bM SS:=cd 4 (λst=>(bE 27 (bD st 8 0)).bind λp0=>(je st 0).bind λp2=>some (p0,p2)) (λp=>Zh p.1 p.2) (λp=>I7 shut p.1 p.2) (λk p=>ac7 k p.1)
theorem amh:aO KK Tryz.prog ⟨Tryz.f97,aE 97⟩ (b9 (bm Tryz.f97) 4) FF:=
 aO.c_ (π:=List az×(List (Int×Int))) (σ:=(List (Int×Int))) (aw.all HP rfl) (aC.nil) rfl 60 (λp i a=>Le p.1 i a) (λp=>p.1) (λp=>p.2) (St:=λp=>RG shut p.1) (F:=λp=>Ho shut p.1) (λp=>rfl)
  (λm p i a k=>by kernel_rfl) (λp x=>⟨_,_,λ_=>rfl⟩) (λp N C A O w a hr=>dQ hr (t:=27) (sl:=8) rfl λv h=>h)
noncomputable def KY (p0:List az) (p1 p2 p3:Int):AS SS:=⟨[(0,(vs .dW)),(2,(va 6 0)),(7,(vd 27 p0)),(8,(vi (↑p0.length:Int))),(9,(vi p3))],[(bX 30 [(.aV 27 p0),(lu p1)]),(bX 28 [(lu p2)]),(bX 30 [(.v (.slice none 0 0)),(lu 0)]),(bX 40 [(li 0)]),(some (.bN 260 [] [(.one (.bu 5 0)),(.one (.bu 6 0))])),(bX 30 [(.aV 27 p0),(lu p1)]),(bX 28 [(lu p2)])],7,(some ⟨⟨Tryz.f193,aE 193⟩,[29],(gN (bm Tryz.f193) 9),(gO (bm Tryz.f193) 9),[(2,(va 0 0)),(3,(va 1 0)),(4,(va 2 0)),(5,(va 3 0)),(28,(vc 4))],none⟩),false,[],[]⟩
noncomputable def YX (p0:List az) (p1 p2:Int):AS SS:=KY p0 p1 p2 0
noncomputable def aga (p0:List az) (p1 p2:Int):AS SS:=⟨[],[(bX 30 [(.aV 27 p0),(lu p1)]),(bX 28 [(lu p2)]),(bX 30 [(.v (.slice none 0 0)),(lu 0)]),(bX 40 [(li 341)]),(some (.bN 260 [] [(.one (.bu 5 0)),(.one (.bu 6 0))])),(bX 30 [(.aV 27 p0),(lu p1)]),(bX 28 [(lu p2)])],7,(some ⟨⟨Tryz.f193,aE 193⟩,[29],(gN (bm Tryz.f193) 9),(gO (bm Tryz.f193) 9),[(2,(va 0 0)),(3,(va 1 0)),(4,(va 2 0)),(5,(va 3 0)),(28,(vc 4))],(some .ret)⟩),false,[],[2,3]⟩
noncomputable def agb (p0:List az) (p1 p2:Int) (a0:Bool) (a1:Int):AS SS:= { KY p0 p1 p2 p1 with env:=[(10,(vb a0)),(0,(vs .dW)),(2,(va 6 0)),(7,(vd 27 p0)),(8,(vi (↑p0.length:Int))),(9,(vi a1))] }
noncomputable def Ci (sh:Sh) (p0:List az) (p1 p2 p3:Int) (z0:az) (a:Unit):T (Unit ⊕ Unit ⊕ (Bool×Int)):=
 .bf (z0.bp !=p2) (
  .bd (Kk sh p2 z0.bp) λy1=>
   .bf (y1) (
    .ok (.inr (.inl ())))<|
   .ok (.inl ()))<|
 .ok (.inl ())
noncomputable def Bg (sh:Sh) (p0:List az) (p1 p2 p3:Int) (a:Unit):T (Unit ⊕ (Bool×Int)):=
 .ok (.inr ((decide (p3<(↑p0.length:Int))),p3))
noncomputable def IJ (sh:Sh) (p0:List az) (p1 p2:Int):Option (Unit ⊕ (Bool×Int)):=cP sh (Ci sh p0 p1 p2) (Bg sh p0 p1 p2) p0 ()
noncomputable def acF {R:Type} (k:AX->AS SS->Option R) (p0:List az) (p1 p2:Int) (x:Unit ⊕ (Bool×Int)):Option R:=(λx=>Sum.rec (λv=>k .ret (aga p0 p1 p2)) (λv=>k (.exit 0) (agb p0 p1 p2 v.1 v.2)) x) x
noncomputable def M5:bM SS:=cd 2 (λst=>((ey st 4 260).bind λ_=>kC st 38 9).bind λ_=>(bE 27 (bD st 7 0)).bind λp0=>(bT (bq st 0 1)).bind λp1=>(bT (bq st 1 0)).bind λp2=>some (p0,p1,p2)) (λp=>YX p.1 p.2.1 p.2.2) (λp=>IJ shut p.1 p.2.1 p.2.2) (λk p=>acF k p.1 p.2.1 p.2.2)
noncomputable def aa0:aK SS:= { (oH shut) with T:=bI ((oH shut).T) 97 ⟨⟨Tryz.f97,aE 97⟩,[FF]⟩ }
theorem Ql:aS aa0 Tryz.prog:=(aS.cj (aw.all HP rfl) Tryz.func97 rfl bA λc hc=>by cases hc;exact aC.cons (aC.nil) (by kernel_rfl) amh)
theorem alR:aO KK Tryz.prog ⟨Tryz.f260,aE 260⟩ (b9 (bm Tryz.f260) 2) M5:=
 aO.c_ (π:=List az×Int×Int) (σ:=Unit) Ql (aC.nil) rfl 60 (λp i a=>KY p.1 p.2.1 p.2.2 i) (λp=>p.1) (λp=>()) (St:=λp=>Ci shut p.1 p.2.1 p.2.2) (F:=λp=>Bg shut p.1 p.2.1 p.2.2) (λp=>rfl)
  (λm p i a k=>by kernel_rfl) (by rintro p (x|x)<;>exact⟨_,_,λ_=>rfl⟩) (λp N C A O w a hr=>dQ hr (t:=27) (sl:=7) rfl λv h=>h)
noncomputable def KV (p0:List az) (p1 p2:Int) (p3:List az):AS SS:=⟨[(1,(vc 0)),(5,(vo 2)),(8,(vd 27 p0)),(9,(vi (↑p0.length:Int))),(10,(vi p2))],[(some (.bN 237 [] [(.one (.bu 1 0))])),(bX 28 [(lu p1)]),(rX 71 p3)],2,none,false,[],[]⟩
noncomputable def YS (p0:List az) (p1:Int) (p3:List az):AS SS:=KV p0 p1 0 p3
noncomputable def af4 (p0:List az) (p1:Int) (a0:Bool) (a1:Int) (a2:List az):AS SS:= { KV p0 p1 p1 a2 with env:=[(11,(vb a0)),(1,(vc 0)),(5,(vo 2)),(8,(vd 27 p0)),(9,(vi (↑p0.length:Int))),(10,(vi a1))] }
noncomputable def Cd (sh:Sh) (p0:List az) (p1 p2:Int) (z0:az) (a:List az):T (List az ⊕ (Bool×Int×List az)):=
 .bf (z0.bp !=p1) (
  .bd (app 16 a [z0]) λz1=>
   .ok (.inl z1))<|
 .ok (.inl a)
noncomputable def Bc (sh:Sh) (p0:List az) (p1 p2:Int) (a:List az):T ((Bool×Int×List az)):=
 .ok ((decide (p2<(↑p0.length:Int))),p2,a)
noncomputable def IE (sh:Sh) (p0:List az) (p1:Int) (p3:List az):Option ((Bool×Int×List az)):=cP sh (Cd sh p0 p1) (Bc sh p0 p1) p0 p3
noncomputable def acA {R:Type} (k:AX->AS SS->Option R) (p0:List az) (p1:Int) (x:(Bool×Int×List az)):Option R:=(λv=>k (.exit 0) (af4 p0 p1 v.1 v.2.1 v.2.2)) x
noncomputable def V7:bM SS:=cd 4 (λst=>(ey st 0 237).bind λ_=>(bE 27 (bD st 8 0)).bind λp0=>(bT (bq st 1 0)).bind λp1=>(dD st 2 71).bind λp3=>some (p0,p1,p3)) (λp=>YS p.1 p.2.1 p.2.2) (λp=>IE shut p.1 p.2.1 p.2.2) (λk p=>acA k p.1 p.2.1)
noncomputable def aa1:aK SS:= { (oH shut) with T:=bI (bI ((oH shut).T) 97 ⟨⟨Tryz.f97,aE 97⟩,[FF]⟩) 260 ⟨⟨Tryz.f260,aE 260⟩,[M5]⟩ }
theorem Qm:aS aa1 Tryz.prog:=(aS.cj Ql Tryz.func260 rfl bA λc hc=>by cases hc;exact aC.cons (aC.nil) (by kernel_rfl) alR)
theorem alN:aO KK Tryz.prog ⟨Tryz.f236,aE 236⟩ (b9 (bm Tryz.f236) 4) V7:=
 aO.c_ (π:=List az×Int×List az) (σ:=List az) Qm (aC.nil) rfl 60 (λp i a=>KV p.1 p.2.1 i a) (λp=>p.1) (λp=>p.2.2) (St:=λp=>Cd shut p.1 p.2.1) (F:=λp=>Bc shut p.1 p.2.1) (λp=>rfl)
  (λm p i a k=>by kernel_rfl) (λp x=>⟨_,_,λ_=>rfl⟩) (λp N C A O w a hr=>dQ hr (t:=27) (sl:=8) rfl λv h=>h)
noncomputable def Qn:aK SS:= { (oH shut) with T:=bI (bI (bI ((oH shut).T) 97 ⟨⟨Tryz.f97,aE 97⟩,[FF]⟩) 260 ⟨⟨Tryz.f260,aE 260⟩,[M5]⟩) 236 ⟨⟨Tryz.f236,aE 236⟩,[V7]⟩ }
theorem aa2:aS Qn Tryz.prog:=(aS.cj Qm Tryz.func236 rfl bA λc hc=>by cases hc;exact aC.cons (aC.nil) (by kernel_rfl) alN)
noncomputable def CQ (sh:Sh) (m:bG) (w:Int):T (bG×Int):=
 .bd (uH sh m w) λy0=>
  .bf (y0 !=0) (
   .ok (⟨[],0⟩,y0))<|
  .gd (Zh m.ab [])<|
   .bd (I7 sh m.ab []) λy1=>
    .bf (!match b5 y1.2.2 w with
 |some val=>true
 |none=>false) (
     .ok (⟨[],0⟩,4))<|
    .gd (YX m.ab m.aN w)<|
     .bd (IJ sh m.ab m.aN w) λx6=> .cs x6 (λ_=>
      .ok (⟨[],0⟩,341)) λy2=>
      .gd (YS m.ab w [])<|
       .bd (IE sh m.ab w []) λy3=>
        .ok (⟨y3.2.2,m.aN⟩,0)
noncomputable def DZ (sh:Sh) (m:bG) (w:Int):Option (bG×Int):=sh.s _ (CQ sh m w).val
theorem anZ {R:Type} (m:bG) (w:Int) (k:Rs SS->Option R):b8 Qn 100 193 [KK.ah 30 m,KK.ah 28 w] [] (cg KK [30,40] k)=(CQ shut m w).run (λr=>k (.ret (.bj [KK.ah 30 r.1,KK.ah 40 r.2]))):=by kernel_rfl
noncomputable def aeh (sh:Sh):b6 SS:=cf KK 193 [30,28] (λ{R} xs k=>match xs with| .cons m (.cons w .nil)=>(DZ sh m w).bind (λr=>k (.ret (.bj [KK.ah 30 r.1,KK.ah 40 r.2]))))
noncomputable def rV (sh:Sh):aK SS:= { (oH sh) with C:=aeh sh::(oH sh).C }
theorem HR:aw (rV shut) Tryz.prog:=aw.cm HP λxs k z _ hz=>ct aa2 (λ{R} xs k z h=>by
 match xs,h with
 | .cons m (.cons w .nil),h=>exact⟨100,(anZ m w k).trans (cv h)⟩) hz
noncomputable def Lb (p0:List az) (p1:Int) (p2:List (Int×Int)):AS SS:=⟨[(3,(vs (.mp 0))),(8,(vd 27 p0)),(9,(vi (↑p0.length:Int))),(10,(vi p1))],[(some (.map .u64 .u64 p2))],0,none,false,[],[]⟩
noncomputable def Ze (p0:List az) (p2:List (Int×Int)):AS SS:=Lb p0 0 p2
noncomputable def agU (p0:List az) (a0:Bool) (a1:Int) (a2:List (Int×Int)):AS SS:= { Lb p0 a1 a2 with env:=[(11,(vb a0)),(3,(vs (.mp 0))),(8,(vd 27 p0)),(9,(vi (↑p0.length:Int))),(10,(vi a1))] }
noncomputable def RD (sh:Sh) (p0:List az) (p1:Int) (z0:az) (a:(List (Int×Int))):T (((List (Int×Int))) ⊕ (Bool×Int×(List (Int×Int)))):=
 .ok (.inl (cR a z0.bp z0.aZ))
noncomputable def Hl (sh:Sh) (p0:List az) (p1:Int) (a:(List (Int×Int))):T ((Bool×Int×(List (Int×Int)))):=
 .ok ((decide (p1<(↑p0.length:Int))),p1,a)
noncomputable def I4 (sh:Sh) (p0:List az) (p2:List (Int×Int)):Option ((Bool×Int×(List (Int×Int)))):=cP sh (RD sh p0) (Hl sh p0) p0 p2
noncomputable def ac4 {R:Type} (k:AX->AS SS->Option R) (p0:List az) (x:(Bool×Int×(List (Int×Int)))):Option R:=(λv=>k (.exit 0) (agU p0 v.1 v.2.1 v.2.2)) x
noncomputable def M9:bM SS:=cd 4 (λst=>(bE 27 (bD st 8 0)).bind λp0=>(je st 0).bind λp2=>some (p0,p2)) (λp=>Ze p.1 p.2) (λp=>I4 shut p.1 p.2) (λk p=>ac4 k p.1)
theorem ame:aO KK Tryz.prog ⟨Tryz.f97,aE 97⟩ (b9 (bm Tryz.f97) 4) M9:=
 aO.c_ (π:=List az×(List (Int×Int))) (σ:=(List (Int×Int))) (aw.all HR rfl) (aC.nil) rfl 60 (λp i a=>Lb p.1 i a) (λp=>p.1) (λp=>p.2) (St:=λp=>RD shut p.1) (F:=λp=>Hl shut p.1) (λp=>rfl)
  (λm p i a k=>by kernel_rfl) (λp x=>⟨_,_,λ_=>rfl⟩) (λp N C A O w a hr=>dQ hr (t:=27) (sl:=8) rfl λv h=>h)
noncomputable def EA (p0:List Int) (p1:List (Int×Int)) (p2 p3:Int):AS SS:=⟨[(10,(vc 0)),(11,(vu p2)),(28,(vd 76 p0)),(29,(vi (↑p0.length:Int))),(30,(vi p3))],[(some (.bN 227 [] [(.one (.bu 1 0))])),(bX 153 [(.mp 2)]),(some (.map .u64 .u64 p1))],0,none,false,[],[]⟩
noncomputable def YP (p0:List Int) (p1:List (Int×Int)) (p2:Int):AS SS:=EA p0 p1 p2 0
noncomputable def afP (p0:List Int) (p1:List (Int×Int)) (a0:Bool) (a1 a2:Int) (a3:Bool) (a4 a5:Int):AS SS:= { EA p0 p1 a1 a1 with env:=[(38,(vb a0)),(37,(vu a1)),(11,(vu a1)),(36,(vu a1)),(35,(vu a2)),(34,(vc 0)),(13,(vu a2)),(33,(vu a2)),(32,(vs (.ptr 28 a2 0))),(31,(vb a3)),(10,(vc 0)),(11,(vu a4)),(28,(vd 76 p0)),(29,(vi (↑p0.length:Int))),(30,(vi a5))] }
noncomputable def afQ (p0:List Int) (p1:List (Int×Int)) (a0:Bool) (a1 a2:Int):AS SS:= { EA p0 p1 a1 a1 with env:=[(31,(vb a0)),(10,(vc 0)),(11,(vu a1)),(28,(vd 76 p0)),(29,(vi (↑p0.length:Int))),(30,(vi a2))] }
noncomputable def xn (sh:Sh) (p0:List Int) (p1:List (Int×Int)) (p3 z0 a:Int):T (Int ⊕ (Bool×Int×Int×Bool×Int×Int) ⊕ (Bool×Int×Int)):=
 .bf (decide ((b5 p1 z0).getD 0>0)) (
  .ok (.inr (.inl ((decide ((b5 p1 z0).getD 0>0)),((b5 p1 z0).getD 0),z0,(decide (p3<(↑p0.length:Int))),a,p3))))<|
 .ok (.inl ((b5 p1 z0).getD 0))
noncomputable def Hc (sh:Sh) (p0:List Int) (p1:List (Int×Int)) (p3 a:Int):T ((Bool×Int×Int×Bool×Int×Int) ⊕ (Bool×Int×Int)):=
 .ok (.inr ((decide (p3<(↑p0.length:Int))),a,p3))
noncomputable def Iv (sh:Sh) (p0:List Int) (p1:List (Int×Int)) (p2:Int):Option ((Bool×Int×Int×Bool×Int×Int) ⊕ (Bool×Int×Int)):=cP sh (xn sh p0 p1) (Hc sh p0 p1) p0 p2
noncomputable def acp {R:Type} (k:AX->AS SS->Option R) (p0:List Int) (p1:List (Int×Int)) (x:(Bool×Int×Int×Bool×Int×Int) ⊕ (Bool×Int×Int)):Option R:=(λx=>Sum.rec (λv=>k (.exit 0) (afP p0 p1 v.1 v.2.1 v.2.2.1 v.2.2.2.1 v.2.2.2.2.1 v.2.2.2.2.2)) (λv=>k (.exit 0) (afQ p0 p1 v.1 v.2.1 v.2.2)) x) x
noncomputable def V0:bM SS:=cd 10 (λst=>(ey st 0 227).bind λ_=>(bE 76 (bD st 28 0)).bind λp0=>(je st 2).bind λp1=>(bT (bD st 11 0)).bind λp2=>some (p0,p1,p2)) (λp=>YP p.1 p.2.1 p.2.2) (λp=>Iv shut p.1 p.2.1 p.2.2) (λk p=>acp k p.1 p.2.1)
noncomputable def aaQ:aK SS:= { (rV shut) with T:=bI ((rV shut).T) 97 ⟨⟨Tryz.f97,aE 97⟩,[M9]⟩ }
theorem Qb:aS aaQ Tryz.prog:=(aS.cj (aw.all HR rfl) Tryz.func97 rfl bA λc hc=>by cases hc;exact aC.cons (aC.nil) (by kernel_rfl) ame)
theorem alF:aO KK Tryz.prog ⟨Tryz.f183,aE 183⟩ (b9 (bm Tryz.f183) 10) V0:=
 aO.c_ (π:=List Int×(List (Int×Int))×Int) (σ:=Int) Qb (aC.nil) rfl 60 (λp i a=>EA p.1 p.2.1 a i) (λp=>p.1) (λp=>p.2.2) (St:=λp=>xn shut p.1 p.2.1) (F:=λp=>Hc shut p.1 p.2.1) (λp=>rfl)
  (λm p i a k=>by kernel_rfl) (by rintro p (x|x)<;>exact⟨_,_,λ_=>rfl⟩) (λp N C A O w a hr=>dQ hr (t:=76) (sl:=28) rfl λv h=>h)
noncomputable def Qc:aK SS:= { (rV shut) with T:=bI (bI ((rV shut).T) 97 ⟨⟨Tryz.f97,aE 97⟩,[M9]⟩) 183 ⟨⟨Tryz.f183,aE 183⟩,[V0]⟩ }
theorem aaR:aS Qc Tryz.prog:=(aS.cj Qb Tryz.func183 rfl bA λc hc=>by cases hc;exact aC.cons (aC.nil) (by kernel_rfl) alF)
noncomputable def CJ (sh:Sh) (m:bG) (w:Int):T (Int×Int):=
 .bd (uH sh m w) λy0=>
  .bf (y0 !=0) (
   .ok (0,y0))<|
  .bd (Kj sh w) λy1=>
   .gd (Ze m.ab [])<|
    .bd (I4 sh m.ab []) λy2=>
     .gd (YP y1.1 y2.2.2 0)<|
      .bd (Iv sh y1.1 y2.2.2 0) λx7=> .cs x7 (λy3=>
       .bf (y3.2.1==0) (
        .ok (0,4))<|
       .ok (y3.2.1,0)) λy3=>
       .bf (y3.2.1==0) (
        .ok (0,4))<|
       .ok (y3.2.1,0)
noncomputable def uF (sh:Sh) (m:bG) (w:Int):Option (Int×Int):=sh.s _ (CJ sh m w).val
theorem anR {R:Type} (m:bG) (w:Int) (k:Rs SS->Option R):b8 Qc 100 183 [KK.ah 30 m,KK.ah 28 w] [] (cg KK [28,40] k)=(CJ shut m w).run (λr=>k (.ret (.bj [KK.ah 28 r.1,KK.ah 40 r.2]))):=by kernel_rfl
noncomputable def ad_ (sh:Sh):b6 SS:=cf KK 183 [30,28] (λ{R} xs k=>match xs with| .cons m (.cons w .nil)=>(uF sh m w).bind (λr=>k (.ret (.bj [KK.ah 28 r.1,KK.ah 40 r.2]))))
noncomputable def wJ (sh:Sh):aK SS:= { (rV sh) with C:=ad_ sh::(rV sh).C }
theorem HM:aw (wJ shut) Tryz.prog:=aw.cm HR λxs k z _ hz=>ct aaR (λ{R} xs k z h=>by
 match xs,h with
 | .cons m (.cons w .nil),h=>exact⟨100,(anR m w k).trans (cv h)⟩) hz
noncomputable def Ew (p0:List aA) (p1:List ao) (p2 p3 p4:Int) (p5:List Int):AS SS:=⟨[(0,(vs .dW)),(2,(va 3 0)),(7,(vd 31 p0)),(8,(vi p3)),(9,(vi p4))],[(bX 76 [(.own 4)]),(some (.bN 122 [] [(.one (.bu 2 0)),(.one (.bu 3 0))])),(bX 34 [(.aV 31 p0),(.aV 32 p1)]),(bX 28 [(lu p2)]),(rX 28 p5)],4,(some ⟨⟨Tryz.f31,aE 31⟩,[13],(gN (bm Tryz.f31) 7),(gO (bm Tryz.f31) 7),[(5,(va 0 0)),(12,(vc 1))],none⟩),false,[],[0]⟩
noncomputable def aft (p0:List aA) (p1:List ao) (p2 p3:Int) (a0:Bool) (a1:Int) (a2:List Int):AS SS:= { Ew p0 p1 p2 p3 p2 a2 with env:=[(10,(vb a0)),(0,(vs .dW)),(2,(va 3 0)),(7,(vd 31 p0)),(8,(vi p3)),(9,(vi a1))] }
noncomputable def xh (sh:Sh) (p0:List aA) (p1:List ao) (p2 p3:Int) (a:Int×List Int):T ((Int×List Int) ⊕ (Bool×Int×List Int)):=
 .bf (decide (a.1<p3)) (
  .bd (idx p0 a.1) λz0=>
   .bf (z0.aa==p2) (
    .bd (app 8 a.2 [z0.bl]) λz1=>
     .ok (.inl ((IntKind.i64.wrap (a.1+1)),z1)))<|
   .ok (.inl ((IntKind.i64.wrap (a.1+1)),a.2)))<|
 .ok (.inr ((decide (a.1<p3)),a.1,a.2))
noncomputable def Ik (sh:Sh) (p0:List aA) (p1:List ao) (p2 p3 p4:Int) (p5:List Int):Option ((Bool×Int×List Int)):=da sh (xh sh p0 p1 p2 p3) 1000000 (p4,p5)
noncomputable def aca {R:Type} (k:AX->AS SS->Option R) (p0:List aA) (p1:List ao) (p2 p3:Int) (x:(Bool×Int×List Int)):Option R:=(λv=>k (.exit 0) (aft p0 p1 p2 p3 v.1 v.2.1 v.2.2)) x
noncomputable def VS:bM SS:=pS (λst=>gc (aE 122 2) (ka [0] (jk 0 0 28 (st))))<|cd 2 (λst=>((ey st 1 122).bind λ_=>kC st 19 7).bind λ_=>(bE 31 (bD st 7 0)).bind λp0=>(bE 32 (bq st 2 1)).bind λp1=>(bT (bq st 3 0)).bind λp2=>(bT (bD st 8 0)).bind λp3=>(bT (bD st 9 0)).bind λp4=>(dD st 4 28).bind λp5=>some (p0,p1,p2,p3,p4,p5)) (λp=>Ew p.1 p.2.1 p.2.2.1 p.2.2.2.1 p.2.2.2.2.1 p.2.2.2.2.2) (λp=>Ik shut p.1 p.2.1 p.2.2.1 p.2.2.2.1 p.2.2.2.2.1 p.2.2.2.2.2) (λk p=>aca k p.1 p.2.1 p.2.2.1 p.2.2.2.1)
theorem alw:aO KK Tryz.prog ⟨Tryz.f122,aE 122⟩ (b9 (bm Tryz.f122) 2) VS:=aO.pre (du.comp (du.gc (aE 122 2)) (du.comp (du.ka [0]) (du.jk 0 0 28)))<|
 aO.da (π:=List aA×List ao×Int×Int×Int×List Int) (σ:=Int×List Int) (aw.all HM rfl) (aC.nil) rfl 60 (λp a=>Ew p.1 p.2.1 p.2.2.1 p.2.2.2.1 a.1 a.2) (λp=>(p.2.2.2.2.1,p.2.2.2.2.2)) (St:=λp=>xh shut p.1 p.2.1 p.2.2.1 p.2.2.2.1) (λp=>1000000) (λp=>rfl)
  (λm p a k=>by kernel_rfl)
noncomputable def Qz:aK SS:= { (wJ shut) with T:=bI ((wJ shut).T) 122 ⟨⟨Tryz.f122,aE 122⟩,[VS]⟩ }
theorem abc:aS Qz Tryz.prog:=(aS.cj (aw.all HM rfl) Tryz.func122 rfl bA λc hc=>by cases hc;exact aC.cons (aC.nil) (by kernel_rfl) alw)
noncomputable def C1 (sh:Sh) (s:aL) (pid:Int):T (List Int):=
 .bd (oY sh s) λy0=>
  .bf (y0 !=0) (
   .ok [])<|
  .gd (Ew s.aB s.ax pid ((↑s.aB.length:Int)) 0 [])<|
   .bd (Ik sh s.aB s.ax pid ((↑s.aB.length:Int)) 0 []) λy1=>
    .ok y1.2.2
noncomputable def yc (sh:Sh) (s:aL) (pid:Int):Option (List Int):=sh.s _ (C1 sh s pid).val
theorem aob {R:Type} (s:aL) (pid:Int) (k:Rs SS->Option R):b8 Qz 100 31 [KK.ah 34 s,KK.ah 28 pid] [] (cg KK [76] k)=(C1 shut s pid).run (λr=>k (.ret (.s (KK.ah 76 r)))):=by kernel_rfl
noncomputable def aez (sh:Sh):b6 SS:=cf KK 31 [34,28] (λ{R} xs k=>match xs with| .cons s (.cons pid .nil)=>(yc sh s pid).bind (λr=>k (.ret (.s (KK.ah 76 r)))))
noncomputable def rY (sh:Sh):aK SS:= { (wJ sh) with C:=aez sh::(wJ sh).C }
theorem H5:aw (rY shut) Tryz.prog:=aw.cm HM λxs k z _ hz=>ct abc (λ{R} xs k z h=>by
 match xs,h with
 | .cons s (.cons pid .nil),h=>exact⟨100,(aob s pid k).trans (cv h)⟩) hz
noncomputable def Eu (p0:List ao) (p1:List aA) (p2 p3:Int) (p4:List ao):AS SS:=⟨[(5,(va 0 0)),(20,(vd 32 p0)),(21,(vi p2)),(22,(vi p3))],[(bX 128 [(.own 1),(.own 2)]),(rX 93 p1),(rX 82 p4)],0,none,false,[],[]⟩
noncomputable def afp (p0:List ao) (p1:List aA) (p2:Int) (a0:Bool) (a1:Int) (a2:List ao):AS SS:= { Eu p0 p1 p2 p2 a2 with env:=[(23,(vb a0)),(5,(va 0 0)),(20,(vd 32 p0)),(21,(vi p2)),(22,(vi a1))] }
noncomputable def Ru (sh:Sh) (p0:List ao) (p1:List aA) (p2:Int) (a:Int×List ao):T ((Int×List ao) ⊕ (Bool×Int×List ao)):=
 .bf (decide (a.1<p2)) (
  .bd (idx p0 a.1) λz0=>
   .bd (app 8 [] z0.bg) λz1=>
    .bd (app 32 a.2 [ao.mk z0.aa z1]) λz2=>
     .ok (.inl ((IntKind.i64.wrap (a.1+1)),z2)))<|
 .ok (.inr ((decide (a.1<p2)),a.1,a.2))
noncomputable def Ii (sh:Sh) (p0:List ao) (p1:List aA) (p2 p3:Int) (p4:List ao):Option ((Bool×Int×List ao)):=da sh (Ru sh p0 p1 p2) 1000000 (p3,p4)
noncomputable def ab8 {R:Type} (k:AX->AS SS->Option R) (p0:List ao) (p1:List aA) (p2:Int) (x:(Bool×Int×List ao)):Option R:=(λv=>k (.exit 0) (afp p0 p1 p2 v.1 v.2.1 v.2.2)) x
noncomputable def MU:bM SS:=pS (λst=>gc (aE 118 7) (jk 0 1 82 (st)))<|cd 7 (λst=>(bE 32 (bD st 20 0)).bind λp0=>(dD st 1 93).bind λp1=>(bT (bD st 21 0)).bind λp2=>(bT (bD st 22 0)).bind λp3=>(dD st 2 82).bind λp4=>some (p0,p1,p2,p3,p4)) (λp=>Eu p.1 p.2.1 p.2.2.1 p.2.2.2.1 p.2.2.2.2) (λp=>Ii shut p.1 p.2.1 p.2.2.1 p.2.2.2.1 p.2.2.2.2) (λk p=>ab8 k p.1 p.2.1 p.2.2.1)
theorem alr:aO KK Tryz.prog ⟨Tryz.f118,aE 118⟩ (b9 (bm Tryz.f118) 7) MU:=aO.pre (du.comp (du.gc (aE 118 7)) (du.jk 0 1 82))<|
 aO.da (π:=List ao×List aA×Int×Int×List ao) (σ:=Int×List ao) (aw.all H5 rfl) (aC.nil) rfl 60 (λp a=>Eu p.1 p.2.1 p.2.2.1 a.1 a.2) (λp=>(p.2.2.2.1,p.2.2.2.2)) (St:=λp=>Ru shut p.1 p.2.1 p.2.2.1) (λp=>1000000) (λp=>rfl)
  (λm p a k=>by kernel_rfl)
noncomputable def EK (p0:Int) (p1:List aA) (p2 p3:Int):AS SS:=⟨[(0,(vo 0)),(1,(vu p0)),(2,(vc 1)),(8,(vi (↑p1.length:Int))),(9,(vi p2)),(10,(vi p3))],[(rX 93 p1),(some (.bN 263 [] [(.one (.bu 2 0))])),(bX 276 [(.v (.func (.func 239) (.mk []) (.mk [])))])],3,none,false,[],[]⟩
noncomputable def agc (p0:Int) (p1:List aA) (a0:Bool) (a1 a2:Int):AS SS:= { EK p0 p1 p0 p0 with env:=[(17,(vb a0)),(16,(vi a1)),(15,(vi a2)),(0,(vo 0)),(1,(vu p0)),(2,(vc 1)),(8,(vi (↑p1.length:Int))),(9,(vi a2)),(10,(vi a1))] }
noncomputable def xt (sh:Sh) (p0:Int) (p1:List aA) (a:Int×Int):T ((Int×Int) ⊕ (Bool×Int×Int)):=
 .bf (decide (a.1<a.2)) (
  .bd (idx p1 (IntKind.i64.wrap ((IntKind.u64.wrap (IntKind.i64.wrap (a.1+a.2))).fdiv 2))) λz0=>
   .bd (p1[(IntKind.i64.wrap ((IntKind.u64.wrap (IntKind.i64.wrap (a.1+a.2))).fdiv 2)).toNat]?) λz1=>
    .bd (mW sh z1.bl p0) λy2=>
     .bf (decide (y2<0)) (
      .ok (.inl ((IntKind.i64.wrap (IntKind.i64.wrap ((IntKind.u64.wrap (IntKind.i64.wrap (a.1+a.2))).fdiv 2)+1)),a.2)))<|
     .ok (.inl (a.1,(IntKind.i64.wrap ((IntKind.u64.wrap (IntKind.i64.wrap (a.1+a.2))).fdiv 2)))))<|
 .ok (.inr ((decide (a.1<a.2)),a.2,a.1))
noncomputable def IK (sh:Sh) (p0:Int) (p1:List aA) (p2 p3:Int):Option ((Bool×Int×Int)):=da sh (xt sh p0 p1) 1000000 (p2,p3)
noncomputable def acG {R:Type} (k:AX->AS SS->Option R) (p0:Int) (p1:List aA) (x:(Bool×Int×Int)):Option R:=(λv=>k (.exit 0) (agc p0 p1 v.1 v.2.1 v.2.2)) x
noncomputable def V_:bM SS:=cd 4 (λst=>(ey st 1 263).bind λ_=>(bT (bD st 1 0)).bind λp0=>(dD st 0 93).bind λp1=>(bT (bD st 9 0)).bind λp2=>(bT (bD st 10 0)).bind λp3=>some (p0,p1,p2,p3)) (λp=>EK p.1 p.2.1 p.2.2.1 p.2.2.2) (λp=>IK shut p.1 p.2.1 p.2.2.1 p.2.2.2) (λk p=>acG k p.1 p.2.1)
noncomputable def aa3:aK SS:= { (rY shut) with T:=bI ((rY shut).T) 118 ⟨⟨Tryz.f118,aE 118⟩,[MU]⟩ }
theorem Qo:aS aa3 Tryz.prog:=(aS.cj (aw.all H5 rfl) Tryz.func118 rfl bA λc hc=>by cases hc;exact aC.cons (aC.nil) (by kernel_rfl) alr)
theorem alS:aO KK Tryz.prog ⟨Tryz.f262,aE 262⟩ (b9 (bm Tryz.f262) 4) V_:=
 aO.da (π:=Int×List aA×Int×Int) (σ:=Int×Int) Qo (aC.nil) rfl 60 (λp a=>EK p.1 p.2.1 a.1 a.2) (λp=>(p.2.2.1,p.2.2.2)) (St:=λp=>xt shut p.1 p.2.1) (λp=>1000000) (λp=>rfl)
  (λm p a k=>by kernel_rfl)
noncomputable def Qp:aK SS:= { (rY shut) with T:=bI (bI ((rY shut).T) 118 ⟨⟨Tryz.f118,aE 118⟩,[MU]⟩) 262 ⟨⟨Tryz.f262,aE 262⟩,[V_]⟩ }
theorem aa4:aS Qp Tryz.prog:=(aS.cj Qo Tryz.func262 rfl bA λc hc=>by cases hc;exact aC.cons (aC.nil) (by kernel_rfl) alS)
noncomputable def CR (sh:Sh) (s:aL) (name pid:Int):T (aL×Int):=
 .bd (oY sh s) λy0=>
  .bf (y0 !=0) (
   .bf (y0 !=0) (
    .ok (⟨[],[]⟩,y0))<|
   .bd (oZ sh name) λy1=>
    .bf (!y1) (
     .ok (⟨[],[]⟩,351))<|
    .bd (uI sh pid) λy2=>
     .bf (!y2) (
      .ok (⟨[],[]⟩,2))<|
     .no)<|
  .bd (app 16 [] s.aB) λz1=>
   .gd (Eu s.ax z1 ((↑s.ax.length:Int)) 0 [])<|
    .bd (Ii sh s.ax z1 ((↑s.ax.length:Int)) 0 []) λy2=>
     .bd (oZ sh name) λy3=>
      .bf (!y3) (
       .ok (⟨[],[]⟩,351))<|
      .bd (uI sh pid) λy4=>
       .bf (!y4) (
        .ok (⟨[],[]⟩,2))<|
       .gd (EK name z1 0 (↑z1.length:Int))<|
        .bd (IK sh name z1 0 ((↑z1.length:Int))) λy5=>
         .bf (decide (y5.2.2<(↑z1.length:Int))) (
          .bd (idx z1 y5.2.2) λz6=>
           .bd (z1[y5.2.2.toNat]?) λz7=>
            .bd (mW sh z7.bl name) λy8=>
             .bf (y8==0) (
              .ok (⟨[],[]⟩,5))<|
             .bf ((↑z1.length:Int)==16) (
              .ok (⟨[],[]⟩,6))<|
             .bd (vq z1 y5.2.2 [aA.mk name pid]) λz9=>
              .ok (⟨z9,y2.2.2⟩,0))<|
         .bf ((↑z1.length:Int)==16) (
          .ok (⟨[],[]⟩,6))<|
         .bd (vq z1 y5.2.2 [aA.mk name pid]) λz6=>
          .ok (⟨z6,y2.2.2⟩,0)
noncomputable def D3 (sh:Sh) (s:aL) (name pid:Int):Option (aL×Int):=sh.s _ (CR sh s name pid).val
theorem an0 {R:Type} (s:aL) (name pid:Int) (k:Rs SS->Option R):b8 Qp 100 194 [KK.ah 34 s,KK.ah 28 name,KK.ah 28 pid] [] (cg KK [34,40] k)=(CR shut s name pid).run (λr=>k (.ret (.bj [KK.ah 34 r.1,KK.ah 40 r.2]))):=by kernel_rfl
noncomputable def aei (sh:Sh):b6 SS:=cf KK 194 [34,28,28] (λ{R} xs k=>match xs with| .cons s (.cons name (.cons pid .nil))=>(D3 sh s name pid).bind (λr=>k (.ret (.bj [KK.ah 34 r.1,KK.ah 40 r.2]))))
noncomputable def wL (sh:Sh):aK SS:= { (rY sh) with C:=aei sh::(rY sh).C }
theorem HS:aw (wL shut) Tryz.prog:=aw.cm H5 λxs k z _ hz=>ct aa4 (λ{R} xs k z h=>by
 match xs,h with
 | .cons s (.cons name (.cons pid .nil)),h=>exact⟨100,(an0 s name pid k).trans (cv h)⟩) hz
noncomputable def EM (p0:List aA) (p1 p2 p3:Int):AS SS:=⟨[(0,(vd 31 p0)),(1,(vu p1)),(2,(vc 0)),(8,(vi (↑p0.length:Int))),(9,(vi p2)),(10,(vi p3))],[(some (.bN 263 [] [(.one (.bu 1 0))])),(bX 276 [(.v (.func (.func 239) (.mk []) (.mk [])))])],2,none,false,[],[]⟩
noncomputable def age (p0:List aA) (p1:Int) (a0:Bool) (a1 a2:Int):AS SS:= { EM p0 p1 p1 p1 with env:=[(17,(vb a0)),(16,(vi a1)),(15,(vi a2)),(0,(vd 31 p0)),(1,(vu p1)),(2,(vc 0)),(8,(vi (↑p0.length:Int))),(9,(vi a2)),(10,(vi a1))] }
noncomputable def xv (sh:Sh) (p0:List aA) (p1:Int) (a:Int×Int):T ((Int×Int) ⊕ (Bool×Int×Int)):=
 .bf (decide (a.1<a.2)) (
  .bd (idx p0 (IntKind.i64.wrap ((IntKind.u64.wrap (IntKind.i64.wrap (a.1+a.2))).fdiv 2))) λz0=>
   .bd (mW sh z0.bl p1) λy1=>
    .bf (decide (y1<0)) (
     .ok (.inl ((IntKind.i64.wrap (IntKind.i64.wrap ((IntKind.u64.wrap (IntKind.i64.wrap (a.1+a.2))).fdiv 2)+1)),a.2)))<|
    .ok (.inl (a.1,(IntKind.i64.wrap ((IntKind.u64.wrap (IntKind.i64.wrap (a.1+a.2))).fdiv 2)))))<|
 .ok (.inr ((decide (a.1<a.2)),a.2,a.1))
noncomputable def IM (sh:Sh) (p0:List aA) (p1 p2 p3:Int):Option ((Bool×Int×Int)):=da sh (xv sh p0 p1) 1000000 (p2,p3)
noncomputable def acI {R:Type} (k:AX->AS SS->Option R) (p0:List aA) (p1:Int) (x:(Bool×Int×Int)):Option R:=(λv=>k (.exit 0) (age p0 p1 v.1 v.2.1 v.2.2)) x
noncomputable def Wa:bM SS:=cd 4 (λst=>(ey st 0 263).bind λ_=>(bE 31 (bD st 0 0)).bind λp0=>(bT (bD st 1 0)).bind λp1=>(bT (bD st 9 0)).bind λp2=>(bT (bD st 10 0)).bind λp3=>some (p0,p1,p2,p3)) (λp=>EM p.1 p.2.1 p.2.2.1 p.2.2.2) (λp=>IM shut p.1 p.2.1 p.2.2.1 p.2.2.2) (λk p=>acI k p.1 p.2.1)
theorem alU:aO KK Tryz.prog ⟨Tryz.f262,aE 262⟩ (b9 (bm Tryz.f262) 4) Wa:=
 aO.da (π:=List aA×Int×Int×Int) (σ:=Int×Int) (aw.all HS rfl) (aC.nil) rfl 60 (λp a=>EM p.1 p.2.1 a.1 a.2) (λp=>(p.2.2.1,p.2.2.2)) (St:=λp=>xv shut p.1 p.2.1) (λp=>1000000) (λp=>rfl)
  (λm p a k=>by kernel_rfl)
noncomputable def Qs:aK SS:= { (wL shut) with T:=bI ((wL shut).T) 262 ⟨⟨Tryz.f262,aE 262⟩,[Wa]⟩ }
theorem aa7:aS Qs Tryz.prog:=(aS.cj (aw.all HS rfl) Tryz.func262 rfl bA λc hc=>by cases hc;exact aC.cons (aC.nil) (by kernel_rfl) alU)
noncomputable def CT (sh:Sh) (s:aL) (name:Int):T (Int×Int):=
 .bd (oY sh s) λy0=>
  .bf (y0 !=0) (
   .ok (0,350))<|
  .bd (oZ sh name) λy1=>
   .bf (!y1) (
    .ok (0,351))<|
   .gd (EM s.aB name 0 (↑s.aB.length:Int))<|
    .bd (IM sh s.aB name 0 ((↑s.aB.length:Int))) λy2=>
     .bf (decide (y2.2.2<(↑s.aB.length:Int))) (
      .bd (idx s.aB y2.2.2) λz3=>
       .bd (mW sh z3.bl name) λy4=>
        .bf (!y4==0) (
         .ok (0,4))<|
        .bd (idx s.aB y2.2.2) λz5=>
         .ok (z5.aa,0))<|
     .ok (0,4)
noncomputable def uG (sh:Sh) (s:aL) (name:Int):Option (Int×Int):=sh.s _ (CT sh s name).val
theorem an2 {R:Type} (s:aL) (name:Int) (k:Rs SS->Option R):b8 Qs 100 196 [KK.ah 34 s,KK.ah 28 name] [] (cg KK [28,40] k)=(CT shut s name).run (λr=>k (.ret (.bj [KK.ah 28 r.1,KK.ah 40 r.2]))):=by kernel_rfl
noncomputable def aek (sh:Sh):b6 SS:=cf KK 196 [34,28] (λ{R} xs k=>match xs with| .cons s (.cons name .nil)=>(uG sh s name).bind (λr=>k (.ret (.bj [KK.ah 28 r.1,KK.ah 40 r.2]))))
noncomputable def BE (sh:Sh):aK SS:= { (wL sh) with C:=aek sh::(wL sh).C }
theorem Q1:aw (BE shut) Tryz.prog:=aw.cm HS λxs k z _ hz=>ct aa7 (λ{R} xs k z h=>by
 match xs,h with
 | .cons s (.cons name .nil),h=>exact⟨100,(an2 s name k).trans (cv h)⟩) hz
end Go.Proofs.YtdhaaaeffhaadaaGreatDoor
end
section
namespace Go.Vx
open Go.RowKit Go.Dc
section
variable {S:bO} {K:bS S} {P:Program}
theorem yo {X:Type} {t:T X} {x:X} (h:shut.s _ t.val=some x):t.val=some x:=by rw[rJ] at h;exact h
theorem wb {G:aK S} (hG:aS G P) {n f:Nat} {ap2:List (aG S)} {rs:List Nat} {X:Type} {t:T X} {kf: {R:Type}->(Rs S->Option R)->X->Option R}
  (h: ∀ {R:Type} (k:Rs S->Option R),b8 G n f ap2 [] (cg G.K rs k)=t.run (kf k)) (hp:ap2.all aG.pure=true) {x:X} (hx:t.val=some x) {r:Rs S} (hr: ∀ {R:Type} (k:Rs S->Option R),kf k x=k r):fY G.K P f ap2 r:=by
 have U:b8 G n f ap2 [] (cg G.K rs (λr=>some (ULift.up.{0} r).down))=some r:=by
  rw[h,T.At,hx]
  exact hr _
 obtain⟨r',h',dt,h2,h3⟩:=RR hG U
 obtain⟨XH,h4,h5⟩:=fY.W8 hG.K hp h3 h2
 obtain⟨r3,h6,h7⟩:=Xr hG.K h4 h5
 have e:r3=r:=by simpa using h6
 rw[<-e]
 exact h7
theorem jo (hK:cQ K P) {A:Pl} {O:List Nat} {w:World} {t:Nat} {x:S.El t} {v:Value} (hs:(S.ty t).agg=(match K.ah t x with| .agg _=>true| .one _=>false)) (U:(match K.ah t x with| .agg _=>true| .one l=>Nat.beq l.sz 1)=true) (h:(S.ty t).is O w v x):(K.ah t x).rel A O w v:=by
 obtain⟨cs,hr,hv⟩:=h
 have jf:=hK.ah A O w t x cs hr
 unfold Ty.mk' at hv
 revert jf hs U
 cases K.ah t x with
 |agg ls=>
  intro hs U jf
  rw[hs] at hv
  exact⟨cs,hv,jf⟩
 |one l=>
  intro hs U jf
  rw[hs] at hv
  obtain⟨ys,zs,rfl,h2,h3⟩:=jf
  rw[show zs=[] from h3,List.append_nil] at hv
  have hl:=h2.len
  rw[Nat.eq_of_beq_eq_true U] at hl
  match ys,hl with
  |[u],_=>
   have:v=u:=hv
   rw[this]
   exact h2
theorem MO (hK:cQ K P) {A:Pl} {O:List Nat} {w:World} {t:Nat} {x:S.El t} {v:Value} (hc:K.cls t (K.ah t x).cells=some x) (hs:(S.ty t).agg=(match K.ah t x with| .agg _=>true| .one _=>false)) (h:(K.ah t x).rel A O w v):(S.ty t).is O w v x:=by
 revert hc hs h
 cases K.ah t x with
 |agg ls=>
  rintro hc hs ⟨cs,rfl,hr⟩
  exact⟨cs,hK.cls A O w t ls x cs hc hr,by unfold Ty.mk';rw[hs];rfl⟩
 |one l=>
  intro hc hs hr
  exact⟨[v],hK.cls A O w t [l] x [v] hc ⟨[v],[],rfl,hr,rfl⟩,by unfold Ty.mk';rw[hs];rfl⟩
theorem JS (hK:cQ K P) {f:Nat} {ts:List Nat} {spec: {R:Type}->mO S ts->(Rs S->Option R)->Option R}
  (h: ∀ {R:Type} (xs:mO S ts) (k:Rs S->Option R) (z:R),spec xs k=some z-> ∃r,k r=some z/\fY K P f (ru K xs) r) {R:Type} (ap2:List (aG S)) (k:Rs S->Option R) (z:R) (_:ap2.all aG.pure=true) (hz:(cf K f ts spec).out ap2 k=some z): ∃r,k r=some z/\fY K P f ap2 r:=by
 simp only[cf] at hz
 split at hz
 rotate_left
 ·cases hz
 rename_i xs fe
 cases hp:(ru K xs).all aG.pure<;>rw[hp] at hz
 ·cases hz
 simp only[cond_true] at hz
 obtain⟨r,U,h2⟩:=h xs k z hz
 exact⟨r,U,h2.1,λA O w vs hv hO hG=>h2.2 A O w vs (Ga hK fe hv) hO hG⟩
theorem MN {α:Type} {T:Ty α} {O:List Nat} {w:World} {v:Value} {x:α} (h:T.is O w v x):T.is [] w v x:=h.tr (Tr.less λ_ hk=>by cases hk)
end
end Go.Vx
end
section
namespace Go.Proofs.YtdhaaaeffhaadaaGreatDoor
open Go.RowKit Go.Dc Go.Vx
set_option maxRecDepth 100000
set_option maxHeartbeats 4000000
noncomputable def RJ (sh:Sh) (b:ao):T (Int):=
 .ok b.aa
noncomputable def DQ (sh:Sh) (b:ao):Option (Int):=sh.s _ (RJ sh b).val
theorem anL {R:Type} (b:ao) (k:Rs SS->Option R):b8 (BE shut) 100 168 [KK.ah 82 b] [] (cg KK [28] k)=(RJ shut b).run (λr=>k (.ret (.s (KK.ah 28 r)))):=by kernel_rfl
noncomputable def ad4 (sh:Sh):b6 SS:=cf KK 168 [82] (λ{R} xs k=>match xs with| .cons b .nil=>(DQ sh b).bind (λr=>k (.ret (.s (KK.ah 28 r)))))
noncomputable def wD (sh:Sh):aK SS:= { (BE sh) with C:=ad4 sh::(BE sh).C }
theorem HH:aw (wD shut) Tryz.prog:=aw.cm Q1 λxs k z _ hz=>ct (aw.all Q1 rfl) (λ{R} xs k z h=>by
 match xs,h with
 | .cons b .nil,h=>exact⟨100,(anL b k).trans (cv h)⟩) hz
noncomputable def EC (p0:List ao) (p1 p2 p3:Int):AS SS:=⟨[(0,(vd 32 p0)),(1,(vu p1)),(2,(vc 0)),(8,(vi (↑p0.length:Int))),(9,(vi p2)),(10,(vi p3))],[(some (.bN 205 [] [(.one (.bu 1 0))])),(bX 220 [(.v (.func (.func 168) (.mk []) (.mk [])))])],2,none,false,[],[]⟩
noncomputable def afT (p0:List ao) (p1:Int) (a0:Bool) (a1 a2:Int):AS SS:= { EC p0 p1 p1 p1 with env:=[(17,(vb a0)),(16,(vi a1)),(15,(vi a2)),(0,(vd 32 p0)),(1,(vu p1)),(2,(vc 0)),(8,(vi (↑p0.length:Int))),(9,(vi a2)),(10,(vi a1))] }
noncomputable def xo (sh:Sh) (p0:List ao) (p1:Int) (a:Int×Int):T ((Int×Int) ⊕ (Bool×Int×Int)):=
 .bf (decide (a.1<a.2)) (
  .bd (idx p0 (IntKind.i64.wrap ((IntKind.u64.wrap (IntKind.i64.wrap (a.1+a.2))).fdiv 2))) λz0=>
   .bd (DQ sh z0) λy1=>
    .bd (mW sh y1 p1) λy2=>
     .bf (decide (y2<0)) (
      .ok (.inl ((IntKind.i64.wrap (IntKind.i64.wrap ((IntKind.u64.wrap (IntKind.i64.wrap (a.1+a.2))).fdiv 2)+1)),a.2)))<|
     .ok (.inl (a.1,(IntKind.i64.wrap ((IntKind.u64.wrap (IntKind.i64.wrap (a.1+a.2))).fdiv 2)))))<|
 .ok (.inr ((decide (a.1<a.2)),a.2,a.1))
noncomputable def Ix (sh:Sh) (p0:List ao) (p1 p2 p3:Int):Option ((Bool×Int×Int)):=da sh (xo sh p0 p1) 1000000 (p2,p3)
noncomputable def acr {R:Type} (k:AX->AS SS->Option R) (p0:List ao) (p1:Int) (x:(Bool×Int×Int)):Option R:=(λv=>k (.exit 0) (afT p0 p1 v.1 v.2.1 v.2.2)) x
noncomputable def V2:bM SS:=cd 4 (λst=>(ey st 0 205).bind λ_=>(bE 32 (bD st 0 0)).bind λp0=>(bT (bD st 1 0)).bind λp1=>(bT (bD st 9 0)).bind λp2=>(bT (bD st 10 0)).bind λp3=>some (p0,p1,p2,p3)) (λp=>EC p.1 p.2.1 p.2.2.1 p.2.2.2) (λp=>Ix shut p.1 p.2.1 p.2.2.1 p.2.2.2) (λk p=>acr k p.1 p.2.1)
theorem alH:aO KK Tryz.prog ⟨Tryz.f204,aE 204⟩ (b9 (bm Tryz.f204) 4) V2:=
 aO.da (π:=List ao×Int×Int×Int) (σ:=Int×Int) (aw.all HH rfl) (aC.nil) rfl 60 (λp a=>EC p.1 p.2.1 a.1 a.2) (λp=>(p.2.2.1,p.2.2.2)) (St:=λp=>xo shut p.1 p.2.1) (λp=>1000000) (λp=>rfl)
  (λm p a k=>by kernel_rfl)
noncomputable def GY:aK SS:= { (wD shut) with T:=bI ((wD shut).T) 204 ⟨⟨Tryz.f204,aE 204⟩,[V2]⟩ }
theorem aaA:aS GY Tryz.prog:=(aS.cj (aw.all HH rfl) Tryz.func204 rfl bA λc hc=>by cases hc;exact aC.cons (aC.nil) (by kernel_rfl) alH)
noncomputable def CD (sh:Sh) (l:List ao) (pid:Int):T (Int×Bool):=
 .gd (EC l pid 0 (↑l.length:Int))<|
  .bd (Ix sh l pid 0 ((↑l.length:Int))) λy0=>
   .bf (decide (y0.2.2<(↑l.length:Int))) (
    .bd (idx l y0.2.2) λz1=>
     .bd (DQ sh z1) λy2=>
      .bd (mW sh y2 pid) λy3=>
       .ok (y0.2.2,(y3==0)))<|
   .ok (y0.2.2,false)
noncomputable def Ki (sh:Sh) (l:List ao) (pid:Int):Option (Int×Bool):=sh.s _ (CD sh l pid).val
theorem anK {R:Type} (l:List ao) (pid:Int) (k:Rs SS->Option R):b8 GY 100 167 [KK.ah 32 l,KK.ah 28 pid,(.one (.v (.func (.func 168) #[] #[])):aG SS)] [] (cg KK [3,4] k)=(CD shut l pid).run (λr=>k (.ret (.bj [KK.ah 3 r.1,KK.ah 4 r.2]))):=by kernel_rfl
theorem ae8 (l:List ao) (pid:Int) {x:Int×Bool} (h:Ki shut l pid=some x):fY KK Tryz.prog 167 [KK.ah 32 l,KK.ah 28 pid,(.one (.v (.func (.func 168) #[] #[])):aG SS)] (.ret (.bj [KK.ah 3 x.1,KK.ah 4 x.2])):=wb (G:=GY) aaA (kf:=λ{R} (k:Rs SS->Option R)=>(λr=>k (.ret (.bj [KK.ah 3 r.1,KK.ah 4 r.2])))) (λk=>anK l pid k) rfl (yo h) λk=>rfl
end Go.Proofs.YtdhaaaeffhaadaaGreatDoor
end
section
namespace Go.Dc
open Go.RowKit
section
variable {P:Program} {r:Option Nat} {N:Nat} {ops:Array Oper} {Q:Exit->Act->World->Prop} {ds:List Deferred}
theorem ao1 {id:Nat} {E:Env} {w:World} (hm:P.follows .mixedOrders=true) (bh:List dp) (Φ:List (Bool->World->Value->Prop)) (kk:Nat) (cl:List Nat) (I:Bool->World->Prop) (hlen:Nat.ble bh.length ops.size=true) (pO:AG ops bh.length=true) (Fl:Φ.length=bh.length) (kU:vS N ops bh bh 0=true)
  (qW:kk<bh.length) (Lr: ∀o,ops[kk]? =some o-> ∀x∈cl,x∈sd ops 12 (dS o)) (hI:I false w.drew)
  (sP: ∀i p φ,bh[i]? =some p->Φ[i]? =some φ-> ∀ph a w',(ph=true->i≠kk/\i∉cl)->I ph w'->a.tmps.size=N->a.defers=ds->(∀s,p.base.contains s=true-> ∀v,E.get s=some v->a.tmps.getD s undef=v)->
   (∀(j:Nat),p.sf.contains j=true-> ∀(q:dp) (ψ:Bool->World->Value->Prop),bh[j]? =some q->Φ[j]? =some ψ->ψ ph w' (a.tmps.getD q.d undef))->gR P r ops Q i p.d a w' (λv cN=>φ (ph||Nat.beq i kk) cN v/\I (ph||Nat.beq i kk) cN/\ ∀(j:Nat) (ψ:Bool->World->Value->Prop) u,j≠i->Φ[j]? =some ψ->ψ ph w' u->ψ (ph||Nat.beq i kk) cN u))
  (pr: ∀a w',I true w'->a.tmps.size=N->a.defers=ds->(∀s v,E.get s=some v->(bh.any λp=>Nat.beq p.d s)=false->a.tmps.getD s undef=v)->
   (∀(i:Nat) (p:dp) (φ:Bool->World->Value->Prop),bh[i]? =some p->Φ[i]? =some φ->φ true w' (a.tmps.getD p.d undef))->wpOpsIn (fw r) 0 P ops Q (List.range' bh.length (ops.size-bh.length)) a w'):
  WC P r N (.region id ops true) Q E ds w:=by
 have hle:=Nat.le_of_ble_eq_true hlen
 intro a ha
 refine wpIn_region_draw λt=>?_
 simp only[Region.schedule,hm,Bool.true_or,if_true]
 refine wpAnyIn_sound ops.size t _ a _ ?_
 have key: ∀(fuel:Nat) (listed:Array Bool) (ph:Bool) (a:Act) (w':World),listed.getD kk true=ph->listed.size=ops.size->gb listed bh.length+(ops.size-bh.length)=fuel->(∀k,bh.length<=k->k<ops.size->listed.getD k true=false)->I ph w'->a.tmps.size=N->a.defers=ds->
   (∀(k:Nat) (o:Oper),ops[k]? =some o->listed.getD k true=true-> ∀x∈dS o,listed.getD x true=true)->
   (∀s v,E.get s=some v->(∀(k:Nat) (p:dp),bh[k]? =some p->p.d=s->listed.getD k true=false)->a.tmps.getD s undef=v)->
   (∀(i:Nat) (p:dp) (φ:Bool->World->Value->Prop),bh[i]? =some p->Φ[i]? =some φ->listed.getD i true=true->φ ph w' (a.tmps.getD p.d undef))->
   wpAnyIn (fw r) 0 P .any ops Q fuel listed a w':=by
  intro fuel
  induction fuel with
  |zero=>
   intro listed ph a w' n6 hs hl ht hF hN hd bU hb hr
   have h0:gb listed bh.length=0:=by omega
   have fy:=vC _ h0
   have sK:ph=true:=by rw[<-n6];exact fy kk qW
   subst sK
   have hc:ops.size-bh.length=0:=by omega
   refine GC pO 0 bh.length listed a w' (Nat.le_refl _) (by omega) hs (λk hk=>fy k hk) ht bU ?_
   have m4:=pr a w' hF hN hd (λs v hv aU=>hb s v hv λk p hp e=>by
    rw[List.any_eq_false] at aU
    have:=aU p (List.mem_of_getElem? hp)
    rw[e] at this;simp at this) λi p φ hp gz=>hr i p φ hp gz (fy i (List.getElem?_eq_some_iff.1 hp).1)
   rw[hc] at m4
   exact m4
  |succ fuel ih=>
   intro listed ph a w' n6 hs hl ht hF hN hd bU hb hr
   by_cases h0:gb listed bh.length=0
   ·have fy:=vC _ h0
    have sK:ph=true:=by rw[<-n6];exact fy kk qW
    subst sK
    refine GC pO (fuel+1) bh.length listed a w' (Nat.le_refl _) (by omega) hs (λk hk=>fy k hk) ht bU ?_
    have m4:=pr a w' hF hN hd (λs v hv aU=>hb s v hv λk p hp e=>by
     rw[List.any_eq_false] at aU
     have:=aU p (List.mem_of_getElem? hp)
     rw[e] at this;simp at this) λi p φ hp gz=>hr i p φ hp gz (fy i (List.getElem?_eq_some_iff.1 hp).1)
    rw[show ops.size-bh.length=fuel+1 by omega] at m4
    exact m4
   refine⟨λsM=>?_,λi hi=>?_⟩
   ·exfalso
    obtain⟨i,U,h2,h3⟩:=zM bh.length h0
    have pE:i<bh.length:=U
    obtain⟨⟨o,ho,_,kS,_⟩,_⟩:=rz kU i bh[i] (List.getElem?_eq_getElem pE)
    simp only[Nat.zero_add] at ho kS
    have:i∈Region.ready .any ops listed:=by
     unfold Region.ready
     rw[List.mem_filter]
     refine⟨by simp;omega,?_⟩
     rw[h2,ho]
     simp only[Bool.not_false,Bool.true_and,Option.map_some,Option.getD_some,Array.all_eq_true_iff_forall_mem]
     intro e he
     cases iH:Region.binds .any e with
     |false=>simp
     |true=>
      have aH:=kS e.on (od.2 ⟨e,he,iH,rfl⟩)
      have:=h3 e.on aH
      have bz:e.on<listed.size:=by omega
      simp only[Array.getD_eq_getD_getElem?,Array.getElem?_eq_getElem bz,Option.getD_some] at this ⊢
      simp[this]
    rw[sM] at this
    cases this
   ·unfold Region.ready at hi
    rw[List.mem_filter] at hi
    obtain⟨zb,gV⟩:=hi
    have dq:i<ops.size:=by simpa using zb
    have pE:i<bh.length:=by
     rcases Nat.lt_or_ge i bh.length with h|dJ
     ·exact h
     ·exfalso
      obtain⟨o,ho,fy,Lk⟩:=GA pO i dJ dq
      rw[ho] at gV
      simp only[Bool.and_eq_true,Bool.not_eq_true',Option.map_some,Option.getD_some,Array.all_eq_true_iff_forall_mem] at gV
      obtain⟨k,U,h2,_⟩:=zM bh.length h0
      have h5:=se bU 12 (dS o) (λx hx=>by
       obtain⟨e,he,iH,zo⟩:=od.1 hx
       have h3:=gV.2 e he
       rw[iH] at h3
       simp only[Bool.not_true,Bool.false_or] at h3
       have Vn:=Lk x hx
       have bz:e.on<listed.size:=by omega
       rw[<-zo]
       simp only[Array.getD_eq_getD_getElem?,Array.getElem?_eq_getElem bz,Option.getD_some] at h3 ⊢
       exact h3) k (fy k (by omega))
      rw[h5] at h2;cases h2
    have LU:i<Φ.length:=by omega
    have hp:=List.getElem?_eq_getElem pE
    have gz:=List.getElem?_eq_getElem LU
    obtain⟨⟨o,ho,pt,kS,Lx⟩,Lv,yR,_⟩:=rz kU i bh[i] hp
    simp only[Nat.zero_add] at ho kS yR
    rw[ho] at gV
    simp only[Bool.and_eq_true,Bool.not_eq_true',Option.map_some,Option.getD_some,Array.all_eq_true_iff_forall_mem] at gV
    obtain⟨gx,pM⟩:=gV
    have qO: ∀x∈dS o,listed.getD x true=true:=by
     intro x hx
     obtain⟨e,he,iH,rfl⟩:=od.1 hx
     have U:=pM e he
     rw[iH] at U
     simp only[Bool.not_true,Bool.false_or] at U
     have aH:=kS e.on hx
     have bz:e.on<listed.size:=by omega
     simp only[Array.getD_eq_getD_getElem?,Array.getElem?_eq_getElem bz,Option.getD_some] at U ⊢
     exact U
    refine sP i _ _ hp gz ph a w' ?_ hF hN hd ?_ ?_ _ ?_
    ·intro sK
     rw[sK] at n6
     refine⟨λe=>by(rw[e,n6] at gx;cases gx),λaiO=>?_⟩
     have jB:kk<ops.size:=by omega
     have hko:=Lr _ (Array.getElem?_eq_getElem jB) i aiO
     have:=se bU 12 (dS ops[kk]) (λx hx=>bU kk _ (Array.getElem?_eq_getElem jB) n6 x hx) i hko
     rw[this] at gx;cases gx
    ·intro s Mf v hv
     have pN:s∈bh[i].base:=by simpa using Mf
     refine hb s v hv λk p kV bc=>?_
     rcases R9 yR s pN k p kV bc with rfl|⟨o',eh,LR⟩
     ·exact gx
     ·cases hk:listed.getD k true with
      |false=>rfl
      |true=>rw[bU k o' eh hk i LR] at gx;cases gx
    ·intro j qU q ψ hq gK
     have hj:j∈bh[i].sf:=by simpa using qU
     exact hr j q ψ hq gK (qO j (Lx j hj))
    ·rintro v cN ⟨hv,hI2,fq⟩
     have Lw:bh[i].d<a.tmps.size:=by rw[hN];exact Lv
     have lP:i<listed.size:=by omega
     have kr: ∀k,(listed.setIfInBounds i true).getD k true=true↔k=i\/listed.getD k true=true:=by
      intro k
      by_cases hk:i=k
      ·subst hk;simp[Array.getD_eq_getD_getElem?,lP]
      ·simp only[Array.getD_eq_getD_getElem?,Array.getElem?_setIfInBounds_ne hk]
       constructor
       ·exact λh=> .inr h
       ·rintro (h|h)
        ·exact absurd h.symm hk
        ·exact h
     have fm: ∀s,s≠bh[i].d->(a.put (some bh[i].d) v).tmps.getD s undef=a.tmps.getD s undef:=by
      intro s pN
      simp only[Act.put,Array.getD_eq_getD_getElem?,Array.getElem?_setIfInBounds_ne (Ne.symm pN)]
     have fQ:(a.put (some bh[i].d) v).tmps.getD bh[i].d undef=v:=by
      simp[Act.put,Array.getD_eq_getD_getElem?,Lw]
     have pH:=Na lP gx bh.length
     simp only[pE,if_true] at pH
     refine ih _ (ph||Nat.beq i kk) _ cN ?_ (by simpa using hs) (by omega) (λk hk gw=>by
      have:=ht k hk gw
      simp only[Array.getD_eq_getD_getElem?,Array.getElem?_setIfInBounds_ne (show i≠k by omega)] at this ⊢
      exact this) hI2 (by simp[Act.put,hN]) hd ?_ ?_ ?_
     ·cases cO:Nat.beq i kk with
      |true=>
       have:=Nat.eq_of_beq_eq_true cO
       subst this
       rw[Bool.or_true]
       exact(kr i).2 (.inl rfl)
      |false=>
       rw[Bool.or_false,<-n6]
       have aU:i≠kk:=λe=>by rw[e,Nat.beq_refl] at cO;cases cO
       simp only[Array.getD_eq_getD_getElem?,Array.getElem?_setIfInBounds_ne aU]
     ·intro k o' eh hk x hx
      rw[kr] at hk ⊢
      right
      rcases hk with rfl|hk
      ·rw[ho] at eh;cases eh;exact qO x hx
      ·exact bU k o' eh hk x hx
     ·intro s u hu aU
      have U:s≠bh[i].d:=λe=>by
       have:=aU i _ hp e.symm
       have h2:=(kr i).2 (.inl rfl)
       rw[h2] at this;cases this
      rw[fm s U]
      refine hb s u hu λk p kV bc=>?_
      have:=aU k p kV bc
      cases hk:listed.getD k true with
      |false=>rfl
      |true=>rw[(kr k).2 (.inr hk)] at this;cases this
     ·intro j q ψ hq gK hj
      rw[kr] at hj
      by_cases m6:j=i
      ·subst m6
       rw[hp] at hq;rw[gz] at gK
       cases hq;cases gK
       rw[fQ];exact hv
      ·have L0:listed.getD j true=true:=hj.resolve_left m6
       have aU:q.d≠bh[i].d:=by
        rcases Nat.lt_or_ge i j with aH|dJ
        ·exact(rz kU i _ hp).2.2.2 j q aH hq
        ·exact λe=>(rz kU j q hq).2.2.2 i _ (by omega) hp e.symm
       rw[fm _ aU]
       exact fq j ψ _ m6 gK (hr j q ψ hq gK L0)
 refine key ops.size _ false a _ (by simp[Array.getD_eq_getD_getElem?,show kk<ops.size by omega]) (by simp) ?_ (λk _ hk=>by simp[Array.getD_eq_getD_getElem?,hk]) hI ha.size ha.defers ?_ ?_ ?_
 ·have: ∀n,n<=ops.size->gb (Array.replicate ops.size false) n=n:=by
   intro n
   induction n with
   |zero=>intro _;rfl
   |succ n ih=>
    intro hn
    simp only[gb,ih (by omega)]
    have:(Array.replicate ops.size false).getD n true=false:=by simp[Array.getD_eq_getD_getElem?,show n<ops.size by omega]
    simp[this]
  rw[this _ hle]
  omega
 ·intro k o ho hk
  have aH:=(Array.getElem?_eq_some_iff.1 ho).1
  simp[Array.getD_eq_getD_getElem?,aH] at hk
 ·intro s v hv _
  exact ha.get s v hv
 ·intro i p φ hp _ hi
  have aH:i<ops.size:=by have:=(List.getElem?_eq_some_iff.1 hp).1;omega
  simp[Array.getD_eq_getD_getElem?,aH] at hi
def cT (ψ:SP) (k:Option Value):Bool->World->Value->Prop:=λph w u=>bif ph then ∀v,k=some v->u=v else ψ.p w u
def tH (w:World) (Ψ:World->World->Value->Prop):Bool->World->Value->Prop:=λph w' u=>ph=true-> ∃w1 w2,Fr [] w w1/\Ψ w1 w2 u/\Fr [] w2 w'
def Pb (bh:List dp) (keep:List (Option Value)) (k:Nat) (F:Nat->dp->Option Value->Prop):Prop:=
 match bh,keep with
 |p::ps,v::vs=>F k p v/\Pb ps vs (k+1) F
 |_,_=>True
theorem Zx: ∀ {bh:List dp} {keep:List (Option Value)} {k:Nat} {F:Nat->dp->Option Value->Prop},Pb bh keep k F-> ∀(i:Nat) (p:dp) (v:Option Value),bh[i]? =some p->keep[i]? =some v->F (k+i) p v
 |[],_,_,_,_,i,p,v,hp,_=>by simp at hp
 |_::_,[],_,_,_,i,p,v,_,hv=>by simp at hv
 |q::qs,u::us,k,F,h,i,p,v,hp,hv=>by
  cases i with
  |zero=>
   simp only[List.getElem?_cons_zero,Option.some.injEq] at hp hv
   subst hp;subst hv
   exact h.1
  |succ i=>
   have:=Zx h.2 i p v (by simpa using hp) (by simpa using hv)
   have e:k+1+i=k+(i+1):=by omega
   rwa [e] at this
def FA:List SP->List (Option Value)->Prop
 |ψ::GX,some v::ks=>(∀w u,ψ.p w u->u=v)/\FA GX ks
 |_::GX,none::ks=>FA GX ks
 |_,_=>True
theorem MR: ∀ {Φ:List SP} {keep:List (Option Value)},FA Φ keep-> ∀(j:Nat) (ψ:SP) (v:Value),Φ[j]? =some ψ->keep[j]? =some (some v)-> ∀w u,ψ.p w u->u=v
 |[],_,_,j,ψ,v,U,_=>by simp at U
 |_::_,[],_,j,ψ,v,_,h2=>by simp at h2
 |φ::GW,some u::ks,h,j,ψ,v,U,h2=>by
  cases j with
  |zero=>
   simp only[List.getElem?_cons_zero,Option.some.injEq] at U h2
   subst U;subst h2
   exact h.1
  |succ j=>exact MR h.2 j ψ v (by simpa using U) (by simpa using h2)
 |φ::GW,none::ks,h,j,ψ,v,U,h2=>by
  cases j with
  |zero=>simp at h2
  |succ j=>exact MR (Φ:=GW) (keep:=ks) h j ψ v (by simpa using U) (by simpa using h2)
theorem ao2 {id:Nat} {E:Env} {w:World} (hm:P.follows .mixedOrders=true) (bh:List dp) (Φ:List SP) (keep:List (Option Value)) (dK:Nat) (lA cl:List Nat) (Ψ:World->World->Value->Prop)
  (hlen:Nat.ble (bh++[dp.mk dK lA []]).length ops.size=true) (pO:AG ops (bh++[dp.mk dK lA []]).length=true) (Fl:Φ.length=bh.length) (jB:keep.length=bh.length) (kU:vS N ops (bh++[dp.mk dK lA []]) (bh++[dp.mk dK lA []]) 0=true)
  (bU:(match ops[bh.length]? with|some o=>cl.all λx=>(sd ops 12 (dS o)).contains x|none=>false)=true)
  (ml:FA Φ keep)
  (sP:xF bh Φ 0 λi p φ=> ∀a w',Fr [] w w'->a.tmps.size=N->a.defers=ds->(∀s,p.base.contains s=true-> ∀v,E.get s=some v->a.tmps.getD s undef=v)->
   (∀(j:Nat),p.sf.contains j=true-> ∀(q:dp) (ψ:SP),bh[j]? =some q->Φ[j]? =some ψ->ψ.p w' (a.tmps.getD q.d undef))->gR P r ops Q i p.d a w' (λv cN=>φ.p cN v/\Fr [] w' cN))
  (ajf: ∀a w',Fr [] w w'->a.tmps.size=N->a.defers=ds->(∀(j:Nat),lA.contains j=true-> ∀(q:dp) (ψ:SP),bh[j]? =some q->Φ[j]? =some ψ->ψ.p w' (a.tmps.getD q.d undef))->gR P r ops Q bh.length dK a w' (λv cN=>Ψ w' cN v))
  (aje:Pb bh keep 0 λi p k=>match k with
   |none=>cl.contains i=true
   |some v=> ∀w1 w2 u,Fr [] w w1->Ψ w1 w2 u-> ∀a w',Fr [] w2 w'->a.tmps.size=N->a.defers=ds->(∀s,p.base.contains s=true-> ∀v,E.get s=some v->a.tmps.getD s undef=v)->gR P r ops Q i p.d a w' (λx cN=>x=v/\Fr [] w' cN))
  (pr: ∀w1 w2 u a w',Fr [] w w1->Ψ w1 w2 u->Fr [] w2 w'->a.tmps.size=N->a.defers=ds->(∀s v,E.get s=some v->((bh++[dp.mk dK lA []]).any λp=>Nat.beq p.d s)=false->a.tmps.getD s undef=v)->
   (∀(i:Nat) (p:dp) (v:Value),bh[i]? =some p->keep[i]? =some (some v)->a.tmps.getD p.d undef=v)->a.tmps.getD dK undef=u->
   wpOpsIn (fw r) 0 P ops Q (List.range' (bh++[dp.mk dK lA []]).length (ops.size-(bh++[dp.mk dK lA []]).length)) a w'):
  WC P r N (.region id ops true) Q E ds w:=by
 have mo:(bh++[dp.mk dK lA []]:List dp).length=bh.length+1:=by simp
 have iq:(List.zipWith cT Φ keep).length=bh.length:=by simp[Fl,jB]
 have EV: ∀(j:Nat) ψ,(List.zipWith cT Φ keep++[tH w Ψ])[j]? =some ψ->(j<bh.length/\ ∃φ k,Φ[j]? =some φ/\keep[j]? =some k/\ψ=cT φ k)\/(j=bh.length/\ψ=tH w Ψ):=by
  intro j ψ h
  rcases Nat.lt_or_ge j bh.length with hj|hj
  ·left
   rw[List.getElem?_append_left (by omega)] at h
   have U:j<Φ.length:=by omega
   have h2:j<keep.length:=by omega
   refine⟨hj,Φ[j],keep[j],List.getElem?_eq_getElem U,List.getElem?_eq_getElem h2,?_⟩
   rw[List.getElem?_zipWith,List.getElem?_eq_getElem U,List.getElem?_eq_getElem h2] at h
   exact(Option.some.inj h).symm
  ·right
   rw[List.getElem?_append_right (by omega),iq] at h
   rcases Nat.eq_or_lt_of_le hj with e|aH
   ·subst e
    simp only[Nat.sub_self,List.getElem?_cons_zero,Option.some.injEq] at h
    exact⟨rfl,h.symm⟩
   ·rw[List.getElem?_eq_none (by simp;omega)] at h;cases h
 have ai5: ∀(j:Nat) p,(bh++[dp.mk dK lA []])[j]? =some p->j<bh.length->bh[j]? =some p:=λj p h hj=>by rwa [List.getElem?_append_left hj] at h
 refine ao1 hm (bh++[dp.mk dK lA []]) (List.zipWith cT Φ keep++[tH w Ψ]) bh.length cl (λph w'=>bif ph then ∃w1 w2 u,Fr [] w w1/\Ψ w1 w2 u/\Fr [] w2 w' else Fr [] w w') hlen pO (by simp[Fl,jB]) kU (by omega) ?_ (Fr.drew [] w) ?_ ?_
 ·intro o ho x hx
  rw[ho] at bU
  simpa using List.all_eq_true.1 bU x hx
 ·intro i p φ hp gz ph a w' n6 hI hN hd hb hr
  rcases EV i φ gz with⟨hi,φ0,k0,U,h2,rfl⟩|⟨rfl,rfl⟩
  ·have kj:=ai5 i p hp hi
   have aU:Nat.beq i bh.length=false:=by
    cases cO:Nat.beq i bh.length with
    |false=>rfl
    |true=>have:=Nat.eq_of_beq_eq_true cO;omega
   rw[aU,Bool.or_false]
   cases ph with
   |false=>
    have hI:Fr [] w w':=hI
    refine gR.weaken (RX sP i p φ0 kj U a w' hI hN hd hb (λj hj q ψ hq gK=>?_)) λv cN hh=>⟨hh.1,hI.trans hh.2,λj ψ u _ gK hu=>?_⟩
    ·have jb:=(List.getElem?_eq_some_iff.1 hq).1
     have hz:(List.zipWith cT Φ keep++[tH w Ψ])[j]? =some (cT ψ (keep[j]'(by omega))):=by
      rw[List.getElem?_append_left (by omega),List.getElem?_zipWith,gK,List.getElem?_eq_getElem (by omega)]
     exact hr j hj q _ (by rw[List.getElem?_append_left jb];exact hq) hz
    ·rcases EV j ψ gK with⟨_,GV,k2,_,_,rfl⟩|⟨_,rfl⟩
     ·exact GV.st hh.2 hu
     ·intro hh;cases hh
   |true=>
    obtain⟨w1,w2,u,qQ,sV,uZ⟩:=hI
    have h3:=Zx aje i p k0 kj h2
    rw[Nat.zero_add] at h3
    cases k0 with
    |none=>
     have:cl.contains i=true:=h3
     exact absurd (by simpa using this) (n6 rfl).2
    |some v=>
     refine gR.weaken (h3 w1 w2 u qQ sV a w' uZ hN hd hb) λx cN hh=>⟨?_,⟨w1,w2,u,qQ,sV,uZ.trans hh.2⟩,λj ψ y _ gK hy=>?_⟩
     ·intro v' jh
      cases jh
      exact hh.1
     ·rcases EV j ψ gK with⟨_,GV,k2,_,_,rfl⟩|⟨_,rfl⟩
      ·exact hy
      ·intro _
       obtain⟨x1,x2,g1,g2,g3⟩:=hy rfl
       exact⟨x1,x2,g1,g2,g3.trans hh.2⟩
  ·cases ph with
   |true=>exact absurd rfl (n6 rfl).1
   |false=>
    have kj:p=⟨dK,lA,[]⟩:=by
     rw[List.getElem?_append_right (Nat.le_refl _),Nat.sub_self] at hp
     exact(Option.some.inj hp).symm
    subst kj
    have hI:Fr [] w w':=hI
    rw[Nat.beq_refl,Bool.or_true]
    refine gR.weaken (ajf a w' hI hN hd (λj hj q ψ hq gK=>?_)) λv cN sV=>⟨λ_=>⟨w',cN,hI,sV,Fr.refl [] _⟩,⟨w',cN,v,hI,sV,Fr.refl [] _⟩,λj ψ y m6 gK hy=>?_⟩
    ·have jb:=(List.getElem?_eq_some_iff.1 hq).1
     have hz:(List.zipWith cT Φ keep++[tH w Ψ])[j]? =some (cT ψ (keep[j]'(by omega))):=by
      rw[List.getElem?_append_left (by omega),List.getElem?_zipWith,gK,List.getElem?_eq_getElem (by omega)]
     exact hr j hj q _ (by rw[List.getElem?_append_left jb];exact hq) hz
    ·rcases EV j ψ gK with⟨_,GV,k2,U,h2,rfl⟩|⟨e,_⟩
     ·intro v' jh
      subst jh
      exact MR ml j GV v' U h2 _ _ hy
     ·exact absurd e m6
 ·intro a w' hI hN hd hb hr
  obtain⟨w1,w2,qQ,sV,uZ⟩:=hr bh.length ⟨dK,lA,[]⟩ (tH w Ψ) (by simp) (by rw[List.getElem?_append_right (by omega),iq];simp) rfl
  refine pr w1 w2 _ a w' qQ sV uZ hN hd hb (λi p v hp hv=>?_) rfl
  have u6:=(List.getElem?_eq_some_iff.1 hp).1
  have hz:(List.zipWith cT Φ keep++[tH w Ψ])[i]? =some (cT (Φ[i]'(by omega)) (some v)):=by
   rw[List.getElem?_append_left (by omega),List.getElem?_zipWith,hv,List.getElem?_eq_getElem (by omega)]
  exact hr i p _ (by rw[List.getElem?_append_left u6];exact hp) hz v rfl
theorem akC {Θ:dG} {O:List Nat} {w:World} {i d:Nat} {o:Oper} {E:Env} (aT:Θ.ok P) {a:Act} (ha:Has N E ds a) (ho:ops[i]? =some o) (hw:want N ops E o.guard=some true) (hd:o.dst=some d) {t:Nat} {x y:Operand} {ti te:TI}
  (an:o.op= .call { callee:= .builtin .append,args:= #[x,y],argTypes:= #[t,t] }) (ht:Θ.get t=some ti) (h5:ti.tag=5) (cp:Θ.get ti.e=some te) {α:Type} {T:Ty α} (hn:T.n=te.size) (mq:Nat.blt 0 te.size=true) (hz:te.zero.cells.size=te.size) (cX:Nat.ble 1 te.bytes=true) {e nb:Nat} (he:ti.e=e) (zn:te.bytes=nb)
  {w0:World} {v u:Value} {xs ys zs:List α} (hx:ev E x=some v) (hy:ev E y=some u) (hF:Fr [] w0 w) (hO:OB O w) (hv:Own T e w0.heap.size O w v xs) (hu:T.slice.is O w u ys) (hlen:app nb xs ys=some zs):
  gR P r ops Q i d a w (λv' w'=> ∃O',fF T e w0.heap.size O w v zs O' w' v'):=by
 subst he zn
 obtain⟨hle,rfl⟩:=Dr hlen
 obtain⟨v',w',O',a_,iZ⟩:=OJ (P:=P) (ty:=o.type) aT ht h5 cp hn (Nat.le_of_ble_eq_true mq) hz hF.size hO hv hu hle (Nat.le_of_ble_eq_true cX)
 refine s9 ho (lh ha hw) hd (b:=true) (v:=v') (w':=w') ?_ ⟨O',iZ⟩
 simp only[if_true]
 refine⟨by rw[an];simp,?_⟩
 simp only[execOp,an,Sem.run_bind,resolve,Sem.run_pure,Result.andThen_ok,invoke,builtin,List.map_toArray,List.map_cons,List.map_nil,ha.eval hx,ha.eval hy,a_]
end
end Go.Dc
end
section
namespace Go.Proofs.YtdhaaaeffhaadaaGreatDoor
open Go.RowKit Go.Dc Go.Vx
set_option maxRecDepth 100000
theorem ahc:gm Tryz.prog 38:=eI bA Tryz.func38 rfl
theorem ahd:gm Tryz.prog 39:=eI bA Tryz.func39 rfl
theorem ahe:gm Tryz.prog 49:=eI bA Tryz.func49 rfl
theorem J4:gm Tryz.prog 75:=eI bA Tryz.func75 rfl
theorem J5:gm Tryz.prog 76:=eI bA Tryz.func76 rfl
theorem ahf:gm Tryz.prog 78:=eI bA Tryz.func78 rfl
theorem ahg:gm Tryz.prog 99:=eI bA Tryz.func99 rfl
theorem ag9:gm Tryz.prog 118:=eI bA Tryz.func118 rfl
theorem ag_:gm Tryz.prog 119:=eI bA Tryz.func119 rfl
theorem ag':gm Tryz.prog 120:=eI bA Tryz.func120 rfl
theorem SL:gm Tryz.prog 121:=eI bA Tryz.func121 rfl
theorem aha:gm Tryz.prog 167:=eI bA Tryz.func167 rfl
theorem ahb:gm Tryz.prog 169:=eI bA Tryz.func169 rfl
theorem anv {O:List Nat} {w:World} {v:Value} {x:ao}:mJ.is O w v x↔ ∃s1,v= .agg #[.int .u64 x.aa,s1]/\(Ty.slice (Ty.int .u64)).is O w s1 x.bg:=by
 constructor
 ·rintro ⟨cs,⟨_,_,rfl,rfl,q1⟩,rfl⟩
  obtain⟨z1,rfl,y1⟩:=OW rfl q1;exact⟨z1,rfl,y1⟩
 ·rintro ⟨z1,rfl,y1⟩
  exact⟨[.int .u64 x.aa,z1],⟨[.int .u64 x.aa],[z1],rfl,rfl,(tp rfl y1)⟩,rfl⟩
theorem nr {O:List Nat} {w:World} {v:Value} {x:aL}:jL.is O w v x↔ ∃s0 s1,v= .agg #[s0,s1]/\(Ty.slice fu).is O w s0 x.aB/\(Ty.slice mJ).is O w s1 x.ax:=by
 constructor
 ·rintro ⟨cs,⟨_,_,rfl,q1,q2⟩,rfl⟩
  obtain⟨z1,rfl,y1⟩:=OW rfl q1;obtain⟨z2,rfl,y2⟩:=OW rfl q2;exact⟨z1,z2,rfl,y1,y2⟩
 ·rintro ⟨z1,z2,rfl,y1,y2⟩
  exact⟨[z1,z2],⟨[z1],[z2],rfl,(tp rfl y1),(tp rfl y2)⟩,rfl⟩
theorem anw {O:List Nat} {w:World} {cs:List Value} {x:aA} (h:fu.rep O w cs x):cs=[.int .u64 x.bl,.int .u64 x.aa]:=by
 obtain⟨_,_,rfl,rfl,rfl⟩:=h
 exact rfl
noncomputable def vK:Pl:=⟨λ_=>none,none⟩
noncomputable def Mv (sh:Sh) (x:aL):Option Int:=oY sh x
theorem ajo {O:List Nat} {w:World} (hO:OB O w) (hG:dI KK O w) {v0:Value} {x0:aL} (h0:jL.is O w v0 x0) {r:Int} (h:Mv shut x0=some r):Calls Tryz.prog 49 #[v0] w (jP (rH (Ty.int .i64)) O w r):=by
 have hc:fY KK Tryz.prog 49 [KK.ah 34 x0] (.ret (.s (KK.ah 40 r))):=wb (G:=GZ) QF (kf:=λ{R} (k:Rs SS->Option R)=>(λr=>k (.ret (.s (KK.ah 40 r))))) (λk=>ZA x0 k) rfl (yo h) λk=>rfl
 refine(hc.2 vK O w [v0] ⟨v0,[],rfl,jo ep (t:=34) rfl rfl h0,rfl⟩ hO hG).mono ?_
 rintro e w' ⟨⟨v,rfl,U,_⟩,hF⟩
 cases U
 exact⟨_,rfl,eY.2 rfl,hF⟩
noncomputable def re (p:Int):Bool:=bif decide (p>=1) then decide (p<4294967296) else false
theorem ajG (p:Int):(ud shut p).val=some (re p):=by
 unfold ud re
 cases h:decide (p>=1)<;>simp
theorem aju {O:List Nat} {w:World} (hO:OB O w) (hG:dI KK O w) {v0:Value} {x0:Int} (h0:(Ty.int .u64).is O w v0 x0):Calls Tryz.prog 99 #[v0] w (jP (rH Ty.bool) O w (re x0)):=by
 have hc:fY KK Tryz.prog 99 [KK.ah 28 x0] (.ret (.s (KK.ah 4 (re x0)))):=wb (G:=wV shut) (aw.all H7 rfl) (kf:=λ{R} (k:Rs SS->Option R)=>(λr=>k (.ret (.s (KK.ah 4 r))))) (λk=>ZB x0 k) rfl (ajG x0) λk=>rfl
 refine(hc.2 vK O w [v0] ⟨v0,[],rfl,jo ep (t:=28) rfl rfl h0,rfl⟩ hO hG).mono ?_
 rintro e w' ⟨⟨v,rfl,U,_⟩,hF⟩
 cases U
 exact⟨_,rfl,mU.2 rfl,hF⟩
noncomputable def Mx (sh:Sh) (l:List ao) (pid:Int):Option (Int×Bool):=Ki sh l pid
theorem ajt {O:List Nat} {w:World} (hO:OB O w) (hG:dI KK O w) {v0:Value} {x0:List ao} (h0:(Ty.slice mJ).is O w v0 x0) {pid:Int} {r:Int×Bool} (h:Mx shut x0 pid=some r):Calls Tryz.prog 167 #[v0,.int .u64 pid,.func (.func 168) #[] #[]] w (jP (Ym (Ty.int .i64) Ty.bool) O w r):=by
 refine((ae8 x0 pid h).2 vK O w [v0,.int .u64 pid,.func (.func 168) #[] #[]] ⟨v0,_,rfl,jo ep (t:=32) rfl rfl h0,_,_,rfl,⟨rfl,rfl⟩,_,_,rfl,⟨rfl,rfl⟩,rfl⟩ hO hG).mono ?_
 rintro e w' ⟨⟨v,rfl,xs,rfl,a,_,rfl,⟨U,_⟩,b,_,rfl,⟨h2,_⟩,h3⟩,hF⟩
 cases U
 cases h2
 rw[show _=[] from h3]
 exact⟨_,rfl,⟨_,_,rfl,eY.2 rfl,mU.2 rfl⟩,hF⟩
noncomputable def OR (x:List Int):Option (List Int):=app 8 [] x
theorem am4 {O:List Nat} {w:World} (hO:OB O w) (_:w.heap.size<=w.heap.size) {v0:Value} {x0:List Int} (h0:(Ty.slice (Ty.int .u64)).is O w v0 x0) {r:List Int} (h:OR x0=some r):Calls Tryz.prog 39 #[v0] w (ia (Ty.int .u64) 28 w.heap.size O w (.slice none 0 0) r):=Sm hO h0 h
noncomputable def OS (x:List aA):Option (List aA):=app 16 [] x
theorem am3 {O:List Nat} {w:World} (hO:OB O w) (_:w.heap.size<=w.heap.size) {v0:Value} {x0:List aA} (h0:(Ty.slice fu).is O w v0 x0) {r:List aA} (h:OS x0=some r):Calls Tryz.prog 38 #[v0] w (ia fu 93 w.heap.size O w (.slice none 0 0) r):=Sl hO h0 h
end Go.Proofs.YtdhaaaeffhaadaaGreatDoor
end
section
namespace Go.Proofs.YtdhaaaeffhaadaaGreatDoor
open Go.RowKit Go.Dc Go.Vx
abbrev TR:Ty (Int×Value):=rB .u64
abbrev TW:Ty Int:=Ty.int .u64
theorem lj:TW.Flat:=λh=>h
noncomputable def bx (z:ao):Int×List Int:=(z.aa,z.bg)
structure iC (B:Nat) (O:List Nat) (w:World) (b:Nat) (nv rv:Value) (S:List Nat) (aD:List (Int×Value)) (x:aL):Prop where
 mem:b∈O
 ge:B<=b
 bY:ck w b 128 [nv,rv]
 ns:Go.Dc.Own fu 93 B O w nv x.aB
 row:Go.Dc.Own TR 82 B O w rv aD
 fo:eo TW 28 B w S aD (x.ax.map bx)
 nd:S.Nodup
 out: ∀g∈S,g∉O
 nb:nv.ownBlock≠some b
 rb:rv.ownBlock≠some b
 dj:Dj nv rv
noncomputable def qn (B:Nat) (O:List Nat) (w:World) (b:Nat) (x:aL):Prop:= ∃nv rv S aD,iC B O w b nv rv S aD x
structure bW (B:Nat) (O:List Nat) (w:World) (O':List Nat) (w':World):Prop where
 tr:Tr O w O' w'
 ob:OB O' w'
 sub:Sub O O'
 below: ∀k,k<B->w'.heap[k]? =w.heap[k]?
theorem bW.refl {B:Nat} {O:List Nat} {w:World} (h:OB O w):bW B O w O w:=⟨Tr.refl _ _,h,Sub.refl _,λ_ _=>rfl⟩
theorem bW.trans {B:Nat} {O O' xf:List Nat} {w w' cN:World} (h:bW B O w O' w') (k:bW B O' w' xf cN):bW B O w xf cN:=
 ⟨h.tr.trans k.tr,k.ob,h.sub.trans k.sub,λi hi=>(k.below i hi).trans (h.below i hi)⟩
theorem bW.fr {O O':List Nat} {w w':World} (h:bW w.heap.size O w O' w'):Fr [] w w':=⟨h.tr.os,h.tr.tape,h.tr.output,h.tr.size,λk hk _=>h.below k hk⟩
theorem bW.vM {B:Nat} {O:List Nat} {w w':World} (hO:OB O w) (hB:B<=w.heap.size) (h:Fr [] w w'):bW B O w O w':=
 ⟨h.fU,h.ob hO,Sub.refl _,λk hk=>h.block k (Nat.lt_of_lt_of_le hk hB) (by simp)⟩
theorem bW.oh {B:Nat} {O:List Nat} {w w':World} {b t:Nat} {cs:List Value} (hB:B<=w.heap.size) (h:qo O w b t cs w'):bW B O w (b::O) w':=
 ⟨h.tr,h.ob,Sub.cons (Sub.refl _) _,λk hk=>h.fr.block k (Nat.lt_of_lt_of_le hk hB) (by simp)⟩
theorem bW.NG {α:Type} {T:Ty α} {e B:Nat} {O O':List Nat} {w w':World} {v v':Value} {xs zs:List α} (hB:B<=w.heap.size) (ho:Go.Dc.Own T e B O w v xs) (h:fF T e B O w v zs O' w' v'):bW B O w O' w':=
 ⟨h.tr,h.ob,h.sub,λk hk=>h.fr k (Nat.lt_of_lt_of_le hk hB) λe=>by have:=(ho.lt k e).1;omega⟩
theorem bW.kG {B b:Nat} {O:List Nat} {w w':World} (hO:OB O w) (hb:b∈O) (hB:B<=b) (h:Fr [b] w w'):bW B O w O w':=
 ⟨h.tr (lV hb),h.ob hO,Sub.refl _,λk hk=>h.block k (by have:=hO b hb;omega) (by simp;omega)⟩
theorem bW.akn {α:Type} {T:Ty α} {e B:Nat} {O:List Nat} {w w':World} {v:Value} {xs:List α} (hO:OB O w) (hB:B<=w.heap.size) (hv:ee T e w.heap.size w' v xs) (h:Fr [] w w'):bW B O w (v.ownBlock.toList++O) w':=
 ⟨⟨h.os,h.tape,h.output,h.size,λk hk ho=>⟨λhm=>by
  rcases List.mem_append.1 hm with hm|hm
  ·have:=(hv.lt k (by simpa using hm)).1;omega
  ·exact ho hm,h.block k hk (by simp)⟩⟩,λk hk=>by
  rcases List.mem_append.1 hk with hk|hk
  ·exact(hv.lt k (by simpa using hk)).2
  ·exact Nat.lt_of_lt_of_le (hO k hk) h.size,λk hk=>List.mem_append_right _ hk,λk hk=>h.block k (Nat.lt_of_lt_of_le hk hB) (by simp)⟩
section
variable {B:Nat} {O O':List Nat} {w w' cN:World} {b:Nat} {nv rv:Value} {S:List Nat} {aD:List (Int×Value)} {x:aL}
theorem iC.cL (h:iC B O w b nv rv S aD x) (hf:Fr [] w w'):iC B O w' b nv rv S aD x:=
 ⟨h.mem,h.ge,h.bY.cL hf,h.ns.cL hf,h.row.cL hf,h.fo.cL lj hf,h.nd,h.out,h.nb,h.rb,h.dj⟩
theorem iC.new (h:iC B O w b nv rv S aD x) {b' t:Nat} {cs:List Value} (hn:qo O w b' t cs w'):iC B (b'::O) w' b nv rv S aD x:=
 ⟨List.mem_cons_of_mem _ h.mem,h.ge,h.bY.cL hn.fr,h.ns.new hn,h.row.new hn,h.fo.cL lj hn.fr,h.nd,λg hg hm=>by
  rcases List.mem_cons.1 hm with rfl|hm
  ·have:=(h.fo.lt g hg).2;have:=hn.ge;omega
  ·exact h.out g hg hm,h.nb,h.rb,h.dj⟩
theorem iC.st (h:iC B O w b nv rv S aD x) {b':Nat} (hb:b'∈O) (hf:Fr [b'] w w') (U:b'≠b) (h2:nv.ownBlock≠some b') (h3:rv.ownBlock≠some b'):iC B O w' b nv rv S aD x:=
 ⟨h.mem,h.ge,h.bY.fr hf (by simp;exact λe=>U e.symm),h.ns.st hf hb h2,h.row.st hf hb h3,h.fo.keep lj λg hg=>hf.block g (h.fo.lt g hg).2 (by simp;rintro rfl;exact h.out _ hg hb),h.nd,h.out,h.nb,h.rb,h.dj⟩
theorem fF.later {α:Type} {T:Ty α} {e B:Nat} {O O':List Nat} {w w2 w3:World} {v v':Value} {zs:List α} (ap:fF T e B O w v zs O' w2 v') (f:Fr [] w2 w3):fF T e B O w v zs O' w3 v':=
 ⟨ap.own.cL f,ap.tr.trans f.fU,f.ob ap.ob,ap.sub,λk hk aU=>(f.block k (Nat.lt_of_lt_of_le hk ap.tr.size) (by simp)).trans (ap.fr k hk aU),ap.ne⟩
theorem iC.boxes (h:iC B O w b nv rv S aD x) {tB:Value} {S':List Nat} {tc:List (Int×Value)} {x':aL} (ap:fF TR 82 B O w rv tc O' w' tB) (hb:ck cN b 128 [nv,tB]) (hf:Fr [b] w' cN)
  (ij:eo TW 28 B w S' tc (x'.ax.map bx)) (nY:S'.Nodup) (pL: ∀g∈S',g∉O) (hn:x'.aB=x.aB):iC B O' cN b nv tB S' tc x':=by
 have hm:=ap.sub _ h.mem
 have zt:=ap.ne _ h.bY.lt h.rb
 have m9:=ap.other h.ns λg hg=>h.dj g hg
 refine⟨hm,h.ge,hb,by rw[hn];exact m9.st hf hm h.nb,ap.own.st hf hm zt,?_,nY,λg hg=>(ap.tr.keep g (ij.lt g hg).2 (pL g hg)).1,h.nb,zt,λg hg=>ap.ne _ (h.ns.lt g hg).2 (h.dj g hg)⟩
 refine ij.keep lj λg hg=>?_
 have U:=(ap.tr.keep g (ij.lt g hg).2 (pL g hg)).2
 rw[hf.block g (Nat.lt_of_lt_of_le (ij.lt g hg).2 ap.tr.size) (by simp;rintro rfl;exact pL _ hg h.mem),U]
end
noncomputable def vl:List ao->List ao->Option (List ao)
 |[],acc=>some acc
 |z::r,acc=>(OR z.bg).bind λws=>(app 32 acc [ao.mk z.aa ws]).bind λoM=>vl r oM
noncomputable def zD (fuel:Sh) (x:aL):Option (aL×Int):=
 (Mv fuel x).bind λe=>bif (!(e==0)) then some (aL.mk [] [],e) else(OS x.aB).bind λns=>(vl x.ax []).bind λbs=>some (aL.mk ns bs,0)
noncomputable def abU (O:List Nat) (w:World) (r:aL×Int) (en:Ending) (w':World):Prop:=
 ∃pv O',en= .returned (.tuple #[pv,.int .i64 r.2])/\bW w.heap.size O w O' w'/\(r.2=0-> ∃b,pv= .pointer (some ⟨b,0,none⟩)/\qn w.heap.size O' w' b r.1)
theorem R0 {aD:List (Int×Value)} {acc oM:List ao} {z:ao} {p:Int×Value} (hl:aD.length=acc.length) (h:app 32 acc [z]=some oM):app 32 aD [p]=some (aD++[p])/\oM=acc++[z]:=by
 obtain⟨U,h2⟩:=Dr h
 refine⟨?_,h2⟩
 unfold app
 rw[if_pos (by rw[hl];exact U)]
noncomputable def SP.agw (p:Int) (B:Nat) (ws:List Int):SP:=⟨λw u=> ∃v,u= .agg #[.int .u64 p,v]/\ee TW 28 B w v ws,λhf ⟨v,h,k⟩=>⟨v,h,k.cL lj hf⟩⟩
noncomputable def SP.agr (p:Int) (B:Nat) (O:List Nat) (ws:List Int):SP:=⟨λw u=> ∃v,TR.slice.is O w u [(p,v)]/\ee TW 28 B w v ws,λhf ⟨v,h,k⟩=>⟨v,h.tr hf.fU,k.cL lj hf⟩⟩
theorem ahG {O:List Nat} {w1 w:World} {v:Value} {ws:List Int} (h:ee TW 28 w1.heap.size w v ws) (hO:OB O w1): ∀g,v.ownBlock=some g->g∉O:=λg hg hm=>by
 have:=(h.lt g hg).1;have:=hO g hm;omega
set_option maxRecDepth 100000 in
set_option maxHeartbeats 4000000 in
theorem ajv {O:List Nat} {w:World} (hO:OB O w) (hG:dI KK [] w) {v0:Value} {x0:aL} (h0:jL.is [] w v0 x0) {r:aL×Int} (h:zD shut x0=some r):Calls Tryz.prog 118 #[v0] w (abU O w r):=by
 obtain⟨ff,fg,rfl,yv,uQ⟩:=nr.1 h0
 have kQ:bW w.heap.size O w O w:=bW.refl hO
 refine iW (args:=[(.agg #[ff,fg])]) (N:=45) Tryz.func118 rfl rfl rfl ?_
 unfold zD at h
 refine aQ ?_
 refine aY (l:=[0,1,2]) rfl ?_
 refine tL rfl rfl rfl rfl rfl rfl [ff,fg] rfl hO (λb1 w1 n1=>?_)
 have cX:=n1.bY
 have eM:=kQ.trans (bW.oh kQ.tr.size n1)
 refine aF ak [1,2] [(1,(.pointer (some ⟨b1,0,none⟩)))] rfl ⟨rfl,trivial⟩ ?_
 refine aX ?_
 refine aR ?_
 refine aQ ?_
 refine aQ ?_
 refine aY (l:=[0,1,2]) rfl ?_
 refine fD ak rfl rfl rfl rfl rfl rfl rfl cX [ff,fg] rfl rfl (.inl rfl) (.agg #[ff,fg]) rfl ?_
 obtain⟨e,he,h⟩:=bind_some h
 refine GO rfl rfl rfl rfl rfl ahe rfl (ajo (zU _) (hG.tr eM.fr.fU) (h0.tr eM.fr.fU) he) (λv2 w2 g2 f2=>?_)
 obtain rfl:=eY.1 g2
 have dA:=eM.trans (bW.vM eM.ob eM.tr.size f2)
 have cX:=cX.cL f2
 refine aF ak [2] [(1,(.pointer (some ⟨b1,0,none⟩))),(4,.int .i64 e)] rfl ⟨rfl,rfl,trivial⟩ ?_
 refine aX ?_
 refine aR ?_
 refine aQ ?_
 refine aY (l:=[0,1]) rfl ?_
 refine aF ak [0,1] [(1,(.pointer (some ⟨b1,0,none⟩))),(4,.int .i64 e),(11,.bool (!(e==0)))] rfl ⟨rfl,rfl,rfl,trivial⟩ ?_
 refine aX ?_
 refine aR ?_
 rcases nK h with⟨hc,h⟩|⟨hc,h⟩
 ·refine jv rfl hc ?_
  refine aQ ?_
  refine aY (l:=[0,1,2]) rfl ?_
  refine aF ak [0,1,2] [(2,(.pointer none)),(3,.int .i64 e)] rfl ⟨rfl,rfl,trivial⟩ ?_
  refine aX ?_
  refine aR ?_
  refine ed ?_
  cases h
  exact gQ (fh rfl ⟨_,_,rfl,dA,λh0=>by simp at hc;exact absurd h0 hc⟩)
 refine jO rfl hc ?_
 refine fC ?_
 refine aR ?_
 refine aQ ?_
 refine aY (l:=[0,1,2,3,4,5,6]) rfl ?_
 refine aF ak [0] [(1,(.pointer (some ⟨b1,0,none⟩))),(13,(.pointer (some ⟨b1,0,none⟩)))] rfl ⟨rfl,rfl,trivial⟩ ?_
 refine fD ak rfl rfl rfl rfl rfl rfl rfl cX [ff] rfl rfl (.inr rfl) ff rfl ?_
 obtain⟨ns,m9,h⟩:=bind_some h
 refine oF rfl rfl rfl rfl rfl ahc rfl (am3 (zU _) (Nat.le_refl _) (yv.tr dA.fr.fU) m9) (λ_ w3 hg=>?_)
 obtain⟨nv,rfl,mn,f3⟩:=TO rfl hg
 refine⟨_,rfl,?_⟩
 have eV:=dA.trans (bW.akn dA.ob dA.tr.size mn f3)
 have mn:=mn.less dA.tr.size
 obtain⟨A3,c3,rfl,zg,zj⟩:=mn.form
 refine aF ak [3,4] [(1,(.pointer (some ⟨b1,0,none⟩))),(17,.agg #[(.slice A3 ns.length c3),.slice none 0 0])] rfl ⟨rfl,rfl,trivial⟩ ?_
 have cX:=cX.cL f3
 refine tL rfl rfl rfl rfl rfl rfl [(.slice A3 ns.length c3),.slice none 0 0] rfl eV.ob (λb w4 n4=>?_)
 generalize apJ:(Value.slice A3 ns.length c3)=nv at*
 have hH:iC w.heap.size (b::(nv.ownBlock.toList++(b1::O))) w4 b nv (.slice none 0 0) [] [] (aL.mk ns []):=
  ⟨List.mem_cons_self,Nat.le_trans eV.tr.size n4.ge,n4.bY,(mn.own (λh=>h) λg hg=>List.mem_append_left _ (by rw[hg];simp)).new n4,Own.lU,rfl,List.nodup_nil,λg hg=>(by cases hg),λe=>by
   have:=(mn.lt b e).2;have:=n4.ge;omega,(akf _),(afa _)⟩
 have dw:=eV.trans (bW.oh eV.tr.size n4)
 have cX:=cX.cL n4.fr
 refine aF ak [6] [(1,(.pointer (some ⟨b1,0,none⟩))),(5,(.pointer (some ⟨b,0,none⟩)))] rfl ⟨rfl,rfl,trivial⟩ ?_
 refine aX ?_
 refine aR ?_
 refine aQ ?_
 refine aQ ?_
 refine aY (l:=[0,1,2,3]) rfl ?_
 refine aF ak [0] [(5,(.pointer (some ⟨b,0,none⟩))),(19,(.pointer (some ⟨b1,1,none⟩)))] rfl ⟨rfl,rfl,trivial⟩ ?_
 refine fD ak rfl rfl rfl rfl rfl rfl rfl cX [fg] rfl rfl (.inr rfl) fg rfl ?_
 obtain⟨A5,c5,rfl,aiS,aiU⟩:=fT uQ
 refine aF ak [2,3] [(5,(.pointer (some ⟨b,0,none⟩))),(20,.slice A5 x0.ax.length c5),(21,.int .i64 (x0.ax.length:Int)),(22,.int .i64 ((0:Nat):Int))] rfl ⟨rfl,rfl,rfl,rfl,trivial⟩ ?_
 refine aX ?_
 refine aR ?_
 obtain⟨bs,eR,h⟩:=bind_some h
 refine tK ?_
 refine Pv (λm E W=> ∃(rest:List ao) (i:Nat) (O':List Nat) (acc:List ao) (rv:Value) (S:List Nat) (aD:List (Int×Value)),rest.length=m/\x0.ax.drop i=rest/\E=[(5,(.pointer (some ⟨b,0,none⟩))),(20,.slice A5 x0.ax.length c5),(21,.int .i64 (x0.ax.length:Int)),(22,.int .i64 (i:Int))]/\bW w.heap.size O w O' W/\iC w.heap.size O' W b nv rv S aD (aL.mk ns acc)/\vl rest acc=some bs) _
  [(5,(.pointer (some ⟨b,0,none⟩))),(20,.slice A5 x0.ax.length c5),(21,.int .i64 (x0.ax.length:Int)),(22,.int .i64 ((0:Nat):Int))] ⟨rfl,rfl,rfl,rfl,trivial⟩ ⟨x0.ax,0,_,[],_,[],[],rfl,rfl,rfl,dw,hH,eR⟩ ?_
 rintro m E W ⟨rest,i,O5,acc,rv,S,aD,rfl,E5,rfl,jX,hH,eR⟩
 rcases rest with _|⟨z,rest⟩
 ·have hl:=drop_nil E5
  have hc:(decide ((i:Int)<(x0.ax.length:Int)))=false:=decide_eq_false (by omega)
  refine aQ ?_
  refine aY (l:=[0]) rfl ?_
  refine aF ak [0] [(5,(.pointer (some ⟨b,0,none⟩))),(23,.bool (decide ((i:Int)<(x0.ax.length:Int))))] rfl ⟨rfl,rfl,trivial⟩ ?_
  refine aX ?_
  refine aR ?_
  refine aQ ?_
  refine jO rfl hc ?_
  refine Pu ?_
  refine wm (wm (PG (aR ?_)))
  refine aQ ?_
  refine aY (l:=[0,1,2]) rfl ?_
  refine aF ak [0,1,2] [(2,(.pointer (some ⟨b,0,none⟩))),(3,.int .i64 0)] rfl ⟨rfl,rfl,trivial⟩ ?_
  refine aX ?_
  refine aR ?_
  refine ed ?_
  cases eR
  cases h
  exact fh rfl ⟨_,_,rfl,jX,λ_=>⟨b,rfl,_,_,_,_,hH⟩⟩
 obtain⟨hl,hg,E5⟩:=drop_cons E5
 have hc:(decide ((i:Int)<(x0.ax.length:Int)))=true:=decide_eq_true (by omega)
 refine aQ ?_
 refine aY (l:=[0]) rfl ?_
 refine aF ak [0] [(5,(.pointer (some ⟨b,0,none⟩))),(20,.slice A5 x0.ax.length c5),(21,.int .i64 (x0.ax.length:Int)),(22,.int .i64 (i:Int)),(23,.bool (decide ((i:Int)<(x0.ax.length:Int))))] rfl ⟨rfl,rfl,rfl,rfl,rfl,trivial⟩ ?_
 refine aX ?_
 refine aR ?_
 refine aQ ?_
 refine jv rfl hc ?_
 refine fC ?_
 refine aR ?_
 refine aQ ?_
 refine tK ?_
 refine aQ ?_
 refine aY (l:=[0,1,2,3]) rfl ?_
 refine PD ak rfl rfl rfl rfl rfl rfl rfl rfl rfl rfl uQ rfl (Int.natCast_nonneg _) (by rw[Int.toNat_natCast];exact hg) (λp6 zp=>?_)
 refine aag ak rfl rfl rfl rfl rfl rfl rfl zp jX.fr rfl rfl (λv6 zw=>?_)
 obtain⟨vw,rfl,Vl⟩:=anv.1 zw
 obtain⟨Aw,cw,rfl,apz,apG⟩:=fT Vl
 refine AO ak rfl rfl rfl rfl rfl rfl [(.int .u64 0),(.slice none 0 0)] rfl jX.ob (λb7 w7 n7=>?_)
 have T8:=hH.new n7
 have f_:=jX.trans (bW.oh jX.tr.size n7)
 have Nh:b7≠b:=by have:=hH.bY.lt;have:=n7.ge;omega
 have hq7:=hH.ns.WS n7
 have hr7:=hH.row.WS n7
 refine h_ ak rfl rfl rfl rfl rfl rfl rfl n7.bY [(.int .u64 z.aa),(.slice Aw z.bg.length cw)] rfl rfl (by simp[Value.oneCell']) rfl [(.int .u64 z.aa),(.slice Aw z.bg.length cw)] rfl (λw8 qP f8=>?_)
 have uV:=T8.st List.mem_cons_self f8 Nh hq7 hr7
 have ke:=f_.trans (bW.kG f_.ob List.mem_cons_self (Nat.le_trans jX.tr.size n7.ge) f8)
 clear T8 f_
 refine aX ?_
 refine aR ?_
 rw[vl] at eR
 obtain⟨ws,Mr,eR⟩:=bind_some eR
 obtain⟨oM,Um,eR⟩:=bind_some eR
 obtain⟨Ar,cr,rfl,apy,apF⟩:=uV.row.form
 have Ek:=ke.ob
 have hlen:aD.length=acc.length:=by have:=uV.fo.len;simpa using this
 refine ao2 mixed [⟨26,[],[5]⟩,⟨27,[],[5]⟩,⟨28,[1],[]⟩,⟨29,[2],[]⟩,⟨30,[3],[]⟩,⟨31,[4],[]⟩,⟨32,[],[7]⟩,⟨33,[6],[]⟩,⟨34,[],[7]⟩,⟨35,[8],[]⟩,⟨36,[9],[]⟩,⟨37,[7,10],[]⟩,⟨38,[11],[]⟩]
  [SP.eq (.pointer (some ⟨b,0,none⟩)),SP.eq (.pointer (some ⟨b,0,none⟩)),SP.eq (.pointer (some ⟨b,0,none⟩)),SP.eq (.pointer (some ⟨b,0,none⟩)),SP.eq (.pointer (some ⟨b,1,none⟩)),SP.eq (.slice Ar aD.length cr),SP.eq (.pointer (some ⟨b7,0,none⟩)),SP.eq (.int .u64 z.aa),SP.eq (.pointer (some ⟨b7,1,none⟩)),SP.eq (.slice Aw z.bg.length cw),SP.nR TW lj 28 w8.heap.size ws,SP.agw z.aa w8.heap.size ws,SP.agr z.aa w8.heap.size (b7::O5) ws] [some (.pointer (some ⟨b,0,none⟩)),none,none,none,none,none,none,none,none,none,none,none,none] 39 [5,12] [1,2,3,4,5,6,7,8,9,10,11,12] (λw1 w2 u=> ∃vn O',ee TW 28 w8.heap.size w1 vn ws/\fF TR 82 w.heap.size (b7::O5) w1 (.slice Ar aD.length cr) (aD++[(z.aa,vn)]) O' w2 u) rfl rfl rfl rfl rfl rfl ⟨λ_ _ h=>h,trivial⟩ ⟨?_,?_,?_,?_,?_,?_,?_,?_,?_,?_,?_,?_,?_,trivial⟩ ?_ ⟨?_,rfl,rfl,rfl,rfl,rfl,rfl,rfl,rfl,rfl,rfl,rfl,rfl,trivial⟩ ?_
 ·intro a w2 bR hN bc hb hd
  exact d_ ak ⟨hN,bc,cE (E:=[(5,(.pointer (some ⟨b,0,none⟩)))]) ⟨hb 5 rfl _ rfl,trivial⟩⟩ rfl rfl rfl rfl rfl
 ·intro a w2 bR hN bc hb hd
  exact d_ ak ⟨hN,bc,cE (E:=[(5,(.pointer (some ⟨b,0,none⟩)))]) ⟨hb 5 rfl _ rfl,trivial⟩⟩ rfl rfl rfl rfl rfl
 ·intro a w2 bR hN bc hb hd
  exact d_ ak ⟨hN,bc,cE (E:=[(27,(.pointer (some ⟨b,0,none⟩)))]) ⟨(hd 1 rfl _ _ rfl rfl),trivial⟩⟩ rfl rfl rfl rfl rfl
 ·intro a w2 bR hN bc hb hd
  exact d_ ak ⟨hN,bc,cE (E:=[(28,(.pointer (some ⟨b,0,none⟩)))]) ⟨(hd 2 rfl _ _ rfl rfl),trivial⟩⟩ rfl rfl rfl rfl rfl
 ·intro a w2 bR hN bc hb hd
  exact d_ ak ⟨hN,bc,cE (E:=[(29,(.pointer (some ⟨b,0,none⟩)))]) ⟨(hd 3 rfl _ _ rfl rfl),trivial⟩⟩ rfl rfl rfl rfl rfl
 ·intro a w2 bR hN bc hb hd
  exact vP ak ⟨hN,bc,cE (E:=[(30,(.pointer (some ⟨b,1,none⟩)))]) ⟨(hd 4 rfl _ _ rfl rfl),trivial⟩⟩ rfl rfl rfl rfl rfl rfl (uV.bY.cL bR) [(.slice Ar aD.length cr)] rfl rfl (.inr rfl) (.slice Ar aD.length cr) rfl
 ·intro a w2 bR hN bc hb hd
  exact d_ ak ⟨hN,bc,cE (E:=[(7,(.pointer (some ⟨b7,0,none⟩)))]) ⟨hb 7 rfl _ rfl,trivial⟩⟩ rfl rfl rfl rfl rfl
 ·intro a w2 bR hN bc hb hd
  exact vP ak ⟨hN,bc,cE (E:=[(32,(.pointer (some ⟨b7,0,none⟩)))]) ⟨(hd 6 rfl _ _ rfl rfl),trivial⟩⟩ rfl rfl rfl rfl rfl rfl (qP.cL bR) [(.int .u64 z.aa)] rfl rfl (.inr rfl) (.int .u64 z.aa) rfl
 ·intro a w2 bR hN bc hb hd
  exact d_ ak ⟨hN,bc,cE (E:=[(7,(.pointer (some ⟨b7,0,none⟩)))]) ⟨hb 7 rfl _ rfl,trivial⟩⟩ rfl rfl rfl rfl rfl
 ·intro a w2 bR hN bc hb hd
  exact vP ak ⟨hN,bc,cE (E:=[(34,(.pointer (some ⟨b7,1,none⟩)))]) ⟨(hd 8 rfl _ _ rfl rfl),trivial⟩⟩ rfl rfl rfl rfl rfl rfl (qP.cL bR) [(.slice Aw z.bg.length cw)] rfl rfl (.inr rfl) (.slice Aw z.bg.length cw) rfl
 ·intro a w2 bR hN bc hb hd
  exact(akD (O:=[]) ⟨hN,bc,cE (E:=[(35,(.slice Aw z.bg.length cw))]) ⟨(hd 9 rfl _ _ rfl rfl),trivial⟩⟩ rfl rfl rfl rfl ahd rfl ((am4 (zU _) (Nat.le_refl _) (Vl.tr (ke.fr.trans bR).fU) Mr).mono λ_ _ hh=>TO rfl hh)).weaken (λu w3 ⟨hu,hf⟩=>⟨hu.less bR.size,hf⟩)
 ·intro a w2 bR hN bc hb hd
  have d88:ee TW 28 w8.heap.size w2 (a.tmps.getD 36 undef) ws:=hd 10 rfl _ _ rfl rfl
  obtain⟨u,SG⟩: ∃v,a.tmps.getD 36 undef=v:=⟨_,rfl⟩
  rw[SG] at d88
  obtain⟨wo,xN,rfl,_,_⟩:=d88.form
  exact(d_ ak ⟨hN,bc,cE (E:=[(33,(.int .u64 z.aa)),(36,(.slice wo ws.length xN))]) ⟨(hd 7 rfl _ _ rfl rfl),SG,trivial⟩⟩ rfl rfl rfl rfl rfl).weaken (λu w3 ⟨hu,hf⟩=>by subst hu;exact⟨⟨_,rfl,d88.cL lj hf⟩,hf⟩)
 ·intro a w2 bR hN bc hb hd
  have d96: ∃v,(a.tmps.getD 37 undef)= .agg #[.int .u64 z.aa,v]/\ee TW 28 w8.heap.size w2 v ws:=hd 11 rfl _ _ rfl rfl
  obtain⟨v97,e95,T1⟩:=d96
  obtain⟨wo,xN,rfl,_,_⟩:=T1.form
  exact(akG ak ⟨hN,bc,cE (E:=[(37,(.agg #[(.int .u64 z.aa),(.slice wo ws.length xN)]))]) ⟨e95,trivial⟩⟩ rfl rfl rfl rfl rfl rfl rfl rfl rfl (T:=TR) (xs:=[(z.aa,(.slice wo ws.length xN))]) (vs:=[(.agg #[(.int .u64 z.aa),(.slice wo ws.length xN)])]) rfl ⟨⟨_,⟨rfl,_,_,_,rfl⟩,rfl⟩,trivial⟩ rfl rfl rfl (bR.ob Ek)).weaken (λu w3 ⟨hu,hf⟩=>⟨⟨_,hu,T1.cL lj hf⟩,hf⟩)
 ·intro a w2 bR hN bc hd
  obtain⟨vn,UE,pP⟩: ∃v,TR.slice.is (b7::O5) w2 (a.tmps.getD 38 undef) [(z.aa,v)]/\ee TW 28 w8.heap.size w2 v ws:=hd 12 rfl _ _ rfl rfl
  obtain⟨v38,SF⟩: ∃v,a.tmps.getD 38 undef=v:=⟨_,rfl⟩
  rw[SF] at UE
  obtain⟨yQ,_⟩:=R0 (p:=(z.aa,vn)) hlen Um
  exact gR.weaken (akC ak ⟨hN,bc,cE (E:=[(31,(.slice Ar aD.length cr)),(38,v38)]) ⟨hd 5 rfl _ _ rfl rfl,SF,trivial⟩⟩ rfl rfl rfl rfl rfl rfl rfl rfl rfl rfl rfl rfl rfl rfl rfl (ke.fr.trans bR) (bR.ob Ek) (uV.row.cL bR) UE yQ) (λ_ _ ⟨O',h⟩=>⟨vn,O',pP,h⟩)
 ·rintro w1 w2 u qQ ⟨vn,O',pP,ap⟩ a w' bR hN bc hb
  exact d_ ak ⟨hN,bc,cE (E:=[(5,(.pointer (some ⟨b,0,none⟩)))]) ⟨hb 5 rfl _ rfl,trivial⟩⟩ rfl rfl rfl rfl rfl
 rintro w9 w10 u a ap0 f9 ⟨vn,O10,pP,ap⟩ f10 hN bc E4 jc hu
 have ap:=fF.later ap f10
 have pd:=uV.cL f9
 have Ug:=ke.trans (bW.vM Ek ke.tr.size f9)
 obtain⟨yQ,rfl⟩:=R0 (p:=(z.aa,vn)) hlen Um
 have Uf:=Ug.trans (bW.NG Ug.tr.size pd.row ap)
 obtain⟨AU,Du,rfl,apw,apD⟩:=ap.own.form
 refine AQ (E:=[(5,(.pointer (some ⟨b,0,none⟩))),(20,.slice A5 x0.ax.length c5),(21,.int .i64 (x0.ax.length:Int)),(22,.int .i64 (i:Int)),(26,(.pointer (some ⟨b,0,none⟩))),(39,(.slice AU (aD++[(z.aa,vn)]).length Du))]) (l:=[14,15,16,17]) hN bc ⟨E4 5 _ rfl rfl,E4 20 _ rfl rfl,E4 21 _ rfl rfl,E4 22 _ rfl rfl,(jc 0 _ _ rfl rfl),hu,trivial⟩ rfl ?_
 refine aF ak [14,15,16] [(5,(.pointer (some ⟨b,0,none⟩))),(20,.slice A5 x0.ax.length c5),(21,.int .i64 (x0.ax.length:Int)),(22,.int .i64 (i:Int)),(39,(.slice AU (aD++[(z.aa,vn)]).length Du)),(42,(.pointer (some ⟨b,1,none⟩)))] rfl ⟨rfl,rfl,rfl,rfl,rfl,rfl,trivial⟩ ?_
 have Lj:=ap.bY pd.bY pd.rb
 refine h_ ak rfl rfl rfl rfl rfl rfl rfl Lj [(.slice AU (aD++[(z.aa,vn)]).length Du)] rfl rfl (by simp[Value.oneCell']) rfl [nv,(.slice AU (aD++[(z.aa,vn)]).length Du)] rfl (λw11 air f11=>?_)
 have aij:=Uf.trans (bW.kG Uf.ob (ap.sub _ pd.mem) pd.ge f11)
 have pL:=ahG pP Ek
 have aii:=pd.boxes (x':=aL.mk ns (acc++[ao.mk z.aa ws])) (S':=S++(vn.ownBlock.toList++[])) ap air f11
  (by rw[List.map_append];exact pd.fo.app ⟨[],rfl,rfl,pP.less (Nat.le_trans ke.tr.size (Nat.le_refl _)),rfl⟩)
  (by
   rw[List.append_nil]
   refine List.nodup_append.2 ⟨pd.nd,by cases vn.ownBlock<;>simp,λg hg g' lJ e=>?_⟩
   subst e
   have U:=(uV.fo.lt _ hg).2
   have h2:=(pP.lt g (by simpa using lJ)).1
   omega)
  (λg hg=>by
   rcases List.mem_append.1 hg with hg|hg
   ·exact pd.out g hg
   ·exact pL g (by simpa using hg)) rfl
 refine aX ?_
 refine AT (aR ?_)
 refine aY (l:=[0,1]) rfl ?_
 refine aF ak [0,1] [(5,(.pointer (some ⟨b,0,none⟩))),(20,.slice A5 x0.ax.length c5),(21,.int .i64 (x0.ax.length:Int)),(22,(.int .i64 (IntKind.i64.wrap ((i:Int)+(1:Int)))))] rfl ⟨rfl,rfl,rfl,rfl,trivial⟩ ?_
 refine aX ?_
 exact GQ rest.length [(5,(.pointer (some ⟨b,0,none⟩))),(20,.slice A5 x0.ax.length c5),(21,.int .i64 (x0.ax.length:Int)),(22,(.int .i64 ((i+1:Nat):Int)))] (Nat.lt_succ_self _) ⟨rfl,rfl,rfl,congrArg (λz=>some (Value.int .i64 z)) (tM hl (Nat.le_trans aiS aiU)),trivial⟩ ⟨rest,i+1,O10,_,_,_,_,rfl,E5,rfl,aij,aii,eR⟩
noncomputable def pc (L:List (Value×Value)):List Value:=L.flatMap λp=>[p.1,p.2]
theorem jr: ∀(L:List (Value×Value)),(pc L).length=L.length*2
 |[]=>rfl
 |_::r=>by have:=jr r;unfold pc at this ⊢;simp[this];omega
theorem N2 (L M:List (Value×Value)):pc (L++M)=pc L++pc M:=by simp[pc]
theorem F3: ∀(L:List (Value×Value)) (k:Nat),(pc L).take (k*2)=pc (L.take k)
 |[],k=>by simp[pc]
 |x::r,0=>by simp[pc]
 |x::r,k+1=>by
  have:=F3 r k
  show([x.1,x.2]++pc r).take ((k+1)*2)=[x.1,x.2]++pc (r.take k)
  rw[show(k+1)*2=2+k*2 by omega,List.take_append,<-this,List.take_of_length_le (by simp)]
  simp
theorem F2: ∀(L:List (Value×Value)) (k:Nat),(pc L).drop (k*2)=pc (L.drop k)
 |[],k=>by simp[pc]
 |x::r,0=>by simp
 |x::r,k+1=>by
  have:=F2 r k
  show([x.1,x.2]++pc r).drop ((k+1)*2)=pc (r.drop k)
  rw[show(k+1)*2=2+k*2 by omega,List.drop_append,<-this]
  simp
theorem ak_ {L:List (Value×Value)} {R:List Value} {k:Nat} {x:Value×Value} (h:L[k]? =some x):((pc L++R).drop (k*2)).take 2=[x.1,x.2]:=by
 have hk:=(List.getElem?_eq_some_iff.1 h).1
 rw[List.drop_append_of_le_length (by rw[jr];omega),F2,List.drop_eq_getElem_cons hk,(List.getElem?_eq_some_iff.1 h).2]
 rfl
theorem ak' {L:List (Value×Value)} {R:List Value} {k:Nat} {x:Value×Value} (hk:k<L.length):putAt (pc L++R) (k*2) [x.1,x.2]=pc (L.set k x)++R:=by
 unfold putAt
 have e:L.set k x=L.take k++[x]++L.drop (k+1):=by
  rw[List.set_eq_take_append_cons_drop,if_pos hk];simp
 rw[e,N2,N2,List.take_append_of_le_length (by rw[jr];omega),F3,List.drop_append_of_le_length (by rw[jr];simp;omega)]
 rw[show k*2+[x.1,x.2].length=(k+1)*2 by simp;omega,F2]
 simp[pc]
noncomputable def rp (r:Int×Value):Value×Value:=(.int .u64 r.1,r.2)
noncomputable def rc (aD:List (Int×Value)):List Value:=pc (aD.map rp)
theorem Of {L:List (Int×Value)} {R:List Value} {k:Nat} {x:Int×Value} (h:L[k]? =some x):((rc L++R).drop (k*2)).take 2=[.int .u64 x.1,x.2]:=
 ak_ (x:=rp x) (by simp[h])
theorem XP {L:List (Int×Value)} {R:List Value} {k:Nat} {x:Int×Value} (hk:k<L.length):putAt (rc L++R) (k*2) [.int .u64 x.1,x.2]=rc (L.set k x)++R:=by
 have:=ak' (L:=L.map rp) (R:=R) (x:=rp x) (k:=k) (by simpa using hk)
 rw[show[(rp x).1,(rp x).2]=[.int .u64 x.1,x.2] from rfl] at this
 rw[rc,this,rc]
 simp[List.map_set]
theorem Oh {O:List Nat} {w:World}: ∀ {L:List (Int×Value)},(∀r∈L,∃A n c,r.2= .slice A n c)->cq TR O w (rc L) L
 |[],_=>rfl
 |r::L,h=>⟨[.int .u64 r.1,r.2],rc L,rfl,⟨rfl,h r List.mem_cons_self⟩,Oh λx hx=>h x (List.mem_cons_of_mem _ hx)⟩
theorem OF {O:List Nat} {w:World}: ∀ {L:List (Int×Value)} {cs:List Value},cq TR O w cs L->cs=rc L/\ ∀r∈L,∃A n c,r.2= .slice A n c
 |[],_,h=>⟨h,by simp⟩
 |r::L,cs,⟨c1,c2,U,h2,h3⟩=>by
  obtain⟨e,f⟩:=OF h3
  subst U
  rw[h2.1,e]
  refine⟨rfl,λx hx=>?_⟩
  rcases List.mem_cons.1 hx with rfl|hx
  ·exact h2.2
  ·exact f x hx
noncomputable def Yi:Value->Nat
 | .slice _ n _=>n
 |_=>0
noncomputable def emp (r:Int×Value):Bool:=Yi r.2==0
noncomputable def mV:List (Int×Value)->Nat->Int
 |[],_=> -1
 |r::rest,k=>bif emp r then(k:Int) else mV rest (k+1)
theorem ag6 {n:Nat} {A:Option Addr} {c:Nat} {p:Int}:emp (p,.slice A n c)=((n:Int)==0):=by
 unfold emp Yi
 cases h:n==0<;>simp_all
set_option maxRecDepth 100000 in
set_option maxHeartbeats 4000000 in
theorem Vq {O:List Nat} {w:World} (hO:OB O w) {p:Int} {A:Option Addr} {n c:Nat}:Calls Tryz.prog 121 #[.agg #[.int .u64 p,.slice A n c]] w (jP (rH Ty.bool) O w (emp (p,.slice A n c))):=by
 refine iW (args:=[.agg #[.int .u64 p,.slice A n c]]) (N:=7) Tryz.func121 rfl rfl rfl ?_
 refine aQ ?_
 refine aY (l:=[0,1]) rfl ?_
 refine tL rfl rfl rfl rfl rfl rfl [.int .u64 p,.slice A n c] rfl hO (λb1 w1 n1=>?_)
 refine aF ak [1] [(1,(.pointer (some ⟨b1,0,none⟩)))] rfl ⟨rfl,trivial⟩ ?_
 refine aX ?_
 refine aR ?_
 refine aQ ?_
 refine aY (l:=[0,1,2,3,4]) rfl ?_
 refine aF ak [0] [(3,(.pointer (some ⟨b1,1,none⟩)))] rfl ⟨rfl,trivial⟩ ?_
 refine fD ak rfl rfl rfl rfl rfl rfl rfl n1.bY [.slice A n c] rfl rfl (.inr rfl) (.slice A n c) rfl ?_
 refine aF ak [2,3,4] [(2,.bool ((n:Int)==0))] rfl ⟨rfl,trivial⟩ ?_
 refine aX ?_
 refine aR ?_
 refine ed ?_
 refine fh rfl ⟨_,rfl,?_,n1.fr⟩
 exact mU.2 (by rw[ag6];rfl)
set_option maxRecDepth 100000 in
set_option maxHeartbeats 4000000 in
theorem am7 {O:List Nat} {w:World} (hO:OB O w) {v:Value} {aD:List (Int×Value)} (hv:TR.slice.is [] w v aD):Calls Tryz.prog 78 #[v,.func (.func 121) #[] #[]] w (jP (rH (Ty.int .i64)) O w (mV aD 0)):=by
 obtain⟨A,c,rfl,LZ,UY⟩:=fT hv
 refine iW (args:=[.slice A aD.length c,.func (.func 121) #[] #[]]) (N:=19) Tryz.func78 rfl rfl rfl ?_
 refine aQ ?_
 refine aY (l:=[0]) rfl ?_
 refine aF ak [0] [(0,.slice A aD.length c),(1,.func (.func 121) #[] #[])] rfl ⟨rfl,rfl,trivial⟩ ?_
 refine aX ?_
 refine aR ?_
 refine aQ ?_
 refine aQ ?_
 refine aY (l:=[0,1,2]) rfl ?_
 refine aF ak [0,1,2] [(0,.slice A aD.length c),(1,.func (.func 121) #[] #[]),(7,.int .i64 (aD.length:Int)),(8,.int .i64 ((0:Nat):Int))] rfl ⟨rfl,rfl,rfl,rfl,trivial⟩ ?_
 refine aX ?_
 refine aR ?_
 refine tK ?_
 refine Pv (λm E W=> ∃(rest:List (Int×Value)) (i:Nat),rest.length=m/\aD.drop i=rest/\E=[(0,.slice A aD.length c),(1,.func (.func 121) #[] #[]),(7,.int .i64 (aD.length:Int)),(8,.int .i64 (i:Int))]/\Fr [] w W/\mV rest i=mV aD 0) _
  [(0,.slice A aD.length c),(1,.func (.func 121) #[] #[]),(7,.int .i64 (aD.length:Int)),(8,.int .i64 ((0:Nat):Int))] ⟨rfl,rfl,rfl,rfl,trivial⟩ ⟨aD,0,rfl,rfl,rfl,Fr.refl _ _,rfl⟩ ?_
 rintro m E W ⟨rest,i,rfl,UD,rfl,hF,hf⟩
 rcases rest with _|⟨z,rest⟩
 ·have hl:=drop_nil UD
  have hc:(decide ((i:Int)<(aD.length:Int)))=false:=decide_eq_false (by omega)
  refine aQ ?_
  refine aY (l:=[0]) rfl ?_
  refine aF ak [0] [(9,.bool (decide ((i:Int)<(aD.length:Int))))] rfl ⟨rfl,trivial⟩ ?_
  refine aX ?_
  refine aR ?_
  refine aQ ?_
  refine jO rfl hc ?_
  refine Pu ?_
  refine wm (wm (PG (aR ?_)))
  refine aQ ?_
  refine aY (l:=[0]) rfl ?_
  refine aF ak [0] [(4,.int .i64 (-1))] rfl ⟨rfl,trivial⟩ ?_
  refine aX ?_
  refine aR ?_
  refine ed ?_
  exact fh rfl ⟨_,rfl,eY.2 (by rw[<-hf];rfl),hF⟩
 obtain⟨hl,hg,hd⟩:=drop_cons UD
 have hc:(decide ((i:Int)<(aD.length:Int)))=true:=decide_eq_true (by omega)
 refine aQ ?_
 refine aY (l:=[0]) rfl ?_
 refine aF ak [0] [(0,.slice A aD.length c),(1,.func (.func 121) #[] #[]),(7,.int .i64 (aD.length:Int)),(8,.int .i64 (i:Int)),(9,.bool (decide ((i:Int)<(aD.length:Int))))] rfl ⟨rfl,rfl,rfl,rfl,rfl,trivial⟩ ?_
 refine aX ?_
 refine aR ?_
 refine aQ ?_
 refine jv rfl hc ?_
 refine fC ?_
 refine aR ?_
 refine aQ ?_
 refine tK ?_
 refine aQ ?_
 refine aY (l:=[0,1]) rfl ?_
 refine aF ak [0,1] [(0,.slice A aD.length c),(1,.func (.func 121) #[] #[]),(5,.int .i64 (i:Int)),(7,.int .i64 (aD.length:Int)),(8,.int .i64 (i:Int))] rfl ⟨rfl,rfl,rfl,rfl,rfl,trivial⟩ ?_
 refine aX ?_
 refine aR ?_
 refine aQ ?_
 refine aY (l:=[0,1,2,3,4,5]) rfl ?_
 refine aF ak [0,1,2] [(0,.slice A aD.length c),(1,.func (.func 121) #[] #[]),(5,.int .i64 (i:Int)),(7,.int .i64 (aD.length:Int)),(8,.int .i64 (i:Int)),(11,.func (.func 121) #[] #[]),(12,.slice A aD.length c),(13,.int .i64 (i:Int))] rfl ⟨rfl,rfl,rfl,rfl,rfl,rfl,rfl,rfl,trivial⟩ ?_
 refine PD ak rfl rfl rfl rfl rfl rfl rfl rfl rfl rfl hv rfl (Int.natCast_nonneg _) (by rw[Int.toNat_natCast];exact hg) (λp6 zp=>?_)
 refine aag ak rfl rfl rfl rfl rfl rfl rfl zp hF rfl rfl (λv6 zw=>?_)
 obtain⟨cs,⟨rfl,A2,n2,c2,e2⟩,rfl⟩:=zw
 obtain⟨p,q⟩:=z
 simp only at e2
 subst e2
 refine aaf (O:=O) (first:=[]) (cap:=[]) rfl rfl rfl rfl rfl rfl rfl SL (Vq (hF.ob hO)) (λv7 w7 g7 f7=>?_)
 obtain rfl:=mU.1 g7
 have hF:=hF.trans f7
 rw[mV] at hf
 refine aX ?_
 refine aR ?_
 rcases hb:emp (p,.slice A2 n2 c2) with _|_
 ·refine mM rfl ?_
  refine fC ?_
  refine AT (aR ?_)
  refine aY (l:=[0,1]) rfl ?_
  refine aF ak [0,1] [(0,.slice A aD.length c),(1,.func (.func 121) #[] #[]),(7,.int .i64 (aD.length:Int)),(8,(.int .i64 (IntKind.i64.wrap ((i:Int)+(1:Int)))))] rfl ⟨rfl,rfl,rfl,rfl,trivial⟩ ?_
  refine aX ?_
  rw[hb] at hf
  exact GQ rest.length [(0,.slice A aD.length c),(1,.func (.func 121) #[] #[]),(7,.int .i64 (aD.length:Int)),(8,(.int .i64 ((i+1:Nat):Int)))] (Nat.lt_succ_self _) ⟨rfl,rfl,rfl,congrArg (λz=>some (Value.int .i64 z)) (tM hl (Nat.le_trans LZ UY)),trivial⟩ ⟨rest,i+1,rfl,hd,rfl,hF,hf⟩
 ·refine oE rfl ?_
  refine aQ ?_
  refine aY (l:=[0,1]) rfl ?_
  refine aF ak [0,1] [(4,.int .i64 (i:Int))] rfl ⟨rfl,trivial⟩ ?_
  refine aX ?_
  refine aR ?_
  refine ed ?_
  rw[hb] at hf
  exact GP (gQ (gQ (GP (gQ (fh rfl ⟨_,rfl,eY.2 (by rw[<-hf];rfl),hF⟩)))))
theorem S3: ∀(L:List (Int×Value)) (k:Nat),(mV L k= -1/\L.filter (λr=>!emp r)=L)\/ ∃i x,mV L k=((k+i:Nat):Int)/\L[i]? =some x/\emp x=true/\(L.take i).filter (λr=>!emp r)=L.take i
 |[],k=> .inl ⟨rfl,rfl⟩
 |r::L,k=>by
  rw[mV]
  cases hr:emp r with
  |true=>exact .inr ⟨0,r,rfl,rfl,hr,rfl⟩
  |false=>
   rcases S3 L (k+1) with⟨U,h2⟩|⟨i,x,U,h2,h3,h4⟩
   ·exact .inl ⟨U,by rw[List.filter_cons,hr];simp only[Bool.not_false,if_true];rw[h2]⟩
   ·exact .inr ⟨i+1,x,by rw[show k+(i+1)=k+1+i by omega];exact U,by simpa using h2,h3,by
     rw[List.take_succ_cons,List.filter_cons,hr];simp only[Bool.not_false,if_true];rw[h4]⟩
theorem To {p:Int×Value->Bool} {L:List (Int×Value)} {j:Nat} {x:Int×Value} (h:L[j]? =some x):(L.take (j+1)).filter p=(L.take j).filter p++bif p x then[x] else[]:=by
 rw[List.take_add_one,h,List.filter_append]
 cases hp:p x<;>simp[hp]
theorem aae {P:Program} {r:Option Nat} {N:Nat} {Θ:dG} {ops:Array Oper} {Q:Exit->Act->World->Prop} {l:List Nat} {E:Env} {ds:List Deferred} {w:World} {i:Nat} {o:Oper} (aT:Θ.ok P) (ho:ops[i]? =some o) (hw:want N ops E o.guard=some true) (hd:o.dst=none) {t:Nat} {x:Operand} {ti te:TI}
  (an:o.op= .call { callee:= .builtin .clear,args:= #[x],argTypes:= #[t] }) (ht:Θ.get t=some ti) (h5:ti.tag=5) (cp:Θ.get ti.e=some te) {g of m c e k:Nat} {cur:Array Value} (hx:ev E x=some (.slice (some ⟨g,of,none⟩) (m+1) c)) (hg:w.heap[g]? =some (.cells cur e (0,0))) (hz:te.zero.cells.size=k) (U: ∀u∈(Builtin.zeroCells te.zero.cells (m+1)).toList,u.oneCell'=true) (E7:of+(m+1)*k<=cur.size)
  (h: ∀(W:World) (new:Array Value),Fr [g] w W->W.heap[g]? =some (.cells new e (0,0))->new=(cur.toList.take of++(Builtin.zeroCells te.zero.cells (m+1)).toList++cur.toList.drop (of+(m+1)*k)).toArray->WO P r N ops Q l E ds W):WO P r N ops Q (i::l) E ds w:=by
 have hu:=(aT.fits ht).slice h5
 have hl:(Builtin.zeroCells te.zero.cells (m+1)).toList.length=(m+1)*k:=by rw[Array.length_toList,size_zeroCells,hz]
 have dz:=run_storeCells_at P g of e (Builtin.zeroCells te.zero.cells (m+1)).toList 0 cur w hg (by rw[hl];omega) U
 rw[hl] at dz
 simp only[Nat.add_zero] at dz
 have a_:(Builtin.clear_ #[t] o.type #[.slice (some ⟨g,of,none⟩) (m+1) c]).run P w= .ok (.tuple #[]) (w.setRow g (cur.toList.take of++(Builtin.zeroCells te.zero.cells (m+1)).toList++cur.toList.drop (of+(m+1)*k)).toArray):=by
  simp only[Builtin.clear_,Sem.run_bind,List.getElem?_toArray,List.getElem?_cons_zero,run_underlying hu,Result.andThen_ok]
  simp[tP (aT.fits cp),dz]
 have nW:=h (w.setRow g (cur.toList.take of++(Builtin.zeroCells te.zero.cells (m+1)).toList++cur.toList.drop (of+(m+1)*k)).toArray) _ (qd hg) (by simp only[World.setRow,Array.getElem?_modify,hg,if_true,Option.map_some]) rfl
 refine ao_ (v:= .tuple #[]) ho hw hd (by rw[an];simp) (λa ha=>?_) nW
 simp only[execOp,an,Sem.run_bind,resolve,Sem.run_pure,Result.andThen_ok,invoke,builtin,List.map_toArray,List.map_cons,List.map_nil,ha.eval hx,a_]
theorem aak {n:Nat} {a b u:Value} (ha:a.oneCell'=true) (hb:b.oneCell'=true) (h:u∈(Builtin.zeroCells (Value.agg #[a,b]).cells n).toList):u.oneCell'=true:=by
 simp only[Builtin.zeroCells,Value.cells,Array.toList_map,List.mem_map] at h
 obtain⟨i,_,rfl⟩:=h
 rcases Nat.mod_two_eq_zero_or_one i with h|h<;>simp[h,ha,hb]
set_option maxRecDepth 100000 in
set_option maxHeartbeats 4000000 in
theorem am5 {O:List Nat} {w:World} (hO:OB O w) {B:Nat} {v:Value} {aD:List (Int×Value)} (hv:Go.Dc.Own TR 82 B O w v aD):Calls Tryz.prog 120 #[v,.func (.func 121) #[] #[]] w (ia TR 82 B O w v (aD.filter λr=>!emp r)):=by
 obtain⟨A,c,rfl,fl,mg⟩:=hv.form
 refine iW (args:=[.slice A aD.length c,.func (.func 121) #[] #[]]) (N:=42) Tryz.func120 rfl rfl rfl ?_
 refine aQ ?_
 refine aY (l:=[0]) rfl ?_
 refine aF ak [0] [(0,.slice A aD.length c),(1,.func (.func 121) #[] #[])] rfl ⟨rfl,rfl,trivial⟩ ?_
 refine aX ?_
 refine aR ?_
 refine aQ ?_
 refine aY (l:=[0,1,2,3]) rfl ?_
 refine aF ak [0,1] [(0,.slice A aD.length c),(1,.func (.func 121) #[] #[]),(8,.slice A aD.length c),(9,.func (.func 121) #[] #[])] rfl ⟨rfl,rfl,rfl,rfl,trivial⟩ ?_
 refine GO rfl rfl rfl rfl rfl ahf rfl (am7 hO (hv.nR.data (Oe _) (λ_ _ h=>by cases h))) (λv2 w2 g2 f2=>?_)
 obtain rfl:=eY.1 g2
 refine aF ak [3] [(0,.slice A aD.length c),(1,.func (.func 121) #[] #[]),(5,.int .i64 (mV aD 0))] rfl ⟨rfl,rfl,rfl,trivial⟩ ?_
 refine aX ?_
 refine aR ?_
 refine aQ ?_
 refine aQ ?_
 refine aY (l:=[0,1]) rfl ?_
 refine aF ak [0,1] [(0,.slice A aD.length c),(1,.func (.func 121) #[] #[]),(5,.int .i64 (mV aD 0)),(12,.bool ((mV aD 0)== -1))] rfl ⟨rfl,rfl,rfl,rfl,trivial⟩ ?_
 refine aX ?_
 refine aR ?_
 rcases S3 aD 0 with⟨hr,aiJ⟩|⟨i0,x0,hr,mu,pw,hf0⟩
 ·refine jv rfl (by rw[hr];rfl) ?_
  refine aQ ?_
  refine aY (l:=[0,1]) rfl ?_
  refine aF ak [0,1] [(4,.slice A aD.length c)] rfl ⟨rfl,trivial⟩ ?_
  refine aX ?_
  refine aR ?_
  refine ed ?_
  refine gQ (fh rfl ⟨_,O,rfl,?_⟩)
  rw[aiJ]
  exact⟨hv.cL f2,f2.fU,f2.ob hO,Sub.refl _,λk hk _=>f2.block k hk (by simp),λ_ _ h=>h⟩
 rw[Nat.zero_add] at hr
 refine jO rfl (by rw[hr];exact beq_eq_false_iff_ne.2 (by omega)) ?_
 rw[hr]
 refine fC ?_
 refine aR ?_
 obtain⟨cs,⟨bU,iL⟩,fp⟩:=hv.ex
 have E_:=(List.getElem?_eq_some_iff.1 mu).1
 rcases iL with⟨_,nX⟩|⟨g,cap,cur,iL,iY,hh,lM,sx,eW,kT⟩
 ·omega
 injection iL with hA sJ jz
 subst hA;subst jz
 have gI:=hv.mem g rfl
 obtain⟨sA,nV⟩:=OF fp
 have pg:TR.n=2:=rfl
 rw[pg] at eW kT
 obtain⟨R,hR⟩: ∃R,R=cur.toList.drop (aD.length*2):=⟨_,rfl⟩
 have lH:cur.toList=rc aD++R:=by
  rw[hR,<-sA,<-kT]
  exact(List.take_append_drop _ _).symm
 have hRl:aD.length*2+R.length=c*2:=by
  have:=congrArg List.length lH
  rw[Array.length_toList,eW] at this
  simp only[List.length_append,rc,jr,List.length_map] at this
  omega
 have hb:ck w g 82 (rc aD++R):=by
  unfold ck
  rw[<-lH,Array.toArray_toList]
  exact hh
 have cO:=hb.cL f2
 have jZ:IntKind.i64.wrap ((i0:Int)+1)=((i0+1:Nat):Int):=tM E_ (by omega)
 refine aQ ?_
 refine aQ ?_
 refine aY (l:=[0,1,2]) rfl ?_
 refine aF ak [0,1,2] [(0,.slice (some ⟨g,0,none⟩) aD.length c),(1,.func (.func 121) #[] #[]),(5,.int .i64 (i0:Int)),(6,.int .i64 (IntKind.i64.wrap ((i0:Int)+1)))] rfl ⟨rfl,rfl,rfl,rfl,trivial⟩ ?_
 rw[jZ]
 refine aX ?_
 refine aR ?_
 refine tK ?_
 refine Pv (λm E W=> ∃(i j:Nat) (M:List (Int×Value)),aD.length-j=m/\i<j/\j<=aD.length/\E=[(0,.slice (some ⟨g,0,none⟩) aD.length c),(1,.func (.func 121) #[] #[]),(5,.int .i64 (i:Int)),(6,.int .i64 (j:Int))]/\Fr [g] w W/\ck W g 82 (rc M++R)/\M.length=aD.length/\M.take i=(aD.take j).filter (λr=>!emp r)/\M.drop j=aD.drop j) _
  [(0,.slice (some ⟨g,0,none⟩) aD.length c),(1,.func (.func 121) #[] #[]),(5,.int .i64 (i0:Int)),(6,.int .i64 ((i0+1:Nat):Int))] ⟨rfl,rfl,rfl,rfl,trivial⟩ ⟨i0,i0+1,aD,rfl,Nat.lt_succ_self _,E_,rfl,f2.more (by simp),cO,rfl,by rw[To mu,hf0,pw];simp,rfl⟩ ?_
 rintro m E W ⟨i,j,M,hm,dC,UN,rfl,qM,EY,Uc,yC,Ua⟩
 refine aQ ?_
 refine aQ ?_
 refine aY (l:=[0,1,2,3]) rfl ?_
 refine aF ak [0,1,2,3] [(0,.slice (some ⟨g,0,none⟩) aD.length c),(1,.func (.func 121) #[] #[]),(5,.int .i64 (i:Int)),(6,.int .i64 (j:Int)),(19,.bool (decide ((j:Int)<(aD.length:Int))))] rfl ⟨rfl,rfl,rfl,rfl,rfl,trivial⟩ ?_
 refine aX ?_
 refine aR ?_
 by_cases jb:j<aD.length
 case neg=>
  refine jO rfl (decide_eq_false (by omega)) ?_
  refine Pu ?_
  refine wm (wm (PG (aR ?_)))
  refine aQ ?_
  refine aY (l:=[0,1,2,3]) rfl ?_
  refine aF ak [0,1] [(0,.slice (some ⟨g,0,none⟩) aD.length c),(5,.int .i64 (i:Int)),(36,.slice (some ⟨g,0,none⟩) aD.length c),(37,.int .i64 (i:Int))] rfl ⟨rfl,rfl,rfl,rfl,trivial⟩ ?_
  refine AP ak rfl rfl rfl rfl rfl rfl rfl rfl rfl rfl lM (by omega) ?_
  rw[if_neg (by omega),Option.map_some,iD,Nat.zero_add]
  obtain⟨q,hq⟩: ∃q,aD.length-i=q+1:=⟨aD.length-i-1,by omega⟩
  rw[hq]
  have bz:(rc M++R).length=c*2:=by simp only[List.length_append,rc,jr,List.length_map];omega
  refine aae (k:=2) ak rfl rfl rfl rfl rfl rfl rfl rfl EY rfl (λu hu=>aak rfl rfl hu) (by simp only[List.size_toArray,bz];show i*2+(q+1)*2<=c*2;omega) (λW3 new hsr hsh fP=>?_)
  have KD:Fr [g] w W3:=qM.trans hsr
  have apO:(rc M++R).take (i*2)=rc (M.take i):=by
   unfold rc
   rw[List.take_append_of_le_length (by rw[jr,List.length_map];omega),F3,List.map_take]
  have gx:new.toList=rc (M.take i)++((Builtin.zeroCells (Value.agg #[.int .u64 0,.slice none 0 0]).cells (q+1)).toList++(rc M++R).drop (i*2+(q+1)*2)):=by
   rw[fP]
   simp only[List.toList_toArray,List.append_assoc]
   congr 1
  have m9:new.size=c*2:=by
   rw[<-Array.length_toList,gx]
   simp only[List.length_append,List.length_drop,Array.length_toList,size_zeroCells,rc,jr,List.length_map,List.length_take]
   show min i M.length*2+((q+1)*2+(M.length*2+R.length-(i*2+(q+1)*2)))=c*2
   omega
  refine aX ?_
  refine aR ?_
  refine aQ ?_
  refine aY (l:=[0,1,2,3]) rfl ?_
  refine aF ak [0,1] [(39,.slice (some ⟨g,0,none⟩) aD.length c),(40,.int .i64 (i:Int))] rfl ⟨rfl,rfl,trivial⟩ ?_
  refine PB ak rfl rfl rfl rfl rfl rfl rfl rfl rfl rfl lM (by omega) ?_
  refine aF ak [3] [(4,.slice (some ⟨g,0,none⟩) i c)] rfl ⟨rfl,trivial⟩ ?_
  refine aX ?_
  refine aR ?_
  refine ed ?_
  refine fh rfl ⟨_,O,rfl,?_⟩
  have hjx:aD.take j=aD:=List.take_of_length_le (by omega)
  rw[hjx] at yC
  have u6:(aD.filter λr=>!emp r).length=i:=by rw[<-yC,List.length_take];omega
  have:=PH (T:=TR) (e:=82) (B:=B) (n0:=aD.length) (zs:=aD.filter λr=>!emp r) (cap:=c) hO gI iY KD hsh m9 sx (by omega) (Oh λx hx=>nV x (List.mem_filter.1 hx).1) (by
   rw[gx,yC]
   refine List.take_left' ?_
   rw[rc,jr,List.length_map];rfl)
  rw[u6] at this
  exact this
 refine jv rfl (decide_eq_true (by omega)) ?_
 refine fC ?_
 refine aR ?_
 obtain⟨z,hz⟩: ∃x,aD[j]? =some x:=⟨_,List.getElem?_eq_getElem jb⟩
 have hMz:M[j]? =some z:=by
  have:=congrArg (·[0]?) Ua
  simp only[List.getElem?_drop,Nat.add_zero] at this
  rw[this,hz]
 obtain⟨A2,n2,c2,e2⟩:=nV z (List.mem_of_getElem? hz)
 obtain⟨p,q⟩:=z
 simp only at e2
 subst e2
 have Ub: ∀(M':List (Int×Value)),(∀k,j<k->M'[k]? =M[k]?)->M'.drop (j+1)=aD.drop (j+1):=by
  intro M' h
  apply List.ext_getElem?
  intro k
  have:=congrArg (·[k+1]?) Ua
  simp only[List.getElem?_drop] at this ⊢
  rw[h _ (by omega),show j+1+k=j+(k+1) by omega,this]
 have e1: ∀j:Nat,(j:Int).toNat*({ tag:=8,k:=0,e:=0,fs:=[(29,0),(40,1)],size:=2,bytes:=32,zero:= .agg #[.int .u64 0,.slice none 0 0] }:TI).size=j*2:=λj=>by rw[Int.toNat_natCast]
 refine aQ ?_
 refine tK ?_
 refine aQ ?_
 refine aY (l:=[0,1,2,3,4,5]) rfl ?_
 refine aF ak [0,1] [(0,.slice (some ⟨g,0,none⟩) aD.length c),(1,.func (.func 121) #[] #[]),(5,.int .i64 (i:Int)),(6,.int .i64 (j:Int)),(22,.slice (some ⟨g,0,none⟩) aD.length c),(23,.int .i64 (j:Int))] rfl ⟨rfl,rfl,rfl,rfl,rfl,rfl,trivial⟩ ?_
 refine wj ak rfl rfl rfl rfl rfl rfl rfl rfl rfl rfl (by omega) (by rw[Int.toNat_natCast];omega) ?_
 rw[e1,iD,Nat.zero_add]
 refine fD ak rfl rfl rfl rfl rfl rfl rfl EY [.int .u64 p,.slice A2 n2 c2] (Of hMz) rfl (.inl rfl) (.agg #[.int .u64 p,.slice A2 n2 c2]) rfl ?_
 refine AO ak rfl rfl rfl rfl rfl rfl [(.int .u64 0),(.slice none 0 0)] rfl (qM.ob hO) (λb7 w7 n7=>?_)
 refine h_ ak rfl rfl rfl rfl rfl rfl rfl n7.bY [.int .u64 p,.slice A2 n2 c2] rfl rfl (by simp[Value.oneCell']) rfl [.int .u64 p,.slice A2 n2 c2] rfl (λw8 qP f8=>?_)
 have Nh:g≠b7:=by have:=EY.lt;have:=n7.ge;omega
 have aiu:=(EY.cL n7.fr).fr f8 (by simp;exact Nh)
 have T5:Fr [g] w w8:=by
  refine⟨f8.os.trans (n7.fr.os.trans qM.os),f8.tape.trans (n7.fr.tape.trans qM.tape),f8.output.trans (n7.fr.output.trans qM.output),Nat.le_trans qM.size (Nat.le_trans n7.fr.size f8.size),λk hk hn=>?_⟩
  have U:=qM.size;have h2:=n7.ge;have h3:=n7.fr.size
  rw[f8.block k (by omega) (by simp;omega),n7.fr.block k (by omega) (by simp),qM.block k hk hn]
 refine aX ?_
 refine aR ?_
 refine aQ ?_
 refine aY (l:=[0,1,2,3]) rfl ?_
 refine aF ak [0] [(0,.slice (some ⟨g,0,none⟩) aD.length c),(1,.func (.func 121) #[] #[]),(5,.int .i64 (i:Int)),(6,.int .i64 (j:Int)),(7,(.pointer (some ⟨b7,0,none⟩))),(26,.func (.func 121) #[] #[])] rfl ⟨rfl,rfl,rfl,rfl,rfl,rfl,trivial⟩ ?_
 refine fD ak rfl rfl rfl rfl rfl rfl rfl qP [.int .u64 p,.slice A2 n2 c2] rfl rfl (.inl rfl) (.agg #[.int .u64 p,.slice A2 n2 c2]) rfl ?_
 refine aaf (O:=O) (first:=[]) (cap:=[]) rfl rfl rfl rfl rfl rfl rfl SL (Vq (T5.ob hO)) (λv9 w9 g9 f9=>?_)
 obtain rfl:=mU.1 g9
 have T6:=T5.trans (f9.more (by simp))
 have Ut:=aiu.cL f9
 have ais:=qP.cL f9
 refine aF ak [3] [(0,.slice (some ⟨g,0,none⟩) aD.length c),(1,.func (.func 121) #[] #[]),(5,.int .i64 (i:Int)),(6,.int .i64 (j:Int)),(7,(.pointer (some ⟨b7,0,none⟩))),(29,.bool (!emp (p,.slice A2 n2 c2)))] rfl ⟨rfl,rfl,rfl,rfl,rfl,rfl,trivial⟩ ?_
 refine aX ?_
 refine aR ?_
 have E9:=To (p:=λr=>!emp r) hz
 rcases hb:emp (p,.slice A2 n2 c2) with _|_
 ·rw[hb] at E9
  refine oE rfl ?_
  refine aQ ?_
  refine aY (l:=[0,1,2,3,4]) rfl ?_
  refine aF ak [0,1] [(0,.slice (some ⟨g,0,none⟩) aD.length c),(1,.func (.func 121) #[] #[]),(5,.int .i64 (i:Int)),(6,.int .i64 (j:Int)),(7,(.pointer (some ⟨b7,0,none⟩))),(30,.slice (some ⟨g,0,none⟩) aD.length c),(31,.int .i64 (i:Int))] rfl ⟨rfl,rfl,rfl,rfl,rfl,rfl,rfl,trivial⟩ ?_
  refine fD ak rfl rfl rfl rfl rfl rfl rfl ais [.int .u64 p,.slice A2 n2 c2] rfl rfl (.inl rfl) (.agg #[.int .u64 p,.slice A2 n2 c2]) rfl ?_
  refine wj ak rfl rfl rfl rfl rfl rfl rfl rfl rfl rfl (by omega) (by rw[Int.toNat_natCast];omega) ?_
  rw[e1,iD,Nat.zero_add]
  refine h_ ak rfl rfl rfl rfl rfl rfl rfl Ut [.int .u64 p,.slice A2 n2 c2] rfl rfl (by simp[Value.oneCell']) (Nat.ble_eq_true_of_le (by simp only[List.length_append,rc,jr,List.length_map];show i*2+2<=_;omega)) (rc (M.set i (p,.slice A2 n2 c2))++R) (XP (x:=(p,.slice A2 n2 c2)) (by omega)) (λw10 Lj f10=>?_)
  refine aX ?_
  refine aR ?_
  refine aY (l:=[0,1,2]) rfl ?_
  refine aF ak [0,1,2] [(0,.slice (some ⟨g,0,none⟩) aD.length c),(1,.func (.func 121) #[] #[]),(5,.int .i64 (IntKind.i64.wrap ((i:Int)+1))),(6,.int .i64 (j:Int))] rfl ⟨rfl,rfl,rfl,rfl,trivial⟩ ?_
  rw[tM (show i<aD.length by omega) (by omega)]
  refine aX ?_
  refine AT (aR ?_)
  refine aY (l:=[0,1,2]) rfl ?_
  refine aF ak [0,1,2] [(0,.slice (some ⟨g,0,none⟩) aD.length c),(1,.func (.func 121) #[] #[]),(5,.int .i64 ((i+1:Nat):Int)),(6,.int .i64 (IntKind.i64.wrap ((j:Int)+1)))] rfl ⟨rfl,rfl,rfl,rfl,trivial⟩ ?_
  rw[tM jb (by omega)]
  refine aX ?_
  refine GQ (aD.length-(j+1)) [(0,.slice (some ⟨g,0,none⟩) aD.length c),(1,.func (.func 121) #[] #[]),(5,.int .i64 ((i+1:Nat):Int)),(6,.int .i64 ((j+1:Nat):Int))] (by omega) ⟨rfl,rfl,rfl,rfl,trivial⟩ ⟨i+1,j+1,M.set i (p,.slice A2 n2 c2),rfl,by omega,by omega,rfl,T6.trans f10,Lj,by rw[List.length_set];exact Uc,?_,Ub _ (λk hk=>List.getElem?_set_ne (by omega))⟩
  rw[E9,<-yC,List.take_add_one,List.take_set_of_le (by omega),List.getElem?_set_self (by omega)]
  rfl
 ·rw[hb] at E9
  refine mM rfl ?_
  refine fC ?_
  refine AT (aR ?_)
  refine aY (l:=[0,1,2]) rfl ?_
  refine aF ak [0,1,2] [(0,.slice (some ⟨g,0,none⟩) aD.length c),(1,.func (.func 121) #[] #[]),(5,.int .i64 (i:Int)),(6,.int .i64 (IntKind.i64.wrap ((j:Int)+1)))] rfl ⟨rfl,rfl,rfl,rfl,trivial⟩ ?_
  rw[tM jb (by omega)]
  refine aX ?_
  refine GQ (aD.length-(j+1)) [(0,.slice (some ⟨g,0,none⟩) aD.length c),(1,.func (.func 121) #[] #[]),(5,.int .i64 (i:Int)),(6,.int .i64 ((j+1:Nat):Int))] (by omega) ⟨rfl,rfl,rfl,rfl,trivial⟩ ⟨i,j+1,M,rfl,by omega,by omega,rfl,T6,Ut,Uc,?_,Ub M (λ_ _=>rfl)⟩
  rw[E9,<-yC]
  simp
end Go.Proofs.YtdhaaaeffhaadaaGreatDoor
end
section


end
section
namespace Go.Proofs.YtdhaaaeffhaadaaGreatDoor
open Go.RowKit Go.Dc Go.Vx
theorem TA: ∀ {S:List Nat} {rs:List (Int×Value)} {xs:List (Int×List Int)} {B:Nat} {w:World} {k:Nat} {r:Int×Value} {y:Int×List Int},eo TW 28 B w S rs xs->rs[k]? =some r->xs[k]? =some y->r.1=y.1/\ee TW 28 B w r.2 y.2/\ ∀g,r.2.ownBlock=some g->g∈S
 |_,x::rs,z::xs,_,_,0,r,y,⟨S2,U,h2,h3,h4⟩,hr,hy=>by
  simp at hr hy
  subst hr;subst hy
  exact⟨U,h3,λg hg=>by rw[h2,hg];simp⟩
 |_,x::rs,z::xs,_,_,k+1,r,y,⟨S2,U,h2,h3,h4⟩,hr,hy=>by
  obtain⟨a,b,c⟩:=TA h4 (by simpa using hr) (by simpa using hy)
  exact⟨a,b,λg hg=>by rw[h2];exact List.mem_append_right _ (c g hg)⟩
 |_,[],_,_,_,_,_,_,_,hr,_=>by simp at hr
 |_,_::_,[],_,_,_,_,_,h,_,_=>h.elim
theorem amm {B:Nat} {O2:List Nat} {w:World} {rv:Value} {S:List Nat} {aD:List (Int×Value)} {bs:List ao} (hr:ee TR 82 B w rv aD) (hf:eo TW 28 B w S aD (bs.map bx)) (U: ∀g,rv.ownBlock=some g->g∉O2) (h2: ∀g∈S,g∉O2):(Ty.slice mJ).is O2 w rv bs:=by
 have hlen:aD.length=bs.length:=by have:=hf.len;simpa using this
 obtain⟨cs,⟨A,c,hc,hl,hx⟩,hv⟩:=hr.data (Oe _) U
 refine⟨cs,⟨A,c,by rw[<-hlen];exact hc,by rw[<-hlen];exact hl,λk z hk=>?_⟩,hv⟩
 have qX:k<aD.length:=by rw[hlen];exact(List.getElem?_eq_some_iff.1 hk).1
 obtain⟨ad,es,hA,hb,ho,fp,yU⟩:=hx k _ (List.getElem?_eq_getElem qX)
 obtain⟨e1,e2,e3⟩:=TA hf (List.getElem?_eq_getElem qX) (show(bs.map bx)[k]? =some (bx z) by simp[hk])
 refine⟨ad,es,hA,hb,ho,?_,yU⟩
 refine⟨[.int .u64 z.aa],[aD[k].2],?_,rfl,tp rfl (e2.data lj λg hg=>h2 g (e3 g hg))⟩
 rw[fp.1,e1]
 rfl
theorem iC.adw {B:Nat} {O O2:List Nat} {w:World} {b:Nat} {nv rv:Value} {S:List Nat} {aD:List (Int×Value)} {x:aL} (h:iC B O w b nv rv S aD x) (hO: ∀g∈O2,g<B):(Ty.slice mJ).is O2 w rv x.ax:=
 amm h.row.nR h.fo (λg hg ho=>by have:=(h.row.lt g hg).1;have:=hO g ho;omega) (λg hg ho=>by have:=(h.fo.lt g hg).1;have:=hO g ho;omega)
theorem Gy:fu.Flat:=λh=>h
noncomputable def tG (x:aL):aL:=aL.mk x.aB (x.ax.filter λz=>!(z.bg.length==0))
noncomputable def Fo (fuel:Sh) (x:aL) (pid:Int):Option (aL×Int):=
 (Mx fuel x.ax pid).bind λf=>bif (!f.2) then(mv 32 x.ax f.1 [ao.mk pid []]).bind λbs=>some (aL.mk x.aB bs,f.1) else some (x,f.1)
set_option maxRecDepth 100000 in
set_option maxHeartbeats 4000000 in
theorem ajs {O:List Nat} {w:World} (hO:OB O w) {B b:Nat} {x:aL} (hG:dI KK [] w) (hB:B<=w.heap.size) (h:qn B O w b x) {pid:Int} {r:aL×Int} (hr:Fo shut x pid=some r):
  Calls Tryz.prog 119 #[.pointer (some ⟨b,0,none⟩),.int .u64 pid] w (λen w'=>en= .returned (.int .i64 r.2)/\ ∃O',bW B O w O' w'/\qn B O' w' b r.1):=by
 obtain⟨nv,rv,S,aD,h⟩:=h
 unfold Fo at hr
 refine iW (args:=[.pointer (some ⟨b,0,none⟩),.int .u64 pid]) (N:=34) Tryz.func119 rfl rfl rfl ?_
 refine aQ ?_
 refine aY (l:=[0]) rfl ?_
 refine aF ak [0] [(0,(.pointer (some ⟨b,0,none⟩))),(1,.int .u64 pid)] rfl ⟨rfl,rfl,trivial⟩ ?_
 refine aX ?_
 refine aR ?_
 refine aQ ?_
 refine aY (l:=[0,1,2,3,4,5,6,7,8,9,10,11]) rfl ?_
 refine aF ak [0,1,2,3] [(0,(.pointer (some ⟨b,0,none⟩))),(1,.int .u64 pid),(11,(.pointer (some ⟨b,1,none⟩)))] rfl ⟨rfl,rfl,rfl,trivial⟩ ?_
 obtain⟨A1,c1,rfl,_,_⟩:=h.row.form
 refine fD ak rfl rfl rfl rfl rfl rfl rfl h.bY [.slice A1 aD.length c1] rfl rfl (.inr rfl) (.slice A1 aD.length c1) rfl ?_
 refine aF ak [5] [(0,(.pointer (some ⟨b,0,none⟩))),(1,.int .u64 pid),(12,.slice A1 aD.length c1),(13,.int .u64 pid)] rfl ⟨rfl,rfl,rfl,rfl,trivial⟩ ?_
 obtain⟨f,hf,hr⟩:=bind_some hr
 refine GO rfl rfl rfl rfl rfl aha rfl (ajt (zU _) hG (h.adw (λ_ hg=>by cases hg)) hf) (λv2 w2 g2 f2=>?_)
 obtain⟨_,_,rfl,q1,q2⟩:=g2
 obtain rfl:=eY.1 q1
 obtain rfl:=mU.1 q2
 have h:=h.cL f2
 have dA:bW B O w O w2:=bW.vM hO hB f2
 refine aF ak [7,8,9,10,11] [(0,(.pointer (some ⟨b,0,none⟩))),(1,.int .u64 pid),(5,.int .i64 f.1),(6,.bool f.2)] rfl ⟨rfl,rfl,rfl,rfl,trivial⟩ ?_
 refine aX ?_
 refine aR ?_
 refine aQ ?_
 refine aQ ?_
 refine aY (l:=[0,1]) rfl ?_
 refine aF ak [0,1] [(0,(.pointer (some ⟨b,0,none⟩))),(1,.int .u64 pid),(5,.int .i64 f.1),(18,.bool (!f.2))] rfl ⟨rfl,rfl,rfl,rfl,trivial⟩ ?_
 refine aX ?_
 refine aR ?_
 rcases nK hr with⟨hc,hr⟩|⟨hc,hr⟩
 rotate_left
 ·refine jO rfl hc ?_
  refine fC ?_
  refine aR ?_
  refine aQ ?_
  refine aY (l:=[0,1]) rfl ?_
  refine aF ak [0,1] [(4,.int .i64 f.1)] rfl ⟨rfl,trivial⟩ ?_
  refine aX ?_
  refine aR ?_
  refine ed ?_
  cases hr
  exact fh rfl ⟨rfl,_,dA,_,_,_,_,h⟩
 refine jv rfl hc ?_
 obtain⟨bs,eR,hr⟩:=bind_some hr
 cases hr
 refine aY (l:=[0,1,2,3,4,5,6,7,8,9,10,11,12,13,14]) rfl ?_
 refine aF ak [0,1,2,3,4] [(1,.int .u64 pid),(5,.int .i64 f.1),(19,(.pointer (some ⟨b,0,none⟩))),(23,(.pointer (some ⟨b,1,none⟩)))] rfl ⟨rfl,rfl,rfl,rfl,trivial⟩ ?_
 refine fD ak rfl rfl rfl rfl rfl rfl rfl h.bY [.slice A1 aD.length c1] rfl rfl (.inr rfl) (.slice A1 aD.length c1) rfl ?_
 refine aF ak [6,7,8] [(5,.int .i64 f.1),(19,(.pointer (some ⟨b,0,none⟩))),(24,.slice A1 aD.length c1),(25,.int .i64 f.1),(27,.agg #[.int .u64 pid,.slice none 0 0])] rfl ⟨rfl,rfl,rfl,rfl,rfl,trivial⟩ ?_
 refine wk ak rfl rfl rfl rfl rfl rfl rfl rfl rfl rfl (T:=TR) (xs:=[(pid,.slice none 0 0)]) (vs:=[.agg #[.int .u64 pid,.slice none 0 0]]) rfl ⟨⟨_,⟨rfl,_,_,_,rfl⟩,rfl⟩,trivial⟩ rfl rfl rfl dA.ob (λb3 w3 q3=>?_)
 have h:=h.cL q3.fr
 have eV:=dA.trans (bW.vM dA.ob (Nat.le_trans hB dA.tr.size) q3.fr)
 have Lu:=q3.data dA.ob
 have Mc:=(q3.own (B:=0) (Nat.zero_le _)).plain
 have T2:B<=w3.heap.size:=Nat.le_trans hB eV.tr.size
 obtain⟨j0,j1,jsz,rfl⟩:=Vu eR
 have hlen:aD.length=x.ax.length:=by have:=h.fo.len;simpa using this
 have qT:Gu aD f.1 [(pid,.slice none 0 0)]=some (aD.take f.1.toNat++[(pid,.slice none 0 0)]++aD.drop f.1.toNat):=by
  unfold Gu mv
  rw[if_pos ⟨j0,by rw[hlen];exact j1,by rw[hlen];exact jsz⟩]
 refine aah rfl rfl rfl rfl rfl ahb rfl (am8 eV.ob T2 h.row (eY.2 rfl) Lu Mc qT) (λv' w' O' ap=>?_)
 have dw:=eV.trans (bW.NG T2 h.row ap)
 have hb4:=ap.bY h.bY h.rb
 obtain⟨A2,c2,rfl,_,_⟩:=ap.own.form
 have ij:=h.fo.ins f.1.toNat pid (by rw[hlen];omega)
 generalize hL:(aD.take f.1.toNat++[(pid,.slice none 0 0)]++aD.drop f.1.toNat)=L at*
 refine aF ak [11,12,13] [(5,.int .i64 f.1),(29,.slice A2 L.length c2),(32,(.pointer (some ⟨b,1,none⟩)))] rfl ⟨rfl,rfl,rfl,trivial⟩ ?_
 refine h_ ak rfl rfl rfl rfl rfl rfl rfl hb4 [.slice A2 L.length c2] rfl rfl (by simp[Value.oneCell']) rfl [nv,.slice A2 L.length c2] rfl (λw5 sv f5=>?_)
 have jX:=dw.trans (bW.kG dw.ob (ap.sub _ h.mem) h.ge f5)
 refine aX ?_
 refine aR ?_
 refine aQ ?_
 refine aY (l:=[0,1]) rfl ?_
 refine aF ak [0,1] [(4,.int .i64 f.1)] rfl ⟨rfl,trivial⟩ ?_
 refine aX ?_
 refine aR ?_
 refine ed ?_
 refine fh rfl ⟨rfl,_,jX,_,_,_,_,h.boxes (x':=aL.mk x.aB (x.ax.take f.1.toNat++[ao.mk pid []]++x.ax.drop f.1.toNat)) ap sv f5 ?_ h.nd h.out rfl⟩
 simpa[List.map_take,List.map_drop,bx] using ij
theorem apc {P:Program} {r:Option Nat} {N:Nat} {ops:Array Oper} {Q:Exit->Act->World->Prop} {l:List Nat} {E:Env} {ds:List Deferred} {w:World} {i d:Nat} {o:Oper} (ho:ops[i]? =some o) (hw:want N ops E o.guard=some true) (hd:o.dst=some d) (hN:Nat.blt d N=true) {x:Operand} {args:Array Operand} {ts:Array TypeId} (an:o.op= .call { callee:= .value x,args:=args,argTypes:=ts })
  {g:FuncId} {first cap vs:List Value} (hx:ev E x=some (.func (.func g) first.toArray cap.toArray)) (eS:lk E args.toList=some vs) (he: ∀(vs:Array Value) (u:World),(callFunc g vs).run P u= .ok (.enter g vs) u)
  {R:Ending->World->Prop} (fO:Calls P g (first++vs++cap).toArray w R) (h: ∀e w',R e w'-> ∃v,e= .returned v/\WO P r N ops Q l ((d,v)::E) ds w'):WO P r N ops Q (i::l) E ds w:=
 PC ho hw hd hN (by rw[an];simp) (λa ha=>by simpa using Ys (w:=w) ha an hx eS he) fO h
noncomputable def sW (fuel:Sh) (x:aL) (pid:Int):Option (aL×Int×Int):=
 (zD fuel x).bind λh=>bif (!(h.2==0)) then some (aL.mk [] [],0,h.2) else bif (!(re pid)) then some (aL.mk [] [],0,2) else(Fo fuel h.1 pid).bind λq=>some (q.1,q.2,0)
noncomputable def aao (O:List Nat) (w:World) (r:aL×Int×Int) (en:Ending) (w':World):Prop:=
 ∃pv O',en= .returned (.tuple #[pv,.int .i64 r.2.1,.int .i64 r.2.2])/\bW w.heap.size O w O' w'/\(r.2.2=0-> ∃b,pv= .pointer (some ⟨b,0,none⟩)/\qn w.heap.size O' w' b r.1)
theorem bW.to {O O1 O':List Nat} {w w1 w':World} (h:bW w.heap.size O w O1 w1) (k:bW w1.heap.size O1 w1 O' w'):bW w.heap.size O w O' w':=
 h.trans ⟨k.tr,k.ob,k.sub,λi hi=>k.below i (Nat.lt_of_lt_of_le hi h.tr.size)⟩
theorem qn.less {B B':Nat} {O:List Nat} {w:World} {b:Nat} {x:aL} (h:qn B O w b x) (hb:B'<=B):qn B' O w b x:=by
 obtain⟨nv,rv,S,aD,h⟩:=h
 have less: ∀ {α:Type} {T:Ty α} {e:Nat} {v:Value} {xs:List α},Go.Dc.Own T e B O w v xs->Go.Dc.Own T e B' O w v xs:=λh=>by
  obtain⟨⟨cs,⟨h0,U⟩,h2⟩,h3⟩:=h
  refine⟨⟨cs,⟨h0,?_⟩,h2⟩,h3⟩
  rcases U with U|⟨g,cap,cur,hv,hg,r⟩
  ·exact .inl U
  ·exact .inr ⟨g,cap,cur,hv,Nat.le_trans hb hg,r⟩
 have ahF: ∀ {S:List Nat} {rs:List (Int×Value)} {xs:List (Int×List Int)},eo TW 28 B w S rs xs->eo TW 28 B' w S rs xs:=λ{S rs xs} h=>by
  induction rs generalizing S xs with
  |nil=>cases xs with
   |nil=>exact h
   |cons _ _=>exact h.elim
  |cons r rs ih=>cases xs with
   |nil=>exact h.elim
   |cons y ys=>obtain⟨S2,U,h2,h3,h4⟩:=h;exact⟨S2,U,h2,h3.less hb,ih h4⟩
 exact⟨nv,rv,S,aD,h.mem,Nat.le_trans hb h.ge,h.bY,less h.ns,less h.row,ahF h.fo,h.nd,h.out,h.nb,h.rb,h.dj⟩
set_option maxRecDepth 100000 in
set_option maxHeartbeats 4000000 in
theorem Mw {O:List Nat} {w:World} (hO:OB O w) (hG:dI KK [] w) {v0:Value} {x0:aL} (h0:jL.is [] w v0 x0) {pid:Int} {r:aL×Int×Int} (h:sW shut x0 pid=some r):Calls Tryz.prog 75 #[v0,.int .u64 pid] w (aao O w r):=by
 obtain⟨ff,fg,rfl,yv,uQ⟩:=nr.1 h0
 have kQ:bW w.heap.size O w O w:=bW.refl hO
 refine iW (args:=[(.agg #[ff,fg]),.int .u64 pid]) (N:=29) Tryz.func75 rfl rfl rfl ?_
 unfold sW at h
 refine aQ ?_
 refine aY (l:=[0,1,2,3]) rfl ?_
 refine tL rfl rfl rfl rfl rfl rfl [ff,fg] rfl hO (λb1 w1 n1=>?_)
 have cX:=n1.bY
 have eM:=kQ.trans (bW.oh kQ.tr.size n1)
 refine aF ak [1,2,3] [(1,.int .u64 pid),(2,(.pointer (some ⟨b1,0,none⟩)))] rfl ⟨rfl,rfl,trivial⟩ ?_
 refine aX ?_
 refine aR ?_
 refine aQ ?_
 refine aY (l:=[0,1,2,3,4,5,6]) rfl ?_
 refine fD ak rfl rfl rfl rfl rfl rfl rfl cX [ff,fg] rfl rfl (.inl rfl) (.agg #[ff,fg]) rfl ?_
 obtain⟨e,he,h⟩:=bind_some h
 refine oF rfl rfl rfl rfl rfl ag9 rfl (ajv eM.ob (hG.tr eM.fr.fU) (h0.tr eM.fr.fU) he) (λ_ w2 hg=>?_)
 obtain⟨pv,O2,rfl,dA,ss⟩:=hg
 refine⟨_,rfl,?_⟩
 have eV:=eM.to dA
 refine aF ak [2,3,4,5,6] [(1,.int .u64 pid),(7,pv),(8,.int .i64 e.2)] rfl ⟨rfl,rfl,rfl,trivial⟩ ?_
 refine aX ?_
 refine aR ?_
 refine aQ ?_
 refine tK ?_
 refine aQ ?_
 refine aY (l:=[0,1,2]) rfl ?_
 refine aF ak [0,1,2] [(1,.int .u64 pid),(7,pv),(8,.int .i64 e.2),(15,.bool (!(e.2==0)))] rfl ⟨rfl,rfl,rfl,rfl,trivial⟩ ?_
 refine aX ?_
 refine aR ?_
 rcases nK h with⟨hc,h⟩|⟨hc,h⟩
 ·refine jv rfl hc ?_
  refine aQ ?_
  refine aY (l:=[0,1,2,3]) rfl ?_
  refine aF ak [0,1,2,3] [(4,(.pointer none)),(5,.int .i64 0),(6,.int .i64 e.2)] rfl ⟨rfl,rfl,rfl,trivial⟩ ?_
  refine aX ?_
  refine aR ?_
  refine ed ?_
  cases h
  exact GP (gQ (fh rfl ⟨_,_,rfl,eV,λh0=>by simp at hc;exact absurd h0 hc⟩))
 refine jO rfl hc ?_
 have pw:e.2=0:=by simpa using hc
 obtain⟨b,rfl,hH⟩:=ss pw
 have hH:=hH.less eM.tr.size
 refine aQ ?_
 refine aY (l:=[0,1,2,3]) rfl ?_
 refine aF ak [0] [(1,.int .u64 pid),(7,(.pointer (some ⟨b,0,none⟩))),(8,.int .i64 e.2),(20,.int .u64 pid)] rfl ⟨rfl,rfl,rfl,rfl,trivial⟩ ?_
 refine GO rfl rfl rfl rfl rfl ahg rfl (aju (zU _) (hG.tr eV.fr.fU) (eY.2 rfl)) (λv4 w4 g4 f4=>?_)
 obtain rfl:=mU.1 g4
 have dw:=eV.trans (bW.vM eV.ob eV.tr.size f4)
 have hH:qn w.heap.size O2 w4 b e.1:=let⟨_,_,_,_,k⟩:=hH;⟨_,_,_,_,k.cL f4⟩
 refine aF ak [2,3] [(1,.int .u64 pid),(7,(.pointer (some ⟨b,0,none⟩))),(19,.bool (!(re pid)))] rfl ⟨rfl,rfl,rfl,trivial⟩ ?_
 refine aX ?_
 refine aR ?_
 rcases nK h with⟨hc,h⟩|⟨hc,h⟩
 ·refine jv rfl hc ?_
  refine aQ ?_
  refine aY (l:=[0,1,2]) rfl ?_
  refine aF ak [0,1,2] [(4,(.pointer none)),(5,.int .i64 0),(6,.int .i64 2)] rfl ⟨rfl,rfl,rfl,trivial⟩ ?_
  refine aX ?_
  refine aR ?_
  refine ed ?_
  cases h
  exact GP (gQ (fh rfl ⟨_,_,rfl,dw,λh0=>by cases h0⟩))
 refine jO rfl hc ?_
 refine fC ?_
 refine AT (aR ?_)
 refine aQ ?_
 refine aY (l:=[0,1,2]) rfl ?_
 refine aF ak [0,1,2] [(1,.int .u64 pid),(7,(.pointer (some ⟨b,0,none⟩))),(9,.func (.func 119) #[.pointer (some ⟨b,0,none⟩)] #[])] rfl ⟨rfl,rfl,rfl,trivial⟩ ?_
 refine aX ?_
 refine aR ?_
 refine aQ ?_
 refine aY (l:=[0,1,2,3,4,5,6]) rfl ?_
 refine aF ak [0,1,2] [(25,(.pointer (some ⟨b,0,none⟩))),(26,.func (.func 119) #[.pointer (some ⟨b,0,none⟩)] #[]),(27,.int .u64 pid)] rfl ⟨rfl,rfl,rfl,trivial⟩ ?_
 obtain⟨q,hq,h⟩:=bind_some h
 cases h
 refine apc (first:=[.pointer (some ⟨b,0,none⟩)]) (cap:=[]) rfl rfl rfl rfl rfl rfl rfl ag_ (ajs dw.ob (hG.tr dw.fr.fU) dw.tr.size hH hq) (λ_ w5 hg=>?_)
 obtain⟨rfl,O5,jX,hH5⟩:=hg
 refine⟨_,rfl,?_⟩
 refine aF ak [4,5,6] [(4,(.pointer (some ⟨b,0,none⟩))),(5,.int .i64 q.2),(6,.int .i64 0)] rfl ⟨rfl,rfl,rfl,trivial⟩ ?_
 refine aX ?_
 refine aR ?_
 refine ed ?_
 exact fh rfl ⟨_,_,rfl,dw.trans jX,λ_=>⟨b,rfl,hH5⟩⟩
noncomputable def Safe (S:List Nat) (w:World) (v:Value) (ys:List Int):Prop:= ∀O2:List Nat,(∀g∈S,g∉O2)->TW.slice.is O2 w v ys
theorem Safe.keep {S:List Nat} {w w':World} {O O':List Nat} {v:Value} {ys:List Int} (h:Safe S w v ys) (ht:Tr O w O' w') (hk: ∀g∈S,w'.heap[g]? =w.heap[g]?):Safe S w' v ys:=λO2 m0=>by
 refine(h ((List.range w.heap.size).filter λk=>!S.contains k) (λg hg hm=>?_)).tr ⟨ht.os,ht.tape,ht.output,ht.size,λk zd gw=>?_⟩
 ·simp[hg] at hm
 ·have hS:k∈S:=by
   rw[List.mem_filter] at gw
   by_cases hc:k∈S
   ·exact hc
   ·exact absurd ⟨by simpa using zd,by simpa using hc⟩ gw
  exact⟨m0 k hS,hk k hS⟩
noncomputable def fj (S:List Nat) (w:World):List (Int×Value)->List ao->Prop
 |[],[]=>True
 |r::rs,z::bs=>r.1=z.aa/\Safe S w r.2 z.bg/\fj S w rs bs
 |_,_=>False
theorem fj.imp {S S':List Nat} {w w':World} (h: ∀v ys,Safe S w v ys->Safe S' w' v ys): ∀ {rs:List (Int×Value)} {bs:List ao},fj S w rs bs->fj S' w' rs bs
 |[],[],_=>trivial
 |_::_,_::_,⟨U,h2,h3⟩=>⟨U,h _ _ h2,fj.imp h h3⟩
 |[],_::_,k=>k.elim
 |_::_,[],k=>k.elim
theorem fj.len {S:List Nat} {w:World}: ∀ {rs:List (Int×Value)} {bs:List ao},fj S w rs bs->rs.length=bs.length
 |[],[],_=>rfl
 |_::_,_::_,⟨_,_,h3⟩=>by simp[fj.len h3]
 |[],_::_,k=>k.elim
 |_::_,[],k=>k.elim
theorem fj.of {B:Nat} {w:World}: ∀ {S:List Nat} {rs:List (Int×Value)} {bs:List ao} (S0:List Nat),eo TW 28 B w S rs (bs.map bx)->(∀g∈S,g∈S0)->fj S0 w rs bs
 |_,[],[],_,_,_=>trivial
 |_,r::rs,z::bs,S0,⟨S2,U,h2,h3,h4⟩,hs=>by
  refine⟨U,λO2 m0=>h3.data lj λg hg=>m0 g (hs g (by rw[h2,hg];simp)),fj.of S0 h4 λg hg=>hs g (by rw[h2];exact List.mem_append_right _ hg)⟩
 |_,[],_::_,_,h,_=>h.elim
 |_,_::_,[],_,h,_=>h.elim
theorem fj.at_ {S:List Nat} {w:World}: ∀ {rs:List (Int×Value)} {bs:List ao} {k:Nat} {z:ao},fj S w rs bs->bs[k]? =some z-> ∃v,rs[k]? =some (z.aa,v)/\Safe S w v z.bg
 |r::rs,y::bs,0,z,⟨U,h2,_⟩,hk=>by
  simp at hk
  subst hk
  exact⟨r.2,by simp[<-U],h2⟩
 |r::rs,y::bs,k+1,z,⟨_,_,h3⟩,hk=>by
  obtain⟨v,a,b⟩:=fj.at_ h3 (by simpa using hk)
  exact⟨v,by simpa using a,b⟩
 |[],[],_,_,_,hk=>by simp at hk
 |[],_::_,_,_,h,_=>h.elim
 |_::_,[],_,_,h,_=>h.elim
theorem fj.set {S:List Nat} {w:World}: ∀ {rs:List (Int×Value)} {bs:List ao} (k:Nat) {v:Value} {p:Int} {ys:List Int},fj S w rs bs->Safe S w v ys->fj S w (rs.set k (p,v)) (bs.set k (ao.mk p ys))
 |[],[],_,_,_,_,h,_=>h
 |r::rs,y::bs,0,v,p,ys,⟨_,_,h3⟩,hv=>⟨rfl,hv,h3⟩
 |r::rs,y::bs,k+1,v,p,ys,⟨U,h2,h3⟩,hv=>⟨U,h2,fj.set k h3 hv⟩
 |[],_::_,_,_,_,_,h,_=>h.elim
 |_::_,[],_,_,_,_,h,_=>h.elim
theorem am9 {S:List Nat} {w:World}:Safe S w (.slice none 0 0) []:=λ_ _=>ld _ _ _
theorem fj.filter {S:List Nat} {w:World}: ∀ {rs:List (Int×Value)} {bs:List ao},fj S w rs bs->fj S w (rs.filter λr=>!emp r) (bs.filter λz=>!(z.bg.length==0))
 |[],[],_=>trivial
 |r::rs,z::bs,⟨U,h2,h3⟩=>by
  obtain⟨A,c,e,_,_⟩:=fT (h2 [] (λ_ _ h=>by cases h))
  have he:emp r=(z.bg.length==0):=by unfold emp;rw[e];rfl
  rw[List.filter_cons,List.filter_cons,he]
  cases hz:z.bg.length==0 with
  |true=>exact fj.filter h3
  |false=>exact⟨U,h2,fj.filter h3⟩
 |[],_::_,k=>k.elim
 |_::_,[],k=>k.elim
structure kK (B:Nat) (O:List Nat) (w:World) (b:Nat) (nv rv:Value) (S:List Nat) (aD:List (Int×Value)) (x:aL):Prop where
 mem:b∈O
 ge:B<=b
 bY:ck w b 128 [nv,rv]
 ns:Go.Dc.Own fu 93 B O w nv x.aB
 row:Go.Dc.Own TR 82 B O w rv aD
 fo:fj S w aD x.ax
 lt: ∀g∈S,B<=g/\g<w.heap.size
 out: ∀g∈S,g∉O
 nb:nv.ownBlock≠some b
 rb:rv.ownBlock≠some b
 dj:Dj nv rv
noncomputable def Rc (B:Nat) (O:List Nat) (w:World) (b:Nat) (x:aL):Prop:= ∃nv rv S aD,kK B O w b nv rv S aD x
theorem iC.Pw {B:Nat} {O:List Nat} {w:World} {b:Nat} {nv rv:Value} {S:List Nat} {aD:List (Int×Value)} {x:aL} (h:iC B O w b nv rv S aD x):kK B O w b nv rv S aD x:=
 ⟨h.mem,h.ge,h.bY,h.ns,h.row,fj.of S h.fo (λ_ h=>h),h.fo.lt,h.out,h.nb,h.rb,h.dj⟩
section
variable {B:Nat} {O O':List Nat} {w w' cN:World} {b:Nat} {nv rv:Value} {S:List Nat} {aD:List (Int×Value)} {x:aL}
theorem kK.cL (h:kK B O w b nv rv S aD x) (hf:Fr [] w w'):kK B O w' b nv rv S aD x:=
 ⟨h.mem,h.ge,h.bY.cL hf,h.ns.cL hf,h.row.cL hf,h.fo.imp λ_ _ k=>k.keep (O:=[]) (O':=[]) hf.fU λg hg=>hf.block g (h.lt g hg).2 (by simp),λg hg=>⟨(h.lt g hg).1,Nat.lt_of_lt_of_le (h.lt g hg).2 hf.size⟩,h.out,h.nb,h.rb,h.dj⟩
theorem kK.cell (h:kK B O w b nv rv S aD x) {b':Nat} (hb:b'∈O) (aH:b'<B) (hf:Fr [b'] w w'):kK B O w' b nv rv S aD x:=
 ⟨h.mem,h.ge,h.bY.fr hf (by simp;have:=h.ge;omega),h.ns.st hf hb (λe=>by have:=(h.ns.lt b' e).1;omega),h.row.st hf hb (λe=>by have:=(h.row.lt b' e).1;omega),
  h.fo.imp λ_ _ k=>k.keep (hf.tr (lV hb)) λg hg=>hf.block g (h.lt g hg).2 (by simp;have:=(h.lt g hg).1;omega),λg hg=>⟨(h.lt g hg).1,Nat.lt_of_lt_of_le (h.lt g hg).2 hf.size⟩,h.out,h.nb,h.rb,h.dj⟩
theorem kK.boxes (h:kK B O w b nv rv S aD x) {tB:Value} {tc:List (Int×Value)} {x':aL} (ap:fF TR 82 B O w rv tc O' w' tB) (hb:ck cN b 128 [nv,tB]) (hf:Fr [b] w' cN)
  (ij:fj S w tc x'.ax) (hn:x'.aB=x.aB):kK B O' cN b nv tB S tc x':=by
 have hm:=ap.sub _ h.mem
 have zt:=ap.ne _ h.bY.lt h.rb
 have m9:=ap.other h.ns λg hg=>h.dj g hg
 refine⟨hm,h.ge,hb,by rw[hn];exact m9.st hf hm h.nb,ap.own.st hf hm zt,?_,λg hg=>⟨(h.lt g hg).1,Nat.lt_of_lt_of_le (h.lt g hg).2 (Nat.le_trans ap.tr.size hf.size)⟩,λg hg=>(ap.tr.keep g (h.lt g hg).2 (h.out g hg)).1,h.nb,zt,λg hg=>ap.ne _ (h.ns.lt g hg).2 (h.dj g hg)⟩
 refine ij.imp λ_ _ k=>k.keep (ap.tr.trans (hf.tr (lV hm))) λg hg=>?_
 rw[hf.block g (Nat.lt_of_lt_of_le (h.lt g hg).2 ap.tr.size) (by simp;rintro rfl;exact h.out _ hg h.mem),(ap.tr.keep g (h.lt g hg).2 (h.out g hg)).2]
theorem kK.data {O2:List Nat} (h:kK B O w b nv rv S aD x) (hO: ∀g∈O2,g<B):jL.is O2 w (.agg #[nv,rv]) x:=by
 refine nr.2 ⟨_,_,rfl,h.ns.nR.data Gy (λg hg ho=>by have:=(h.ns.lt g hg).1;have:=hO g ho;omega),?_⟩
 have hlen:=h.fo.len
 obtain⟨cs,⟨A,c,hc,hl,hx⟩,hv⟩:=h.row.nR.data (O:=O2) (Oe _) (λg hg ho=>by have:=(h.row.lt g hg).1;have:=hO g ho;omega)
 refine⟨cs,⟨A,c,by rw[<-hlen];exact hc,by rw[<-hlen];exact hl,λk z hk=>?_⟩,hv⟩
 obtain⟨v,hr,hs⟩:=h.fo.at_ hk
 obtain⟨ad,es,hA,hb,ho,fp,yU⟩:=hx k _ hr
 refine⟨ad,es,hA,hb,ho,?_,yU⟩
 refine⟨[.int .u64 z.aa],[v],?_,rfl,tp rfl (hs O2 λg hg ho=>by have:=(h.lt g hg).1;have:=hO g ho;omega)⟩
 rw[fp.1]
 rfl
end
set_option maxRecDepth 100000 in
set_option maxHeartbeats 4000000 in
theorem My {O:List Nat} {w:World} (hO:OB O w) {B b:Nat} {x:aL} (hB:B<=w.heap.size) (h:Rc B O w b x):Calls Tryz.prog 76 #[.pointer (some ⟨b,0,none⟩)] w (λen w'=>en= .returned (.tuple #[])/\ ∃O',bW B O w O' w'/\Rc B O' w' b (tG x)):=by
 obtain⟨nv,rv,S,aD,h⟩:=h
 refine iW (args:=[.pointer (some ⟨b,0,none⟩)]) (N:=12) Tryz.func76 rfl rfl rfl ?_
 refine aY (l:=[0,1,2,3,4,5,6,7,8,9,10]) rfl ?_
 refine aF ak [0,1,2,3,4] [(2,(.pointer (some ⟨b,0,none⟩))),(6,(.pointer (some ⟨b,1,none⟩)))] rfl ⟨rfl,rfl,trivial⟩ ?_
 obtain⟨A1,c1,rfl,_,_⟩:=h.row.form
 refine fD ak rfl rfl rfl rfl rfl rfl rfl h.bY [.slice A1 aD.length c1] rfl rfl (.inr rfl) (.slice A1 aD.length c1) rfl ?_
 refine aah rfl rfl rfl rfl rfl ag' rfl (am5 hO h.row) (λv' w' O' ap=>?_)
 have eM:=bW.NG hB h.row ap
 have cX:=ap.bY h.bY h.rb
 obtain⟨A2,c2,rfl,_,_⟩:=ap.own.form
 have ij:=h.fo.filter
 generalize hL:(aD.filter λr=>!emp r)=L at*
 refine aF ak [7,8,9] [(8,.slice A2 L.length c2),(11,(.pointer (some ⟨b,1,none⟩)))] rfl ⟨rfl,rfl,trivial⟩ ?_
 refine h_ ak rfl rfl rfl rfl rfl rfl rfl cX [.slice A2 L.length c2] rfl rfl (by simp[Value.oneCell']) rfl [nv,.slice A2 L.length c2] rfl (λw3 EX f3=>?_)
 have dA:=eM.trans (bW.kG eM.ob (ap.sub _ h.mem) h.ge f3)
 refine aX ?_
 exact aph rfl ⟨rfl,_,dA,_,_,_,_,h.boxes (x':=tG x) ap EX f3 ij rfl⟩
theorem OI {B:Nat} {O:List Nat} {w:World} {A:Option Addr} {c:Nat} {aD:List (Int×Value)} (hv:Go.Dc.Own TR 82 B O w (.slice A aD.length c) aD) (h0:0<aD.length):
  ∃g R,A=some ⟨g,0,none⟩/\g∈O/\B<=g/\ck w g 82 (rc aD++R)/\aD.length*2+R.length=c*2/\aD.length<=c/\c<=maxLen/\ ∀r∈aD,∃A n c,r.2= .slice A n c:=by
 obtain⟨cs,⟨bU,iL⟩,fp⟩:=hv.ex
 rcases iL with⟨_,nX⟩|⟨g,cap,cur,iL,iY,hh,lM,sx,eW,kT⟩
 ·omega
 injection iL with hA sJ jz
 subst hA;subst jz
 obtain⟨sA,nV⟩:=OF fp
 have pg:TR.n=2:=rfl
 rw[pg] at eW kT
 have lH:cur.toList=rc aD++cur.toList.drop (aD.length*2):=by
  rw[<-sA,<-kT,kT]
  conv=>lhs;rw[<-List.take_append_drop (aD.length*2) cur.toList]
  rw[kT]
 refine⟨g,cur.toList.drop (aD.length*2),rfl,hv.mem g rfl,iY,?_,?_,lM,sx,nV⟩
 ·unfold ck
  rw[<-lH,Array.toArray_toList]
  exact hh
 ·have:=congrArg List.length lH
  rw[Array.length_toList,eW] at this
  simp only[List.length_append,rc,jr,List.length_map] at this
  omega
theorem amE {B:Nat} {O:List Nat} {w':World} {g c:Nat} {L:List (Int×Value)} {R:List Value} (hg:g∈O) (hB:B<=g) (hb:ck w' g 82 (rc L++R)) (hl:L.length*2+R.length=c*2) (hc:L.length<=c) (hm:c<=maxLen) (hf: ∀r∈L,∃A n c,r.2= .slice A n c):
  Go.Dc.Own TR 82 B O w' (.slice (some ⟨g,0,none⟩) L.length c) L:=by
 refine⟨⟨rc L,⟨by rw[rc,jr,List.length_map];rfl,.inr ⟨g,c,(rc L++R).toArray,rfl,hB,hb,hc,hm,?_,?_⟩⟩,Oh hf⟩,λk hk=>by cases hk;exact hg⟩
 ·rw[List.size_toArray,List.length_append,rc,jr,List.length_map];exact hl
 ·exact List.take_left' (by rw[rc,jr,List.length_map];rfl)
theorem rC {L:List (Int×Value)} {R:List Value} {k:Nat} {x:Int×Value} (h:L[k]? =some x):((rc L++R).drop (k*2+1)).take 1=[x.2]:=by
 have:=Of (R:=R) h
 have e:=congrArg (List.drop 1) this
 rw[List.drop_take,List.drop_drop] at e
 simpa using e
theorem Og {L:List (Int×Value)} {R:List Value} {k:Nat} {x:Int×Value} {v:Value} (h:L[k]? =some x):putAt (rc L++R) (k*2+1) [v]=rc (L.set k (x.1,v))++R:=by
 have hk:=(List.getElem?_eq_some_iff.1 h).1
 rw[<-XP (x:=(x.1,v)) hk]
 have h0:=Of (R:=R) h
 have hd:((rc L++R).drop (k*2))= .int .u64 x.1::x.2::(rc L++R).drop (k*2+2):=by
  have:=List.take_append_drop 2 ((rc L++R).drop (k*2))
  rw[h0,List.drop_drop] at this
  exact this.symm
 unfold putAt
 have ht:(rc L++R).take (k*2+1)=(rc L++R).take (k*2)++[.int .u64 x.1]:=by
  rw[List.take_add,hd]
  rfl
 rw[ht]
 simp
noncomputable def zA (fuel:Sh) (x:aL) (pid:Int):Option (aL×Int×Int):=
 (sW fuel x pid).bind λh=>bif (!(h.2.2==0)) then some (aL.mk [] [],0,h.2.2) else(idx h.1.ax h.2.1).bind λz=>some (tG (aL.mk h.1.aB (h.1.ax.set h.2.1.toNat (ao.mk z.aa []))),(z.bg.length:Int),0)
noncomputable def zB (fuel:Sh) (x:aL) (pid:Int):Option (aL×Int×Int):=
 (sW fuel x pid).bind λh=>bif (!(h.2.2==0)) then some (aL.mk [] [],0,h.2.2) else(idx h.1.ax h.2.1).bind λz=>bif ((z.bg.length:Int)==0) then some (aL.mk [] [],0,4) else
  (idx z.bg 0).bind λw0=>some (tG (aL.mk h.1.aB (h.1.ax.set h.2.1.toNat (ao.mk z.aa (z.bg.drop 1)))),w0,0)
noncomputable def zC (fuel:Sh) (x:aL) (pid:Int) (words:List Int):Option (aL×Int):=
 (sW fuel x pid).bind λh=>bif (!(h.2.2==0)) then some (aL.mk [] [],h.2.2) else(idx h.1.ax h.2.1).bind λz=>bif (decide (IntKind.i64.wrap ((z.bg.length:Int)+(words.length:Int))>4)) then some (aL.mk [] [],6) else
  (app 8 z.bg words).bind λws=>some (tG (aL.mk h.1.aB (h.1.ax.set h.2.1.toNat (ao.mk z.aa ws))),0)
theorem N_ {B:Nat} {O:List Nat} {w w':World} {b g c:Nat} {nv:Value} {S:List Nat} {aD L:List (Int×Value)} {R:List Value} {names:List aA} {bs:List ao} (mem:b∈O) (ge:B<=b) (bY:ck w b 128 [nv,.slice (some ⟨g,0,none⟩) aD.length c]) (ns:Go.Dc.Own fu 93 B O w nv names) (nb:nv.ownBlock≠some b) (dj:Dj nv (.slice (some ⟨g,0,none⟩) aD.length c))
  (qS:g≠b) (gI:g∈O) (iY:B<=g) (hl:aD.length*2+R.length=c*2) (hc:aD.length<=c) (hm:c<=maxLen) (f:Fr [g] w w') (fI:ck w' g 82 (rc L++R)) (hL:L.length=aD.length) (hLf: ∀r∈L,∃A n c,r.2= .slice A n c) (ij:fj S w L bs) (lt: ∀j∈S,B<=j/\j<w.heap.size) (out: ∀j∈S,j∉O):
  kK B O w' b nv (.slice (some ⟨g,0,none⟩) aD.length c) S L (aL.mk names bs):=by
 refine⟨mem,ge,bY.fr f (by simp;exact λe=>qS e.symm),ns.st f gI (λe=>dj g e rfl),?_,ij.imp λ_ _ k=>k.keep (f.tr (lV gI)) λj hj=>f.block j (lt j hj).2 (by simp;rintro rfl;exact out _ hj gI),λj hj=>⟨(lt j hj).1,Nat.lt_of_lt_of_le (lt j hj).2 f.size⟩,out,nb,λe=>qS (by injection e),dj⟩
 rw[<-hL]
 exact amE gI iY fI (by rw[hL];exact hl) (by rw[hL];exact hc) hm hLf
noncomputable def SP.safe (S:List Nat) (ys:List Int):SP:=⟨λw u=>(∀g∈S,g<w.heap.size)/\Safe S w u ys,λhf ⟨U,h2⟩=>⟨λg hg=>Nat.lt_of_lt_of_le (U g hg) hf.size,h2.keep (O:=[]) (O':=[]) hf.fU λg hg=>hf.block g (U g hg) (by simp)⟩⟩
theorem akE {P:Program} {r:Option Nat} {N:Nat} {Θ:dG} {ops:Array Oper} {Q:Exit->Act->World->Prop} {E:Env} {ds:List Deferred} {w:World} {i d:Nat} {o:Oper} {S:List Nat} (aT:Θ.ok P) {a:Act} (ha:Has N E ds a) (ho:ops[i]? =some o) (hw:want N ops E o.guard=some true) (hd:o.dst=some d) {t:Nat} {x:Operand} {lo hi mx:Option Operand} {ti te:TI} (an:o.op= .slice t x lo hi mx) (ht:Θ.get t=some ti)
  (h5:ti.tag=5) (cp:Θ.get ti.e=some te) {v:Value} (hx:ev E x=some v) {l' h' m':Option (IntKind×Int)} (pI:oW E lo=some l') (pD:oW E hi=some h') (zm:oW E mx=some m') {xs ys:List Int} (hn:TW.n=te.size) (hv:Safe S w v xs)
  (hc:gF xs (l'.map (·.2)) (h'.map (·.2)) (m'.map (·.2))=some ys):gR P r ops Q i d a w (λu w'=>Safe S w' u ys/\Fr [] w w'):=by
 obtain⟨v',a_,jh⟩:=Gq (w:=w) aT ht h5 cp hn (hv [] λ_ _ hm=>by cases hm) hc
 have hs:Safe S w v' ys:=λO2 m0=>by
  obtain⟨v'',Ve,ajl⟩:=Gq (w:=w) aT ht h5 cp hn (hv O2 m0) hc
  rw[a_] at Ve
  injection Ve with e1 e2
  rw[e1]
  exact ajl
 refine s9 ho (lh ha hw) hd (b:=true) (v:=v') (w':=w) ?_ ⟨hs,Fr.refl _ _⟩
 simp only[if_true]
 refine⟨by rw[an];simp,?_⟩
 simp only[execOp,an,Sem.run_bind,ha.eval hx,uE ha pI,uE ha pD,uE ha zm,a_]
 rfl
set_option maxRecDepth 100000 in
set_option maxHeartbeats 4000000 in
theorem ajp {O:List Nat} {w:World} (hO:OB O w) (hG:dI KK [] w) {v0:Value} {x0:aL} (h0:jL.is [] w v0 x0) {v1:Value} {x1:Int} (U:(Ty.int .u64).is [] w v1 x1) {r:aL×Int×Int} (h:zA shut x0 x1=some r):Calls Tryz.prog 30 #[v0,v1] w (jP (Yn jL (Ty.int .i64) (Ty.int .i64)) O w r):=by
 obtain rfl:=eY.1 U
 obtain⟨ff,fg,rfl,yv,uQ⟩:=nr.1 h0
 have kQ:bW w.heap.size O w O w:=bW.refl hO
 refine iW (args:=[(.agg #[ff,fg]),(.int .u64 x1)]) (N:=47) Tryz.func30 rfl rfl rfl ?_
 unfold zA at h
 refine aQ ?_
 refine aY (l:=[0,1,2,3]) rfl ?_
 refine tL rfl rfl rfl rfl rfl rfl [ff,fg] rfl hO (λb1 w1 n1=>?_)
 have cX:=n1.bY
 have eM:=kQ.trans (bW.oh kQ.tr.size n1)
 refine AO ak rfl rfl rfl rfl rfl rfl [(.slice none 0 0),(.slice none 0 0)] rfl eM.ob (λb2 w2 n2=>?_)
 have cX:=cX.cL n2.fr
 have cO:=n2.bY
 have mi:w.heap.size<=b2:=Nat.le_trans eM.tr.size n2.ge
 have dA:=eM.trans (bW.oh eM.tr.size n2)
 have i2:b2∈b2::b1::O:=List.mem_cons_self
 have gW:b2<w2.heap.size:=cO.lt
 have m0: ∀g∈O,g<w2.heap.size:=λg hg=>Nat.lt_of_lt_of_le (hO g hg) dA.tr.size
 refine aF ak [2,3] [(1,(.int .u64 x1)),(2,(.pointer (some ⟨b1,0,none⟩))),(4,(.pointer (some ⟨b2,0,none⟩)))] rfl ⟨rfl,rfl,rfl,trivial⟩ ?_
 refine aX ?_
 refine aR ?_
 refine aQ ?_
 refine aY (l:=[0,1,2,3,4,5,6,7,8,9]) rfl ?_
 refine fD ak rfl rfl rfl rfl rfl rfl rfl cX [ff,fg] rfl rfl (.inl rfl) (.agg #[ff,fg]) rfl ?_
 obtain⟨e,he,h⟩:=bind_some h
 refine aF ak [1] [(1,(.int .u64 x1)),(4,(.pointer (some ⟨b2,0,none⟩))),(12,(.agg #[ff,fg])),(13,(.int .u64 x1))] rfl ⟨rfl,rfl,rfl,rfl,trivial⟩ ?_
 refine oF rfl rfl rfl rfl rfl J4 rfl (Mw dA.ob (hG.tr dA.fr.fU) (h0.tr dA.fr.fU) he) (λ_ w3 hg=>?_)
 obtain⟨pv,O3,rfl,eV,ss⟩:=hg
 refine⟨_,rfl,?_⟩
 have cO:ck w3 b2 34 [(.slice none 0 0),(.slice none 0 0)]:=(eV.below _ gW).trans cO
 have dw:=dA.to eV
 have i2:=eV.sub _ i2
 refine aF ak [3,4,5,6,7,8,9] [(1,(.int .u64 x1)),(4,(.pointer (some ⟨b2,0,none⟩))),(7,pv),(8,(.int .i64 e.2.1)),(9,(.int .i64 e.2.2))] rfl ⟨rfl,rfl,rfl,rfl,rfl,trivial⟩ ?_
 refine aX ?_
 refine aR ?_
 refine aQ ?_
 refine aQ ?_
 refine aY (l:=[0,1]) rfl ?_
 refine aF ak [0,1] [(1,(.int .u64 x1)),(4,(.pointer (some ⟨b2,0,none⟩))),(7,pv),(8,(.int .i64 e.2.1)),(9,(.int .i64 e.2.2)),(19,(.bool (!(e.2.2==0))))] rfl ⟨rfl,rfl,rfl,rfl,rfl,rfl,trivial⟩ ?_
 refine aX ?_
 refine aR ?_
 rcases nK h with⟨hc,h⟩|⟨hc,h⟩
 ·refine jv rfl hc ?_
  cases h
  refine aQ ?_
  refine aY (l:=[0,1,2,3,4]) rfl ?_
  refine aF ak [0,1] [(4,(.pointer (some ⟨b2,0,none⟩))),(20,(.agg #[(.slice none 0 0),(.slice none 0 0)])),(21,(.int .i64 e.2.2))] rfl ⟨rfl,rfl,rfl,trivial⟩ ?_
  refine h_ ak rfl rfl rfl rfl rfl rfl rfl cO [(.slice none 0 0),(.slice none 0 0)] rfl rfl (by simp[Value.oneCell']) rfl [(.slice none 0 0),(.slice none 0 0)] rfl (λwE ki fE=>?_)
  refine aF ak [3,4] [(4,(.pointer (some ⟨b2,0,none⟩))),(5,(.int .i64 0)),(6,(.int .i64 e.2.2))] rfl ⟨rfl,rfl,rfl,trivial⟩ ?_
  refine aX ?_
  refine aR ?_
  refine ed ?_
  exact gQ (rP ak (vs:=[.agg #[(.slice none 0 0),(.slice none 0 0)],(.int .i64 0),(.int .i64 e.2.2)]) ⟨_,_,rfl,⟨_,_,_,_,rfl,ki,rfl,rfl,.inl rfl,rfl⟩,_,_,rfl,rfl,_,_,rfl,rfl,rfl⟩ ⟨_,rfl,⟨_,_,_,rfl,(nr.2 ⟨_,_,rfl,ld _ _ _,ld _ _ _⟩),eY.2 rfl,eY.2 rfl⟩,(dw.trans (bW.kG dw.ob i2 mi fE)).fr⟩)
 refine jO rfl hc ?_
 have pw:e.2.2=0:=by simpa using hc
 obtain⟨b,rfl,nv,rv,S,aD,hH⟩:=ss pw
 refine fC ?_
 refine aR ?_
 obtain⟨z,hz,h⟩:=bind_some h
 obtain⟨u9,pG⟩:=vm hz
 obtain⟨k,hk⟩: ∃k:Nat,k=e.2.1.toNat:=⟨_,rfl⟩
 rw[<-hk] at pG
 have yY:e.2.1=(k:Int):=by omega
 rw[yY]
 rw[<-hk] at h
 have kg:=hH.Pw
 obtain⟨vw,hr,sO⟩:=kg.fo.at_ pG
 obtain⟨Aw,cw,rfl,UX,UZ⟩:=fT (sO [] λ_ _ hm=>by cases hm)
 obtain⟨Ar,cr,rfl,_,_⟩:=hH.row.form
 have qX:=(List.getElem?_eq_some_iff.1 hr).1
 obtain⟨g,R,rfl,gI,iY,i_,zf,yS,zi,nV⟩:=OI hH.row (by omega)
 have qS:g≠b:=λe=>hH.rb (by rw[<-e];rfl)
 have e1:(k:Int).toNat*({ tag:=8,k:=0,e:=0,fs:=[(29,0),(40,1)],size:=2,bytes:=32,zero:= .agg #[.int .u64 0,.slice none 0 0] }:TI).size=k*2:=by rw[Int.toNat_natCast]
 have aH:(k:Int).toNat<aD.length:=by rw[Int.toNat_natCast];exact qX
 refine aQ ?_
 refine aY (l:=[0,1,2,3,4,5,6,7,8,9,10]) rfl ?_
 refine aF ak [0,1,2,3] [(4,(.pointer (some ⟨b2,0,none⟩))),(7,(.pointer (some ⟨b,0,none⟩))),(8,(.int .i64 (k:Int))),(25,(.pointer (some ⟨b,1,none⟩)))] rfl ⟨rfl,rfl,rfl,rfl,trivial⟩ ?_
 refine fD ak rfl rfl rfl rfl rfl rfl rfl hH.bY [(.slice (some ⟨g,0,none⟩) aD.length cr)] rfl rfl (.inr rfl) (.slice (some ⟨g,0,none⟩) aD.length cr) rfl ?_
 refine aF ak [5] [(4,(.pointer (some ⟨b2,0,none⟩))),(7,(.pointer (some ⟨b,0,none⟩))),(8,(.int .i64 (k:Int))),(26,(.slice (some ⟨g,0,none⟩) aD.length cr)),(27,(.int .i64 (k:Int)))] rfl ⟨rfl,rfl,rfl,rfl,rfl,trivial⟩ ?_
 refine wj ak rfl rfl rfl rfl rfl rfl rfl rfl rfl rfl (by omega) aH ?_
 rw[e1,iD,Nat.zero_add]
 refine aF ak [7] [(4,(.pointer (some ⟨b2,0,none⟩))),(7,(.pointer (some ⟨b,0,none⟩))),(8,(.int .i64 (k:Int))),(29,(.pointer (some ⟨g,k*2+1,none⟩)))] rfl ⟨rfl,rfl,rfl,rfl,trivial⟩ ?_
 refine fD ak rfl rfl rfl rfl rfl rfl rfl i_ [(.slice Aw z.bg.length cw)] (rC hr) rfl (.inr rfl) (.slice Aw z.bg.length cw) rfl ?_
 refine aF ak [9,10] [(4,(.pointer (some ⟨b2,0,none⟩))),(7,(.pointer (some ⟨b,0,none⟩))),(8,(.int .i64 (k:Int))),(10,(.int .i64 (z.bg.length:Int)))] rfl ⟨rfl,rfl,rfl,rfl,trivial⟩ ?_
 refine aX ?_
 refine aR ?_
 refine aQ ?_
 refine aY (l:=[0,1,2,3,4,5,6,7,8]) rfl ?_
 refine aF ak [0,1,2,3] [(4,(.pointer (some ⟨b2,0,none⟩))),(7,(.pointer (some ⟨b,0,none⟩))),(8,(.int .i64 (k:Int))),(10,(.int .i64 (z.bg.length:Int))),(35,(.pointer (some ⟨b,1,none⟩)))] rfl ⟨rfl,rfl,rfl,rfl,rfl,trivial⟩ ?_
 refine fD ak rfl rfl rfl rfl rfl rfl rfl hH.bY [(.slice (some ⟨g,0,none⟩) aD.length cr)] rfl rfl (.inr rfl) (.slice (some ⟨g,0,none⟩) aD.length cr) rfl ?_
 refine aF ak [5] [(4,(.pointer (some ⟨b2,0,none⟩))),(7,(.pointer (some ⟨b,0,none⟩))),(8,(.int .i64 (k:Int))),(10,(.int .i64 (z.bg.length:Int))),(36,(.slice (some ⟨g,0,none⟩) aD.length cr)),(37,(.int .i64 (k:Int)))] rfl ⟨rfl,rfl,rfl,rfl,rfl,rfl,trivial⟩ ?_
 refine wj ak rfl rfl rfl rfl rfl rfl rfl rfl rfl rfl (by omega) aH ?_
 rw[e1,iD,Nat.zero_add]
 refine aF ak [7] [(4,(.pointer (some ⟨b2,0,none⟩))),(7,(.pointer (some ⟨b,0,none⟩))),(8,(.int .i64 (k:Int))),(10,(.int .i64 (z.bg.length:Int))),(39,(.pointer (some ⟨g,k*2+1,none⟩)))] rfl ⟨rfl,rfl,rfl,rfl,rfl,trivial⟩ ?_
 refine h_ ak rfl rfl rfl rfl rfl rfl rfl i_ [(.slice none 0 0)] rfl rfl (by simp[Value.oneCell']) (Nat.ble_eq_true_of_le (by simp only[List.length_append,rc,jr,List.length_map];show k*2+1+1<=_;omega)) (rc (aD.set k (z.aa,(.slice none 0 0)))++R) (Og (x:=(z.aa,(.slice Aw z.bg.length cw))) hr) (λw5 sv f5=>?_)
 have hW:=N_ (bs:=e.1.ax.set k (ao.mk z.aa [])) hH.mem hH.ge hH.bY hH.ns hH.nb hH.dj qS gI iY zf yS zi f5 sv (by rw[List.length_set]) (λr hr=>by
  rcases List.mem_or_eq_of_mem_set hr with hr|rfl
  ·exact nV r hr
  ·exact⟨_,_,_,rfl⟩) (kg.fo.set k am9) kg.lt hH.out
 have cO:=cO.fr f5 (by simp;omega)
 have qN:=dw.trans (bW.kG dw.ob gI (Nat.le_trans dA.tr.size iY) f5)
 clear hH kg
 refine aX ?_
 refine aR ?_
 have yy:w2.heap.size<=w5.heap.size:=Nat.le_trans eV.tr.size f5.size
 refine aQ ?_
 refine aY (l:=[0,1]) rfl ?_
 refine aF ak [0] [(10,(.int .i64 (z.bg.length:Int))),(4,(.pointer (some ⟨b2,0,none⟩))),(7,(.pointer (some ⟨b,0,none⟩))),(40,(.pointer (some ⟨b,0,none⟩)))] rfl ⟨rfl,rfl,rfl,rfl,trivial⟩ ?_
 refine oF rfl rfl rfl rfl rfl J5 rfl (My qN.ob yy ⟨_,_,_,_,hW⟩) (λ_ w7 hg=>?_)
 obtain⟨rfl,O7,f_,iO,iS,S7,XO,hW⟩:=hg
 refine⟨_,rfl,?_⟩
 have cO:ck w7 b2 34 [(.slice none 0 0),(.slice none 0 0)]:=(f_.below _ gW).trans cO
 have i2:=f_.sub _ i2
 have ke:bW w.heap.size O w O7 w7:=qN.trans ⟨f_.tr,f_.ob,f_.sub,λj hj=>f_.below j (Nat.lt_of_lt_of_le hj dA.tr.size)⟩
 refine aF ak [] [(10,(.int .i64 (z.bg.length:Int))),(4,(.pointer (some ⟨b2,0,none⟩))),(7,(.pointer (some ⟨b,0,none⟩)))] rfl ⟨rfl,rfl,rfl,trivial⟩ ?_
 refine aX ?_
 refine aR ?_
 cases h
 refine aQ ?_
 refine aY (l:=[0,1,2,3,4,5,6,7]) rfl ?_
 refine aF ak [0,1,2] [(7,(.pointer (some ⟨b,0,none⟩))),(10,(.int .i64 (z.bg.length:Int))),(4,(.pointer (some ⟨b2,0,none⟩))),(44,(.pointer (some ⟨b,0,none⟩)))] rfl ⟨rfl,rfl,rfl,rfl,trivial⟩ ?_
 refine fD ak rfl rfl rfl rfl rfl rfl rfl hW.bY [iO,iS] rfl rfl (.inl rfl) (.agg #[iO,iS]) rfl ?_
 obtain⟨Ax,cx,yw,_,_⟩:=hW.ns.form
 obtain⟨Ay,cy,yx,_,_⟩:=hW.row.form
 refine aF ak [4] [(4,(.pointer (some ⟨b2,0,none⟩))),(45,(.agg #[iO,iS])),(46,(.int .i64 (z.bg.length:Int)))] rfl ⟨rfl,rfl,rfl,trivial⟩ ?_
 refine h_ ak rfl rfl rfl rfl rfl rfl rfl cO [iO,iS] rfl rfl (by rw[yw,yx];simp[Value.oneCell']) rfl [iO,iS] rfl (λwE ki fE=>?_)
 have yJ:=hW.cell i2 gW fE
 have hE:=(ke.trans (bW.kG ke.ob i2 mi fE)).fr
 refine aF ak [6,7] [(4,(.pointer (some ⟨b2,0,none⟩))),(5,(.int .i64 (z.bg.length:Int))),(6,(.int .i64 0))] rfl ⟨rfl,rfl,rfl,trivial⟩ ?_
 refine aX ?_
 refine aR ?_
 refine ed ?_
 exact(rP ak (vs:=[.agg #[iO,iS],(.int .i64 (z.bg.length:Int)),(.int .i64 0)]) ⟨_,_,rfl,⟨_,_,_,_,rfl,ki,rfl,rfl,.inl rfl,rfl⟩,_,_,rfl,rfl,_,_,rfl,rfl,rfl⟩ ⟨_,rfl,⟨_,_,_,rfl,(yJ.data m0),eY.2 rfl,eY.2 rfl⟩,hE⟩)
set_option maxRecDepth 100000 in
set_option maxHeartbeats 4000000 in
theorem ajq {O:List Nat} {w:World} (hO:OB O w) (hG:dI KK [] w) {v0:Value} {x0:aL} (h0:jL.is [] w v0 x0) {v1:Value} {x1:Int} (U:(Ty.int .u64).is [] w v1 x1) {r:aL×Int×Int} (h:zB shut x0 x1=some r):Calls Tryz.prog 198 #[v0,v1] w (jP (Yn jL (Ty.int .u64) (Ty.int .i64)) O w r):=by
 obtain rfl:=eY.1 U
 obtain⟨ff,fg,rfl,yv,uQ⟩:=nr.1 h0
 have kQ:bW w.heap.size O w O w:=bW.refl hO
 refine iW (args:=[(.agg #[ff,fg]),(.int .u64 x1)]) (N:=68) Tryz.func198 rfl rfl rfl ?_
 unfold zB at h
 refine aQ ?_
 refine aY (l:=[0,1,2,3]) rfl ?_
 refine tL rfl rfl rfl rfl rfl rfl [ff,fg] rfl hO (λb1 w1 n1=>?_)
 have cX:=n1.bY
 have eM:=kQ.trans (bW.oh kQ.tr.size n1)
 refine AO ak rfl rfl rfl rfl rfl rfl [(.slice none 0 0),(.slice none 0 0)] rfl eM.ob (λb2 w2 n2=>?_)
 have cX:=cX.cL n2.fr
 have cO:=n2.bY
 have mi:w.heap.size<=b2:=Nat.le_trans eM.tr.size n2.ge
 have dA:=eM.trans (bW.oh eM.tr.size n2)
 have i2:b2∈b2::b1::O:=List.mem_cons_self
 have gW:b2<w2.heap.size:=cO.lt
 have m0: ∀g∈O,g<w2.heap.size:=λg hg=>Nat.lt_of_lt_of_le (hO g hg) dA.tr.size
 refine aF ak [2,3] [(1,(.int .u64 x1)),(2,(.pointer (some ⟨b1,0,none⟩))),(4,(.pointer (some ⟨b2,0,none⟩)))] rfl ⟨rfl,rfl,rfl,trivial⟩ ?_
 refine aX ?_
 refine aR ?_
 refine aQ ?_
 refine aY (l:=[0,1,2,3,4,5,6,7,8,9]) rfl ?_
 refine fD ak rfl rfl rfl rfl rfl rfl rfl cX [ff,fg] rfl rfl (.inl rfl) (.agg #[ff,fg]) rfl ?_
 obtain⟨e,he,h⟩:=bind_some h
 refine aF ak [1] [(1,(.int .u64 x1)),(4,(.pointer (some ⟨b2,0,none⟩))),(13,(.agg #[ff,fg])),(14,(.int .u64 x1))] rfl ⟨rfl,rfl,rfl,rfl,trivial⟩ ?_
 refine oF rfl rfl rfl rfl rfl J4 rfl (Mw dA.ob (hG.tr dA.fr.fU) (h0.tr dA.fr.fU) he) (λ_ w3 hg=>?_)
 obtain⟨pv,O3,rfl,eV,ss⟩:=hg
 refine⟨_,rfl,?_⟩
 have cO:ck w3 b2 34 [(.slice none 0 0),(.slice none 0 0)]:=(eV.below _ gW).trans cO
 have dw:=dA.to eV
 have i2:=eV.sub _ i2
 refine aF ak [3,4,5,6,7,8,9] [(1,(.int .u64 x1)),(4,(.pointer (some ⟨b2,0,none⟩))),(7,pv),(8,(.int .i64 e.2.1)),(9,(.int .i64 e.2.2))] rfl ⟨rfl,rfl,rfl,rfl,rfl,trivial⟩ ?_
 refine aX ?_
 refine aR ?_
 refine aQ ?_
 refine aQ ?_
 refine aY (l:=[0,1]) rfl ?_
 refine aF ak [0,1] [(1,(.int .u64 x1)),(4,(.pointer (some ⟨b2,0,none⟩))),(7,pv),(8,(.int .i64 e.2.1)),(9,(.int .i64 e.2.2)),(20,(.bool (!(e.2.2==0))))] rfl ⟨rfl,rfl,rfl,rfl,rfl,rfl,trivial⟩ ?_
 refine aX ?_
 refine aR ?_
 rcases nK h with⟨hc,h⟩|⟨hc,h⟩
 ·refine jv rfl hc ?_
  cases h
  refine aQ ?_
  refine aY (l:=[0,1,2,3,4]) rfl ?_
  refine aF ak [0,1] [(4,(.pointer (some ⟨b2,0,none⟩))),(21,(.agg #[(.slice none 0 0),(.slice none 0 0)])),(22,(.int .i64 e.2.2))] rfl ⟨rfl,rfl,rfl,trivial⟩ ?_
  refine h_ ak rfl rfl rfl rfl rfl rfl rfl cO [(.slice none 0 0),(.slice none 0 0)] rfl rfl (by simp[Value.oneCell']) rfl [(.slice none 0 0),(.slice none 0 0)] rfl (λwE ki fE=>?_)
  refine aF ak [3,4] [(4,(.pointer (some ⟨b2,0,none⟩))),(5,(.int .u64 0)),(6,(.int .i64 e.2.2))] rfl ⟨rfl,rfl,rfl,trivial⟩ ?_
  refine aX ?_
  refine aR ?_
  refine ed ?_
  exact gQ (rP ak (vs:=[.agg #[(.slice none 0 0),(.slice none 0 0)],(.int .u64 0),(.int .i64 e.2.2)]) ⟨_,_,rfl,⟨_,_,_,_,rfl,ki,rfl,rfl,.inl rfl,rfl⟩,_,_,rfl,rfl,_,_,rfl,rfl,rfl⟩ ⟨_,rfl,⟨_,_,_,rfl,(nr.2 ⟨_,_,rfl,ld _ _ _,ld _ _ _⟩),eY.2 rfl,eY.2 rfl⟩,(dw.trans (bW.kG dw.ob i2 mi fE)).fr⟩)
 refine jO rfl hc ?_
 have pw:e.2.2=0:=by simpa using hc
 obtain⟨b,rfl,nv,rv,S,aD,hH⟩:=ss pw
 refine fC ?_
 refine aR ?_
 obtain⟨z,hz,h⟩:=bind_some h
 obtain⟨u9,pG⟩:=vm hz
 obtain⟨k,hk⟩: ∃k:Nat,k=e.2.1.toNat:=⟨_,rfl⟩
 rw[<-hk] at pG
 have yY:e.2.1=(k:Int):=by omega
 rw[yY]
 rw[<-hk] at h
 have kg:=hH.Pw
 obtain⟨vw,hr,sO⟩:=kg.fo.at_ pG
 obtain⟨Aw,cw,rfl,UX,UZ⟩:=fT (sO [] λ_ _ hm=>by cases hm)
 obtain⟨Ar,cr,rfl,_,_⟩:=hH.row.form
 have qX:=(List.getElem?_eq_some_iff.1 hr).1
 obtain⟨g,R,rfl,gI,iY,i_,zf,yS,zi,nV⟩:=OI hH.row (by omega)
 have qS:g≠b:=λe=>hH.rb (by rw[<-e];rfl)
 have e1:(k:Int).toNat*({ tag:=8,k:=0,e:=0,fs:=[(29,0),(40,1)],size:=2,bytes:=32,zero:= .agg #[.int .u64 0,.slice none 0 0] }:TI).size=k*2:=by rw[Int.toNat_natCast]
 have aH:(k:Int).toNat<aD.length:=by rw[Int.toNat_natCast];exact qX
 refine aQ ?_
 refine aY (l:=[0,1,2,3,4,5,6,7]) rfl ?_
 refine aF ak [0,1,2,3] [(4,(.pointer (some ⟨b2,0,none⟩))),(7,(.pointer (some ⟨b,0,none⟩))),(8,(.int .i64 (k:Int))),(26,(.pointer (some ⟨b,1,none⟩)))] rfl ⟨rfl,rfl,rfl,rfl,trivial⟩ ?_
 refine fD ak rfl rfl rfl rfl rfl rfl rfl hH.bY [(.slice (some ⟨g,0,none⟩) aD.length cr)] rfl rfl (.inr rfl) (.slice (some ⟨g,0,none⟩) aD.length cr) rfl ?_
 refine aF ak [5] [(4,(.pointer (some ⟨b2,0,none⟩))),(7,(.pointer (some ⟨b,0,none⟩))),(8,(.int .i64 (k:Int))),(27,(.slice (some ⟨g,0,none⟩) aD.length cr)),(28,(.int .i64 (k:Int)))] rfl ⟨rfl,rfl,rfl,rfl,rfl,trivial⟩ ?_
 refine wj ak rfl rfl rfl rfl rfl rfl rfl rfl rfl rfl (by omega) aH ?_
 rw[e1,iD,Nat.zero_add]
 refine aF ak [7] [(4,(.pointer (some ⟨b2,0,none⟩))),(7,(.pointer (some ⟨b,0,none⟩))),(10,(.pointer (some ⟨g,k*2,none⟩)))] rfl ⟨rfl,rfl,rfl,trivial⟩ ?_
 refine aX ?_
 refine aR ?_
 refine aQ ?_
 refine aQ ?_
 refine aY (l:=[0,1,2,3,4,5]) rfl ?_
 refine aF ak [0,1,2] [(4,(.pointer (some ⟨b2,0,none⟩))),(7,(.pointer (some ⟨b,0,none⟩))),(10,(.pointer (some ⟨g,k*2,none⟩))),(32,(.pointer (some ⟨g,k*2+1,none⟩)))] rfl ⟨rfl,rfl,rfl,rfl,trivial⟩ ?_
 refine fD ak rfl rfl rfl rfl rfl rfl rfl i_ [(.slice Aw z.bg.length cw)] (rC hr) rfl (.inr rfl) (.slice Aw z.bg.length cw) rfl ?_
 refine aF ak [4,5] [(4,(.pointer (some ⟨b2,0,none⟩))),(7,(.pointer (some ⟨b,0,none⟩))),(10,(.pointer (some ⟨g,k*2,none⟩))),(35,(.bool ((z.bg.length:Int)==0)))] rfl ⟨rfl,rfl,rfl,rfl,trivial⟩ ?_
 refine aX ?_
 refine aR ?_
 rcases nK h with⟨hc,h⟩|⟨hc,h⟩
 ·refine jv rfl hc ?_
  cases h
  refine aQ ?_
  refine aY (l:=[0,1,2,3]) rfl ?_
  refine aF ak [0] [(4,(.pointer (some ⟨b2,0,none⟩))),(36,(.agg #[(.slice none 0 0),(.slice none 0 0)]))] rfl ⟨rfl,rfl,trivial⟩ ?_
  refine h_ ak rfl rfl rfl rfl rfl rfl rfl cO [(.slice none 0 0),(.slice none 0 0)] rfl rfl (by simp[Value.oneCell']) rfl [(.slice none 0 0),(.slice none 0 0)] rfl (λwE ki fE=>?_)
  refine aF ak [2,3] [(4,(.pointer (some ⟨b2,0,none⟩))),(5,(.int .u64 0)),(6,(.int .i64 4))] rfl ⟨rfl,rfl,rfl,trivial⟩ ?_
  refine aX ?_
  refine aR ?_
  refine ed ?_
  exact gQ (rP ak (vs:=[.agg #[(.slice none 0 0),(.slice none 0 0)],(.int .u64 0),(.int .i64 4)]) ⟨_,_,rfl,⟨_,_,_,_,rfl,ki,rfl,rfl,.inl rfl,rfl⟩,_,_,rfl,rfl,_,_,rfl,rfl,rfl⟩ ⟨_,rfl,⟨_,_,_,rfl,(nr.2 ⟨_,_,rfl,ld _ _ _,ld _ _ _⟩),eY.2 rfl,eY.2 rfl⟩,(dw.trans (bW.kG dw.ob i2 mi fE)).fr⟩)
 refine jO rfl hc ?_
 refine fC ?_
 refine aR ?_
 obtain⟨w0,Fj,h⟩:=bind_some h
 obtain⟨_,Fj⟩:=vm Fj
 refine aQ ?_
 refine aY (l:=[0,1,2,3,4,5,6]) rfl ?_
 refine aF ak [0,1,2] [(4,(.pointer (some ⟨b2,0,none⟩))),(7,(.pointer (some ⟨b,0,none⟩))),(10,(.pointer (some ⟨g,k*2,none⟩))),(39,(.pointer (some ⟨g,k*2+1,none⟩)))] rfl ⟨rfl,rfl,rfl,rfl,trivial⟩ ?_
 refine fD ak rfl rfl rfl rfl rfl rfl rfl i_ [(.slice Aw z.bg.length cw)] (rC hr) rfl (.inr rfl) (.slice Aw z.bg.length cw) rfl ?_
 refine PD ak rfl rfl rfl rfl rfl rfl rfl rfl rfl rfl (sO [] λ_ _ hm=>by cases hm) rfl (Int.le_refl 0) Fj (λp6 zp=>?_)
 refine apd ak rfl rfl rfl rfl rfl rfl rfl zp rfl rfl (λv6 zw=>?_)
 obtain rfl:=eY.1 zw
 refine aF ak [6] [(4,(.pointer (some ⟨b2,0,none⟩))),(7,(.pointer (some ⟨b,0,none⟩))),(10,(.pointer (some ⟨g,k*2,none⟩))),(11,(.int .u64 w0))] rfl ⟨rfl,rfl,rfl,rfl,trivial⟩ ?_
 refine aX ?_
 refine aR ?_
 refine aQ ?_
 have UR: ∀g∈S,g<w3.heap.size:=λg hg=>(kg.lt g hg).2
 refine GM mixed [⟨43,[],[10]⟩,⟨44,[],[10]⟩,⟨45,[1],[]⟩,⟨46,[2],[]⟩,⟨47,[3],[]⟩,⟨48,[],[10]⟩,⟨49,[5],[]⟩,⟨50,[6],[]⟩,⟨51,[7],[]⟩,⟨52,[8],[]⟩,⟨53,[],[10]⟩,⟨54,[10],[]⟩,⟨55,[11],[]⟩,⟨56,[12],[]⟩,⟨57,[13],[]⟩,⟨58,[4,9,14],[]⟩] [SP.eq (.pointer (some ⟨g,k*2,none⟩)),SP.eq (.pointer (some ⟨g,k*2,none⟩)),SP.eq (.pointer (some ⟨g,k*2,none⟩)),SP.eq (.pointer (some ⟨g,k*2+1,none⟩)),SP.eq (.slice Aw z.bg.length cw),SP.eq (.pointer (some ⟨g,k*2,none⟩)),SP.eq (.pointer (some ⟨g,k*2,none⟩)),SP.eq (.pointer (some ⟨g,k*2+1,none⟩)),SP.eq (.slice Aw z.bg.length cw),SP.eq (.int .i64 (z.bg.length:Int)),SP.eq (.pointer (some ⟨g,k*2,none⟩)),SP.eq (.pointer (some ⟨g,k*2,none⟩)),SP.eq (.pointer (some ⟨g,k*2+1,none⟩)),SP.eq (.slice Aw z.bg.length cw),SP.eq (.int .i64 (z.bg.length:Int)),SP.safe S (z.bg.drop 1)] rfl rfl rfl rfl ⟨?_,?_,?_,?_,?_,?_,?_,?_,?_,?_,?_,?_,?_,?_,?_,?_,trivial⟩ ?_
 ·intro a w2 bR hN bc hb hd
  exact d_ ak ⟨hN,bc,cE (E:=[(10,(.pointer (some ⟨g,k*2,none⟩)))]) ⟨hb 10 rfl _ rfl,trivial⟩⟩ rfl rfl rfl rfl rfl
 ·intro a w2 bR hN bc hb hd
  exact d_ ak ⟨hN,bc,cE (E:=[(10,(.pointer (some ⟨g,k*2,none⟩)))]) ⟨hb 10 rfl _ rfl,trivial⟩⟩ rfl rfl rfl rfl rfl
 ·intro a w2 bR hN bc hb hd
  exact d_ ak ⟨hN,bc,cE (E:=[(44,(.pointer (some ⟨g,k*2,none⟩)))]) ⟨(hd 1 rfl _ _ rfl rfl),trivial⟩⟩ rfl rfl rfl rfl rfl
 ·intro a w2 bR hN bc hb hd
  exact d_ ak ⟨hN,bc,cE (E:=[(45,(.pointer (some ⟨g,k*2,none⟩)))]) ⟨(hd 2 rfl _ _ rfl rfl),trivial⟩⟩ rfl rfl rfl rfl rfl
 ·intro a w2 bR hN bc hb hd
  exact vP ak ⟨hN,bc,cE (E:=[(46,(.pointer (some ⟨g,k*2+1,none⟩)))]) ⟨(hd 3 rfl _ _ rfl rfl),trivial⟩⟩ rfl rfl rfl rfl rfl rfl (i_.cL bR) [(.slice Aw z.bg.length cw)] (rC hr) rfl (.inr rfl) (.slice Aw z.bg.length cw) rfl
 ·intro a w2 bR hN bc hb hd
  exact d_ ak ⟨hN,bc,cE (E:=[(10,(.pointer (some ⟨g,k*2,none⟩)))]) ⟨hb 10 rfl _ rfl,trivial⟩⟩ rfl rfl rfl rfl rfl
 ·intro a w2 bR hN bc hb hd
  exact d_ ak ⟨hN,bc,cE (E:=[(48,(.pointer (some ⟨g,k*2,none⟩)))]) ⟨(hd 5 rfl _ _ rfl rfl),trivial⟩⟩ rfl rfl rfl rfl rfl
 ·intro a w2 bR hN bc hb hd
  exact d_ ak ⟨hN,bc,cE (E:=[(49,(.pointer (some ⟨g,k*2,none⟩)))]) ⟨(hd 6 rfl _ _ rfl rfl),trivial⟩⟩ rfl rfl rfl rfl rfl
 ·intro a w2 bR hN bc hb hd
  exact vP ak ⟨hN,bc,cE (E:=[(50,(.pointer (some ⟨g,k*2+1,none⟩)))]) ⟨(hd 7 rfl _ _ rfl rfl),trivial⟩⟩ rfl rfl rfl rfl rfl rfl (i_.cL bR) [(.slice Aw z.bg.length cw)] (rC hr) rfl (.inr rfl) (.slice Aw z.bg.length cw) rfl
 ·intro a w2 bR hN bc hb hd
  exact d_ ak ⟨hN,bc,cE (E:=[(51,(.slice Aw z.bg.length cw))]) ⟨(hd 8 rfl _ _ rfl rfl),trivial⟩⟩ rfl rfl rfl rfl rfl
 ·intro a w2 bR hN bc hb hd
  exact d_ ak ⟨hN,bc,cE (E:=[(10,(.pointer (some ⟨g,k*2,none⟩)))]) ⟨hb 10 rfl _ rfl,trivial⟩⟩ rfl rfl rfl rfl rfl
 ·intro a w2 bR hN bc hb hd
  exact d_ ak ⟨hN,bc,cE (E:=[(53,(.pointer (some ⟨g,k*2,none⟩)))]) ⟨(hd 10 rfl _ _ rfl rfl),trivial⟩⟩ rfl rfl rfl rfl rfl
 ·intro a w2 bR hN bc hb hd
  exact d_ ak ⟨hN,bc,cE (E:=[(54,(.pointer (some ⟨g,k*2,none⟩)))]) ⟨(hd 11 rfl _ _ rfl rfl),trivial⟩⟩ rfl rfl rfl rfl rfl
 ·intro a w2 bR hN bc hb hd
  exact vP ak ⟨hN,bc,cE (E:=[(55,(.pointer (some ⟨g,k*2+1,none⟩)))]) ⟨(hd 12 rfl _ _ rfl rfl),trivial⟩⟩ rfl rfl rfl rfl rfl rfl (i_.cL bR) [(.slice Aw z.bg.length cw)] (rC hr) rfl (.inr rfl) (.slice Aw z.bg.length cw) rfl
 ·intro a w2 bR hN bc hb hd
  exact d_ ak ⟨hN,bc,cE (E:=[(56,(.slice Aw z.bg.length cw))]) ⟨(hd 13 rfl _ _ rfl rfl),trivial⟩⟩ rfl rfl rfl rfl rfl
 ·intro a w2 bR hN bc hb hd
  exact(akE (S:=S) (l':=some (.i64,1)) (h':=some (.i64,(z.bg.length:Int))) (m':=some (.i64,(z.bg.length:Int))) (ys:=z.bg.drop 1) ak ⟨hN,bc,cE (E:=[(47,(.slice Aw z.bg.length cw)),(52,(.int .i64 (z.bg.length:Int))),(57,(.int .i64 (z.bg.length:Int)))]) ⟨(hd 4 rfl _ _ rfl rfl),(hd 9 rfl _ _ rfl rfl),(hd 14 rfl _ _ rfl rfl),trivial⟩⟩ rfl rfl rfl rfl rfl rfl rfl rfl rfl rfl rfl rfl (sO.keep (O:=[]) (O':=[]) bR.fU λg hg=>bR.block g (UR g hg) (by simp)) (by
   simp only[Option.map_some]
   unfold gF
   have:=(List.getElem?_eq_some_iff.1 Fj).1
   rw[if_pos (by simp at this ⊢;omega)]
   simp)).weaken (λu w3 ⟨hu,hf⟩=>⟨⟨λg hg=>Nat.lt_of_lt_of_le (UR g hg) (Nat.le_trans bR.size hf.size),hu⟩,hf⟩)
 intro a w4 f4 hN bc eR eN
 have hH:=hH.cL f4
 have kg:=kg.cL f4
 have i_:=i_.cL f4
 have cO:=cO.cL f4
 have jX:=dw.trans (bW.vM dw.ob dw.tr.size f4)
 obtain⟨_,Mh⟩:(∀g∈S,g<w4.heap.size)/\Safe S w4 (a.tmps.getD 58 undef) (z.bg.drop 1):=eN 15 _ _ rfl rfl
 obtain⟨vn,pP⟩: ∃v,a.tmps.getD 58 undef=v:=⟨_,rfl⟩
 rw[pP] at Mh
 obtain⟨An,cn,rfl,_,_⟩:=fT (Mh [] λ_ _ hm=>by cases hm)
 refine AQ (E:=[(4,(.pointer (some ⟨b2,0,none⟩))),(7,(.pointer (some ⟨b,0,none⟩))),(11,(.int .u64 w0)),(43,(.pointer (some ⟨g,k*2,none⟩))),(58,(.slice An (z.bg.drop 1).length cn))]) (l:=[16,17,18]) hN bc ⟨eR 4 _ rfl rfl,eR 7 _ rfl rfl,eR 11 _ rfl rfl,(eN 0 _ _ rfl rfl),pP,trivial⟩ rfl ?_
 generalize hND:z.bg.drop 1=ND at*
 refine aF ak [16,17] [(4,(.pointer (some ⟨b2,0,none⟩))),(7,(.pointer (some ⟨b,0,none⟩))),(11,(.int .u64 w0)),(58,(.slice An ND.length cn)),(60,(.pointer (some ⟨g,k*2+1,none⟩)))] rfl ⟨rfl,rfl,rfl,rfl,rfl,trivial⟩ ?_
 refine h_ ak rfl rfl rfl rfl rfl rfl rfl i_ [(.slice An ND.length cn)] rfl rfl (by simp[Value.oneCell']) (Nat.ble_eq_true_of_le (by simp only[List.length_append,rc,jr,List.length_map];show k*2+1+1<=_;omega)) (rc (aD.set k (z.aa,(.slice An ND.length cn)))++R) (Og (x:=(z.aa,(.slice Aw z.bg.length cw))) hr) (λw5 sv f5=>?_)
 have hW:=N_ (bs:=e.1.ax.set k (ao.mk z.aa ND)) hH.mem hH.ge hH.bY hH.ns hH.nb hH.dj qS gI iY zf yS zi f5 sv (by rw[List.length_set]) (λr hr=>by
  rcases List.mem_or_eq_of_mem_set hr with hr|rfl
  ·exact nV r hr
  ·exact⟨_,_,_,rfl⟩) (kg.fo.set k Mh) kg.lt hH.out
 have cO:=cO.fr f5 (by simp;omega)
 have qN:=jX.trans (bW.kG jX.ob gI (Nat.le_trans dA.tr.size iY) f5)
 clear hH kg
 refine aX ?_
 refine aR ?_
 have yy:w2.heap.size<=w5.heap.size:=Nat.le_trans eV.tr.size (Nat.le_trans f4.size f5.size)
 refine aQ ?_
 refine aY (l:=[0,1]) rfl ?_
 refine aF ak [0] [(11,(.int .u64 w0)),(4,(.pointer (some ⟨b2,0,none⟩))),(7,(.pointer (some ⟨b,0,none⟩))),(61,(.pointer (some ⟨b,0,none⟩)))] rfl ⟨rfl,rfl,rfl,rfl,trivial⟩ ?_
 refine oF rfl rfl rfl rfl rfl J5 rfl (My qN.ob yy ⟨_,_,_,_,hW⟩) (λ_ w7 hg=>?_)
 obtain⟨rfl,O7,f_,iO,iS,S7,XO,hW⟩:=hg
 refine⟨_,rfl,?_⟩
 have cO:ck w7 b2 34 [(.slice none 0 0),(.slice none 0 0)]:=(f_.below _ gW).trans cO
 have i2:=f_.sub _ i2
 have ke:bW w.heap.size O w O7 w7:=qN.trans ⟨f_.tr,f_.ob,f_.sub,λj hj=>f_.below j (Nat.lt_of_lt_of_le hj dA.tr.size)⟩
 refine aF ak [] [(11,(.int .u64 w0)),(4,(.pointer (some ⟨b2,0,none⟩))),(7,(.pointer (some ⟨b,0,none⟩)))] rfl ⟨rfl,rfl,rfl,trivial⟩ ?_
 refine aX ?_
 refine aR ?_
 cases h
 refine aQ ?_
 refine aY (l:=[0,1,2,3,4,5,6,7]) rfl ?_
 refine aF ak [0,1,2] [(7,(.pointer (some ⟨b,0,none⟩))),(11,(.int .u64 w0)),(4,(.pointer (some ⟨b2,0,none⟩))),(65,(.pointer (some ⟨b,0,none⟩)))] rfl ⟨rfl,rfl,rfl,rfl,trivial⟩ ?_
 refine fD ak rfl rfl rfl rfl rfl rfl rfl hW.bY [iO,iS] rfl rfl (.inl rfl) (.agg #[iO,iS]) rfl ?_
 obtain⟨Ax,cx,yw,_,_⟩:=hW.ns.form
 obtain⟨Ay,cy,yx,_,_⟩:=hW.row.form
 refine aF ak [4] [(4,(.pointer (some ⟨b2,0,none⟩))),(66,(.agg #[iO,iS])),(67,(.int .u64 w0))] rfl ⟨rfl,rfl,rfl,trivial⟩ ?_
 refine h_ ak rfl rfl rfl rfl rfl rfl rfl cO [iO,iS] rfl rfl (by rw[yw,yx];simp[Value.oneCell']) rfl [iO,iS] rfl (λwE ki fE=>?_)
 have yJ:=hW.cell i2 gW fE
 have hE:=(ke.trans (bW.kG ke.ob i2 mi fE)).fr
 refine aF ak [6,7] [(4,(.pointer (some ⟨b2,0,none⟩))),(5,(.int .u64 w0)),(6,(.int .i64 0))] rfl ⟨rfl,rfl,rfl,trivial⟩ ?_
 refine aX ?_
 refine aR ?_
 refine ed ?_
 exact(rP ak (vs:=[.agg #[iO,iS],(.int .u64 w0),(.int .i64 0)]) ⟨_,_,rfl,⟨_,_,_,_,rfl,ki,rfl,rfl,.inl rfl,rfl⟩,_,_,rfl,rfl,_,_,rfl,rfl,rfl⟩ ⟨_,rfl,⟨_,_,_,rfl,(yJ.data m0),eY.2 rfl,eY.2 rfl⟩,hE⟩)
set_option maxRecDepth 100000 in
set_option maxHeartbeats 4000000 in
theorem ajr {O:List Nat} {w:World} (hO:OB O w) (hG:dI KK [] w) {v0:Value} {x0:aL} (h0:jL.is [] w v0 x0) {v1:Value} {x1:Int} (U:(Ty.int .u64).is [] w v1 x1) {v2:Value} {x2:List Int} (h2:(Ty.slice (Ty.int .u64)).is [] w v2 x2) {r:aL×Int} (h:zC shut x0 x1 x2=some r):Calls Tryz.prog 197 #[v0,v1,v2] w (jP (Ym jL (Ty.int .i64)) O w r):=by
 obtain rfl:=eY.1 U
 obtain⟨A2,c2,rfl,apx,apE⟩:=fT h2
 obtain⟨ff,fg,rfl,yv,uQ⟩:=nr.1 h0
 have kQ:bW w.heap.size O w O w:=bW.refl hO
 refine iW (args:=[(.agg #[ff,fg]),(.int .u64 x1),(.slice A2 x2.length c2)]) (N:=55) Tryz.func197 rfl rfl rfl ?_
 unfold zC at h
 refine aQ ?_
 refine aY (l:=[0,1,2]) rfl ?_
 refine tL rfl rfl rfl rfl rfl rfl [ff,fg] rfl hO (λb1 w1 n1=>?_)
 have cX:=n1.bY
 have eM:=kQ.trans (bW.oh kQ.tr.size n1)
 refine AO ak rfl rfl rfl rfl rfl rfl [(.slice none 0 0),(.slice none 0 0)] rfl eM.ob (λb2 w2 n2=>?_)
 have cX:=cX.cL n2.fr
 have cO:=n2.bY
 have mi:w.heap.size<=b2:=Nat.le_trans eM.tr.size n2.ge
 have dA:=eM.trans (bW.oh eM.tr.size n2)
 have i2:b2∈b2::b1::O:=List.mem_cons_self
 have gW:b2<w2.heap.size:=cO.lt
 have m0: ∀g∈O,g<w2.heap.size:=λg hg=>Nat.lt_of_lt_of_le (hO g hg) dA.tr.size
 refine aF ak [2] [(1,(.int .u64 x1)),(2,(.slice A2 x2.length c2)),(3,(.pointer (some ⟨b1,0,none⟩))),(6,(.pointer (some ⟨b2,0,none⟩)))] rfl ⟨rfl,rfl,rfl,rfl,trivial⟩ ?_
 refine aX ?_
 refine aR ?_
 refine aQ ?_
 refine aY (l:=[0,1,2,3,4,5,6,7,8,9]) rfl ?_
 refine fD ak rfl rfl rfl rfl rfl rfl rfl cX [ff,fg] rfl rfl (.inl rfl) (.agg #[ff,fg]) rfl ?_
 obtain⟨e,he,h⟩:=bind_some h
 refine aF ak [1] [(1,(.int .u64 x1)),(2,(.slice A2 x2.length c2)),(6,(.pointer (some ⟨b2,0,none⟩))),(13,(.agg #[ff,fg])),(14,(.int .u64 x1))] rfl ⟨rfl,rfl,rfl,rfl,rfl,trivial⟩ ?_
 refine oF rfl rfl rfl rfl rfl J4 rfl (Mw dA.ob (hG.tr dA.fr.fU) (h0.tr dA.fr.fU) he) (λ_ w3 hg=>?_)
 obtain⟨pv,O3,rfl,eV,ss⟩:=hg
 refine⟨_,rfl,?_⟩
 have cO:ck w3 b2 34 [(.slice none 0 0),(.slice none 0 0)]:=(eV.below _ gW).trans cO
 have dw:=dA.to eV
 have i2:=eV.sub _ i2
 refine aF ak [3,4,5,6,7,8,9] [(1,(.int .u64 x1)),(2,(.slice A2 x2.length c2)),(6,(.pointer (some ⟨b2,0,none⟩))),(8,pv),(9,(.int .i64 e.2.1)),(10,(.int .i64 e.2.2))] rfl ⟨rfl,rfl,rfl,rfl,rfl,rfl,trivial⟩ ?_
 refine aX ?_
 refine aR ?_
 refine aQ ?_
 refine aQ ?_
 refine aY (l:=[0,1]) rfl ?_
 refine aF ak [0,1] [(1,(.int .u64 x1)),(2,(.slice A2 x2.length c2)),(6,(.pointer (some ⟨b2,0,none⟩))),(8,pv),(9,(.int .i64 e.2.1)),(10,(.int .i64 e.2.2)),(20,(.bool (!(e.2.2==0))))] rfl ⟨rfl,rfl,rfl,rfl,rfl,rfl,rfl,trivial⟩ ?_
 refine aX ?_
 refine aR ?_
 rcases nK h with⟨hc,h⟩|⟨hc,h⟩
 ·refine jv rfl hc ?_
  cases h
  refine aQ ?_
  refine aY (l:=[0,1,2,3]) rfl ?_
  refine aF ak [0,1] [(6,(.pointer (some ⟨b2,0,none⟩))),(21,(.agg #[(.slice none 0 0),(.slice none 0 0)])),(22,(.int .i64 e.2.2))] rfl ⟨rfl,rfl,rfl,trivial⟩ ?_
  refine h_ ak rfl rfl rfl rfl rfl rfl rfl cO [(.slice none 0 0),(.slice none 0 0)] rfl rfl (by simp[Value.oneCell']) rfl [(.slice none 0 0),(.slice none 0 0)] rfl (λwE ki fE=>?_)
  refine aF ak [3] [(6,(.pointer (some ⟨b2,0,none⟩))),(7,(.int .i64 e.2.2))] rfl ⟨rfl,rfl,trivial⟩ ?_
  refine aX ?_
  refine aR ?_
  refine ed ?_
  exact gQ (rP ak (vs:=[.agg #[(.slice none 0 0),(.slice none 0 0)],(.int .i64 e.2.2)]) ⟨_,_,rfl,⟨_,_,_,_,rfl,ki,rfl,rfl,.inl rfl,rfl⟩,_,_,rfl,rfl,rfl⟩ ⟨_,rfl,⟨_,_,rfl,(nr.2 ⟨_,_,rfl,ld _ _ _,ld _ _ _⟩),eY.2 rfl⟩,(dw.trans (bW.kG dw.ob i2 mi fE)).fr⟩)
 refine jO rfl hc ?_
 have pw:e.2.2=0:=by simpa using hc
 obtain⟨b,rfl,nv,rv,S,aD,hH⟩:=ss pw
 refine fC ?_
 refine aR ?_
 obtain⟨z,hz,h⟩:=bind_some h
 obtain⟨u9,pG⟩:=vm hz
 obtain⟨k,hk⟩: ∃k:Nat,k=e.2.1.toNat:=⟨_,rfl⟩
 rw[<-hk] at pG
 have yY:e.2.1=(k:Int):=by omega
 rw[yY]
 rw[<-hk] at h
 have kg:=hH.Pw
 obtain⟨vw,hr,sO⟩:=kg.fo.at_ pG
 obtain⟨Aw,cw,rfl,UX,UZ⟩:=fT (sO [] λ_ _ hm=>by cases hm)
 obtain⟨Ar,cr,rfl,_,_⟩:=hH.row.form
 have qX:=(List.getElem?_eq_some_iff.1 hr).1
 obtain⟨g,R,rfl,gI,iY,i_,zf,yS,zi,nV⟩:=OI hH.row (by omega)
 have qS:g≠b:=λe=>hH.rb (by rw[<-e];rfl)
 have e1:(k:Int).toNat*({ tag:=8,k:=0,e:=0,fs:=[(29,0),(40,1)],size:=2,bytes:=32,zero:= .agg #[.int .u64 0,.slice none 0 0] }:TI).size=k*2:=by rw[Int.toNat_natCast]
 have aH:(k:Int).toNat<aD.length:=by rw[Int.toNat_natCast];exact qX
 refine aQ ?_
 refine aY (l:=[0,1,2,3,4,5,6,7]) rfl ?_
 refine aF ak [0,1,2,3] [(6,(.pointer (some ⟨b2,0,none⟩))),(2,(.slice A2 x2.length c2)),(8,(.pointer (some ⟨b,0,none⟩))),(9,(.int .i64 (k:Int))),(26,(.pointer (some ⟨b,1,none⟩)))] rfl ⟨rfl,rfl,rfl,rfl,rfl,trivial⟩ ?_
 refine fD ak rfl rfl rfl rfl rfl rfl rfl hH.bY [(.slice (some ⟨g,0,none⟩) aD.length cr)] rfl rfl (.inr rfl) (.slice (some ⟨g,0,none⟩) aD.length cr) rfl ?_
 refine aF ak [5] [(6,(.pointer (some ⟨b2,0,none⟩))),(2,(.slice A2 x2.length c2)),(8,(.pointer (some ⟨b,0,none⟩))),(9,(.int .i64 (k:Int))),(27,(.slice (some ⟨g,0,none⟩) aD.length cr)),(28,(.int .i64 (k:Int)))] rfl ⟨rfl,rfl,rfl,rfl,rfl,rfl,trivial⟩ ?_
 refine wj ak rfl rfl rfl rfl rfl rfl rfl rfl rfl rfl (by omega) aH ?_
 rw[e1,iD,Nat.zero_add]
 refine aF ak [7] [(6,(.pointer (some ⟨b2,0,none⟩))),(2,(.slice A2 x2.length c2)),(8,(.pointer (some ⟨b,0,none⟩))),(11,(.pointer (some ⟨g,k*2,none⟩)))] rfl ⟨rfl,rfl,rfl,rfl,trivial⟩ ?_
 refine aX ?_
 refine aR ?_
 refine aQ ?_
 refine aQ ?_
 refine aY (l:=[0,1,2,3,4,5,6,7,8]) rfl ?_
 refine aF ak [0,1,2] [(6,(.pointer (some ⟨b2,0,none⟩))),(2,(.slice A2 x2.length c2)),(8,(.pointer (some ⟨b,0,none⟩))),(11,(.pointer (some ⟨g,k*2,none⟩))),(32,(.pointer (some ⟨g,k*2+1,none⟩)))] rfl ⟨rfl,rfl,rfl,rfl,rfl,trivial⟩ ?_
 refine fD ak rfl rfl rfl rfl rfl rfl rfl i_ [(.slice Aw z.bg.length cw)] (rC hr) rfl (.inr rfl) (.slice Aw z.bg.length cw) rfl ?_
 refine aF ak [4,5,6,7,8] [(6,(.pointer (some ⟨b2,0,none⟩))),(2,(.slice A2 x2.length c2)),(8,(.pointer (some ⟨b,0,none⟩))),(11,(.pointer (some ⟨g,k*2,none⟩))),(38,(.bool (decide (IntKind.i64.wrap ((z.bg.length:Int)+(x2.length:Int))>4))))] rfl ⟨rfl,rfl,rfl,rfl,rfl,trivial⟩ ?_
 refine aX ?_
 refine aR ?_
 rcases nK h with⟨hc,h⟩|⟨hc,h⟩
 ·refine jv rfl hc ?_
  cases h
  refine aQ ?_
  refine aY (l:=[0,1,2]) rfl ?_
  refine aF ak [0] [(6,(.pointer (some ⟨b2,0,none⟩))),(39,(.agg #[(.slice none 0 0),(.slice none 0 0)]))] rfl ⟨rfl,rfl,trivial⟩ ?_
  refine h_ ak rfl rfl rfl rfl rfl rfl rfl cO [(.slice none 0 0),(.slice none 0 0)] rfl rfl (by simp[Value.oneCell']) rfl [(.slice none 0 0),(.slice none 0 0)] rfl (λwE ki fE=>?_)
  refine aF ak [2] [(6,(.pointer (some ⟨b2,0,none⟩))),(7,(.int .i64 6))] rfl ⟨rfl,rfl,trivial⟩ ?_
  refine aX ?_
  refine aR ?_
  refine ed ?_
  exact gQ (rP ak (vs:=[.agg #[(.slice none 0 0),(.slice none 0 0)],(.int .i64 6)]) ⟨_,_,rfl,⟨_,_,_,_,rfl,ki,rfl,rfl,.inl rfl,rfl⟩,_,_,rfl,rfl,rfl⟩ ⟨_,rfl,⟨_,_,rfl,(nr.2 ⟨_,_,rfl,ld _ _ _,ld _ _ _⟩),eY.2 rfl⟩,(dw.trans (bW.kG dw.ob i2 mi fE)).fr⟩)
 refine jO rfl hc ?_
 refine fC ?_
 refine aR ?_
 obtain⟨ws,Mr,h⟩:=bind_some h
 cases h
 refine aQ ?_
 refine aY (l:=[0,1,2,3,4,5,6,7,8,9]) rfl ?_
 refine aF ak [0,1,2,3] [(6,(.pointer (some ⟨b2,0,none⟩))),(2,(.slice A2 x2.length c2)),(8,(.pointer (some ⟨b,0,none⟩))),(11,(.pointer (some ⟨g,k*2,none⟩))),(40,(.pointer (some ⟨g,k*2,none⟩))),(43,(.pointer (some ⟨g,k*2+1,none⟩)))] rfl ⟨rfl,rfl,rfl,rfl,rfl,rfl,trivial⟩ ?_
 refine fD ak rfl rfl rfl rfl rfl rfl rfl i_ [(.slice Aw z.bg.length cw)] (rC hr) rfl (.inr rfl) (.slice Aw z.bg.length cw) rfl ?_
 refine aF ak [5] [(6,(.pointer (some ⟨b2,0,none⟩))),(8,(.pointer (some ⟨b,0,none⟩))),(40,(.pointer (some ⟨g,k*2,none⟩))),(44,(.slice Aw z.bg.length cw)),(45,(.slice A2 x2.length c2))] rfl ⟨rfl,rfl,rfl,rfl,rfl,trivial⟩ ?_
 obtain⟨vw2,S1,S2,eN,yF,LL,hre⟩:=hH.fo.at_ (show(e.1.ax.map bx)[k]? =some (bx z) by simp[pG])
 rw[hr] at eN
 obtain rfl:(.slice Aw z.bg.length cw)=vw2:=by injection eN with e;injection e with e1 e2
 have dq: ∀j,((.slice Aw z.bg.length cw):Value).ownBlock=some j->j∈S:=λj hj=>by rw[yF,hj];simp
 have Fa: ∀j,j∈O3->((.slice Aw z.bg.length cw):Value).ownBlock≠some j:=λj hj e=>hH.out j (dq j e) hj
 have dJ: ∀j,j<w2.heap.size->((.slice Aw z.bg.length cw):Value).ownBlock≠some j:=λj hj e=>by have:=(LL.lt j e).1;omega
 refine wi (O:=((.slice Aw z.bg.length cw):Value).ownBlock.toList) ak rfl rfl rfl rfl rfl rfl rfl rfl rfl rfl rfl rfl rfl rfl eV.fr (λj hj=>(LL.lt j (by simpa using hj)).2) (LL.own lj λj hj=>by simpa using hj) (h2.tr ⟨dw.fr.os,dw.fr.tape,dw.fr.output,dw.fr.size,λj hj _=>⟨λhm=>dJ j (Nat.lt_of_lt_of_le hj dA.tr.size) (by simpa using hm),dw.fr.block j hj (by simp)⟩⟩) Mr (λvn w4 O4 ap=>?_)
 obtain⟨An,cn,rfl,_,_⟩:=ap.own.form
 have cO:ck w4 b2 34 [(.slice none 0 0),(.slice none 0 0)]:=(ap.fr _ cO.lt (dJ _ gW)).trans cO
 have i_:ck w4 g 82 (rc aD++R):=(ap.fr _ i_.lt (Fa _ gI)).trans i_
 have Lm:ck w4 b 128 [nv,(.slice (some ⟨g,0,none⟩) aD.length cr)]:=(ap.fr _ hH.bY.lt (Fa _ hH.mem)).trans hH.bY
 have m9:=(hH.ns.nR.keep Gy (w':=w4) λj hj=>ap.fr j (hH.ns.lt j hj).2 (Fa _ (hH.ns.mem j hj))).own Gy hH.ns.mem
 have jX:bW w.heap.size O w O3 w4:=⟨⟨ap.tr.os.trans dw.tr.os,ap.tr.tape.trans dw.tr.tape,ap.tr.output.trans dw.tr.output,Nat.le_trans dw.tr.size ap.tr.size,λj hj ho=>⟨(dw.tr.keep j hj ho).1,(ap.fr j (Nat.lt_of_lt_of_le hj dw.tr.size) (dJ j (Nat.lt_of_lt_of_le hj dA.tr.size))).trans (dw.tr.keep j hj ho).2⟩⟩,λj hj=>Nat.lt_of_lt_of_le (dw.ob j hj) ap.tr.size,dw.sub,λj hj=>(ap.fr j (Nat.lt_of_lt_of_le hj dw.tr.size) (dJ j (Nat.lt_of_lt_of_le hj dA.tr.size))).trans (dw.below j hj)⟩
 have nY:=hH.nd
 rw[yF,List.nodup_append,List.nodup_append] at nY
 have ij:=hre (w':=w4) (λj hj=>ap.fr j (hH.fo.lt j (by rw[yF];simp at hj ⊢;rcases hj with hj|hj;exact .inl hj;exact .inr (.inr hj))).2 (λe=>by
  rcases List.mem_append.1 hj with hj|hj
  ·exact nY.1.2.2 j hj j (by rw[e];simp) rfl
  ·exact nY.2.2 j (List.mem_append_right _ (by rw[e];simp)) j hj rfl)) lj ap.own.nR
 obtain⟨S',Ue⟩: ∃S',S'=S1++(Value.slice An ws.length cn).ownBlock.toList++S2:=⟨_,rfl⟩
 rw[<-Ue] at ij
 have ij:eo TW 28 w2.heap.size w4 S' (aD.set k (z.aa,.slice An ws.length cn)) ((e.1.ax.set k (ao.mk z.aa ws)).map bx):=by rw[List.map_set];exact ij
 have pL: ∀j∈S',j∉O3:=λj hj hm=>by
  rw[Ue] at hj
  simp only[List.mem_append,Option.mem_toList] at hj
  rcases hj with(hj|hj)|hj
  ·exact hH.out j (by rw[yF];simp[hj]) hm
  ·exact ap.ne j (dw.ob j hm) (Fa j hm) hj
  ·exact hH.out j (by rw[yF];simp[hj]) hm
 refine aF ak [7,8] [(6,(.pointer (some ⟨b2,0,none⟩))),(8,(.pointer (some ⟨b,0,none⟩))),(46,(.slice An ws.length cn)),(48,(.pointer (some ⟨g,k*2+1,none⟩)))] rfl ⟨rfl,rfl,rfl,rfl,trivial⟩ ?_
 refine h_ ak rfl rfl rfl rfl rfl rfl rfl i_ [(.slice An ws.length cn)] rfl rfl (by simp[Value.oneCell']) (Nat.ble_eq_true_of_le (by simp only[List.length_append,rc,jr,List.length_map];show k*2+1+1<=_;omega)) (rc (aD.set k (z.aa,(.slice An ws.length cn)))++R) (Og (x:=(z.aa,(.slice Aw z.bg.length cw))) hr) (λw5 sv f5=>?_)
 have hW:=N_ (bs:=e.1.ax.set k (ao.mk z.aa ws)) hH.mem hH.ge Lm m9 hH.nb hH.dj qS gI iY zf yS zi f5 sv (by rw[List.length_set]) (λr hr=>by
  rcases List.mem_or_eq_of_mem_set hr with hr|rfl
  ·exact nV r hr
  ·exact⟨_,_,_,rfl⟩) (fj.of S' ij (λ_ h=>h)) ij.lt pL
 have cO:=cO.fr f5 (by simp;omega)
 have qN:=jX.trans (bW.kG jX.ob gI (Nat.le_trans dA.tr.size iY) f5)
 clear hH kg
 refine aX ?_
 refine aR ?_
 have yy:w2.heap.size<=w5.heap.size:=Nat.le_trans eV.tr.size (Nat.le_trans ap.tr.size f5.size)
 refine aQ ?_
 refine aY (l:=[0,1]) rfl ?_
 refine aF ak [0] [(6,(.pointer (some ⟨b2,0,none⟩))),(8,(.pointer (some ⟨b,0,none⟩))),(49,(.pointer (some ⟨b,0,none⟩)))] rfl ⟨rfl,rfl,rfl,trivial⟩ ?_
 refine oF rfl rfl rfl rfl rfl J5 rfl (My qN.ob yy ⟨_,_,_,_,hW⟩) (λ_ w7 hg=>?_)
 obtain⟨rfl,O7,f_,iO,iS,S7,XO,hW⟩:=hg
 refine⟨_,rfl,?_⟩
 have cO:ck w7 b2 34 [(.slice none 0 0),(.slice none 0 0)]:=(f_.below _ gW).trans cO
 have i2:=f_.sub _ i2
 have ke:bW w.heap.size O w O7 w7:=qN.trans ⟨f_.tr,f_.ob,f_.sub,λj hj=>f_.below j (Nat.lt_of_lt_of_le hj dA.tr.size)⟩
 refine aF ak [] [(6,(.pointer (some ⟨b2,0,none⟩))),(8,(.pointer (some ⟨b,0,none⟩)))] rfl ⟨rfl,rfl,trivial⟩ ?_
 refine aX ?_
 refine aR ?_
 refine aQ ?_
 refine aY (l:=[0,1,2,3,4,5]) rfl ?_
 refine aF ak [0,1,2] [(8,(.pointer (some ⟨b,0,none⟩))),(6,(.pointer (some ⟨b2,0,none⟩))),(53,(.pointer (some ⟨b,0,none⟩)))] rfl ⟨rfl,rfl,rfl,trivial⟩ ?_
 refine fD ak rfl rfl rfl rfl rfl rfl rfl hW.bY [iO,iS] rfl rfl (.inl rfl) (.agg #[iO,iS]) rfl ?_
 obtain⟨Ax,cx,yw,_,_⟩:=hW.ns.form
 obtain⟨Ay,cy,yx,_,_⟩:=hW.row.form
 refine h_ ak rfl rfl rfl rfl rfl rfl rfl cO [iO,iS] rfl rfl (by rw[yw,yx];simp[Value.oneCell']) rfl [iO,iS] rfl (λwE ki fE=>?_)
 have yJ:=hW.cell i2 gW fE
 have hE:=(ke.trans (bW.kG ke.ob i2 mi fE)).fr
 refine aF ak [5] [(6,(.pointer (some ⟨b2,0,none⟩))),(7,(.int .i64 0))] rfl ⟨rfl,rfl,trivial⟩ ?_
 refine aX ?_
 refine aR ?_
 refine ed ?_
 exact(rP ak (vs:=[.agg #[iO,iS],(.int .i64 0)]) ⟨_,_,rfl,⟨_,_,_,_,rfl,ki,rfl,rfl,.inl rfl,rfl⟩,_,_,rfl,rfl,rfl⟩ ⟨_,rfl,⟨_,_,rfl,(yJ.data m0),eY.2 rfl⟩,hE⟩)
section
variable {P:Program} {r:Option Nat} {N:Nat} {Θ:dG} {ops:Array Oper} {Q:Exit->Act->World->Prop} {l:List Nat} {E:Env} {ds:List Deferred} {w:World} {i d:Nat} {o:Oper} {O:List Nat}
theorem akF (aT:Θ.ok P) {a:Act} (ha:Has N E ds a) (ho:ops[i]? =some o) (hw:want N ops E o.guard=some true) (hd:o.dst=some d) {t:Nat} {x y:Operand} {ti te:TI} (an:o.op= .slice t x none (some y) none) (ht:Θ.get t=some ti)
  (h5:ti.tag=5) (cp:Θ.get ti.e=some te) {ad:Addr} {n c hi:Nat} {k:IntKind} (hx:ev E x=some (.slice (some ad) n c)) (hy:ev E y=some (.int k hi)) (fl:n<=c) (pD:hi<=c):
  gR P r ops Q i d a w (λu w'=>u= .slice (some ad) hi c/\Fr [] w w'):=by
 refine s9 ho (lh ha hw) hd (b:=true) (v:= .slice (some ad) hi c) (w':=w) ?_ ⟨rfl,Fr.refl _ _⟩
 simp only[if_true]
 refine⟨by rw[an];simp,?_⟩
 simp only[execOp,an,Sem.run_bind,ha.eval hx,Option.map_some,Option.map_none,ha.eval hy,Yq aT ht h5 cp fl pD]
 rfl
theorem apb (aT:Θ.ok P) (ho:ops[i]? =some o) (hw:want N ops E o.guard=some true) (hd:o.dst=some d) (hN:Nat.blt d N=true) {t:Nat} {x y z:Operand} {ti te:TI} (an:o.op= .slice t x (some y) (some z) none) (ht:Θ.get t=some ti)
  (h5:ti.tag=5) (cp:Θ.get ti.e=some te) {ad:Addr} {n c lo hi:Nat} {k k':IntKind} (hx:ev E x=some (.slice (some ad) n c)) (hy:ev E y=some (.int k lo)) (hz:ev E z=some (.int k' hi)) (fl:n<=c) (pI:lo<=hi) (pD:hi<=c) (LZ:lo<c)
  (h:WO P r N ops Q l ((d,.slice (some (ad.add (lo*te.size))) (hi-lo) (c-lo))::E) ds w):WO P r N ops Q (i::l) E ds w:=by
 have hu:=(aT.fits ht).slice h5
 have hb:=wa (P:=P) (w:=w) (b:=true) (n:=n) (c:=c) (lo:=some (k,(lo:Int))) (hi:=some (k',(hi:Int))) (mx:=none) fl (by simp) (by simp;omega) (by simp;omega) (by simp) (by simp)
 simp only[Option.map_some,Option.map_none,Option.getD_some,Option.getD_none,kW,Int.toNat_natCast] at hb
 refine fW ho hw hd hN (by rw[an];simp) (λa ha=>?_) h
 simp only[execOp,an,Sem.run_bind,ha.eval hx,Option.map_some,Option.map_none,ha.eval hy,ha.eval hz,Instr.sliceAt,run_underlying hu,Result.andThen_ok,Instr.slice,hb,fK (aT.fits cp),Sem.run_pure]
 rw[if_neg (by omega)]
theorem ao8 (aT:Θ.ok P) (ho:ops[i]? =some o) (hw:want N ops E o.guard=some true) (hd:o.dst=some d) (hN:Nat.blt d N=true) {t:Nat} {x y:Operand} {ti te:TI}
  (an:o.op= .call { callee:= .builtin .append,args:= #[x,y],argTypes:= #[t,t] }) (ht:Θ.get t=some ti) (h5:ti.tag=5) (cp:Θ.get ti.e=some te) {g k c m c' e:Nat} {ad:Addr} {cur:Array Value} {us:List Value}
  (hx:ev E x=some (.slice (some ⟨g,0,none⟩) k c)) (hy:ev E y=some (.slice (some ad) m c')) (hg:w.heap[g]? =some (.cells cur e (0,0))) (fc:fG w ad us) (jD:us.length=m*te.size) (U: ∀u∈us,u.oneCell'=true) (E7:k+m<=c) (eW:(k+m)*te.size<=cur.size)
  (h: ∀(W:World) (new:Array Value),Fr [g] w W->W.heap[g]? =some (.cells new e (0,0))->new=(cur.toList.take (k*te.size)++us++cur.toList.drop (k*te.size+us.length)).toArray->WO P r N ops Q l ((d,.slice (some ⟨g,0,none⟩) (k+m) c)::E) ds W):WO P r N ops Q (i::l) E ds w:=by
 have jg:=(aT.fits ht).slice h5
 obtain⟨x',im,hs,sw,vk⟩:=(aT.fits cp).info
 have dz:=run_storeCells_at P g (k*te.size) e us 0 cur w hg (by rw[jD];rw[Nat.add_mul] at eW;omega) U
 simp only[Nat.add_zero] at dz
 have nW:=h (w.setRow g (cur.toList.take (k*te.size)++us++cur.toList.drop (k*te.size+us.length)).toArray) _ (qd hg) (by simp only[World.setRow,Array.getElem?_modify,hg,if_true,Option.map_some]) rfl
 refine fW ho hw hd hN (by rw[an];simp) (λa ha=>?_) nW
 have hfc:=run_firstCells_some (P:=P) (w:=w) te.size m ad m c' us jD fc
 have a_:(Builtin.append_ #[t,t] o.type #[.slice (some ⟨g,0,none⟩) k c,.slice (some ad) m c']).run P w= .ok (.slice (some ⟨g,0,none⟩) (k+m) c) (w.setRow g (cur.toList.take (k*te.size)++us++cur.toList.drop (k*te.size+us.length)).toArray):=by
  simp[Builtin.append_,run_underlying jg,sizeOf,typeInfo,im,Builtin.lenOf,hs,hfc,E7,iD,dz]
 simp only[execOp,an,Sem.run_bind,resolve,Sem.run_pure,Result.andThen_ok,invoke,builtin,List.map_toArray,List.map_cons,List.map_nil,ha.eval hx,ha.eval hy,a_]
end
noncomputable def np (z:aA):Value×Value:=(.int .u64 z.bl,.int .u64 z.aa)
noncomputable def nc (L:List aA):List Value:=pc (L.map np)
theorem Ni {O:List Nat} {w:World}: ∀ {L:List aA},cq fu O w (nc L) L
 |[]=>rfl
 |z::L=>⟨[.int .u64 z.bl,.int .u64 z.aa],nc L,rfl,⟨[.int .u64 z.bl],[.int .u64 z.aa],rfl,rfl,rfl⟩,Ni⟩
theorem Ya {O:List Nat} {w:World}: ∀ {L:List aA} {cs:List Value},cq fu O w cs L->cs=nc L
 |[],_,h=>h
 |z::L,cs,⟨c1,c2,U,h2,h3⟩=>by
  rw[U,Ya h3,anw h2]
  rfl
theorem rl (L:List aA):(nc L).length=L.length*2:=by rw[nc,jr,List.length_map]
theorem aj9 (L:List aA) (k:Nat):(nc L).take (k*2)=nc (L.take k):=by rw[nc,F3,nc,List.map_take]
theorem aj7 (L:List aA) (k:Nat):(nc L).drop (k*2)=nc (L.drop k):=by rw[nc,F2,nc,List.map_drop]
theorem aj6 (L M:List aA):nc (L++M)=nc L++nc M:=by rw[nc,List.map_append,N2];rfl
theorem aj8: ∀ {L:List aA} {u:Value},u∈nc L->u.oneCell'=true:=λ{L u} h=>cq.one (Ni (O:=[]) (w:=default) (L:=L)) u h
noncomputable def Gt (xs:List aA) (i j:Int):Option (List aA):=if 0<=i/\i<=j/\j<=xs.length then some (xs.take i.toNat++xs.drop j.toNat) else none
set_option maxRecDepth 100000 in
set_option maxHeartbeats 4000000 in
theorem am6 {O:List Nat} {w:World} (hO:OB O w) {B:Nat} {v:Value} {xs:List aA} (hv:Go.Dc.Own fu 93 B O w v xs) {i j:Int} {zs:List aA} (hz:Gt xs i j=some zs):
  Calls Tryz.prog 241 #[v,.int .i64 i,.int .i64 j] w (ia fu 93 B O w v zs):=by
 unfold Gt at hz
 split at hz
 case isFalse=>cases hz
 rename_i dC
 cases hz
 obtain⟨i,rfl⟩: ∃k:Nat,i=k:=⟨i.toNat,by omega⟩
 obtain⟨j,rfl⟩: ∃k:Nat,j=k:=⟨j.toNat,by omega⟩
 simp only[Int.toNat_natCast] at*
 obtain⟨A,c,rfl,fl,mg⟩:=hv.form
 have aiC:(Ty.slice fu).is [] w (.slice A xs.length c) xs:=hv.nR.data Gy (λ_ _ h=>by cases h)
 refine iW (args:=[.slice A xs.length c,.int .i64 i,.int .i64 j]) (N:=33) Tryz.func241 rfl rfl rfl ?_
 refine aQ ?_
 refine aY (l:=[0]) rfl ?_
 refine aF ak [0] [(0,.slice A xs.length c),(1,.int .i64 i),(2,.int .i64 j)] rfl ⟨rfl,rfl,rfl,trivial⟩ ?_
 refine aX ?_
 refine aR ?_
 refine aQ ?_
 refine aY (l:=[0,1,2,3,4,5]) rfl ?_
 refine aF ak [0,1,2,3,4] [(0,.slice A xs.length c),(1,.int .i64 i),(2,.int .i64 j),(8,.slice A xs.length c),(9,.int .i64 i),(10,.int .i64 j),(12,.int .i64 (xs.length:Int))] rfl ⟨rfl,rfl,rfl,rfl,rfl,rfl,rfl,trivial⟩ ?_
 refine apa (l':=some (.i64,(i:Int))) (h':=some (.i64,(j:Int))) (m':=some (.i64,(xs.length:Int))) (ys:=(xs.take j).drop i) ak rfl rfl rfl rfl rfl rfl rfl rfl rfl rfl rfl rfl rfl aiC (by
  simp only[Option.map_some]
  unfold gF
  rw[if_pos (by simp;omega)]
  simp) (λv1 U=>?_)
 refine aX ?_
 refine aR ?_
 refine aQ ?_
 refine aQ ?_
 refine aY (l:=[0,1,2]) rfl ?_
 refine aF ak [0,1,2] [(0,.slice A xs.length c),(1,.int .i64 i),(2,.int .i64 j),(16,.bool ((i:Int)==j))] rfl ⟨rfl,rfl,rfl,rfl,trivial⟩ ?_
 refine aX ?_
 refine aR ?_
 by_cases aiN:i=j
 ·subst aiN
  refine jv rfl (by simp) ?_
  refine aQ ?_
  refine aY (l:=[0,1]) rfl ?_
  refine aF ak [0,1] [(6,.slice A xs.length c)] rfl ⟨rfl,trivial⟩ ?_
  refine aX ?_
  refine aR ?_
  refine ed ?_
  refine gQ (fh rfl ⟨_,O,rfl,?_⟩)
  rw[List.take_append_drop]
  exact⟨hv,Tr.refl _ _,hO,Sub.refl _,λ_ _ _=>rfl,λ_ _ h=>h⟩
 refine jO rfl (beq_eq_false_iff_ne.2 (by omega)) ?_
 refine fC ?_
 refine aR ?_
 obtain⟨cs,⟨bU,iL⟩,fp⟩:=hv.ex
 rcases iL with⟨_,nX⟩|⟨g,cap,cur,iL,iY,hh,lM,sx,eW,kT⟩
 ·omega
 injection iL with hA sJ jz
 subst hA;subst jz
 have gI:=hv.mem g rfl
 have sA:=Ya fp
 have pg:fu.n=2:=rfl
 rw[pg] at eW kT
 obtain⟨R,hR⟩: ∃R,R=cur.toList.drop (xs.length*2):=⟨_,rfl⟩
 have lH:cur.toList=nc xs++R:=by
  rw[hR,<-sA,<-kT]
  exact(List.take_append_drop _ _).symm
 have hRl:xs.length*2+R.length=c*2:=by
  have:=congrArg List.length lH
  rw[Array.length_toList,eW] at this
  simp only[List.length_append,rl] at this
  omega
 have hb:ck w g 93 (nc xs++R):=by
  unfold ck
  rw[<-lH,Array.toArray_toList]
  exact hh
 refine aQ ?_
 refine aY (l:=[0,1,2]) rfl ?_
 refine aF ak [0,1,2] [(0,.slice (some ⟨g,0,none⟩) xs.length c),(1,.int .i64 i),(2,.int .i64 j),(7,.int .i64 (xs.length:Int))] rfl ⟨rfl,rfl,rfl,rfl,trivial⟩ ?_
 refine aX ?_
 refine aR ?_
 refine aQ ?_
 refine GM mixed [⟨20,[],[0]⟩,⟨21,[],[1]⟩,⟨22,[0,1],[]⟩,⟨23,[],[0]⟩,⟨24,[],[2]⟩,⟨25,[3,4],[]⟩] [SP.eq (.slice (some ⟨g,0,none⟩) xs.length c),SP.eq (.int .i64 i),SP.eq (.slice (some ⟨g,0,none⟩) i c),SP.eq (.slice (some ⟨g,0,none⟩) xs.length c),SP.eq (.int .i64 j),SP.eq (.slice (if c=j then some ⟨g,0,none⟩ else(some ⟨g,0,none⟩:Option Addr).map (·.add (j*2))) (xs.length-j) (c-j))] rfl rfl rfl rfl ⟨?_,?_,?_,?_,?_,?_,trivial⟩ ?_
 ·intro a w2 bR hN bc hb hd
  exact d_ ak ⟨hN,bc,cE (E:=[(0,.slice (some ⟨g,0,none⟩) xs.length c)]) ⟨hb 0 rfl _ rfl,trivial⟩⟩ rfl rfl rfl rfl rfl
 ·intro a w2 bR hN bc hb hd
  exact d_ ak ⟨hN,bc,cE (E:=[(1,.int .i64 i)]) ⟨hb 1 rfl _ rfl,trivial⟩⟩ rfl rfl rfl rfl rfl
 ·intro a w2 bR hN bc hb hd
  exact akF (n:=xs.length) (c:=c) (hi:=i) ak ⟨hN,bc,cE (E:=[(20,.slice (some ⟨g,0,none⟩) xs.length c),(21,.int .i64 i)]) ⟨(hd 0 rfl _ _ rfl rfl),(hd 1 rfl _ _ rfl rfl),trivial⟩⟩ rfl rfl rfl rfl rfl rfl rfl rfl rfl lM (by omega)
 ·intro a w2 bR hN bc hb hd
  exact d_ ak ⟨hN,bc,cE (E:=[(0,.slice (some ⟨g,0,none⟩) xs.length c)]) ⟨hb 0 rfl _ rfl,trivial⟩⟩ rfl rfl rfl rfl rfl
 ·intro a w2 bR hN bc hb hd
  exact d_ ak ⟨hN,bc,cE (E:=[(2,.int .i64 j)]) ⟨hb 2 rfl _ rfl,trivial⟩⟩ rfl rfl rfl rfl rfl
 ·intro a w2 bR hN bc hb hd
  refine(zY (A:=some ⟨g,0,none⟩) (n:=xs.length) (c:=c) (lo:=j) ak ⟨hN,bc,cE (E:=[(23,.slice (some ⟨g,0,none⟩) xs.length c),(24,.int .i64 j)]) ⟨(hd 3 rfl _ _ rfl rfl),(hd 4 rfl _ _ rfl rfl),trivial⟩⟩ rfl rfl rfl rfl rfl rfl rfl rfl rfl lM (by omega)).weaken (λu w3 hh=>?_)
  exact hh
 intro a w3 f3 hN bc eR hr
 have EX:=hb.cL f3
 obtain⟨ad,yP,po⟩: ∃ad,(if c=j then some ⟨g,0,none⟩ else(some ⟨g,0,none⟩:Option Addr).map (·.add (j*2)))=some ad/\fG w3 ad (nc (xs.drop j)):=by
  by_cases UA:c=j
  ·refine⟨⟨g,0,none⟩,by rw[if_pos UA],?_⟩
   rw[List.drop_eq_nil_of_le (by omega)]
   intro k u hk
   simp[nc,pc] at hk
  ·refine⟨⟨g,j*2,none⟩,by rw[if_neg UA,Option.map_some,iD,Nat.zero_add],?_⟩
   intro k u hk
   rw[iD,EX.cell]
   rw[<-aj7,List.getElem?_drop] at hk
   have aH:=(List.getElem?_eq_some_iff.1 hk).1
   rw[List.getElem?_append_left aH]
   exact hk
 rw[yP] at hr
 refine AQ (E:=[(1,.int .i64 i),(2,.int .i64 j),(7,.int .i64 (xs.length:Int)),(22,.slice (some ⟨g,0,none⟩) i c),(25,.slice (some ad) (xs.length-j) (c-j))]) (l:=[6,7]) hN bc ⟨eR 1 _ rfl rfl,eR 2 _ rfl rfl,eR 7 _ rfl rfl,(hr 2 _ _ rfl rfl),(hr 5 _ _ rfl rfl),trivial⟩ rfl ?_
 have fz:(nc (xs.drop j)).length=(xs.length-j)*2:=by rw[rl,List.length_drop]
 refine ao8 ak rfl rfl rfl rfl rfl rfl rfl rfl rfl rfl EX po fz (λu hu=>aj8 hu) (by omega) (by simp only[List.size_toArray,List.length_append,rl];show(i+(xs.length-j))*2<=_;omega) (λw4 new yZ hh4 fP=>?_)
 have U0:new.toList=nc (xs.take i++xs.drop j)++(nc xs++R).drop (i*2+(xs.length-j)*2):=by
  rw[fP]
  simp only[List.toList_toArray]
  rw[fz,aj6,List.append_assoc,List.append_assoc]
  congr 1
  show List.take (i*2) (nc xs++R)=_
  rw[List.take_append_of_le_length (by rw[rl];omega),aj9]
 have iq:(xs.take i++xs.drop j).length=i+(xs.length-j):=by simp;omega
 refine aF ak [7] [(0,.slice (some ⟨g,0,none⟩) (i+(xs.length-j)) c),(1,.int .i64 i),(2,.int .i64 j),(7,.int .i64 (xs.length:Int))] rfl ⟨rfl,rfl,rfl,rfl,trivial⟩ ?_
 refine aX ?_
 refine aR ?_
 refine aQ ?_
 refine aY (l:=[0,1,2,3,4,5]) rfl ?_
 refine aF ak [0,1,2,3] [(0,.slice (some ⟨g,0,none⟩) (i+(xs.length-j)) c),(27,.slice (some ⟨g,0,none⟩) (i+(xs.length-j)) c),(29,.int .i64 ((i+(xs.length-j):Nat):Int)),(30,.int .i64 (xs.length:Int))] rfl ⟨rfl,rfl,rfl,rfl,trivial⟩ ?_
 refine apb (n:=i+(xs.length-j)) (c:=c) (lo:=i+(xs.length-j)) (hi:=xs.length) ak rfl rfl rfl rfl rfl rfl rfl rfl rfl rfl rfl (by omega) (by omega) lM (by omega) ?_
 obtain⟨q,hq⟩: ∃q,xs.length-(i+(xs.length-j))=q+1:=⟨xs.length-(i+(xs.length-j))-1,by omega⟩
 rw[hq,iD,Nat.zero_add]
 have U6:new.size=c*2:=by
  rw[<-Array.length_toList,U0]
  simp only[List.length_append,List.length_drop,rl,List.length_take]
  omega
 refine aae (k:=2) ak rfl rfl rfl rfl rfl rfl rfl rfl hh4 rfl (λu hu=>aak rfl rfl hu) (by rw[U6];show(i+(xs.length-j))*2+(q+1)*2<=c*2;omega) (λw5 WV hf5 hh5 aiW=>?_)
 have U3:WV.toList=nc (xs.take i++xs.drop j)++((Builtin.zeroCells (Value.agg #[.int .u64 0,.int .u64 0]).cells (q+1)).toList++new.toList.drop ((i+(xs.length-j))*2+(q+1)*2)):=by
  rw[aiW]
  simp only[List.toList_toArray,List.append_assoc]
  congr 1
  show List.take ((i+(xs.length-j))*2) new.toList=_
  rw[U0]
  exact List.take_left' (by rw[rl,iq])
 have aiZ:WV.size=c*2:=by
  rw[<-Array.length_toList,U3]
  simp only[List.length_append,List.length_drop,rl,Array.length_toList,size_zeroCells,U6,List.length_take]
  show _+((q+1)*2+_)=_
  omega
 refine aX ?_
 refine aR ?_
 refine aQ ?_
 refine aY (l:=[0,1]) rfl ?_
 refine aF ak [0,1] [(6,.slice (some ⟨g,0,none⟩) (i+(xs.length-j)) c)] rfl ⟨rfl,trivial⟩ ?_
 refine aX ?_
 refine aR ?_
 refine ed ?_
 refine fh rfl ⟨_,O,rfl,?_⟩
 have KD:Fr [g] w w5:=(f3.more (by simp)).trans (yZ.trans hf5)
 have:=PH (T:=fu) (e:=93) (B:=B) (n0:=xs.length) (zs:=xs.take i++xs.drop j) (cap:=c) hO gI iY KD hh5 aiZ sx (by rw[iq];omega) Ni (by
  rw[U3]
  exact List.take_left' (by rw[rl,iq];rfl))
 rw[iq] at this
 exact this
end Go.Proofs.YtdhaaaeffhaadaaGreatDoor
end
section
namespace Go.Vx
open Go.RowKit Go.Dc
section
variable {S:bO} {K:bS S} {P:Program}
def ju:List (aG S)->Option (List Value)
 |[]=>some []
 | .one (.v u)::r=>(match ju r with|some us=>some (u::us)|none=>none)
 |_=>none
theorem Z4 {A:Pl} {O:List Nat} {w:World}: ∀ {ap2:List (aG S)} {us vs:List Value},ju ap2=some us->dE A O w ap2 vs->vs=us
 |[],us,vs,h,hr=>by
  cases h
  exact hr
 | .one (.v u)::r,us,vs,h,⟨y,ys,e,U,h2⟩=>by
  simp only[ju] at h
  split at h
  ·rename_i us' hu
   cases h
   have U:[y]=[u]/\_:=U
   rw[e,Z4 hu h2,List.cons.inj U.1|>.1]
  ·cases h
 | .agg _::_,us,vs,h,_=>by simp[ju] at h
 | .one (.aV _ _)::_,us,vs,h,_=>by simp[ju] at h
 | .one (.ptr _ _ _)::_,us,vs,h,_=>by simp[ju] at h
 | .one (.bu _ _)::_,us,vs,h,_=>by simp[ju] at h
 | .one (.iE _ _ _ _)::_,us,vs,h,_=>by simp[ju] at h
 | .one (.own _)::_,us,vs,h,_=>by simp[ju] at h
 | .one (.gG _ _ _ _)::_,us,vs,h,_=>by simp[ju] at h
 | .one (.iF _ _ _)::_,us,vs,h,_=>by simp[ju] at h
 | .one (.mp _)::_,us,vs,h,_=>by simp[ju] at h
 | .one (.bN _)::_,us,vs,h,_=>by simp[ju] at h
 | .one .dW::_,us,vs,h,_=>by simp[ju] at h
 | .one (.dP _)::_,us,vs,h,_=>by simp[ju] at h
 | .one (.bQ _ _ _)::_,us,vs,h,_=>by simp[ju] at h
 | .one (.er _ _)::_,us,vs,h,_=>by simp[ju] at h
def Pf (K:bS S) (f e:Nat) (tr:List (S.El e)->List Value->Option (List (S.El e))):jQ S:=⟨f,λap2 h k=>match ap2 with
 | .one (.own r)::rest=>(match ju rest,fN K (aP h) e (.own r) with
  |some us,some xs=>(tr xs us).bind λzs=>k (.ret (.s (.one (.own h.length)))) (h.set r none++[some (.row e zs)]) [r]
  |_,_=>none)
 |_=>none⟩
theorem aoz (hK:cQ K P) {f e:Nat} {tr:List (S.El e)->List Value->Option (List (S.El e))} (gU:gm P f)
  (hC: ∀(O:List Nat) (w:World) (v:Value) (us:List Value) (xs zs:List (S.El e)),OB O w->Dc.Own (S.ty e) e 0 O w v xs->tr xs us=some zs->Calls P f (v::us).toArray w (ia (S.ty e) e 0 O w v zs))
  {R:Type} (ap2:List (aG S)) (h:AH S) (k:Rs S->AH S->List Nat->Option R) (z:R) (hz:(Pf K f e tr).out ap2 h k=some z): ∃r h' dt,k r h' dt=some z/\iB K P f ap2 h r h' dt:=by
 simp only[Pf] at hz
 split at hz
 rotate_left
 ·cases hz
 rename_i r rest
 split at hz
 rotate_left
 ·cases hz
 rename_i us xs fc fe
 obtain⟨zs,gy,hk⟩:=bind_some hz
 have n5:=J2 fe
 refine⟨_,_,_,hk,gU,λA O w vs hv hg hO hG cB=>?_⟩
 obtain⟨v,Ps,rfl,zx,zr⟩:=hv
 obtain rfl:=Z4 fc zr
 obtain⟨_,n8,iL,_⟩:=zx
 cases iL
 obtain⟨v0,zv,jC,Uy⟩:=hg.al r _ n5
 rw[n8] at zv;cases zv
 refine(hC O w v Ps xs zs hO jC gy).mono ?_
 rintro en w' ⟨v',O2,rfl,ha⟩
 obtain⟨A',dB⟩: ∃A':Pl,A'=⟨λi=>bif Nat.beq i h.length then some v' else A.pl i,A.ls⟩:=⟨_,rfl⟩
 have fa: ∀i,i≠h.length->A'.pl i=A.pl i:=λi hi=>by
  rw[dB]
  have:Nat.beq i h.length=false:=by
   cases hb:Nat.beq i h.length with
   |false=>rfl
   |true=>exact absurd (Nat.eq_of_beq_eq_true hb) hi
  simp only[this,cond_false]
 have gY:A'.pl h.length=some v':=by rw[dB];simp
 have hle:A.le A':=⟨λi p hp=>by
  rw[fa i (λe=>by subst e;rw[cB _ (Nat.le_refl _)] at hp;cases hp)];exact hp,by rw[dB]⟩
 have gJ: ∀b,cC v≠some b->v.ownBlock≠some b:=λb hb hv=>hb (mT hv)
 have fQ: ∀b,b<w.heap.size->cC v≠some b->w'.heap[b]? =w.heap[b]? :=λb hb hn=>ha.fr b hb (gJ b hn)
 have dJ: ∀b,cC v'=some b->v'.ownBlock=some b/\b∈O2:=by
  intro b hb
  have gJ:v'.ownBlock=some b:=by
   rcases nk ha.own with⟨e1,_⟩|⟨b',c,e1⟩
   ·rw[e1] at hb;cases hb
   ·rw[e1] at hb ⊢;cases hb;rfl
  exact⟨gJ,ha.own.mem b gJ⟩
 have pK: ∀b,b<w.heap.size->cC v≠some b->cC v'≠some b:=λb hb hn h'=>ha.ne b hb (gJ b hn) (dJ b h').1
 have nZ:v'.oneCell'=true:=by
  rcases nk ha.own with⟨e1,_⟩|⟨b',c,e1⟩<;>rw[e1]<;>rfl
 have hlen:(h.set r none).length=h.length:=by simp
 have m_: ∀ {i:Nat} {X:Ob S},aP (h.set r none++[some (.row e zs)]) i=some X->(i≠r/\aP h i=some X)\/(i=h.length/\X= .row e zs):=by
  intro i X hi
  rcases rq hi with U|⟨U,h2⟩
  ·exact .inl (NF U)
  ·exact .inr ⟨U.trans hlen,h2⟩
 refine⟨A',O2,⟨v',rfl,⟨v',gY,rfl,nZ⟩⟩,⟨⟨?_,?_⟩,ha.ob,ha.tr,λi hi=>fa i (by omega),(λj hj=>?_),by rw[dB],by simp,?_,?_⟩⟩
 ·intro i X hi
  rcases m_ hi with⟨pF,U⟩|⟨rfl,rfl⟩
  ·obtain⟨p,hp,hR,hb⟩:=hg.al i X U
   have aH:=iP U
   exact⟨p,by rw[fa i (by omega)];exact hp,hR.keep ha.tr hle λb b_=>⟨fQ b (hO b (hb b b_)) (λgJ=>hg.dj i r _ _ p v b pF U n5 hp n8 b_ gJ),ha.sub b (hb b b_)⟩,λb b_=>ha.sub b (hb b b_)⟩
  ·exact⟨v',gY,ha.own,λb hb=>(dJ b hb).2⟩
 ·intro i j X Y p q b dC hi hj hp hq b_ eX
  have gi: ∀ {i:Nat} {X:Ob S} {p:Value},i≠r->aP h i=some X->A'.pl i=some p->cC p=some b->b<w.heap.size/\A.pl i=some p/\cC v≠some b:=by
   intro i X p h0 U h2 h3
   have aH:=iP U
   rw[fa i (by omega)] at h2
   obtain⟨p',dx,_,hb⟩:=hg.al i X U
   rw[h2] at dx;cases dx
   exact⟨hO b (hb b h3),h2,λgJ=>hg.dj i r _ _ p v b h0 U n5 h2 n8 h3 gJ⟩
  rcases m_ hi with⟨pF,U⟩|⟨rfl,rfl⟩
  ·rcases m_ hj with⟨sF,h2⟩|⟨rfl,rfl⟩
   ·exact hg.dj i j X Y p q b dC U h2 (gi pF U hp b_).2.1 (gi sF h2 hq eX).2.1 b_ eX
   ·rw[gY] at hq;cases hq
    have h3:=gi pF U hp b_
    exact pK b h3.1 h3.2.2 eX
  ·rcases m_ hj with⟨sF,h2⟩|⟨rfl,rfl⟩
   ·rw[gY] at hp;cases hp
    have h3:=gi sF h2 hq eX
    exact pK b h3.1 h3.2.2 b_
   ·exact absurd rfl dC
 ·have:j=r:=by simpa using hj
  subst this
  exact iP n5
 ·intro i hi
  simp at hi
  rw[fa i (by omega)]
  exact cB i (by omega)
 ·intro b hb hn
  have mn:=hn r (by simp) v n8
  refine⟨fQ b (hO b hb) mn,ha.sub b hb,λi X p hi hX hp b_=>?_⟩
  rcases m_ hX with⟨_,U⟩|⟨rfl,rfl⟩
  ·have:=iP U;omega
  ·rw[gY] at hp;cases hp
   exact pK b (hO b hb) mn b_
end
end Go.Vx
end
section
namespace Go.Proofs.YtdhaaaeffhaadaaGreatDoor
open Go.RowKit Go.Dc Go.Vx
set_option maxRecDepth 100000
noncomputable def xR (xs:List aA) (us:List Value):Option (List aA):=match us with
 |[.int .i64 i,.int .i64 j]=>Gt xs i j
 |_=>none
noncomputable def J0:jQ SS:=Pf KK 241 93 xR
theorem ae_ {R:Type} (xs:List (aG SS)) (h:AH SS) (k:Rs SS->AH SS->List Nat->Option R) (z:R) (hz:J0.out xs h k=some z): ∃r h' dt,k r h' dt=some z/\iB KK Tryz.prog 241 xs h r h' dt:=
 aoz (e:=93) (tr:=xR) ep (eI bA Tryz.func241 rfl) (λO w v us xs zs hO hv hz=>by
  unfold xR at hz
  split at hz
  ·exact am6 hO hv hz
  ·cases hz) xs h k z hz
noncomputable def HZ (sh:Sh):aK SS:= { wD sh with H:=J0::(wD sh).H }
theorem abL:aw (HZ shut) Tryz.prog:=aw.pq (c:=J0) HH ae_
noncomputable def D5 (sh:Sh) (s:aL) (pid:Int) (words:List Int):Option (aL×Int):=sh.s _ (zC sh s pid words)
noncomputable def D6 (sh:Sh) (s:aL) (pid:Int):Option (aL×Int×Int):=sh.s _ (zB sh s pid)
noncomputable def yb (sh:Sh) (s:aL) (pid:Int):Option (aL×Int×Int):=sh.s _ (zA sh s pid)
theorem OU {α:Type} {x:α}:shut.s α x=x:=by rw[rJ]
noncomputable def JT (sh:Sh):b6 SS:=cf KK 197 [34,28,76] (λ{R} xs (k:Rs SS->Option R)=>match xs with| .cons s (.cons pid (.cons words .nil))=>(D5 sh s pid words).bind (λr=>k (.ret (.bj [KK.ah 34 r.1,KK.ah 40 r.2]))))
noncomputable def JU (sh:Sh):b6 SS:=cf KK 198 [34,28] (λ{R} xs (k:Rs SS->Option R)=>match xs with| .cons s (.cons pid .nil)=>(D6 sh s pid).bind (λr=>k (.ret (.bj [KK.ah 34 r.1,KK.ah 28 r.2.1,KK.ah 40 r.2.2]))))
noncomputable def JV (sh:Sh):b6 SS:=cf KK 30 [34,28] (λ{R} xs (k:Rs SS->Option R)=>match xs with| .cons s (.cons pid .nil)=>(yb sh s pid).bind (λr=>k (.ret (.bj [KK.ah 34 r.1,KK.ah 3 r.2.1,KK.ah 40 r.2.2]))))
theorem g0 {O:List Nat} {w:World} (h:dI KK O w):dI KK [] w:=h.tr (Tr.less λ_ hk=>by cases hk)
theorem ML {A:Pl} {O:List Nat} {w:World} {s:aL} {v:Value} (h:(KK.ah 34 s).rel A O w v):jL.is [] w v s:=MN (MO ep (t:=34) rfl rfl h)
theorem Pg {A:Pl} {O:List Nat} {w:World} {s:Int} {v:Value} (h:(KK.ah 28 s).rel A O w v):(Ty.int .u64).is [] w v s:=MN (MO ep (t:=28) rfl rfl h)
theorem apg {A:Pl} {O:List Nat} {w:World} {s:List Int} {v:Value} (h:(KK.ah 76 s).rel A O w v):(Ty.slice (Ty.int .u64)).is [] w v s:=MN (MO ep (t:=76) rfl rfl h)
theorem ael {R:Type} (ys:List (aG SS)) (k:Rs SS->Option R) (z:R) (hp:ys.all aG.pure=true) (hz:(JT shut).out ys k=some z): ∃r,k r=some z/\fY KK Tryz.prog 197 ys r:=
 JS ep (λ{R} xs k z h=>by
  match xs,h with
  | .cons s (.cons pid (.cons words .nil)),h=>
   obtain⟨r,hr,hk⟩:=bind_some h
   refine⟨_,hk,eI bA Tryz.func197 rfl,λA O w vs hv hO hG=>?_⟩
   obtain⟨v0,_,rfl,h0,v1,_,rfl,U,v2,_,rfl,h2,h3⟩:=hv
   rw[show _=[] from h3]
   refine(ajr hO (g0 hG) (ML h0) (Pg U) (apg h2) (OU.symm.trans hr)).mono ?_
   rintro e w' ⟨v,rfl,⟨a,b,rfl,q1,q2⟩,hF⟩
   exact⟨⟨_,rfl,[a,b],rfl,a,[b],rfl,jo ep (t:=34) rfl rfl q1,b,[],rfl,jo ep (t:=40) rfl rfl q2,rfl⟩,hF⟩) ys k z hp hz
theorem aem {R:Type} (ys:List (aG SS)) (k:Rs SS->Option R) (z:R) (hp:ys.all aG.pure=true) (hz:(JU shut).out ys k=some z): ∃r,k r=some z/\fY KK Tryz.prog 198 ys r:=
 JS ep (λ{R} xs k z h=>by
  match xs,h with
  | .cons s (.cons pid .nil),h=>
   obtain⟨r,hr,hk⟩:=bind_some h
   refine⟨_,hk,eI bA Tryz.func198 rfl,λA O w vs hv hO hG=>?_⟩
   obtain⟨v0,_,rfl,h0,v1,_,rfl,U,h3⟩:=hv
   rw[show _=[] from h3]
   refine(ajq hO (g0 hG) (ML h0) (Pg U) (OU.symm.trans hr)).mono ?_
   rintro e w' ⟨v,rfl,⟨a,b,c,rfl,q1,q2,q3⟩,hF⟩
   exact⟨⟨_,rfl,[a,b,c],rfl,a,[b,c],rfl,jo ep (t:=34) rfl rfl q1,b,[c],rfl,jo ep (t:=28) rfl rfl q2,c,[],rfl,jo ep (t:=40) rfl rfl q3,rfl⟩,hF⟩) ys k z hp hz
theorem aey {R:Type} (ys:List (aG SS)) (k:Rs SS->Option R) (z:R) (hp:ys.all aG.pure=true) (hz:(JV shut).out ys k=some z): ∃r,k r=some z/\fY KK Tryz.prog 30 ys r:=
 JS ep (λ{R} xs k z h=>by
  match xs,h with
  | .cons s (.cons pid .nil),h=>
   obtain⟨r,hr,hk⟩:=bind_some h
   refine⟨_,hk,eI bA Tryz.func30 rfl,λA O w vs hv hO hG=>?_⟩
   obtain⟨v0,_,rfl,h0,v1,_,rfl,U,h3⟩:=hv
   rw[show _=[] from h3]
   refine(ajp hO (g0 hG) (ML h0) (Pg U) (OU.symm.trans hr)).mono ?_
   rintro e w' ⟨v,rfl,⟨a,b,c,rfl,q1,q2,q3⟩,hF⟩
   exact⟨⟨_,rfl,[a,b,c],rfl,a,[b,c],rfl,jo ep (t:=34) rfl rfl q1,b,[c],rfl,jo ep (t:=3) rfl rfl q2,c,[],rfl,jo ep (t:=40) rfl rfl q3,rfl⟩,hF⟩) ys k z hp hz
noncomputable def HT (sh:Sh):aK SS:= { HZ sh with C:=JT sh::(HZ sh).C }
theorem abJ:aw (HT shut) Tryz.prog:=aw.cm (c:=JT shut) abL ael
noncomputable def HU (sh:Sh):aK SS:= { HT sh with C:=JU sh::(HT sh).C }
theorem abK:aw (HU shut) Tryz.prog:=aw.cm (c:=JU shut) abJ aem
noncomputable def rW (sh:Sh):aK SS:= { HU sh with C:=JV sh::(HU sh).C }
theorem H4:aw (rW shut) Tryz.prog:=aw.cm (c:=JV shut) abK aey
end Go.Proofs.YtdhaaaeffhaadaaGreatDoor
end
section
namespace Go.Proofs.YtdhaaaeffhaadaaGreatDoor
open Go.RowKit Go.Dc Go.Vx
set_option maxRecDepth 100000
set_option maxHeartbeats 4000000
noncomputable def Ev (p0:List ao) (p1:List aA) (p2 p3:Int) (p4:List ao):AS SS:=⟨[(5,(va 0 0)),(20,(vd 32 p0)),(21,(vi p2)),(22,(vi p3))],[(bX 128 [(.own 1),(.own 2)]),(rX 93 p1),(rX 82 p4)],0,none,false,[],[]⟩
noncomputable def afq (p0:List ao) (p1:List aA) (p2:Int) (a0:Bool) (a1:Int) (a2:List ao):AS SS:= { Ev p0 p1 p2 p2 a2 with env:=[(23,(vb a0)),(5,(va 0 0)),(20,(vd 32 p0)),(21,(vi p2)),(22,(vi a1))] }
noncomputable def Rv (sh:Sh) (p0:List ao) (p1:List aA) (p2:Int) (a:Int×List ao):T ((Int×List ao) ⊕ (Bool×Int×List ao)):=
 .bf (decide (a.1<p2)) (
  .bd (idx p0 a.1) λz0=>
   .bd (app 8 [] z0.bg) λz1=>
    .bd (app 32 a.2 [ao.mk z0.aa z1]) λz2=>
     .ok (.inl ((IntKind.i64.wrap (a.1+1)),z2)))<|
 .ok (.inr ((decide (a.1<p2)),a.1,a.2))
noncomputable def Ij (sh:Sh) (p0:List ao) (p1:List aA) (p2 p3:Int) (p4:List ao):Option ((Bool×Int×List ao)):=da sh (Rv sh p0 p1 p2) 1000000 (p3,p4)
noncomputable def ab9 {R:Type} (k:AX->AS SS->Option R) (p0:List ao) (p1:List aA) (p2:Int) (x:(Bool×Int×List ao)):Option R:=(λv=>k (.exit 0) (afq p0 p1 p2 v.1 v.2.1 v.2.2)) x
noncomputable def MV:bM SS:=pS (λst=>gc (aE 118 7) (jk 0 1 82 (st)))<|cd 7 (λst=>(bE 32 (bD st 20 0)).bind λp0=>(dD st 1 93).bind λp1=>(bT (bD st 21 0)).bind λp2=>(bT (bD st 22 0)).bind λp3=>(dD st 2 82).bind λp4=>some (p0,p1,p2,p3,p4)) (λp=>Ev p.1 p.2.1 p.2.2.1 p.2.2.2.1 p.2.2.2.2) (λp=>Ij shut p.1 p.2.1 p.2.2.1 p.2.2.2.1 p.2.2.2.2) (λk p=>ab9 k p.1 p.2.1 p.2.2.1)
theorem als:aO KK Tryz.prog ⟨Tryz.f118,aE 118⟩ (b9 (bm Tryz.f118) 7) MV:=aO.pre (du.comp (du.gc (aE 118 7)) (du.jk 0 1 82))<|
 aO.da (π:=List ao×List aA×Int×Int×List ao) (σ:=Int×List ao) (aw.all H4 rfl) (aC.nil) rfl 60 (λp a=>Ev p.1 p.2.1 p.2.2.1 a.1 a.2) (λp=>(p.2.2.2.1,p.2.2.2.2)) (St:=λp=>Rv shut p.1 p.2.1 p.2.2.1) (λp=>1000000) (λp=>rfl)
  (λm p a k=>by kernel_rfl)
noncomputable def EL (p0:Int) (p1:List aA) (p2 p3:Int):AS SS:=⟨[(0,(vo 0)),(1,(vu p0)),(2,(vc 1)),(8,(vi (↑p1.length:Int))),(9,(vi p2)),(10,(vi p3))],[(rX 93 p1),(some (.bN 263 [] [(.one (.bu 2 0))])),(bX 276 [(.v (.func (.func 239) (.mk []) (.mk [])))])],3,none,false,[],[]⟩
noncomputable def agd (p0:Int) (p1:List aA) (a0:Bool) (a1 a2:Int):AS SS:= { EL p0 p1 p0 p0 with env:=[(17,(vb a0)),(16,(vi a1)),(15,(vi a2)),(0,(vo 0)),(1,(vu p0)),(2,(vc 1)),(8,(vi (↑p1.length:Int))),(9,(vi a2)),(10,(vi a1))] }
noncomputable def xu (sh:Sh) (p0:Int) (p1:List aA) (a:Int×Int):T ((Int×Int) ⊕ (Bool×Int×Int)):=
 .bf (decide (a.1<a.2)) (
  .bd (idx p1 (IntKind.i64.wrap ((IntKind.u64.wrap (IntKind.i64.wrap (a.1+a.2))).fdiv 2))) λz0=>
   .bd (p1[(IntKind.i64.wrap ((IntKind.u64.wrap (IntKind.i64.wrap (a.1+a.2))).fdiv 2)).toNat]?) λz1=>
    .bd (mW sh z1.bl p0) λz2=>
     .bf (decide (z2<0)) (
      .ok (.inl ((IntKind.i64.wrap (IntKind.i64.wrap ((IntKind.u64.wrap (IntKind.i64.wrap (a.1+a.2))).fdiv 2)+1)),a.2)))<|
     .ok (.inl (a.1,(IntKind.i64.wrap ((IntKind.u64.wrap (IntKind.i64.wrap (a.1+a.2))).fdiv 2)))))<|
 .ok (.inr ((decide (a.1<a.2)),a.2,a.1))
noncomputable def IL (sh:Sh) (p0:Int) (p1:List aA) (p2 p3:Int):Option ((Bool×Int×Int)):=da sh (xu sh p0 p1) 1000000 (p2,p3)
noncomputable def acH {R:Type} (k:AX->AS SS->Option R) (p0:Int) (p1:List aA) (x:(Bool×Int×Int)):Option R:=(λv=>k (.exit 0) (agd p0 p1 v.1 v.2.1 v.2.2)) x
noncomputable def V':bM SS:=cd 4 (λst=>(ey st 1 263).bind λ_=>(bT (bD st 1 0)).bind λp0=>(dD st 0 93).bind λp1=>(bT (bD st 9 0)).bind λp2=>(bT (bD st 10 0)).bind λp3=>some (p0,p1,p2,p3)) (λp=>EL p.1 p.2.1 p.2.2.1 p.2.2.2) (λp=>IL shut p.1 p.2.1 p.2.2.1 p.2.2.2) (λk p=>acH k p.1 p.2.1)
noncomputable def aa5:aK SS:= { (rW shut) with T:=bI ((rW shut).T) 118 ⟨⟨Tryz.f118,aE 118⟩,[MV]⟩ }
theorem Qq:aS aa5 Tryz.prog:=(aS.cj (aw.all H4 rfl) Tryz.func118 rfl bA λc hc=>by cases hc;exact aC.cons (aC.nil) (by kernel_rfl) als)
theorem alT:aO KK Tryz.prog ⟨Tryz.f262,aE 262⟩ (b9 (bm Tryz.f262) 4) V':=
 aO.da (π:=Int×List aA×Int×Int) (σ:=Int×Int) Qq (aC.nil) rfl 60 (λp a=>EL p.1 p.2.1 a.1 a.2) (λp=>(p.2.2.1,p.2.2.2)) (St:=λp=>xu shut p.1 p.2.1) (λp=>1000000) (λp=>rfl)
  (λm p a k=>by kernel_rfl)
noncomputable def Qr:aK SS:= { (rW shut) with T:=bI (bI ((rW shut).T) 118 ⟨⟨Tryz.f118,aE 118⟩,[MV]⟩) 262 ⟨⟨Tryz.f262,aE 262⟩,[V']⟩ }
theorem aa6:aS Qr Tryz.prog:=(aS.cj Qq Tryz.func262 rfl bA λc hc=>by cases hc;exact aC.cons (aC.nil) (by kernel_rfl) alT)
noncomputable def CS (sh:Sh) (s:aL) (name:Int):T (aL×Int):=
 .bd (oY sh s) λz0=>
  .bf (z0 !=0) (
   .bf (z0 !=0) (
    .ok (⟨[],[]⟩,z0))<|
   .bd (oZ sh name) λz1=>
    .bf (!z1) (
     .ok (⟨[],[]⟩,351))<|
    .no)<|
  .bd (app 16 [] s.aB) λz1=>
   .gd (Ev s.ax z1 ((↑s.ax.length:Int)) 0 [])<|
    .bd (Ij sh s.ax z1 ((↑s.ax.length:Int)) 0 []) λy2=>
     .bd (oZ sh name) λz3=>
      .bf (!z3) (
       .ok (⟨[],[]⟩,351))<|
      .gd (EL name z1 0 (↑z1.length:Int))<|
       .bd (IL sh name z1 0 ((↑z1.length:Int))) λy4=>
        .bf (decide (y4.2.2<(↑z1.length:Int))) (
         .bd (idx z1 y4.2.2) λz5=>
          .bd (z1[y4.2.2.toNat]?) λz6=>
           .bd (mW sh z6.bl name) λz7=>
            .bf (!z7==0) (
             .ok (⟨[],[]⟩,4))<|
            .bd (xR z1 [Value.int IntKind.i64 y4.2.2,Value.int IntKind.i64 (IntKind.i64.wrap (y4.2.2+1))]) λz8=>
             .ok (⟨z8,y2.2.2⟩,0))<|
        .ok (⟨[],[]⟩,4)
noncomputable def D4 (sh:Sh) (s:aL) (name:Int):Option (aL×Int):=sh.s _ (CS sh s name).val
theorem an1 {R:Type} (s:aL) (name:Int) (k:Rs SS->Option R):b8 Qr 100 195 [KK.ah 34 s,KK.ah 28 name] [] (cg KK [34,40] k)=(CS shut s name).run (λr=>k (.ret (.bj [KK.ah 34 r.1,KK.ah 40 r.2]))):=by kernel_rfl
noncomputable def aej (sh:Sh):b6 SS:=cf KK 195 [34,28] (λ{R} xs k=>match xs with| .cons s (.cons name .nil)=>(D4 sh s name).bind (λr=>k (.ret (.bj [KK.ah 34 r.1,KK.ah 40 r.2]))))
noncomputable def BD (sh:Sh):aK SS:= { (rW sh) with C:=aej sh::(rW sh).C }
theorem Q0:aw (BD shut) Tryz.prog:=aw.cm H4 λxs k z _ hz=>ct aa6 (λ{R} xs k z h=>by
 match xs,h with
 | .cons s (.cons name .nil),h=>exact⟨100,(an1 s name k).trans (cv h)⟩) hz
noncomputable def Da (sh:Sh) (s:aM) (x:aW):T (aM×cH):=
 .bf (decide (x.bJ>=1)) (
  .bf (!decide (x.bJ<=14)) (
   .ok (s,⟨361,0⟩))<|
  .bd (x_ sh x) λz0=>
   .bf (z0) (
    .bf (x.bJ==0) (
     .no)<|
    .bf (x.bJ==1) (
     .bd (DR sh s.ar (au x.fArgs 0)) λz1=>
      .bf (!z1.snd.snd==0) (
       .ok (s,⟨z1.snd.snd,0⟩))<|
      .ok (⟨z1.fst,s.aI,s.ay,s.aq⟩,⟨0,z1.snd.fst⟩))<|
    .bf (x.bJ==2) (
     .bd (DS sh s.ar (au x.fArgs 0) (au x.fArgs 1)) λz1=>
      .bf (!z1.snd==0) (
       .ok (s,⟨z1.snd,0⟩))<|
      .bd (yc sh s.aq (au x.fArgs 0)) λz2=>
       .bf (!(↑z2.length:Int)==0) (
        .ok (s,⟨341,0⟩))<|
       .bd (ya sh s.aI (au x.fArgs 0)) λz3=>
        .bd (yb sh s.aq (au x.fArgs 0)) λz4=>
         .bf (!z4.snd.snd==0) (
          .ok (s,⟨z4.snd.snd,0⟩))<|
         .ok (⟨z1.fst,z3.fst,s.ay,z4.fst⟩,⟨0,0⟩))<|
    .bf (x.bJ==3) (
     .bd (DT sh s.ar (au x.fArgs 0) (au x.fArgs 1)) λz1=>
      .bf (!z1.snd.snd==0) (
       .ok (s,⟨z1.snd.snd,0⟩))<|
      .ok (⟨z1.fst,s.aI,s.ay,s.aq⟩,⟨0,z1.snd.fst⟩))<|
    .bf (x.bJ==4) (
     .bd (uF sh s.ay (au x.fArgs 1)) λz1=>
      .bf (!z1.snd==0) (
       .ok (s,⟨z1.snd,0⟩))<|
      .bd (xZ sh s.aI (au x.fArgs 0) z1.fst) λz2=>
       .bf (!z2.snd.snd==0) (
        .ok (s,⟨z2.snd.snd,0⟩))<|
       .ok (⟨s.ar,z2.fst,s.ay,s.aq⟩,⟨0,(IntKind.u64.wrap z2.snd.fst)⟩))<|
    .bf (x.bJ==5) (
     .bf (!decide (au x.fArgs 1<8)) (
      .ok (s,⟨4,0⟩))<|
     .bd (qE sh s.aI (au x.fArgs 0) (IntKind.i64.wrap (au x.fArgs 1))) λz1=>
      .bf (!z1.snd) (
       .ok (s,⟨4,0⟩))<|
      .bd (DU sh s.aI (au x.fArgs 0) [IntKind.i64.wrap (au x.fArgs 1)]) λz2=>
       .bf (!z2.snd==0) (
        .ok (s,⟨z2.snd,0⟩))<|
       .ok (⟨s.ar,z2.fst,s.ay,s.aq⟩,⟨0,0⟩))<|
    .bf (x.bJ==6) (
     .bf (!decide (au x.fArgs 1<8)) (
      .ok (s,⟨4,0⟩))<|
     .bd (qE sh s.aI (au x.fArgs 0) (IntKind.i64.wrap (au x.fArgs 1))) λz1=>
      .bf (!z1.snd) (
       .ok (s,⟨4,0⟩))<|
      .bd (DV sh s.aI (au x.fArgs 0) (IntKind.i64.wrap (au x.fArgs 1))) λz2=>
       .bf (!z2.snd.snd==0) (
        .ok (s,⟨z2.snd.snd,0⟩))<|
       .ok (⟨s.ar,z2.fst,s.ay,s.aq⟩,⟨0,(IntKind.u64.wrap z2.snd.fst)⟩))<|
    .bf (x.bJ==7) (
     .bd (DW sh s.ay (au x.fArgs 1)) λz1=>
      .bf (!z1.snd.snd==0) (
       .ok (s,⟨z1.snd.snd,0⟩))<|
      .ok (⟨s.ar,s.aI,z1.fst,s.aq⟩,⟨0,z1.snd.fst⟩))<|
    .bf (x.bJ==8) (
     .bd (DX sh s.ay (au x.fArgs 1)) λz1=>
      .bf (!z1.snd==0) (
       .ok (s,⟨z1.snd,0⟩))<|
      .bd (DY sh s.aI z1.fst) λz2=>
       .bf (!z2==0) (
        .ok (s,⟨341,0⟩))<|
       .bd (DZ sh s.ay (au x.fArgs 1)) λz3=>
        .bf (!z3.snd==0) (
         .ok (s,⟨z3.snd,0⟩))<|
        .ok (⟨s.ar,s.aI,z3.fst,s.aq⟩,⟨0,0⟩))<|
    .bf (x.bJ==9) (
     .bd (uF sh s.ay (au x.fArgs 1)) λz1=>
      .bf (!z1.snd==0) (
       .ok (s,⟨z1.snd,0⟩))<|
      .ok (s,⟨0,z1.fst⟩))<|
    .bf (x.bJ==10) (
     .bd (D3 sh s.aq (au x.fArgs 1) (au x.fArgs 0)) λz1=>
      .bf (!z1.snd==0) (
       .ok (s,⟨z1.snd,0⟩))<|
      .ok (⟨s.ar,s.aI,s.ay,z1.fst⟩,⟨0,0⟩))<|
    .bf (x.bJ==11) (
     .bd (uG sh s.aq (au x.fArgs 1)) λz1=>
      .bf (!z1.snd==0) (
       .ok (s,⟨z1.snd,0⟩))<|
      .bf (!z1.fst==au x.fArgs 0) (
       .ok (s,⟨362,0⟩))<|
      .bd (D4 sh s.aq (au x.fArgs 1)) λy2=>
       .bf (!y2.2==0) (
        .ok (s,⟨y2.2,0⟩))<|
       .ok (⟨s.ar,s.aI,s.ay,y2.1⟩,⟨0,0⟩))<|
    .bf (x.bJ==12) (
     .bd (uG sh s.aq (au x.fArgs 1)) λz1=>
      .bf (!z1.snd==0) (
       .ok (s,⟨z1.snd,0⟩))<|
      .ok (s,⟨0,z1.fst⟩))<|
    .bf (x.bJ==13) (
     .bd (nP sh s.ar (au x.fArgs 1)) λz1=>
      .bf (!z1) (
       .ok (s,⟨4,0⟩))<|
      .bd (D5 sh s.aq (au x.fArgs 1) [au x.fArgs 2]) λz2=>
       .bf (!z2.snd !=6) (
        .ok (s,⟨322,0⟩))<|
       .bf (!z2.snd==0) (
        .ok (s,⟨z2.snd,0⟩))<|
       .ok (⟨s.ar,s.aI,s.ay,z2.fst⟩,⟨0,0⟩))<|
    .bf (x.bJ==14) (
     .bd (D6 sh s.aq (au x.fArgs 0)) λz1=>
      .bf (!z1.snd.snd !=4) (
       .ok (s,⟨322,0⟩))<|
      .bf (!z1.snd.snd==0) (
       .ok (s,⟨z1.snd.snd,0⟩))<|
      .ok (⟨s.ar,s.aI,s.ay,z1.fst⟩,⟨0,z1.snd.fst⟩))<|
    .no)<|
   .bd (nP sh s.ar (au x.fArgs 0)) λz1=>
    .bf (!z1) (
     .ok (s,⟨321,0⟩))<|
    .bf (x.bJ==0) (
     .no)<|
    .bf (x.bJ==1) (
     .bd (DR sh s.ar (au x.fArgs 0)) λz2=>
      .bf (!z2.snd.snd==0) (
       .ok (s,⟨z2.snd.snd,0⟩))<|
      .ok (⟨z2.fst,s.aI,s.ay,s.aq⟩,⟨0,z2.snd.fst⟩))<|
    .bf (x.bJ==2) (
     .bd (DS sh s.ar (au x.fArgs 0) (au x.fArgs 1)) λz2=>
      .bf (!z2.snd==0) (
       .ok (s,⟨z2.snd,0⟩))<|
      .bd (yc sh s.aq (au x.fArgs 0)) λz3=>
       .bf (!(↑z3.length:Int)==0) (
        .ok (s,⟨341,0⟩))<|
       .bd (ya sh s.aI (au x.fArgs 0)) λz4=>
        .bd (yb sh s.aq (au x.fArgs 0)) λz5=>
         .bf (!z5.snd.snd==0) (
          .ok (s,⟨z5.snd.snd,0⟩))<|
         .ok (⟨z2.fst,z4.fst,s.ay,z5.fst⟩,⟨0,0⟩))<|
    .bf (x.bJ==3) (
     .bd (DT sh s.ar (au x.fArgs 0) (au x.fArgs 1)) λz2=>
      .bf (!z2.snd.snd==0) (
       .ok (s,⟨z2.snd.snd,0⟩))<|
      .ok (⟨z2.fst,s.aI,s.ay,s.aq⟩,⟨0,z2.snd.fst⟩))<|
    .bf (x.bJ==4) (
     .bd (uF sh s.ay (au x.fArgs 1)) λz2=>
      .bf (!z2.snd==0) (
       .ok (s,⟨z2.snd,0⟩))<|
      .bd (xZ sh s.aI (au x.fArgs 0) z2.fst) λz3=>
       .bf (!z3.snd.snd==0) (
        .ok (s,⟨z3.snd.snd,0⟩))<|
       .ok (⟨s.ar,z3.fst,s.ay,s.aq⟩,⟨0,(IntKind.u64.wrap z3.snd.fst)⟩))<|
    .bf (x.bJ==5) (
     .bf (!decide (au x.fArgs 1<8)) (
      .ok (s,⟨4,0⟩))<|
     .bd (qE sh s.aI (au x.fArgs 0) (IntKind.i64.wrap (au x.fArgs 1))) λz2=>
      .bf (!z2.snd) (
       .ok (s,⟨4,0⟩))<|
      .bd (DU sh s.aI (au x.fArgs 0) [IntKind.i64.wrap (au x.fArgs 1)]) λz3=>
       .bf (!z3.snd==0) (
        .ok (s,⟨z3.snd,0⟩))<|
       .ok (⟨s.ar,z3.fst,s.ay,s.aq⟩,⟨0,0⟩))<|
    .bf (x.bJ==6) (
     .bf (!decide (au x.fArgs 1<8)) (
      .ok (s,⟨4,0⟩))<|
     .bd (qE sh s.aI (au x.fArgs 0) (IntKind.i64.wrap (au x.fArgs 1))) λz2=>
      .bf (!z2.snd) (
       .ok (s,⟨4,0⟩))<|
      .bd (DV sh s.aI (au x.fArgs 0) (IntKind.i64.wrap (au x.fArgs 1))) λz3=>
       .bf (!z3.snd.snd==0) (
        .ok (s,⟨z3.snd.snd,0⟩))<|
       .ok (⟨s.ar,z3.fst,s.ay,s.aq⟩,⟨0,(IntKind.u64.wrap z3.snd.fst)⟩))<|
    .bf (x.bJ==7) (
     .bd (DW sh s.ay (au x.fArgs 1)) λz2=>
      .bf (!z2.snd.snd==0) (
       .ok (s,⟨z2.snd.snd,0⟩))<|
      .ok (⟨s.ar,s.aI,z2.fst,s.aq⟩,⟨0,z2.snd.fst⟩))<|
    .bf (x.bJ==8) (
     .bd (DX sh s.ay (au x.fArgs 1)) λz2=>
      .bf (!z2.snd==0) (
       .ok (s,⟨z2.snd,0⟩))<|
      .bd (DY sh s.aI z2.fst) λz3=>
       .bf (!z3==0) (
        .ok (s,⟨341,0⟩))<|
       .bd (DZ sh s.ay (au x.fArgs 1)) λz4=>
        .bf (!z4.snd==0) (
         .ok (s,⟨z4.snd,0⟩))<|
        .ok (⟨s.ar,s.aI,z4.fst,s.aq⟩,⟨0,0⟩))<|
    .bf (x.bJ==9) (
     .bd (uF sh s.ay (au x.fArgs 1)) λz2=>
      .bf (!z2.snd==0) (
       .ok (s,⟨z2.snd,0⟩))<|
      .ok (s,⟨0,z2.fst⟩))<|
    .bf (x.bJ==10) (
     .bd (D3 sh s.aq (au x.fArgs 1) (au x.fArgs 0)) λz2=>
      .bf (!z2.snd==0) (
       .ok (s,⟨z2.snd,0⟩))<|
      .ok (⟨s.ar,s.aI,s.ay,z2.fst⟩,⟨0,0⟩))<|
    .bf (x.bJ==11) (
     .bd (uG sh s.aq (au x.fArgs 1)) λz2=>
      .bf (!z2.snd==0) (
       .ok (s,⟨z2.snd,0⟩))<|
      .bf (!z2.fst==au x.fArgs 0) (
       .ok (s,⟨362,0⟩))<|
      .bd (D4 sh s.aq (au x.fArgs 1)) λy3=>
       .bf (!y3.2==0) (
        .ok (s,⟨y3.2,0⟩))<|
       .ok (⟨s.ar,s.aI,s.ay,y3.1⟩,⟨0,0⟩))<|
    .bf (x.bJ==12) (
     .bd (uG sh s.aq (au x.fArgs 1)) λz2=>
      .bf (!z2.snd==0) (
       .ok (s,⟨z2.snd,0⟩))<|
      .ok (s,⟨0,z2.fst⟩))<|
    .bf (x.bJ==13) (
     .bd (nP sh s.ar (au x.fArgs 1)) λz2=>
      .bf (!z2) (
       .ok (s,⟨4,0⟩))<|
      .bd (D5 sh s.aq (au x.fArgs 1) [au x.fArgs 2]) λz3=>
       .bf (!z3.snd !=6) (
        .ok (s,⟨322,0⟩))<|
       .bf (!z3.snd==0) (
        .ok (s,⟨z3.snd,0⟩))<|
       .ok (⟨s.ar,s.aI,s.ay,z3.fst⟩,⟨0,0⟩))<|
    .bf (x.bJ==14) (
     .bd (D6 sh s.aq (au x.fArgs 0)) λz2=>
      .bf (!z2.snd.snd !=4) (
       .ok (s,⟨322,0⟩))<|
      .bf (!z2.snd.snd==0) (
       .ok (s,⟨z2.snd.snd,0⟩))<|
      .ok (⟨s.ar,s.aI,s.ay,z2.fst⟩,⟨0,z2.snd.fst⟩))<|
    .no)<|
 .ok (s,⟨361,0⟩)
noncomputable def D8 (sh:Sh) (s:aM) (x:aW):Option (aM×cH):=sh.s _ (Da sh s x).val
theorem aom {R:Type} (s:aM) (x:aW) (k:Rs SS->Option R):b8 (BD shut) 100 67 [KK.ah 36 s,KK.ah 50 x] [] (cg KK [36,53] k)=(Da shut s x).run (λr=>k (.ret (.bj [KK.ah 36 r.1,KK.ah 53 r.2]))):=by kernel_rfl
noncomputable def aeL (sh:Sh):b6 SS:=cf KK 67 [36,50] (λ{R} xs k=>match xs with| .cons s (.cons x .nil)=>(D8 sh s x).bind (λr=>k (.ret (.bj [KK.ah 36 r.1,KK.ah 53 r.2]))))
noncomputable def BM (sh:Sh):aK SS:= { (BD sh) with C:=aeL sh::(BD sh).C }
theorem Q_:aw (BM shut) Tryz.prog:=aw.cm Q0 λxs k z _ hz=>ct (aw.all Q0 rfl) (λ{R} xs k z h=>by
 match xs,h with
 | .cons s (.cons x .nil),h=>exact⟨100,(aom s x k).trans (cv h)⟩) hz
end Go.Proofs.YtdhaaaeffhaadaaGreatDoor
end
